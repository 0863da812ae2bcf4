/-
  Texts of this claim, one behind the other, each built on those ahead of it. No condition.
-/
import Derived.Test.YtjkcamgfimpggaaRows
import Derived.WalkKit
import Derived.Lib.QuietBelow
import Derived.StillTail
import Derived.WalkSpells
import Derived.WalkLawsBesides
import Derived.Outline
import Derived.Lib.Hide
import Derived.Deep.Light
import Derived.Deep.OwnRows
import Derived.MapKept
set_option maxHeartbeats 16000000
open List renaming getElem?_eq_getElem → zA, getElem?_eq_some_iff → zC, getD_eq_getElem?_getD → zE, getElem?_cons_zero → zG, getElem?_cons_succ → zI, map_cons → zJ, size_toArray → zM, range → zN, mem_cons → zO, getElem?_map → zX, mem_map → zY, getElem?_set_ne → z6, getElem_mem → z7, length_take → z8, mem_range → yA, getElem?_append_right → yB, replicate → yC, getElem?_take → yD, length_append → yE, getElem?_append_left → yG, flatten_cons → yH, getElem_map → yI, getElem?_set_self → yJ, length_map → yK, mem_append_right → yL, getElem?_toArray → yM, getElem?_of_mem → yN, all_eq_true → yO, map_congr_left → yP, length_nil → yS, getElem?_drop → yU, mem_flatten → y0, mem_of_getElem? → y2, eq_nil_of_length_eq_zero → y3, length_set → y5, map_map → y8, getElem_append_right → xA, getElem_take → xB, nodup_append → xC, getElem?_take_of_lt → xD, getElem_append_left → xE, length_cons → xG, mem_append → xJ
open Option.some renaming inj → zB, injEq → zF
open Array renaming getD_eq_getD_getElem? → zD, getElem?_eq_some_iff → zH, length_toList → zQ, getElem?_eq_getElem → zZ, getElem?_append_left → yF, size_append → yX, getElem?_setIfInBounds_ne → yY, replicate → y4, toList_map → xI, range → xL, ext' → xN
open Nat renaming mul_le_mul_right → zK, le_refl → zL, add_mul → zP, lt_of_lt_of_le → zR, add_assoc → zU, zero_add → zV, add_comm → z2, add_sub_cancel_left → yV, mul_comm → yW, add_zero → y6, le_trans → y7, eq_zero_or_pos → y9, le_succ → xK
open Option renaming map_none → zS, map_eq_some_iff → zT, map_some → zW, getD_some → yZ, bind_some → xF, bind_eq_some_iff → xH
open Bool renaming and_eq_true → z1, or_eq_true → yR, false_eq_true → yT, false_or → xM
open Prod.mk renaming injEq → yQ
set_option linter.unusedSimpArgs false
set_option linter.unusedVariables false
set_option linter.unusedSectionVars false
namespace Go.Flow
open Go.RowKit Go.Sort
inductive Kind where
 |quiet
 |fixed (u:Value)
 |told (F:Value→World→Prop)
def upd (G:Nat→Option Value) (i:Nat) (v:Value):Nat→Option Value:=fun j=>if j=i then some v else G j
section
variable {P:Program} {ops:Array Oper} {md:Region.Mode} {C:World→Prop} {ks:List (Nat × Kind)} {nd:List (Nat × List Nat)}
end
section
variable {P:Program} {ops:Array Oper} {ks:List (Nat × Kind)} {nd:List (Nat × List Nat)} {Q:(Nat→Option Value)→Act→Prop} {w:World} {i:Nat} {G:Nat→Option Value} {a:Act} {o:Oper} {rest:List Oper}
end
end Go.Flow
set_option maxRecDepth 100000
set_option linter.unusedSimpArgs false
set_option linter.unusedVariables false
set_option linter.unusedSectionVars false
namespace Go.Proofs.Ytjkcamgfimpggaa
open Go.RowKit
def Ret (w:World) (v:Value) (e:Ending) (w':World):Prop:=e=.returned v∧Below w.heap.size w w'
theorem Ret.same (w:World) {v u:Value} (h:u=v):Ret w v (.returned u) w:=⟨by rw [h],Below.refl _ _⟩
theorem Ret.bel {w w':World} {v u:Value} (h:u=v) (hb:Below w.heap.size w w'):Ret w v (.returned u) w':=⟨by rw [h],hb⟩
def Same (w:World) (v:Value) (e:Ending) (w':World):Prop:=e=.returned v∧w=w'
theorem Same.mk' (w:World) {v u:Value} (h:u=v):Same w v (.returned u) w:=⟨by rw [h],rfl⟩
theorem Same.ret {P:Program} {f:FuncId} {args:Array Value} {w:World} {v:Value} (h:Calls P f args w (Same w v)):Calls P f args w (Ret w v) :=
 h.mono fun _ _ ⟨he,hw⟩=>⟨he,hw▸Below.refl _ _⟩
def LN (p:Nat→Bool):Nat→Nat→Int
 | 0,_=>-1
 | n+1,k=>if p k then k else LN p n (k+1)
def N3 (p:Nat→Bool) (n:Nat):Int:=LN p n 0
theorem HF {p:Nat→Bool}:∀ (m n k:Nat),(∀ j,k≤j→j<k+m→p j=false)→LN p (m+n) k=LN p n (k+m)
 | 0,n,k,_=>by simp
 | m+1,n,k,h=>by
  rw [show m+1+n=(m+n)+1 by omega]
  show (if p k then (k:Int) else LN p (m+n) (k+1))=_
  rw [if_neg (by rw [h k (by omega) (by omega)]; simp),HF m n (k+1) (fun j h1 h2=>h j (by omega) (by omega)),show k+1+m=k+(m+1) by omega]
theorem N4 {p:Nat→Bool} {n k:Nat} (hk:k<n) (h:∀ j,j<k→p j=false) (hp:p k=true):N3 p n=k:=by
 unfold N3
 rw [show n=k+((n-k-1)+1) by omega,HF k _ 0 (fun j _ h2=>h j (by omega))]
 unfold LN
 rw [if_pos (by simpa using hp)]
 simp
theorem LO {p:Nat→Bool} {n:Nat} (h:∀ j,j<n→p j=false):N3 p n=-1:=by
 unfold N3
 have:=HF n 0 0 (fun j _ h2=>h j (by omega))
 rw [y6] at this
 rw [this]; rfl
def RE (p:Nat→Bool) (n:Nat):Bool:=(zN n).any p
theorem T1 {p:Nat→Bool} {n:Nat}:decide (0≤N3 p n)=RE p n:=by
 unfold RE
 by_cases hx:∃ k,k<n∧p k=true
 ·obtain ⟨k,hk,hmin⟩:∃ k,(k<n∧p k=true)∧∀ j,j<k→¬ (j<n∧p j=true):=by
   obtain ⟨k,hk⟩:=hx
   induction k using Nat.strongRecOn with
   | _ k ih =>
    by_cases hq:∃ j,j<k∧(j<n∧p j=true)
    ·obtain ⟨j,hj,hj2⟩:=hq; exact ih j hj hj2
    ·exact ⟨k,hk,fun j hj h2=>hq ⟨j,hj,h2⟩⟩
  have e:N3 p n=k:=N4 hk.1 (fun j hj=>by
   cases hpj:p j
   ·rfl
   ·exact absurd ⟨by omega,hpj⟩ (hmin j hj)) hk.2
  rw [e]
  have:(zN n).any p=true:=List.any_eq_true.2 ⟨k,yA.2 hk.1,hk.2⟩
  rw [this]
  simp
 ·have e:N3 p n=-1:=LO fun j hj=>by
   cases hpj:p j
   ·rfl
   ·exact absurd ⟨j,hj,hpj⟩ hx
  rw [e]
  have:(zN n).any p=false:=by
   rw [List.any_eq_false]
   intro j hj
   intro hp
   exact hx ⟨j,yA.1 hj,hp⟩
  rw [this]
  rfl
def Cnt (w:World) (n:Nat) (R:Nat→Prop) (i:Value) (wr:World):Prop:=∃ k:Nat,k≤n∧i=.int .i64 k∧R k∧w=wr
theorem G5 {n k:Nat} (h:k<n):n-(intOf (.int .i64 ((k:Int)+1))).toNat<n-(intOf (.int .i64 (k:Int))).toNat:=by simp [intOf]; omega
theorem N5 {k:Nat} {R:Nat→Prop} (h:∀ j,j<k→R j) (hk:R k):∀ j,j<k+1→R j:=fun j hj=>by
 rcases Nat.lt_or_ge j k with h1 | h1
 ·exact h j h1
 ·obtain rfl:j=k:=by omega
  exact hk
structure Keeps (lo:Nat) (w w':World):Prop where
 size:w.heap.size≤w'.heap.size
 block:∀ b,lo≤b→b<w.heap.size→w'.heap[b]?=w.heap[b]?
def SlA (w:World) (lo sz n:Nat) (f:Nat→Nat→Value) (a:Option Addr):Prop :=
 n=0∨∃ b off,a=some ⟨b,off,none⟩∧lo≤b∧b<w.heap.size∧∀ i j,i<n→j<sz→w.cell? ⟨b,off+i*sz+j,none⟩=some (f i j)
section
variable {w w':World} {lo lo' sz n:Nat} {f g:Nat→Nat→Value} {v:Value} {a:Option Addr}
theorem mul_lt {i j n sz:Nat} (hi:i<n) (hj:j<sz):i*sz+j<n*sz:=by
 have h1:(i+1)*sz≤n*sz:=zK _ hi
 rw [zP] at h1; omega
end
inductive D where
 |int (n:Int)
 |byte (n:Int)
 |nl
 |bool (b:Bool)
 |str (s:ByteArray)
 |arr (es:List (List D))
structure KeepS (S:Nat→Prop) (w w':World):Prop where
 size:w.heap.size≤w'.heap.size
 block:∀ b,S b→b<w.heap.size→w'.heap[b]?=w.heap[b]?
theorem KeepS.refl (S:Nat→Prop) (w:World):KeepS S w w:=⟨zL _,fun _ _ _=>rfl⟩
theorem KeepS.sub {S S':Nat→Prop} {a b:World} (h:KeepS S a b) (hs:∀ x,S' x→S x):KeepS S' a b:=⟨h.size,fun i h1 h2=>h.block i (hs i h1) h2⟩
theorem KeepS.cell {S:Nat→Prop} {w w':World} (h:KeepS S w w') {b o:Nat} (hb:S b) (hl:b<w.heap.size):w'.cell? ⟨b,o,none⟩=w.cell? ⟨b,o,none⟩ :=
 World.cell?_of_block (w:=w) (w':=w') (a:=⟨b,o,none⟩) (h.block b hb hl)
theorem KeepS.frozen {S:Nat→Prop} {w w':World} (h:KeepS S w w') {b o:Nat} (hb:S b) (hl:b<w.heap.size):w'.frozen? ⟨b,o,none⟩=w.frozen? ⟨b,o,none⟩ :=
 World.frozen?_of_block (w:=w) (w':=w') (a:=⟨b,o,none⟩) (h.block b hb hl)
def RowS (own:Bool) (w:World) (S:Nat→Prop) (sz n:Nat) (f:Nat→Nat→Value) (Sub:Nat→Nat→Nat→Prop) (a:Option Addr):Prop :=
 n = 0∨∃ b off,a=some ⟨b,off,none⟩∧S b∧b<w.heap.size∧(∀ i j,i<n→j<sz→w.cell? ⟨b,off+i*sz+j,none⟩=some (f i j)) ∧
  (own=true→(∀ i j,¬ Sub i j b)∧∀ o,w.frozen? ⟨b,o,none⟩=false)
inductive DRep (own:Bool) (w:World):(Nat→Prop)→D→Value→Prop
 |int (S:Nat→Prop) (n:Int):DRep own w S (.int n) (.int .i64 n)
 |byte (S:Nat→Prop) (n:Int):DRep own w S (.byte n) (.int .u8 n)
 |nl (S:Nat→Prop):DRep own w S .nl (.slice none 0 0)
 |bool (S:Nat→Prop) (b:Bool):DRep own w S (.bool b) (.bool b)
 |str (S:Nat→Prop) (s:ByteArray) (h:s.size≤9223372036854775807):DRep own w S (.str s) (.string s)
 |arr (S:Nat→Prop) (sz:Nat) (es:List (List D)) (a:Option Addr) (cap:Nat) (f:Nat→Nat→Value) (Sub:Nat→Nat→Nat→Prop)
   (h1:es.length≤cap) (h2:cap≤9223372036854775807) (h3:RowS own w S sz es.length f Sub a) (h4:∀ i (h:i<es.length),es[i].length=sz)
   (h5:∀ i j x,Sub i j x→S x) (h6:own=true→∀ i j i' j' x,Sub i j x→Sub i' j' x→i=i'∧j=j')
   (h7:∀ i j (h:i<es.length) (h':j<es[i].length),DRep own w (Sub i j) (es[i][j]) (f i j)):DRep own w S (.arr es) (.slice a es.length cap)
section
variable {own:Bool} {w w':World} {S S':Nat→Prop} {d:D} {v:Value} {sz n:Nat} {f:Nat→Nat→Value} {Sub:Nat→Nat→Nat→Prop} {a:Option Addr}
theorem RowS.keep (h:RowS own w S sz n f Sub a) (hb:KeepS S w w'):RowS own w' S sz n f Sub a:=by
 rcases h with h | ⟨b,off,ha,hS,hl,hc,ho⟩
 ·exact .inl h
 ·refine .inr ⟨b,off,ha,hS,zR hl hb.size,fun i j hi hj=>?_,fun h=>⟨(ho h).1,fun o=>?_⟩⟩
  ·rw [hb.cell hS hl]; exact hc i j hi hj
  ·rw [hb.frozen hS hl]; exact (ho h).2 o
theorem DRep.keep (h:DRep own w S d v) (hb:KeepS S w w'):DRep own w' S d v:=by
 induction h with
 | int S n=>exact .int S n
 | byte S n=>exact .byte S n
 | nl S=>exact .nl S
 | bool S b=>exact .bool S b
 | str S s h=>exact .str S s h
 | arr S sz es a cap f Sub h1 h2 h3 h4 h5 h6 h7 ih =>
  exact .arr S sz es a cap f Sub h1 h2 (h3.keep hb) h4 h5 h6 fun i j hi hj=>ih i j hi hj (hb.sub fun x hx=>h5 i j x hx)
theorem DRep.up (h:DRep own w S d v) (hs:∀ x,S x→S' x):DRep own w S' d v:=by
 cases h with
 | int S n=>exact .int S' n
 | byte S n=>exact .byte S' n
 | nl S=>exact .nl S'
 | bool S b=>exact .bool S' b
 | str S s h=>exact .str S' s h
 | arr S sz es a cap f Sub h1 h2 h3 h4 h5 h6 h7 =>
  refine .arr S' sz es a cap f Sub h1 h2 ?_ h4 (fun i j x hx=>hs x (h5 i j x hx)) h6 h7
  rcases h3 with h | ⟨b,off,ha,hS,hl,hc,ho⟩
  ·exact .inl h
  ·exact .inr ⟨b,off,ha,hs b hS,hl,hc,ho⟩
end
def DAt (w:World) (d:D) (v:Value):Prop:=DRep false w (fun _=>True) d v
section
variable {w w':World} {d:D} {v:Value} {lo lo':Nat}
theorem DAt.Vq {es:List (List D)} {sz cap:Nat} {a:Option Addr} {f:Nat→Nat→Value} (h1:es.length≤cap) (h2:cap≤9223372036854775807) {lo:Nat} (h3:SlA w lo sz es.length f a) (h4:∀ i (h:i<es.length),es[i].length=sz)
  (h7:∀ i j (h:i<es.length) (h':j<es[i].length),DAt w (es[i][j]) (f i j)):DAt w (.arr es) (.slice a es.length cap):=by
 refine DRep.arr _ sz es a cap f (fun _ _ _=>True) h1 h2 ?_ h4 (fun _ _ _ _=>trivial) (fun h=>by cases h) h7
 rcases h3 with h | ⟨b,off,ha,hlo,hl,hc⟩
 ·exact .inl h
 ·exact .inr ⟨b,off,ha,trivial,hl,hc,fun h=>by cases h⟩
end
inductive Leaves (w:World):Nat→Nat→List D→List Value→Prop
 |nil (lo hi:Nat) (h:lo≤hi):Leaves w lo hi [] []
 | cons (lo mid hi:Nat) (d:D) (v:Value) (ds:List D) (vs:List Value) (h:lo≤mid) (h1:DRep true w (fun b=>lo≤b∧b < mid) d v) (h2:Leaves w mid hi ds vs):Leaves w lo hi (d :: ds) (v :: vs)
section
variable {w w':World} {lo mid hi lo' hi':Nat} {d:D} {v:Value} {ds ds':List D} {vs vs':List Value}
end
def GL (_:World) (_:Nat→Prop):Prop:=True
theorem GL.keep {w w':World} {I I':Nat→Prop} (_:GL w I) (_:KeepS I w w') (_:∀ b,I b→I' b):GL w' I':=trivial
theorem GL.any {w:World} {I:Nat→Prop}:GL w I:=trivial
inductive MK where
 |int (n:Int)
 |str (s:ByteArray)
def MK.isStr:MK→Bool
 | .int _=>false
 | .str _=>true
abbrev MV:=Bool × List D
abbrev MF:=MK→Option MV
inductive SV where
 |any
 |int (k:IntKind) (n:Int)
 |bool (b:Bool)
 |str (s:ByteArray)
 |nil
 |arr (es:List (List D))
 |agg (l:List SV)
 |tup (l:List SV)
 |ref (g:Nat)
 |ptr (g o:Nat)
 |eptr (g sz k o:Nat)
 |vptr (es:List (List D)) (k o:Nat)
 |fn (f:FuncId) (caps:List SV)
 |mp (ks:Bool) (m:MF)
 |val (u:Value)
inductive OT where
 |int (n:Int)
 |byte (n:Int)
 |bool (b:Bool)
 |str (s:ByteArray)
 |sh (es:List (List D))
 |ow (es:List (List OT))
 |hole
 |pin (u:Value)
inductive Ob where
 |free
 |gone
 |box (t:TypeId) (l:List SV)
 |row (t:TypeId) (sz:Nat) (es:List (List OT))
 |tree (es:List (List OT)) (hs:List (Nat × Nat × Nat))
 |mp (ks:Bool) (m:MF)
 |shd (es:List (List D))
 |it (ks:Bool) (m:MF) (seen:List MK) (cur:Option (MK × MV))
 |hist (t:TypeId) (sz:Nat) (es:List (List OT)) (us:List (Value × Nat))
def Ob.live:Ob→Prop
 | .free=>False
 | .gone=>False
 | _=>True
def D.sv:D→SV
 | .int n=>.int .i64 n
 | .byte n=>.int .u8 n
 | .nl=>.nil
 | .bool b=>.bool b
 | .str s=>.str s
 | .arr es=>.arr es
def MKR:MK→Value→Prop
 | .int n,v=>v=.int .i64 n
 | .str s,v=>v=.string s∧s.size≤9223372036854775807
theorem MKR.inj {k k':MK} {v:Value} (h:MKR k v) (h':MKR k' v):k=k':=by
 cases k <;> cases k' <;> simp only [MKR] at h h'
 ·rw [h] at h'; injection h' with _ h'; rw [h']
 ·rw [h] at h'; cases h'.1
 ·rw [h'] at h; cases h.1
 ·rw [h.1] at h'; have:=h'.1; injection this with this; rw [this]
theorem MKR.val {k:MK} {v v':Value} (h:MKR k v) (h':MKR k v'):v=v':=by
 cases k <;> simp only [MKR] at h h'
 ·rw [h,h']
 ·rw [h.1,h'.1]
def MVR (w:World) (I:Nat→Prop) (x:MV) (v:Value):Prop :=
 ∃ vs:List Value,vs.length=x.2.length∧(∀ (i:Nat) (d:D) (u:Value),x.2[i]?=some d→vs[i]?=some u→DRep false w I d u)∧((x.1=true∧v=.agg vs.toArray)∨(x.1=false∧vs=[v]))
theorem MVR.mono {w w':World} {I I':Nat→Prop} {x:MV} {v:Value} (h:MVR w I x v) (hk:KeepS I w w') (hI:∀ b,I b→I' b):MVR w' I' x v:=by
 obtain ⟨vs,h1,h2,h3⟩:=h
 exact ⟨vs,h1,fun i d u hd hu=>((h2 i d u hd hu).keep hk).up hI,h3⟩
structure EntR (w:World) (I:Nat→Prop) (ks:Bool) (m:MF) (es:Array MapEntry) (clock:Nat):Prop where
 st:Go.MapKept.Stamped es clock
 ent:∀ e,e∈es.toList→∃ k x,MKR k e.key∧k.isStr=ks∧m k=some x∧MVR w I x e.val
 all:∀ k x,m k=some x→∃ e,e∈es.toList∧MKR k e.key
theorem EntR.mono {w w':World} {I I':Nat→Prop} {ks:Bool} {m:MF} {es:Array MapEntry} {clock:Nat} (h:EntR w I ks m es clock) (hk:KeepS I w w') (hI:∀ b,I b→I' b):EntR w' I' ks m es clock :=
 ⟨h.st,fun e he=>let ⟨k,x,h1,h2,h3,h4⟩:=h.ent e he; ⟨k,x,h1,h2,h3,h4.mono hk hI⟩,h.all⟩
def MapV (w:World) (I:Nat→Prop) (ks:Bool) (m:MF) (v:Value):Prop :=
 (v=.map none∧∀ k,m k=none)∨∃ r es clock,v=.map (some r)∧I r∧w.heap[r]?=some (.map es clock)∧EntR w I ks m es clock
def MapO (w:World) (I S:Nat→Prop) (ks:Bool) (m:MF) (v:Value):Prop :=
 ∃ r es clock,v=.map (some r)∧(∀ x,S x ↔ x=r)∧w.heap[r]?=some (.map es clock)∧EntR w I ks m es clock
theorem MapV.mono {w w':World} {I I':Nat→Prop} {ks:Bool} {m:MF} {v:Value} (h:MapV w I ks m v) (hk:KeepS I w w') (hI:∀ b,I b→I' b):MapV w' I' ks m v:=by
 rcases h with h | ⟨r,es,clock,h1,h2,h3,h4⟩
 ·exact .inl h
 ·exact .inr ⟨r,es,clock,h1,hI r h2,by rw [hk.block r h2 (zH.1 h3).1]; exact h3,h4.mono hk hI⟩
theorem MapO.keep {w w':World} {I I' S:Nat→Prop} {ks:Bool} {m:MF} {v:Value} (h:MapO w I S ks m v) (hk:KeepS I w w') (hI:∀ b,I b→I' b) (hS:∀ b,S b→b<w.heap.size→w'.heap[b]?=w.heap[b]?):MapO w' I' S ks m v:=by
 obtain ⟨r,es,clock,h1,h2,h3,h4⟩:=h
 exact ⟨r,es,clock,h1,h2,by rw [hS r ((h2 r).2 rfl) (zH.1 h3).1]; exact h3,h4.mono hk hI⟩
theorem MapO.give {w:World} {I S T:Nat→Prop} {ks:Bool} {m:MF} {v:Value} (h:MapO w I S ks m v) (hS:∀ b,S b→T b) (hI:∀ b,I b→T b):MapV w T ks m v:=by
 obtain ⟨r,es,clock,h1,h2,h3,h4⟩:=h
 exact .inr ⟨r,es,clock,h1,hS r ((h2 r).2 rfl),h3,h4.mono (KeepS.refl _ _) hI⟩
def ItO (w:World) (I S:Nat→Prop) (ks:Bool) (m:MF) (seen:List MK) (cur:Option (MK × MV)) (v:Value):Prop :=
 ∃ b,v=.pointer (some ⟨b,0,none⟩)∧(∀ x,S x ↔ x=b)∧((w.heap[b]?=some (.mapIter none 0 #[] 0)∧(∀ k,m k=none)∧cur=none) ∨
  ∃ r es clock sn,w.heap[b]?=some (.mapIter (some r) clock sn clock)∧I r∧w.heap[r]?=some (.map es clock)∧EntR w I ks m es clock ∧
   (∀ e,e∈es.toList→(e.born∈sn ↔ ∃ k,k∈seen∧MKR k e.key))∧∀ k x,cur=some (k,x)→∃ e,e∈es.toList∧sn.back?=some e.born∧MKR k e.key∧MVR w I x e.val)
theorem ItO.keep {w w':World} {I I' S:Nat→Prop} {ks:Bool} {m:MF} {seen:List MK} {cur:Option (MK × MV)} {v:Value} (h:ItO w I S ks m seen cur v) (hk:KeepS I w w') (hI:∀ b,I b→I' b) (hS:∀ b,S b→b<w.heap.size→w'.heap[b]?=w.heap[b]?):ItO w' I' S ks m seen cur v:=by
 obtain ⟨b,h1,h2,h3⟩:=h
 refine ⟨b,h1,h2,?_⟩
 rcases h3 with ⟨h3,h4⟩ | ⟨r,es,clock,sn,h3,h4,h5,h6,h7,h8⟩
 ·exact .inl ⟨by rw [hS b ((h2 b).2 rfl) (zH.1 h3).1]; exact h3,h4⟩
 ·refine .inr ⟨r,es,clock,sn,by rw [hS b ((h2 b).2 rfl) (zH.1 h3).1]; exact h3,hI r h4,by rw [hk.block r h4 (zH.1 h5).1]; exact h5,h6.mono hk hI,h7,fun k x hc=>?_⟩
  obtain ⟨e,g1,g2,g3,g4⟩:=h8 k x hc
  exact ⟨e,g1,g2,g3,g4.mono hk hI⟩
theorem MapV.one {w:World} {I:Nat→Prop} {ks:Bool} {m:MF} {v:Value} (h:MapV w I ks m v):v.oneCell'=true:=by
 rcases h with ⟨rfl,_⟩ | ⟨r,es,clock,rfl,_⟩ <;> rfl
mutual
def RepV (w:World) (I:Nat→Prop) (V:Nat→Option Value):SV→Value→Prop
 | .any,_=>True
 | .int k n,v=>v=.int k n
 | .bool b,v=>v=.bool b
 | .str s,v=>v=.string s∧s.size≤9223372036854775807
 | .nil,v=>v=.slice none 0 0
 | .arr es,v=>DRep false w I (.arr es) v
 | .agg l,v=>∃ vs:List Value,v=.agg vs.toArray∧RepVs w I V l vs
 | .tup l,v=>∃ vs:List Value,v=.tuple vs.toArray∧RepVs w I V l vs
 | .ref g,v=>V g=some v∧v.oneCell'=true
 | .ptr g o,v=>∃ b,V g=some (.pointer (some ⟨b,0,none⟩))∧v=.pointer (some ⟨b,o,none⟩)
 | .eptr g sz k o,v=>∃ b off n c,V g=some (.slice (some ⟨b,off,none⟩) n c)∧v=.pointer (some ⟨b,off+k*sz+o,none⟩)
 | .vptr es k o,v=>∃ b off c,DRep false w I (.arr es) (.slice (some ⟨b,off,none⟩) es.length c)∧k < es.length∧v=.pointer (some ⟨b,off+k*(es.getD k []).length+o,none⟩)
 | .fn f caps,v=>∃ vs:List Value,v=.func (.func f) #[] vs.toArray∧RepVs w I V caps vs
 | .mp ks m,v=>MapV w I ks m v
 | .val u,v=>v=u∧v.oneCell'=true
def RepVs (w:World) (I:Nat→Prop) (V:Nat→Option Value):List SV→List Value→Prop
 | [],vs=>vs=[]
 | x :: xs,vs=>∃ v r,vs=v :: r∧RepV w I V x v∧RepVs w I V xs r
end
def VLe (V V':Nat→Option Value):Prop:=∀ g u,V g=some u→V' g=some u
theorem VLe.refl (V:Nat→Option Value):VLe V V:=fun _ _ h=>h
theorem VLe.trans {A B C:Nat→Option Value} (h:VLe A B) (k:VLe B C):VLe A C:=fun g u e=>k g u (h g u e)
section
variable {w w':World} {I I':Nat→Prop} {V V':Nat→Option Value}
mutual
theorem RepV.mono (hk:KeepS I w w') (hI:∀ b,I b→I' b) (hV:VLe V V'):∀ (x:SV) (v:Value),RepV w I V x v→RepV w' I' V' x v
 | .any,_,_=>by simp [RepV]
 | .int k n,v,h=>by simpa [RepV] using h
 | .bool b,v,h=>by simpa [RepV] using h
 | .str s,v,h=>by simpa [RepV] using h
 | .nil,v,h=>by simpa [RepV] using h
 | .arr es,v,h=>by
  simp only [RepV] at h ⊢
  exact (h.keep hk).up hI
 | .mp ks m,v,h=>by
  simp only [RepV] at h ⊢
  exact h.mono hk hI
 | .val u,v,h=>by simpa [RepV] using h
 | .agg l,v,h=>by
  simp only [RepV] at h ⊢
  obtain ⟨vs,e,h⟩:=h
  exact ⟨vs,e,RepVs.mono hk hI hV l vs h⟩
 | .tup l,v,h=>by
  simp only [RepV] at h ⊢
  obtain ⟨vs,e,h⟩:=h
  exact ⟨vs,e,RepVs.mono hk hI hV l vs h⟩
 | .ref g,v,h=>by
  simp only [RepV] at h ⊢
  exact ⟨hV _ _ h.1,h.2⟩
 | .ptr g o,v,h=>by
  simp only [RepV] at h ⊢
  obtain ⟨b,h1,h2⟩:=h
  exact ⟨b,hV _ _ h1,h2⟩
 | .eptr g sz k o,v,h=>by
  simp only [RepV] at h ⊢
  obtain ⟨b,off,n,c,h1,h2⟩:=h
  exact ⟨b,off,n,c,hV _ _ h1,h2⟩
 | .vptr es k o,v,h=>by
  simp only [RepV] at h ⊢
  obtain ⟨b,off,c,h1,h2⟩:=h
  exact ⟨b,off,c,(h1.keep hk).up hI,h2⟩
 | .fn f caps,v,h=>by
  simp only [RepV] at h ⊢
  obtain ⟨vs,e,h⟩:=h
  exact ⟨vs,e,RepVs.mono hk hI hV caps vs h⟩
theorem RepVs.mono (hk:KeepS I w w') (hI:∀ b,I b→I' b) (hV:VLe V V'):∀ (xs:List SV) (vs:List Value),RepVs w I V xs vs→RepVs w' I' V' xs vs
 | [],vs,h=>by simpa [RepVs] using h
 | x :: xs,vs,h=>by
  simp only [RepVs] at h ⊢
  obtain ⟨v,r,e,h1,h2⟩:=h
  exact ⟨v,r,e,RepV.mono hk hI hV x v h1,RepVs.mono hk hI hV xs r h2⟩
end
theorem RepVs.len:∀ {xs:List SV} {vs:List Value},RepVs w I V xs vs→vs.length=xs.length
 | [],vs,h=>by simp only [RepVs] at h; subst h; rfl
 | x :: xs,vs,h=>by
  simp only [RepVs] at h
  obtain ⟨v,r,rfl,_,h2⟩:=h
  simp [RepVs.len h2]
theorem RepVs.app:∀ {xs ys:List SV} {vs us:List Value},RepVs w I V xs vs→RepVs w I V ys us→RepVs w I V (xs++ys) (vs++us)
 | [],ys,vs,us,h,h'=>by simp only [RepVs] at h; subst h; simpa using h'
 | x :: xs,ys,vs,us,h,h'=>by
  simp only [RepVs] at h
  obtain ⟨v,r,rfl,h1,h2⟩:=h
  simp only [List.cons_append,RepVs]
  exact ⟨v,_,rfl,h1,RepVs.app h2 h'⟩
theorem RepVs.take:∀ {xs:List SV} {vs:List Value} (n:Nat),RepVs w I V xs vs→RepVs w I V (xs.take n) (vs.take n)
 | [],vs,n,h=>by simp only [RepVs] at h; subst h; simp [RepVs]
 | x :: xs,vs,0,h=>by simp [RepVs]
 | x :: xs,vs,n+1,h=>by
  simp only [RepVs] at h
  obtain ⟨v,r,rfl,h1,h2⟩:=h
  simp only [List.take_succ_cons,RepVs]
  exact ⟨v,_,rfl,h1,RepVs.take n h2⟩
theorem RepVs.drop:∀ {xs:List SV} {vs:List Value} (n:Nat),RepVs w I V xs vs→RepVs w I V (xs.drop n) (vs.drop n)
 | [],vs,n,h=>by simp only [RepVs] at h; subst h; simp [RepVs]
 | x :: xs,vs,0,h=>by simpa using h
 | x :: xs,vs,n+1,h=>by
  simp only [RepVs] at h
  obtain ⟨v,r,rfl,h1,h2⟩:=h
  simp only [List.drop_succ_cons]
  exact RepVs.drop n h2
theorem RepVs.get:∀ {xs:List SV} {vs:List Value} {n:Nat} {x:SV},RepVs w I V xs vs→xs[n]?=some x→∃ v,vs[n]?=some v∧RepV w I V x v
 | [],vs,n,x,h,hx=>by simp at hx
 | y :: xs,vs,0,x,h,hx=>by
  simp only [RepVs] at h
  obtain ⟨v,r,rfl,h1,h2⟩:=h
  simp only [zG,zF] at hx
  subst hx
  exact ⟨v,by simp,h1⟩
 | y :: xs,vs,n+1,x,h,hx=>by
  simp only [RepVs] at h
  obtain ⟨v,r,rfl,h1,h2⟩:=h
  simp only [zI] at hx
  obtain ⟨u,hu,hr⟩:=RepVs.get h2 hx
  exact ⟨u,by simpa using hu,hr⟩
theorem RepVs.one {x:SV} {v:Value} (h:RepV w I V x v):RepVs w I V [x] [v]:=by
 simp only [RepVs]
 exact ⟨v,[],rfl,h,rfl⟩
theorem D.rep_sv {d:D} {v:Value} (h:DRep false w I d v):RepV w I V d.sv v:=by
 cases d with
 | int n=>cases h; simp [D.sv,RepV]
 | byte n=>cases h; simp [D.sv,RepV]
 | nl=>cases h; simp [D.sv,RepV]
 | bool b=>cases h; simp [D.sv,RepV]
 | str s=>cases h with | str _ _ hs=>simpa [D.sv,RepV] using hs
 | arr es=>simpa only [D.sv,RepV] using h
theorem DRep.leaf {es:List (List D)} {b off c n:Nat} (h:DRep false w I (.arr es) (.slice (some ⟨b,off,none⟩) n c)) {k j:Nat} (hk:k<es.length) (hj:j<es[k].length) :
  ∃ v,w.cell? ⟨b,off+k*es[k].length+j,none⟩=some v∧DRep false w I (es[k][j]) v:=by
 cases h with
 | arr S sz es a cap f Sub h1 h2 h3 h4 h5 h6 h7 =>
  rcases h3 with h3 | ⟨b',off',e,hS,hlt,hc,_⟩
  ·omega
  ·injection e with e
   injection e with e1 e2
   subst e1 e2
   have e4:=h4 k hk
   refine ⟨f k j,?_,(h7 k j hk hj).up fun x hx=>h5 k j x hx⟩
   rw [e4]
   exact hc k j hk (by omega)
theorem DRep.slice_form {es:List (List D)} {v:Value} (h:DRep false w I (.arr es) v):∃ a c,v=.slice a es.length c∧es.length≤c∧c≤9223372036854775807∧(0<es.length→∃ b off,a=some ⟨b,off,none⟩):=by
 cases h with
 | arr S sz es a cap f Sub h1 h2 h3 h4 h5 h6 h7 =>
  refine ⟨a,cap,rfl,h1,h2,fun h0=>?_⟩
  rcases h3 with h3 | ⟨b',off',e,hS,hlt,hc,_⟩
  ·omega
  ·exact ⟨b',off',e⟩
end
inductive ORep (w:World) (I:Nat→Prop):(Nat→Prop)→OT→Value→Prop
 |int (S:Nat→Prop) (n:Int):ORep w I S (.int n) (.int .i64 n)
 |byte (S:Nat→Prop) (n:Int):ORep w I S (.byte n) (.int .u8 n)
 |bool (S:Nat→Prop) (b:Bool):ORep w I S (.bool b) (.bool b)
 |str (S:Nat→Prop) (s:ByteArray) (h:s.size≤9223372036854775807):ORep w I S (.str s) (.string s)
 |sh (S:Nat→Prop) (es:List (List D)) (v:Value) (h:DRep false w I (.arr es) v):ORep w I S (.sh es) v
 |nil (S:Nat→Prop):ORep w I S (.ow []) (.slice none 0 0)
 |hole (S:Nat→Prop) (v:Value) (h:v.oneCell'=true):ORep w I S .hole v
 |pin (S:Nat→Prop) (v:Value) (h:v.oneCell'=true):ORep w I S (.pin v) v
 |row (S:Nat→Prop) (t:TypeId) (sz:Nat) (es:List (List OT)) (b cap:Nat) (cur:Array Value) (Sub:Nat→Nat→Nat→Prop) (hS:S b) (hb:w.heap[b]?=some (.cells cur t (0,0)))
   (h1:es.length≤cap) (h2:cap≤9223372036854775807) (h3:cur.size=cap*sz) (h4:∀ i (h:i<es.length),es[i].length=sz) (h5:∀ i j x,Sub i j x→S x∧x≠b)
   (h6:∀ i j i' j' x,Sub i j x→Sub i' j' x→i=i'∧j=j') (h7:∀ i j (h:i<es.length) (h':j<es[i].length),ORep w I (Sub i j) (es[i][j]) (cur.getD (i*sz+j) undef)) :
   ORep w I S (.ow es) (.slice (some ⟨b,0,none⟩) es.length cap)
def RowR (w:World) (I:Nat→Prop) (S:Nat→Prop) (t:TypeId) (sz:Nat) (es:List (List OT)) (v:Value):Prop :=
 (es=[]∧v=.slice none 0 0)∨∃ (b cap:Nat) (cur:Array Value) (Sub:Nat→Nat→Nat→Prop),v=.slice (some ⟨b,0,none⟩) es.length cap∧S b∧w.heap[b]?=some (.cells cur t (0,0)) ∧
  es.length≤cap∧cap≤9223372036854775807∧cur.size=cap*sz∧(∀ i (h:i<es.length),es[i].length=sz)∧(∀ i j x,Sub i j x→S x∧x≠b) ∧
  (∀ i j i' j' x,Sub i j x→Sub i' j' x→i=i'∧j=j')∧∀ i j (h:i<es.length) (h':j<es[i].length),ORep w I (Sub i j) (es[i][j]) (cur.getD (i*sz+j) undef)
section
variable {w w':World} {I I' S S':Nat→Prop}
theorem ORep.keep {o:OT} {v:Value} (h:ORep w I S o v) (hk:KeepS I w w') (hI:∀ b,I b→I' b) (hS:∀ b,S b→b<w.heap.size→w'.heap[b]?=w.heap[b]?):ORep w' I' S o v:=by
 induction h with
 | int S n=>exact .int S n
 | byte S n=>exact .byte S n
 | bool S b=>exact .bool S b
 | str S s h=>exact .str S s h
 | sh S es v h=>exact .sh S es v ((h.keep hk).up hI)
 | nil S=>exact .nil S
 | hole S v h=>exact .hole S v h
 | pin S v h=>exact .pin S v h
 | row S t sz es b cap cur Sub hs hb h1 h2 h3 h4 h5 h6 h7 ih =>
  refine .row S t sz es b cap cur Sub hs ?_ h1 h2 h3 h4 h5 h6 fun i j hi hj=>ih i j hi hj fun x hx=>hS x (h5 i j x hx).1
  rw [hS b hs (zH.1 hb).1]
  exact hb
theorem ORep.up {o:OT} {v:Value} (h:ORep w I S o v) (hs:∀ x,S x→S' x):ORep w I S' o v:=by
 cases h with
 | int S n=>exact .int S' n
 | byte S n=>exact .byte S' n
 | bool S b=>exact .bool S' b
 | str S s h=>exact .str S' s h
 | sh S es v h=>exact .sh S' es v h
 | nil S=>exact .nil S'
 | hole S v h=>exact .hole S' v h
 | pin S v h=>exact .pin S' v h
 | row S t sz es b cap cur Sub hS hb h1 h2 h3 h4 h5 h6 h7 =>
  exact .row S' t sz es b cap cur Sub (hs b hS) hb h1 h2 h3 h4 (fun i j x hx=>⟨hs x (h5 i j x hx).1,(h5 i j x hx).2⟩) h6 h7
theorem RowR.keep {t:TypeId} {sz:Nat} {es:List (List OT)} {v:Value} (h:RowR w I S t sz es v) (hk:KeepS I w w') (hI:∀ b,I b→I' b) (hS:∀ b,S b→b<w.heap.size→w'.heap[b]?=w.heap[b]?):RowR w' I' S t sz es v:=by
 rcases h with h | ⟨b,cap,cur,Sub,rfl,hs,hb,h1,h2,h3,h4,h5,h6,h7⟩
 ·exact .inl h
 ·refine .inr ⟨b,cap,cur,Sub,rfl,hs,?_,h1,h2,h3,h4,h5,h6,fun i j hi hj=>(h7 i j hi hj).keep hk hI fun x hx=>hS x (h5 i j x hx).1⟩
  rw [hS b hs (zH.1 hb).1]
  exact hb
theorem RowR.up {t:TypeId} {sz:Nat} {es:List (List OT)} {v:Value} (h:RowR w I S t sz es v) (hs:∀ x,S x→S' x):RowR w I S' t sz es v:=by
 rcases h with h | ⟨b,cap,cur,Sub,rfl,hS,hb,h1,h2,h3,h4,h5,h6,h7⟩
 ·exact .inl h
 ·exact .inr ⟨b,cap,cur,Sub,rfl,hs b hS,hb,h1,h2,h3,h4,fun i j x hx=>⟨hs x (h5 i j x hx).1,(h5 i j x hx).2⟩,h6,h7⟩
theorem RowR.ot {t:TypeId} {sz:Nat} {es:List (List OT)} {v:Value} (h:RowR w I S t sz es v):ORep w I S (.ow es) v:=by
 rcases h with ⟨rfl,rfl⟩ | ⟨b,cap,cur,Sub,rfl,hS,hb,h1,h2,h3,h4,h5,h6,h7⟩
 ·exact .nil S
 ·exact .row S t sz es b cap cur Sub hS hb h1 h2 h3 h4 h5 h6 h7
theorem RowR.form {t:TypeId} {sz:Nat} {es:List (List OT)} {v:Value} (h:RowR w I S t sz es v):∃ a c,v=.slice a es.length c∧es.length≤c∧c≤9223372036854775807∧(0<es.length→∃ b,a=some ⟨b,0,none⟩):=by
 rcases h with ⟨rfl,rfl⟩ | ⟨b,cap,cur,Sub,rfl,hS,hb,h1,h2,h3,h4,h5,h6,h7⟩
 ·exact ⟨none,0,rfl,zL _,by omega,fun h=>absurd h (by simp)⟩
 ·exact ⟨_,cap,rfl,h1,h2,fun _=>⟨b,rfl⟩⟩
theorem RowR.nil (w:World) (I S:Nat→Prop) (t:TypeId) (sz:Nat):RowR w I S t sz [] (.slice none 0 0):=.inl ⟨rfl,rfl⟩
end
def HoleR (w:World) (V:Nat→Option Value) (val:Value) (n sz:Nat) (h:Nat × Nat × Nat):Prop :=
 h.1<n∧h.2.1<sz∧∃ b c v,val=.slice (some ⟨b,0,none⟩) n c∧w.cell? ⟨b,h.1*sz+h.2.1,none⟩=some v∧V h.2.2=some v∧∃ a m d,v=.slice a m d
def TreeR (w:World) (I:Nat→Prop) (V:Nat→Option Value) (S:Nat→Prop) (es:List (List OT)) (hs:List (Nat × Nat × Nat)) (val:Value):Prop :=
 ∃ t sz,RowR w I S t sz es val∧∀ h,h∈hs→HoleR w V val es.length sz h
def OT.flat:OT→Bool
 | .ow _=>false
 | _=>true
def Cj (es:List (List OT)):Bool:=es.all fun l=>l.all OT.flat
theorem N6 {es:List (List OT)} (h:Cj es=true) {i j:Nat} (hi:i<es.length) (hj:j<es[i].length):(es[i][j]).flat=true:=yO.1 (yO.1 h _ (z7 hi)) _ (z7 hj)
theorem ORep.flat {w:World} {I S S':Nat→Prop} {o:OT} {v:Value} (h:ORep w I S o v) (hf:o.flat=true):ORep w I S' o v:=by
 cases h with
 | int S n=>exact .int _ n
 | byte S n=>exact .byte _ n
 | bool S b=>exact .bool _ b
 | str S s h=>exact .str _ s h
 | sh S es v h=>exact .sh _ es v h
 | nil S=>cases hf
 | hole S v h=>exact .hole _ v h
 | pin S v h=>exact .pin _ v h
 | row=>cases hf
def W0 (w:World) (I:Nat→Prop) (S:Nat→Prop) (t:TypeId) (sz:Nat) (es:List (List OT)) (us:List (Value × Nat)):Prop:=∀ q,q∈us→q.2≤es.length∧RowR w I S t sz (es.take q.2) q.1
def ObR (w:World) (I:Nat→Prop) (V:Nat→Option Value) (S:Nat→Prop) (val:Value):Ob→Prop
 | .box t l=>∃ (b:Nat) (vs:List Value),val=.pointer (some ⟨b,0,none⟩)∧(∀ x,S x ↔ x=b)∧w.heap[b]?=some (.cells vs.toArray t (0,0))∧RepVs w I V l vs
 | .row t sz es=>RowR w I S t sz es val
 | .tree es hs=>TreeR w I V S es hs val
 | .mp ks m=>MapO w I S ks m val
 | .it ks m seen cur=>ItO w I S ks m seen cur val
 | .shd es=>DRep false w I (.arr es) val
 | .hist t sz es us=>RowR w I S t sz es val∧Cj es=true∧W0 w I S t sz es us
 | _=>True
structure Wf (w:World) (I:Nat→Prop) (V:Nat→Option Value) (B:Nat→Nat→Prop) (ob:Nat→Ob):Prop where
 ilt:∀ b,I b→b<w.heap.size
 obj:∀ g,(ob g).live→∃ val,V g=some val∧ObR w I V (B g) val (ob g)
 lt:∀ g b,(ob g).live→B g b→b<w.heap.size
 dI:∀ g b,(ob g).live→B g b→¬ I b
 dO:∀ g g' b,(ob g).live→(ob g').live→B g b→B g' b→g=g'
 fr:∀ g,ob g=.free→V g=none
 gl:GL w I
theorem RowR.block {w:World} {I S:Nat→Prop} {t:TypeId} {sz:Nat} {es:List (List OT)} {b n c:Nat} (h:RowR w I S t sz es (.slice (some ⟨b,0,none⟩) n c)):S b∧b<w.heap.size:=by
 rcases h with ⟨_,h⟩ | ⟨b',cap,cur,Sub,e,hs,hb,_⟩
 ·cases h
 ·injection e with e1; injection e1 with e1; injection e1 with e1; subst e1
  exact ⟨hs,(zH.1 hb).1⟩
theorem TreeR.keep {w w':World} {I I':Nat→Prop} {V V':Nat→Option Value} {S:Nat→Prop} {es:List (List OT)} {hs:List (Nat × Nat × Nat)} {val:Value} (h:TreeR w I V S es hs val) (hk:KeepS I w w') (hI:∀ b,I b→I' b) (hV:VLe V V') (hS:∀ b,S b→b<w.heap.size→w'.heap[b]?=w.heap[b]?):TreeR w' I' V' S es hs val:=by
 obtain ⟨t,sz,h1,h2⟩:=h
 refine ⟨t,sz,h1.keep hk hI hS,fun q hq=>?_⟩
 obtain ⟨g1,g2,b,c,v,rfl,g3,g4,g5⟩:=h2 q hq
 obtain ⟨k1,k2⟩:=h1.block
 exact ⟨g1,g2,b,c,v,rfl,by rw [World.cell?_of_block (w:=w) (w':=w') (a:=⟨b,q.1*sz+q.2.1,none⟩) (hS b k1 k2)]; exact g3,hV _ _ g4,g5⟩
theorem ObR.keep {w w':World} {I I' S:Nat→Prop} {V V':Nat→Option Value} {val:Value} {o:Ob} (h:ObR w I V S val o) (hk:KeepS I w w') (hI:∀ b,I b→I' b) (hV:VLe V V') (hS:∀ b,S b→b<w.heap.size→w'.heap[b]?=w.heap[b]?):ObR w' I' V' S val o:=by
 cases o with
 | free=>trivial
 | gone=>trivial
 | box t l =>
  obtain ⟨b,vs,h1,h2,h3,h4⟩:=h
  exact ⟨b,vs,h1,h2,by rw [hS b ((h2 b).2 rfl) (zH.1 h3).1]; exact h3,RepVs.mono hk hI hV _ _ h4⟩
 | row t sz es=>exact RowR.keep h hk hI hS
 | tree es hs=>exact TreeR.keep h hk hI hV hS
 | mp ks m=>exact MapO.keep h hk hI hS
 | it ks m seen cur=>exact ItO.keep h hk hI hS
 | shd es=>exact DRep.up (DRep.keep h hk) hI
 | hist t sz es us=>exact ⟨RowR.keep h.1 hk hI hS,h.2.1,fun q hq=>⟨(h.2.2 q hq).1,RowR.keep (h.2.2 q hq).2 hk hI hS⟩⟩
theorem Wf.upd {w w':World} {I I':Nat→Prop} {V V':Nat→Option Value} {B B':Nat→Nat→Prop} {ob ob':Nat→Ob} (G:Nat→Prop) (h:Wf w I V B ob)
  (hsz:w.heap.size≤w'.heap.size) (hkeep:∀ b,b<w.heap.size→(∀ g,G g→(ob g).live→¬ B g b)→w'.heap[b]?=w.heap[b]?)
  (hI:∀ b,I b→I' b) (hV:VLe V V') (hout:∀ g,¬ G g→ob' g=ob g∧B' g=B g∧(ob g=.free→V' g=none))
  (hnI:∀ b,I' b→I b∨w.heap.size≤b∨∃ g,G g∧(ob g).live∧B g b) (hIlt:∀ b,I' b→b<w'.heap.size)
  (hobj:∀ g,G g→(ob' g).live→∃ val,V' g=some val∧ObR w' I' V' (B' g) val (ob' g))
  (hB:∀ g b,G g→(ob' g).live→B' g b→(w.heap.size≤b∧b<w'.heap.size)∨∃ g0,G g0∧(ob g0).live∧B g0 b)
  (hBI:∀ g b,G g→(ob' g).live→B' g b→¬ I' b)
  (hBB:∀ g g' b,G g→G g'→(ob' g).live→(ob' g').live→B' g b→B' g' b→g=g')
  (hfr:∀ g,G g→ob' g=.free→V' g=none):Wf w' I' V' B' ob':=by
 classical
 have hkI:KeepS I w w':=⟨hsz,fun b hb hl=>hkeep b hl fun g hg hlv hB=>h.dI g b hlv hB hb⟩
 have notG:∀ g g0 b,¬ G g→(ob g).live→B g b→G g0→(ob g0).live→¬ B g0 b:=fun g g0 b hg hl hb hg0 hl0 hb0=>hg (by rw [h.dO g g0 b hl hl0 hb hb0]; exact hg0)
 refine ⟨hIlt,fun g hl=>?_,fun g b hl hb=>?_,fun g b hl hb hi=>?_,fun g g' b hl hl' hb hb'=>?_,fun g hf=>?_,h.gl.keep hkI hI⟩
 ·by_cases hg:G g
  ·exact hobj g hg hl
  ·obtain ⟨e1,e2,_⟩:=hout g hg
   rw [e1] at hl ⊢
   rw [e2]
   obtain ⟨val,hv,hr⟩:=h.obj g hl
   exact ⟨val,hV _ _ hv,hr.keep hkI hI hV fun b hb hlt=>hkeep b hlt fun g0 hg0 hl0=>notG g g0 b hg hl hb hg0 hl0⟩
 ·by_cases hg:G g
  ·rcases hB g b hg hl hb with h1 | ⟨g0,h1,h2,h3⟩
   ·exact h1.2
   ·exact zR (h.lt g0 b h2 h3) hsz
  ·obtain ⟨e1,e2,_⟩:=hout g hg
   rw [e1] at hl
   rw [e2] at hb
   exact zR (h.lt g b hl hb) hsz
 ·by_cases hg:G g
  ·exact hBI g b hg hl hb hi
  ·obtain ⟨e1,e2,_⟩:=hout g hg
   rw [e1] at hl
   rw [e2] at hb
   rcases hnI b hi with h1 | h1 | ⟨g0,h1,h2,h3⟩
   ·exact h.dI g b hl hb h1
   ·have:=h.lt g b hl hb; omega
   ·exact notG g g0 b hg hl hb h1 h2 h3
 ·have one:∀ g g' b,G g→¬ G g'→(ob' g).live→(ob' g').live→B' g b→B' g' b→False:=fun g g' b hg hg' hl hl' hb hb'=>by
   obtain ⟨e1,e2,_⟩:=hout g' hg'
   rw [e1] at hl'
   rw [e2] at hb'
   rcases hB g b hg hl hb with h1 | ⟨g0,h1,h2,h3⟩
   ·have:=h.lt g' b hl' hb'; omega
   ·exact notG g' g0 b hg' hl' hb' h1 h2 h3
  by_cases hg:G g <;> by_cases hg':G g'
  ·exact hBB g g' b hg hg' hl hl' hb hb'
  ·exact (one g g' b hg hg' hl hl' hb hb').elim
  ·exact (one g' g b hg' hg hl' hl hb' hb).elim
  ·obtain ⟨e1,e2,_⟩:=hout g hg
   obtain ⟨e1',e2',_⟩:=hout g' hg'
   rw [e1] at hl
   rw [e2] at hb
   rw [e1'] at hl'
   rw [e2'] at hb'
   exact h.dO g g' b hl hl' hb hb'
 ·by_cases hg:G g
  ·exact hfr g hg hf
  ·obtain ⟨e1,_,e3⟩:=hout g hg
   rw [e1] at hf
   exact e3 hf
class Flag where
 d:Prop
def TapeOk [Flag] (w w':World):Prop:=w'.tape=w.tape∧(Flag.d→w.drawn≤w'.drawn)
variable [Flag]
theorem TapeOk.mk' {w w':World} (h:w'.tape=w.tape) (k:w'.drawn=w.drawn):TapeOk w w':=⟨h,fun _=>Nat.le_of_eq k.symm⟩
theorem TapeOk.le {w w':World} (h:w'.tape=w.tape) (k:w.drawn≤w'.drawn):TapeOk w w':=⟨h,fun _=>k⟩
theorem TapeOk.trans {a b c:World} (h:TapeOk b c) (k:TapeOk a b):TapeOk a c:=⟨h.1.trans k.1,fun d=>y7 (k.2 d) (h.2 d)⟩
theorem TapeOk.drewN {a b:World} (h:TapeOk a b) (n:Nat):TapeOk a (b.drewN n):=⟨h.1,fun d=>y7 (h.2 d) (Nat.le_add_right _ _)⟩
structure Fr (w0:World) (H:Nat→Prop) (w:World):Prop where
 os:w.os=w0.os
 tape:TapeOk w0 w
 output:w.output=w0.output
 size:w0.heap.size≤w.heap.size
 block:∀ b,b<w0.heap.size→¬ H b→w.heap[b]?=w0.heap[b]?
structure Ctx where
 w0:World
 H:Nat→Prop
 I0:Nat→Prop
 V0:Nat→Option Value
 nt:Nat
 m:Nat
 vm:∀ g,m≤g→V0 g=none
structure Fst where
 sl:Nat→SV
 ob:Nat→Ob
structure RepI (c:Ctx) (I:Nat→Prop) (V:Nat→Option Value) (B:Nat→Nat→Prop) (s:Fst) (a:Act) (w:World):Prop where
 fr:Fr c.w0 c.H w
 i0:∀ b,c.I0 b→I b
 i1:∀ b,I b→c.I0 b∨c.w0.heap.size≤b∨c.H b
 v0:VLe c.V0 V
 wf:Wf w I V B s.ob
 bh:∀ g b,(s.ob g).live→B g b→c.H b∨c.w0.heap.size≤b
 nd:a.defers=[]
 sz:a.tmps.size=c.nt
 slots:∀ k,RepV w I V (s.sl k) (a.tmps.getD k undef)
def Rep (c:Ctx) (s:Fst) (a:Act) (w:World):Prop:=∃ I V B,RepI c I V B s a w
def Fst.put (s:Fst) (d:Option Tmp) (x:SV):Fst:={ s with sl:=fun k=>if d=some k then x else s.sl k }
def AS (nt:Nat):Option Tmp→Bool
 | none=>true
 | some d=>decide (d < nt)
theorem RepI.put {c:Ctx} {I:Nat→Prop} {V:Nat→Option Value} {B:Nat→Nat→Prop} {s:Fst} {a:Act} {w:World} (h:RepI c I V B s a w) {d:Option Tmp} (hd:AS c.nt d=true) {x:SV} {v:Value} (hx:RepV w I V x v):RepI c I V B (s.put d x) (a.put d v) w:=by
 cases d with
 | none =>
  have e:s.put none x=s:=by cases s; simp [Fst.put]
  rw [e]; exact h
 | some d =>
  have hd':d<c.nt:=by simpa [AS] using hd
  refine ⟨h.fr,h.i0,h.i1,h.v0,h.wf,h.bh,h.nd,by simp [Act.put,h.sz],fun k=>?_⟩
  simp only [Fst.put,Act.put,zF]
  by_cases e:d=k
  ·subst e
   rw [if_pos rfl]
   have:d<a.tmps.size:=by rw [h.sz]; exact hd'
   simpa [zD,this] using hx
  ·rw [if_neg e]
   have:=h.slots k
   simpa [zD,yY e] using this
structure Ent where
 run:Bool
 x:SV
 upd:List (Nat × Ob)
 rd:List Nat
def AE:List (Nat × Ob)→Nat→Option Ob
 | [],_=>none
 | (g,o) :: r,k=>if g=k then some o else AE r k
def Fst.setO (s:Fst) (upd:List (Nat × Ob)):Fst:={ s with ob:=fun g=>(AE upd g).getD (s.ob g) }
def Fst.app (s:Fst) (d:Option Tmp) (x:SV) (upd:List (Nat × Ob)):Fst:=(s.setO upd).put d x
def OpS (P:Program) (c:Ctx) (o:Oper) (s:Fst) (x:SV) (upd:List (Nat × Ob)):Prop :=
 ∀ (a:Act) (w:World) (K:Act→World→Prop) (Q:Exit→Act→World→Prop),Rep c s a w→(∀ a' w',Rep c (s.app o.dst x upd) a' w'→K a' w')→o.wp P a w K Q
def Hj (ops:Array Oper) (o:Oper) (s:Fst) (b:Bool):Prop :=
 match o.guard with
 | none=>b=true
 | some (j,want)=>∃ d,(ops[j]?).bind (·.dst)=some d∧(s.sl d=.bool (b == want)∨(b=false∧s.sl d=.tup []))
def W1 (P:Program) (c:Ctx) (ops:Array Oper) (o:Oper) (e:Ent) (s:Fst):Prop :=
 Hj ops o s e.run∧if e.run then OpS P c o s e.x e.upd else (e.x=.tup []∧e.upd=[])
def MM (P:Program) (c:Ctx) (ops:Array Oper) (o:Oper) (e:Ent) (s:Fst):Prop :=
 ∀ s':Fst,(∀ k,k∈o.looksAt ops→s'.sl k=s.sl k)→(∀ g,g∈e.rd→s'.ob g=s.ob g)→(∀ g,g∈e.upd.map (·.1)→s'.ob g=s.ob g)→W1 P c ops o e s'
def TextOk (P:Program) (c:Ctx) (ops:Array Oper):List Oper→List Ent→Fst→Prop
 | [],es,_=>es=[]
 | o :: os,es,s=>∃ e r,es=e :: r∧MM P c ops o e s∧TextOk P c ops os r (s.app o.dst e.x e.upd)
def JJ:List Oper→List Ent→Fst→Fst
 | o :: os,e :: es,s=>JJ os es (s.app o.dst e.x e.upd)
 | _,_,s=>s
section
variable {P:Program} {c:Ctx} {ops:Array Oper} {Q:Exit→Act→World→Prop}
theorem Ih {o:Oper} {s:Fst} {b:Bool} {a:Act} {w:World} (h:Hj ops o s b) (hr:Rep c s a w) (hsz:∀ j want d,o.guard=some (j,want)→(ops[j]?).bind (·.dst)=some d→d<c.nt):Region.wanted o (yielded ops a.tmps)=b:=by
 unfold Hj at h
 unfold Region.wanted
 obtain ⟨I,V,B,hr⟩:=hr
 cases hg:o.guard with
 | none=>rw [hg] at h; simp only at h; rw [h]
 | some p =>
  obtain ⟨j,want⟩:=p
  rw [hg] at h
  simp only at h
  obtain ⟨d,hd,hs⟩:=h
  have hv:=hr.slots d
  rcases hs with hs | ⟨rfl,hs⟩
  rotate_left
  ·rw [hs] at hv
   simp only [RepV] at hv
   obtain ⟨us,hv,hu⟩:=hv
   simp only [RepVs] at hu
   subst hu
   have hlt:=hsz j want d hg hd
   have hget:a.tmps[d]?=some (.tuple #[]):=by
    have:d<a.tmps.size:=by rw [hr.sz]; exact hlt
    rw [zD] at hv
    rw [zZ this] at hv ⊢
    simpa using hv
   simp only [yielded,hd,xF,hget]
   rfl
  rw [hs] at hv
  simp only [RepV] at hv
  have hlt:=hsz j want d hg hd
  have hget:a.tmps[d]?=some (.bool (b == want)):=by
   have:d<a.tmps.size:=by rw [hr.sz]; exact hlt
   rw [zD] at hv
   rw [zZ this] at hv ⊢
   simpa using hv
  simp only [yielded,hd,xF,hget]
  cases b <;> cases want <;> rfl
theorem LP (w:World) (I:Nat→Prop) (V:Nat→Option Value):RepV w I V (.tup []) undef:=by
 simp only [RepV]
 exact ⟨[],rfl,by simp only [RepVs]⟩
def N7 (nt:Nat) (ops:Array Oper) (o:Oper):Bool :=
 match o.guard with
 | none=>true
 | some (j,_)=>match (ops[j]?).bind (·.dst) with
  | some d=>decide (d < nt)
  | none=>false
theorem LQ {nt:Nat} {o:Oper} (h:N7 nt ops o=true):∀ j want d,o.guard=some (j,want)→(ops[j]?).bind (·.dst)=some d→d<nt:=by
 intro j want d hg hd
 unfold N7 at h
 rw [hg] at h
 simp only [hd,decide_eq_true_eq] at h
 exact h
theorem Jp:∀ (l:List Oper) (es:List Ent) (s:Fst) (a:Act) (w:World),(∀ o∈l,AS c.nt o.dst=true∧N7 c.nt ops o=true)→TextOk P c ops l es s→Rep c s a w →
  (∀ a' w',Rep c (JJ l es s) a' w'→Q .normal a' w')→wpList P ops Q l a w
 | [],es,s,a,w,_,ht,hr,hq=>by
  simp only [TextOk] at ht
  subst ht
  exact hq a w hr
 | o :: os,es,s,a,w,hd,ht,hr,hq=>by
  simp only [TextOk] at ht
  obtain ⟨e,r,rfl,hv,ht⟩:=ht
  obtain ⟨hg,hs⟩:=hv s (fun _ _=>rfl) (fun _ _=>rfl) (fun _ _=>rfl)
  have hd0:=hd o (by simp)
  have hw:=Ih hg hr (LQ hd0.2)
  have next:∀ a' w',Rep c (s.app o.dst e.x e.upd) a' w'→wpList P ops Q os a' w':=fun a' w' hr' =>
   Jp os r _ a' w' (fun o' ho'=>hd o' (by simp [ho'])) ht hr' fun a'' w'' h=>hq a'' w'' (by simpa [JJ] using h)
  unfold wpList
  rw [hw]
  cases he:e.run with
  | true =>
   rw [if_pos rfl]
   rw [he,if_pos rfl] at hs
   exact .inl (hs a w _ Q hr next)
  | false =>
   rw [if_neg (by simp)]
   rw [he,if_neg (by simp)] at hs
   refine next _ _ ?_
   rw [hs.1,hs.2]
   obtain ⟨I,V,B,hr⟩:=hr
   exact ⟨I,V,B,RepI.put (s:=s.setO []) (by simpa [Fst.setO,AE] using hr) hd0.1 (LP _ _ _)⟩
def Dk {α:Type} (wr:Nat→Option α) (D:Nat→Bool):Nat→α→α
 | 0,v=>v
 | n+1,v=>if D n then (wr n).getD (Dk wr D n v) else Dk wr D n v
theorem LR {α:Type} {wr:Nat→Option α} {D:Nat→Bool} {v:α}:∀ (n:Nat),(∀ j,j<n→wr j≠none→D j=true)→Dk wr D n v=Dk wr (fun _=>true) n v
 | 0,_=>rfl
 | n+1,h=>by
  have ih:=LR (wr:=wr) (v:=v) n fun j hj=>h j (by omega)
  simp only [Dk,if_true,ih]
  cases hw:wr n with
  | none=>simp
  | some x=>rw [h n (by omega) (by rw [hw]; simp)]; simp
theorem EH {α:Type} {wr:Nat→Option α} {D:Nat→Bool} {v:α} (i:Nat):∀ (n:Nat),i≤n→(∀ j,i≤j→j<n→wr j≠none→D j=false)→Dk wr D n v=Dk wr D i v
 | 0,hi,_=>by
          have:i=0:=by omega
          subst this; rfl
 | n+1,hi,h=>by
  by_cases e:i=n+1
  ·subst e; rfl
  ·have ih:=EH (wr:=wr) (v:=v) i n (by omega) fun j h1 h2=>h j h1 (by omega)
   simp only [Dk,ih]
   cases hw:wr n with
   | none=>simp
   | some x=>rw [h n (by omega) (by omega) (by rw [hw]; simp)]; simp
theorem Ej {α:Type} {wr:Nat→Option α} {D D':Nat→Bool} {v:α}:∀ (n:Nat),(∀ j,j<n→wr j≠none→D j=D' j)→Dk wr D n v=Dk wr D' n v
 | 0,_=>rfl
 | n+1,h=>by
  have ih:=Ej (wr:=wr) (v:=v) n fun j hj=>h j (by omega)
  simp only [Dk,ih]
  cases hw:wr n with
  | none=>simp
  | some x=>rw [h n (by omega) (by rw [hw]; simp)]
def wrS (l:List Oper) (es:List Ent) (k:Nat) (j:Nat):Option SV :=
 match l[j]?,es[j]? with
 | some o,some e=>if o.dst=some k then some e.x else none
 | _,_=>none
def wrO (es:List Ent) (g:Nat) (j:Nat):Option Ob :=
 match es[j]? with
 | some e=>AE e.upd g
 | _=>none
def stD (l:List Oper) (es:List Ent) (s:Fst) (D:Nat→Bool) (n:Nat):Fst:=⟨fun k=>Dk (wrS l es k) D n (s.sl k),fun g=>Dk (wrO es g) D n (s.ob g)⟩
theorem N8 {l:List Oper} {es:List Ent} {s:Fst} {n:Nat} {o:Oper} {e:Ent} (ho:l[n]?=some o) (he:es[n]?=some e):stD l es s (fun _=>true) (n+1)=(stD l es s (fun _=>true) n).app o.dst e.x e.upd:=by
 unfold stD Fst.app Fst.setO Fst.put
 congr 1
 ·funext k
  simp only [Dk,if_true,wrS,ho,he]
  split <;> simp
 ·funext g
  simp only [Dk,if_true,wrO,he]
theorem TextOk.len:∀ {l:List Oper} {es:List Ent} {s:Fst},TextOk P c ops l es s→es.length=l.length
 | [],es,s,h=>by simp only [TextOk] at h; subst h; rfl
 | o :: os,es,s,h=>by
  simp only [TextOk] at h
  obtain ⟨e,r,rfl,_,h⟩:=h
  simp [TextOk.len h]
theorem TextOk.at_ {l0:List Oper} {es0:List Ent} {s0:Fst}:∀ {l:List Oper} {es:List Ent} {n:Nat},TextOk P c ops l es (stD l0 es0 s0 (fun _=>true) n)→(∀ j,l[j]?=l0[n+j]?)→(∀ j,es[j]?=es0[n+j]?) →
  ∀ j o e,l[j]?=some o→es[j]?=some e→MM P c ops o e (stD l0 es0 s0 (fun _=>true) (n+j))
 | [],es,n,h,hl,he,j,o,e,ho,hee=>by simp at ho
 | o :: os,es,n,h,hl,he,j,o',e',ho,hee=>by
  simp only [TextOk] at h
  obtain ⟨e,r,rfl,hv,h⟩:=h
  cases j with
  | zero =>
   simp only [zG,zF] at ho hee
   subst ho hee
   simpa using hv
  | succ j =>
   simp only [zI] at ho hee
   have h0:l0[n]?=some o:=by simpa using (hl 0).symm
   have e0:es0[n]?=some e:=by simpa using (he 0).symm
   rw [←N8 h0 e0] at h
   have:=TextOk.at_ (n:=n+1) h (fun j=>by have:=hl (j+1); simpa [zU,z2 1 j] using this) (fun j=>by have:=he (j+1); simpa [zU,z2 1 j] using this) j o' e' ho hee
   simpa [zU,z2 1 j] using this
theorem PE {l0:List Oper} {es0:List Ent} {s0:Fst}:∀ {l:List Oper} {es:List Ent} {n:Nat},es.length=l.length→(∀ j,l[j]?=l0[n+j]?)→(∀ j,es[j]?=es0[n+j]?)→JJ l es (stD l0 es0 s0 (fun _=>true) n)=stD l0 es0 s0 (fun _=>true) (n+l.length)
 | [],es,n,hlen,hl,he=>by cases es <;> simp_all [JJ]
 | o :: os,[],n,hlen,hl,he=>by simp at hlen
 | o :: os,e :: es,n,hlen,hl,he=>by
  have h0:l0[n]?=some o:=by simpa using (hl 0).symm
  have e0:es0[n]?=some e:=by simpa using (he 0).symm
  simp only [JJ]
  rw [←N8 h0 e0,PE (n:=n+1) (by simpa using hlen) (fun j=>by have:=hl (j+1); simpa [zU,z2 1 j] using this) (fun j=>by have:=he (j+1); simpa [zU,z2 1 j] using this)]
  simp [zU,z2 1]
def OM:List Oper→List (List Nat)→List (List Nat)
 | [],acc=>acc
 | o :: os,acc=>OM os (acc++[((o.after.toList.filter (Region.binds .any)).flatMap fun e=>e.on :: acc.getD e.on []).eraseDups])
def T2 (l:List Oper) (D:Nat→Bool):Prop:=∀ (j:Nat) (o:Oper),l[j]?=some o→D j=true→∀ e∈o.after,Region.binds .any e=true→D e.on=true
def RF (l:List Oper) (acc:List (List Nat)):Prop:=∀ (j:Nat) (o:Oper) (A:List Nat),l[j]?=some o→acc[j]?=some A→∀ i∈A,∀ D:Nat→Bool,T2 l D→(∀ e∈o.after,Region.binds .any e=true→D e.on=true)→D i=true
theorem mem_eraseDups {xs:List Nat} {i:Nat} (h:i∈xs.eraseDups):i∈xs:=by simpa using h
theorem PF {l0:List Oper}:∀ (l:List Oper) (acc:List (List Nat)),(∀ j,l[j]?=l0[acc.length+j]?)→RF l0 acc→RF l0 (OM l acc)
 | [],acc,_,h=>h
 | o :: os,acc,hl,h=>by
  have h0:l0[acc.length]?=some o:=by simpa using (hl 0).symm
  refine PF os _ (fun j=>by have:=hl (j+1); simpa [zU,z2 1 j] using this) ?_
  intro j o' A ho' hA i hi D hD hE
  rcases Nat.lt_or_ge j acc.length with hj | hj
  ·rw [yG hj] at hA
   exact h j o' A ho' hA i hi D hD hE
  ·rw [yB hj] at hA
   have hj0:j-acc.length=0:=by
    rcases y9 (j-acc.length) with h1 | h1
    ·exact h1
    ·rw [List.getElem?_eq_none (by simp; omega)] at hA; cases hA
   rw [hj0] at hA
   simp only [zG,zF] at hA
   subst hA
   have:j=acc.length:=by omega
   subst this
   obtain rfl:o=o':=zB (h0.symm.trans ho')
   have hi:=mem_eraseDups hi
   simp only [List.mem_flatMap,List.mem_filter,Array.mem_toList_iff,zO] at hi
   obtain ⟨e,⟨he,hb⟩,hi⟩:=hi
   have hon:=hE e he hb
   rcases hi with rfl | hi
   ·exact hon
   ·cases hg:acc[e.on]? with
    | none=>rw [zE,hg] at hi; simp at hi
    | some A' =>
     rw [zE,hg] at hi
     have hlt:e.on<acc.length:=(zC.1 hg).1
     cases hq:l0[e.on]? with
     | none =>
      exfalso
      have hlen:acc.length<l0.length:=(zC.1 h0).1
      rw [List.getElem?_eq_none_iff] at hq
      omega
     | some oe=>exact h e.on oe A' hq hg i (by simpa using hi) D hD (hD e.on oe hq hon)
def meets (xs ys:List Nat):Bool:=xs.any fun x=>ys.contains x
def G6 (anc:List (List Nat)) (i j:Nat):Bool:=(anc.getD j []).contains i
def N9 (l:List Oper) (anc:List (List Nat)):Bool :=
 (zN l.length).all fun j=>(match l[j]? with | some o=>o.after.all (fun e=>!Region.binds .any e || decide (e.on<j)) | none=>false)&&(zN j).all fun i =>
  match l[i]?,l[j]? with
  | some oi,some oj=>!(meets oi.dst.toList (oj.looksAt l.toArray++oj.dst.toList) || meets (oi.looksAt l.toArray) oj.dst.toList) || G6 anc i j
  | _,_=>false
def ON (anc:List (List Nat)) (rd ow:List Nat) (j:Nat):List (List Nat × List Nat)→Nat→Bool
 | [],_=>true
 | (rdi,owi) :: r,i=>(!(meets owi (rd++ow) || meets rdi ow) || G6 anc i j)&&ON anc rd ow j r (i+1)
def obB (anc:List (List Nat)):List (List Nat × List Nat)→List (List Nat × List Nat)→Nat→Bool
 | _,[],_=>true
 | pre,(rd,ow) :: r,j=>ON anc rd ow j pre 0&&obB anc (pre++[(rd,ow)]) r (j+1)
def Hy (es:List Ent):List (List Nat × List Nat):=es.map fun e=>(e.rd,e.upd.map (·.1))
theorem LS {anc:List (List Nat)} {rd ow:List Nat} {j:Nat}:∀ (pre:List (List Nat × List Nat)) (k:Nat),ON anc rd ow j pre k=true→∀ i rdi owi,pre[i]?=some (rdi,owi)→(meets owi (rd++ow) || meets rdi ow)=true→G6 anc (k+i) j=true
 | [],k,_,i,rdi,owi,hi,_=>by simp at hi
 | (r0,w0) :: r,k,h,i,rdi,owi,hi,hm=>by
  simp only [ON,z1] at h
  cases i with
  | zero =>
   simp only [zG,zF,yQ] at hi
   obtain ⟨rfl,rfl⟩:=hi
   have:=h.1
   rw [hm] at this
   simpa using this
  | succ i =>
   have:=LS r (k+1) h.2 i rdi owi (by simpa using hi) hm
   rwa [show k+1+i=k+(i+1) by omega] at this
theorem Kh {anc:List (List Nat)}:∀ (post pre:List (List Nat × List Nat)) (j:Nat),pre.length=j→obB anc pre post j=true→∀ i k rdi owi rdk owk,i<k→j≤k→(pre++post)[i]?=some (rdi,owi)→(pre++post)[k]?=some (rdk,owk) →
  (meets owi (rdk++owk) || meets rdi owk)=true→G6 anc i k=true
 | [],pre,j,hj,_,i,k,rdi,owi,rdk,owk,hik,hjk,hi,hk,_=>by
  rw [List.append_nil] at hk
  have:=(zC.1 hk).1
  omega
 | (rd,ow) :: r,pre,j,hj,h,i,k,rdi,owi,rdk,owk,hik,hjk,hi,hk,hm=>by
  simp only [obB,z1] at h
  by_cases e:k=j
  ·subst e
   rw [yB (by omega),hj,Nat.sub_self] at hk
   simp only [zG,zF,yQ] at hk
   obtain ⟨rfl,rfl⟩:=hk
   rw [yG (by omega)] at hi
   have:=LS pre 0 h.1 i rdi owi hi hm
   simpa using this
  ·refine Kh r (pre++[(rd,ow)]) (j+1) (by simp [hj]) h.2 i k rdi owi rdk owk hik (by omega) (by simpa using hi) (by simpa using hk) hm
theorem IM {upd:List (Nat × Ob)} {g:Nat} (h:AE upd g≠none):g∈upd.map (·.1):=by
 induction upd with
 | nil=>exact absurd rfl h
 | cons p r ih =>
  obtain ⟨k,o⟩:=p
  simp only [AE] at h
  split at h
  ·rename_i e; subst e; simp
  ·simp only [zJ,zO]; exact .inr (ih h)
theorem Ek {xs ys:List Nat} {x:Nat} (h:x∈xs) (h':x∈ys):meets xs ys=true:=by
 unfold meets
 rw [List.any_eq_true]
 exact ⟨x,h,by simpa using h'⟩
theorem HG {l:List Oper} {anc:List (List Nat)} (h:N9 l anc=true) {i j:Nat} {oi oj:Oper} (hi:l[i]?=some oi) (hj:l[j]?=some oj) :
  (∀ e∈oj.after,Region.binds .any e=true→e.on<j)∧(i<j→(meets oi.dst.toList (oj.looksAt l.toArray++oj.dst.toList) || meets (oi.looksAt l.toArray) oj.dst.toList)=true→G6 anc i j=true):=by
 unfold N9 at h
 rw [yO] at h
 have h:=h j (yA.2 (zC.1 hj).1)
 rw [z1,hj] at h
 refine ⟨fun e he hb=>?_,fun hij hm=>?_⟩
 ·have:=h.1
  simp only [Array.all_eq_true_iff_forall_mem,yR,Bool.not_eq_true',decide_eq_true_eq] at this
  exact (this e he).resolve_left (by rw [hb]; simp)
 ·have:=(yO.1 h.2) i (yA.2 hij)
  simp only [hi] at this
  rw [hm] at this
  simpa using this
end
section
variable {P:Program} {c:Ctx} {Q:Exit→Act→World→Prop}
theorem Ii {l:List Oper} {es:List Ent} {k j:Nat} (h:wrS l es k j≠none):∃ o e,l[j]?=some o∧es[j]?=some e∧o.dst=some k:=by
 unfold wrS at h
 split at h
 ·rename_i o e ho he
  split at h
  ·rename_i hd; exact ⟨o,e,ho,he,hd⟩
  ·exact absurd rfl h
 ·exact absurd rfl h
theorem Ki {es:List Ent} {g j:Nat} (h:wrO es g j≠none):∃ e,es[j]?=some e∧g∈e.upd.map (·.1):=by
 unfold wrO at h
 split at h
 ·rename_i e he; exact ⟨e,he,IM h⟩
 ·exact absurd rfl h
structure Conf (l:List Oper) (es:List Ent) (anc:List (List Nat)):Prop where
 aok:RF l anc
 len:es.length=l.length
 alen:∀ j,j<l.length→∃ A,anc[j]?=some A
 slot:N9 l anc=true
 ob:obB anc [] (Hy es) 0=true
variable {l:List Oper} {es:List Ent} {anc:List (List Nat)}
theorem Conf.before (h:Conf l es anc) {D:Nat→Bool} (hD:T2 l D) {i j:Nat} {oj:Oper} (hj:l[j]?=some oj) (hm:G6 anc i j=true) (hE:∀ e∈oj.after,Region.binds .any e=true→D e.on=true):D i=true:=by
 obtain ⟨A,hA⟩:=h.alen j (zC.1 hj).1
 refine h.aok j oj A hj hA i ?_ D hD hE
 unfold G6 at hm
 rw [zE,hA] at hm
 simpa using hm
theorem Conf.loc {α:Type} {wr:Nat→Option α} {v:α} {D:Nat→Bool} {i:Nat} (hi:i≤l.length) (h1:∀ j,j<i→wr j≠none→D j=true) (h2:∀ j,i≤j→j<l.length→wr j≠none→D j=false):Dk wr D l.length v=Dk wr (fun _=>true) i v:=by
 rw [EH i l.length hi h2,LR i h1]
theorem Ij {es:List Ent} {i:Nat} {e:Ent} (h:es[i]?=some e):(Hy es)[i]?=some (e.rd,e.upd.map (·.1)):=by
 unfold Hy
 rw [zX,h]; rfl
section
variable (h:Conf l es anc) {D:Nat→Bool} (hD:T2 l D) {i:Nat} {o:Oper} {e:Ent} (ho:l[i]?=some o) (he:es[i]?=some e) (hu:D i=false) (hE:∀ e∈o.after,Region.binds .any e=true→D e.on=true)
include h hD ho he hu hE
theorem Conf.slotM {k j:Nat} {oj:Oper} (hj:l[j]?=some oj) (hk:oj.dst=some k) (hm:k∈o.looksAt l.toArray∨o.dst=some k):(j<i→D j=true)∧(i<j→D j=false):=by
 have _:=he
 constructor
 ·intro hlt
  refine h.before hD ho ((HG h.slot hj ho).2 hlt ?_) hE
  rw [yR]
  left
  rcases hm with hm | hm
  ·exact Ek (x:=k) (by simp [hk]) (by simp [hm])
  ·exact Ek (x:=k) (by simp [hk]) (by simp [hm])
 ·intro hlt
  cases hj':D j with
  | false=>rfl
  | true =>
   have:=h.before hD hj ((HG h.slot ho hj).2 hlt (by
    rw [yR]
    rcases hm with hm | hm
    ·exact .inr (Ek (x:=k) hm (by simp [hk]))
    ·exact .inl (Ek (x:=k) (by simp [hm]) (by simp [hk])))) (hD j oj hj hj')
   rw [hu] at this; cases this
theorem Conf.obM {g j:Nat} {ej:Ent} (hj:es[j]?=some ej) (hg:g∈ej.upd.map (·.1)) (hm:g∈e.rd∨g∈e.upd.map (·.1)):(j<i→D j=true)∧(i<j→D j=false):=by
 have hoj:∃ oj,l[j]?=some oj:=by
  have:j<l.length:=by rw [←h.len]; exact (zC.1 hj).1
  exact ⟨l[j],zA this⟩
 obtain ⟨oj,hoj⟩:=hoj
 constructor
 ·intro hlt
  refine h.before hD ho (Kh _ _ 0 rfl h.ob j i _ _ _ _ hlt (Nat.zero_le _) (Ij hj) (Ij he) ?_) hE
  rw [yR]
  left
  rcases hm with hm | hm
  ·exact Ek hg (List.mem_append_left _ hm)
  ·exact Ek hg (yL _ hm)
 ·intro hlt
  cases hj':D j with
  | false=>rfl
  | true =>
   have:=h.before hD hoj (Kh _ _ 0 rfl h.ob i j _ _ _ _ hlt (Nat.zero_le _) (Ij he) (Ij hj) (by
    rw [yR]
    rcases hm with hm | hm
    ·exact .inr (Ek hm hg)
    ·exact .inl (Ek hm (yL _ hg)))) (hD j oj hoj hj')
   rw [hu] at this; cases this
theorem Conf.slotEq (s:Fst) {k:Nat} (hk:k∈o.looksAt l.toArray):(stD l es s D l.length).sl k=(stD l es s (fun _=>true) i).sl k:=by
 refine Conf.loc (Nat.le_of_lt (zC.1 ho).1) (fun j hj hw=>?_) (fun j h1 h2 hw=>?_)
 ·obtain ⟨oj,ej,hoj,hej,hd⟩:=Ii hw
  exact (h.slotM hD ho he hu hE hoj hd (.inl hk)).1 hj
 ·by_cases e1:i=j
  ·subst e1; exact hu
  ·obtain ⟨oj,ej,hoj,hej,hd⟩:=Ii hw
   exact (h.slotM hD ho he hu hE hoj hd (.inl hk)).2 (by omega)
theorem Conf.obEq (s:Fst) {g:Nat} (hg:g∈e.rd∨g∈e.upd.map (·.1)):(stD l es s D l.length).ob g=(stD l es s (fun _=>true) i).ob g:=by
 refine Conf.loc (Nat.le_of_lt (zC.1 ho).1) (fun j hj hw=>?_) (fun j h1 h2 hw=>?_)
 ·obtain ⟨ej,hej,hd⟩:=Ki hw
  exact (h.obM hD ho he hu hE hej hd hg).1 hj
 ·by_cases e1:i=j
  ·subst e1; exact hu
  ·obtain ⟨ej,hej,hd⟩:=Ki hw
   exact (h.obM hD ho he hu hE hej hd hg).2 (by omega)
theorem Conf.done (s:Fst) {D':Nat→Bool} (hD':∀ j,D' j=(if j=i then true else D j)):(stD l es s D l.length).app o.dst e.x e.upd=stD l es s D' l.length:=by
 have hil:i<l.length:=(zC.1 ho).1
 unfold stD Fst.app Fst.setO Fst.put
 congr 1
 ·funext k
  show (if o.dst=some k then e.x else Dk (wrS l es k) D l.length (s.sl k))=_
  by_cases hk:o.dst=some k
  ·rw [if_pos hk,EH (i+1) l.length hil (fun j h1 h2 hw=>by
    obtain ⟨oj,ej,hoj,hej,hd⟩:=Ii hw
    rw [hD' j,if_neg (by omega)]
    exact (h.slotM hD ho he hu hE hoj hd (.inr hk)).2 (by omega))]
   simp only [Dk,hD' i,if_true,wrS,ho,he,hk]
   simp
  ·rw [if_neg hk]
   refine Ej _ fun j hj hw=>?_
   rw [hD' j]
   by_cases e1:j=i
   ·subst e1
    obtain ⟨oj,ej,hoj,hej,hd⟩:=Ii hw
    rw [ho] at hoj
    obtain rfl:=zB hoj
    exact absurd hd hk
   ·rw [if_neg e1]
 ·funext g
  show (AE e.upd g).getD (Dk (wrO es g) D l.length (s.ob g))=_
  cases hk:AE e.upd g with
  | some x =>
   have hg:g∈e.upd.map (·.1):=IM (by rw [hk]; simp)
   simp only [yZ]
   rw [EH (i+1) l.length hil (fun j h1 h2 hw=>by
    obtain ⟨ej,hej,hd⟩:=Ki hw
    rw [hD' j,if_neg (by omega)]
    exact (h.obM hD ho he hu hE hej hd (.inr hg)).2 (by omega))]
   simp only [Dk,hD' i,if_true,wrO,he,hk]
   simp
  | none =>
   simp only [Option.getD_none]
   refine Ej _ fun j hj hw=>?_
   rw [hD' j]
   by_cases e1:j=i
   ·subst e1
    exact absurd (by unfold wrO; rw [he]; exact hk) hw
   ·rw [if_neg e1]
end
def open_ (D:Nat→Bool) (n:Nat):Nat:=(zN n).countP fun j=>!D j
theorem RG {D D':Nat→Bool} {i:Nat} (hD':∀ j,D' j=(if j=i then true else D j)) (hu:D i=false):∀ n,i<n→open_ D n=open_ D' n+1:=by
 intro n
 induction n with
 | zero=>intro h; omega
 | succ n ih =>
  intro hi
  have e:∀ E:Nat→Bool,open_ E (n+1)=open_ E n+(if E n then 0 else 1):=fun E=>by
   unfold open_
   rw [List.range_succ,List.countP_append,List.countP_singleton]
   cases E n <;> simp
  rw [e,e]
  by_cases h1:i=n
  ·subst h1
   have:open_ D i=open_ D' i:=by
    unfold open_
    refine List.countP_congr fun j hj=>?_
    rw [hD' j,if_neg (by have:=yA.1 hj; omega)]
   rw [this,hu,hD' i,if_pos rfl]; simp
  ·have en:D' n=D n:=by rw [hD' n,if_neg (by omega)]
   rw [ih (by omega),en]; omega
theorem IN {D:Nat→Bool} {n:Nat} (h:open_ D n=0):∀ j,j<n→D j=true:=by
 intro j hj
 unfold open_ at h
 rw [List.countP_eq_zero] at h
 have:=h j (yA.2 hj)
 simpa using this
theorem OO (h:Conf l es anc) {s:Fst} (hd:∀ o∈l,AS c.nt o.dst=true∧N7 c.nt l.toArray o=true) (ht:TextOk P c l.toArray l es s) (hq:∀ a' w',Rep c (JJ l es s) a' w'→Q .normal a' w') :
  ∀ (f:Nat) (listed:Array Bool) (a:Act) (w:World),listed.size=l.length→T2 l (fun j=>listed.getD j false)→open_ (fun j=>listed.getD j false) l.length=f→Rep c (stD l es s (fun j=>listed.getD j false) l.length) a w →
   wpAny P .any l.toArray Q f listed a w:=by
 have fin:∀ (listed:Array Bool) (a:Act) (w:World),open_ (fun j=>listed.getD j false) l.length=0→Rep c (stD l es s (fun j=>listed.getD j false) l.length) a w→Q .normal a w:=by
  intro listed a w ho hr
  refine hq a w ?_
  have e1:stD l es s (fun j=>listed.getD j false) l.length=stD l es s (fun _=>true) l.length:=by
   unfold stD
   congr 1
   ·funext k; exact Ej _ fun j hj _=>IN ho j hj
   ·funext k; exact Ej _ fun j hj _=>IN ho j hj
  have e0:stD l es s (fun _=>true) 0=s:=by unfold stD; rfl
  have e2:=PE (l0:=l) (es0:=es) (s0:=s) (l:=l) (es:=es) (n:=0) h.len (fun j=>by simp) (fun j=>by simp)
  rw [e0,zV] at e2
  rw [e2,← e1]
  exact hr
 intro f
 induction f with
 | zero =>
  intro listed a w hsz hclo hop hr
  refine ⟨?_,fin listed a w hop hr⟩
  cases hrd:Region.ready .any l.toArray listed with
  | nil=>rfl
  | cons i r =>
   have hi:i∈Region.ready .any l.toArray listed:=by rw [hrd]; simp
   obtain ⟨h1,o,ho,_⟩:=mem_ready.1 hi
   have hlt:i<l.length:=by have:=(zH.1 ho).1; simpa using this
   have:=IN hop i hlt
   have e:listed.getD i true=listed.getD i false:=by simp [zD,zZ (show i<listed.size by omega)]
   rw [e,this] at h1; cases h1
 | succ f ih =>
  intro listed a w hsz hclo hop hr
  refine ⟨fun hrd=>?_,fun i hi=>?_⟩
  ·
   exfalso
   obtain ⟨i,hi⟩:∃ i,i∈Region.ready .any l.toArray listed:=by
    have hex:∃ j,j<l.length∧listed.getD j false=false:=by
     refine Classical.byContradiction fun hno=>?_
     have:open_ (fun j=>listed.getD j false) l.length=0:=by
      unfold open_
      rw [List.countP_eq_zero]
      intro j hj
      have hj:=yA.1 hj
      cases hlj:listed.getD j false with
      | true=>simpa using hlj
      | false=>exact absurd ⟨j,hj,hlj⟩ hno
     omega
    obtain ⟨j,⟨hj1,hj2⟩,hmin⟩:∃ j,(j<l.length∧listed.getD j false=false)∧∀ k,k<j→¬ (k<l.length∧listed.getD k false=false):=by
     obtain ⟨j,hj⟩:=hex
     induction j using Nat.strongRecOn with
     | _ j ih =>
      by_cases hk:∃ k,k<j∧(k<l.length∧listed.getD k false=false)
      ·obtain ⟨k,h1,h2⟩:=hk; exact ih k h1 h2
      ·exact ⟨j,hj,fun k h1 h2=>hk ⟨k,h1,h2⟩⟩
    refine ⟨j,mem_ready.2 ⟨?_,l[j],by simp [hj1],fun e he hb=>?_⟩⟩
    ·simpa [zD,zZ (show j<listed.size by omega)] using hj2
    ·have hlt:=(HG h.slot (zA hj1) (zA hj1)).1 e he hb
     cases hle:listed.getD e.on false with
     | true=>rfl
     | false=>exact absurd ⟨by omega,hle⟩ (hmin e.on hlt)
   rw [hrd] at hi
   cases hi
  ·obtain ⟨h1,o,ho',hE⟩:=mem_ready.1 hi
   have ho:l[i]?=some o:=by simpa using ho'
   have hlt:i<l.length:=(zC.1 ho).1
   have hu:listed.getD i false=false:=by simpa [zD,zZ (show i<listed.size by omega)] using h1
   obtain ⟨e,he⟩:∃ e,es[i]?=some e:=⟨es[i]'(by rw [h.len]; exact hlt),zA (by rw [h.len]; exact hlt)⟩
   have e0:stD l es s (fun _=>true) 0=s:=by unfold stD; rfl
   have hv:=TextOk.at_ (l0:=l) (es0:=es) (s0:=s) (l:=l) (es:=es) (n:=0) (by rw [e0]; exact ht) (fun j=>by simp) (fun j=>by simp) i o e ho he
   rw [zV] at hv
   obtain ⟨hg,hs⟩:=hv (stD l es s (fun j=>listed.getD j false) l.length) (fun k hk=>h.slotEq hclo ho he hu hE s hk) (fun g hg=>h.obEq hclo ho he hu hE s (.inl hg)) (fun g hg=>h.obEq hclo ho he hu hE s (.inr hg))
   have hd0:=hd o (y2 ho)
   have hw:=Ih hg hr (LQ hd0.2)
   have hD':∀ j,(fun j=>(listed.setIfInBounds i true).getD j false) j=(if j=i then true else (fun j=>listed.getD j false) j):=fun j=>by
    simp only [zD]
    by_cases e1:j=i
    ·subst e1; simp [show j<listed.size by omega]
    ·rw [if_neg e1,yY (fun e=>e1 e.symm)]
   have next:∀ a' w',Rep c ((stD l es s (fun j=>listed.getD j false) l.length).app o.dst e.x e.upd) a' w'→wpAny P .any l.toArray Q f (listed.setIfInBounds i true) a' w':=fun a' w' hr'=>by
    refine ih _ a' w' (by simpa using hsz) ?_ ?_ ?_
    ·intro j oj hj hlj e' he' hb
     have hlj:=hD' j▸hlj
     have:=hD' e'.on
     rw [this]
     by_cases e1:e'.on=i
     ·rw [if_pos e1]
     ·rw [if_neg e1]
      by_cases e2:j=i
      ·subst e2
       obtain rfl:o=oj:=zB (ho.symm.trans hj)
       exact hE e' he' hb
      ·rw [if_neg e2] at hlj
       exact hclo j oj hj hlj e' he' hb
    ·have:=RG hD' hu l.length hlt
     omega
    ·rw [h.done hclo ho he hu hE s hD'] at hr'
     exact hr'
   unfold wpOp
   rw [ho']
   simp only
   rw [hw]
   cases her:e.run with
   | true =>
    rw [if_pos rfl]
    rw [her,if_pos rfl] at hs
    exact .inl (hs a w _ Q hr next)
   | false =>
    rw [if_neg (by simp)]
    rw [her,if_neg (by simp)] at hs
    refine next _ _ ?_
    rw [hs.1,hs.2]
    obtain ⟨I,V,B,hr⟩:=hr
    exact ⟨I,V,B,RepI.put (s:=(stD l es s (fun j=>listed.getD j false) l.length).setO []) (by simpa [Fst.setO,AE] using hr) hd0.1 (LP _ _ _)⟩
theorem Rep.drew {s:Fst} {a:Act} {w:World} (h:Rep c s a w) (n:Nat):Rep c s a (w.drewN n):=by
 obtain ⟨I,V,B,h⟩:=h
 refine ⟨I,V,B,⟨h.fr.os,h.fr.tape.drewN _,h.fr.output,h.fr.size,h.fr.block⟩,h.i0,h.i1,h.v0,?_,h.bh,h.nd,h.sz,fun k=>?_⟩
 ·refine ⟨h.wf.ilt,fun g hl=>?_,h.wf.lt,h.wf.dI,h.wf.dO,h.wf.fr,h.wf.gl.keep ⟨zL _,fun _ _ _=>rfl⟩ fun _ h=>h⟩
  obtain ⟨val,hv,hr⟩:=h.wf.obj g hl
  exact ⟨val,hv,hr.keep ⟨zL _,fun _ _ _=>rfl⟩ (fun _ h=>h) (VLe.refl _) fun _ _ _=>rfl⟩
 ·exact RepV.mono (w:=w) (w':=w.drewN n) ⟨zL _,fun _ _ _=>rfl⟩ (fun _ h=>h) (VLe.refl _) _ _ (h.slots k)
theorem Kj {id:Nat} {a:Act} {w:World} {s:Fst} (hm:P.follows .mixedOrders=true) (hsl:N9 l anc=true) (hanc:OM l []=anc) (hlen:decide (anc.length=l.length)=true) (hob:obB anc [] (Hy es) 0=true)
  (hd:∀ o∈l,AS c.nt o.dst=true∧N7 c.nt l.toArray o=true) (ht:TextOk P c l.toArray l es s) (hr:Rep c s a w) (hq:∀ a' w',Rep c (JJ l es s) a' w'→Q .normal a' w'):(Code.region id l.toArray true).wp P Q a w:=by
 have hlen:=of_decide_eq_true hlen
 have hconf:Conf l es anc:=⟨by rw [←hanc]; exact PF l [] (fun j=>by simp) (fun j o A _ hA=>by simp at hA),ht.len,fun j hj=>⟨anc[j]'(by omega),zA _⟩,hsl,hob⟩
 refine wp_region_any hm ?_
 have e0:∀ j,(y4 l.length false).getD j false=false:=fun j=>by
  rw [zD]
  by_cases hj:j<l.length <;> simp [hj]
 refine OO hconf hd ht hq _ _ a _ (by simp) ?_ ?_ ?_
 ·intro j oj _ hlj
  simp only [zM] at hlj
  rw [e0 j] at hlj; cases hlj
 ·unfold open_
  simp only [zM]
  have:((zN l.length).countP fun j=>!(y4 l.length false).getD j false)=(zN l.length).length:=by
   rw [List.countP_eq_length]
   intro j _
   rw [e0 j]; rfl
  rw [this]; simp
 ·have e1:stD l es s (fun j=>(y4 l.toArray.size false).getD j false) l.length=s:=by
   have:∀ {α:Type} (wr:Nat→Option α) (n:Nat) (v:α),Dk wr (fun j=>(y4 l.toArray.size false).getD j false) n v=v:=fun wr n v=>by
    rw [EH 0 n (Nat.zero_le _) (fun j _ _ _=>by simp only [zM]; exact e0 j)]; rfl
   unfold stD
   simp only [this]
  rw [e1]
  exact hr.drew 1
end
end Go.Proofs.Ytjkcamgfimpggaa
set_option maxRecDepth 100000
set_option linter.unusedSimpArgs false
set_option linter.unusedVariables false
set_option linter.unusedSectionVars false
namespace Go.Proofs.Ytjkcamgfimpggaa
open Go.RowKit
mutual
def OT.er:OT→D
 | .int n=>.int n
 | .byte n=>.byte n
 | .bool b=>.bool b
 | .str s=>.str s
 | .sh es=>.arr es
 | .ow es=>.arr (OT.erss es)
 | .hole=>.int 0
 | .pin _=>.int 0
def OT.ers:List OT→List D
 | []=>[]
 | x :: r=>OT.er x :: OT.ers r
def OT.erss:List (List OT)→List (List D)
 | []=>[]
 | x :: r=>OT.ers x :: OT.erss r
end
theorem OT.PH:∀ l:List OT,OT.ers l=l.map OT.er
 | []=>rfl
 | x :: r=>by simp [OT.ers,OT.PH r]
theorem OT.EI:∀ l:List (List OT),OT.erss l=l.map (·.map OT.er)
 | []=>rfl
 | x :: r=>by simp [OT.erss,OT.EI r,OT.PH]
mutual
def OT.full:OT→Bool
 | .ow es=>OT.Aq es
 | .hole=>false
 | .pin _=>false
 | .int _=>true
 | .byte _=>true
 | .bool _=>true
 | .str _=>true
 | .sh _=>true
def OT.Ck:List OT→Bool
 | []=>true
 | x :: r=>OT.full x&&OT.Ck r
def OT.Aq:List (List OT)→Bool
 | []=>true
 | x :: r=>OT.Ck x&&OT.Aq r
end
theorem OT.IO:∀ {l:List OT},OT.Ck l=true→∀ x∈l,OT.full x=true
 | [],_,x,h=>by cases h
 | y :: r,h,x,hx=>by
  simp only [OT.Ck,z1] at h
  rcases zO.1 hx with rfl | hx
  ·exact h.1
  ·exact OT.IO h.2 x hx
theorem OT.HH:∀ {l:List (List OT)},OT.Aq l=true→∀ x∈l,OT.Ck x=true
 | [],_,x,h=>by cases h
 | y :: r,h,x,hx=>by
  simp only [OT.Aq,z1] at h
  rcases zO.1 hx with rfl | hx
  ·exact h.1
  ·exact OT.HH h.2 x hx
section
variable {w w':World} {I I' S T:Nat→Prop}
theorem ORep.er {o:OT} {v:Value} (h:ORep w I S o v) (hS:∀ b,S b→T b) (hI:∀ b,I b→T b) (hf:o.full=true):DRep false w T o.er v:=by
 induction h with
 | int S n=>exact .int _ n
 | byte S n=>exact .byte _ n
 | bool S b=>exact .bool _ b
 | str S s h=>exact .str _ s h
 | sh S es v h=>exact h.up hI
 | hole S v h=>cases hf
 | pin S v h=>cases hf
 | nil S=>exact .arr _ 0 [] none 0 (fun _ _=>undef) (fun _ _ _=>False) (zL _) (by omega) (.inl rfl) (fun i h=>absurd h (by simp)) (fun _ _ _ h=>h.elim) (fun e=>by cases e) (fun i j h=>absurd h (by simp))
 | row S t sz es b cap cur Sub hs hb h1 h2 h3 h4 h5 h6 h7 ih =>
  have hlen:(OT.erss es).length=es.length:=by rw [OT.EI]; simp
  simp only [OT.er]
  rw [←hlen]
  refine .arr T sz (OT.erss es) _ cap (fun i j=>cur.getD (i*sz+j) undef) (fun i j=>fun x=>T x) (by rw [hlen]; exact h1) h2 ?_ (fun i hi=>?_) (fun _ _ _ h=>h) (fun e=>by cases e) (fun i j hi hj=>?_)
  ·rw [hlen]
   refine .inr ⟨b,0,rfl,hS b hs,(zH.1 hb).1,fun i j hi hj=>?_,fun e=>by cases e⟩
   rw [cell_of_row w b _ _ _ _ hb,zV]
   have:i*sz+j<cur.size:=by rw [h3]; exact mul_lt (zR hi h1) hj
   simp [zD,this]
  ·rw [hlen] at hi
   simp only [OT.EI,yI,yK]
   exact h4 i hi
  ·rw [hlen] at hi
   simp only [OT.EI,yI,yK] at hj ⊢
   exact ih i j hi hj (fun x hx=>hS x (h5 i j x hx).1) (OT.IO (OT.HH hf _ (z7 hi)) _ (z7 _))
theorem RowR.er {t:TypeId} {sz:Nat} {es:List (List OT)} {v:Value} (h:RowR w I S t sz es v) (hS:∀ b,S b→T b) (hI:∀ b,I b→T b) (hf:OT.Aq es=true):DRep false w T (.arr (OT.erss es)) v:=ORep.er h.ot hS hI hf
end
variable [Flag]
inductive SX where
 |t (k:Nat)
 |c (x:SV)
inductive SOp where
 |mv (x:SX)
 |pick (c a b:SX)
 |alloc (t:TypeId) (z:List SV)
 |boxv (t n:Nat) (x:SX)
 |build (z:List SV) (parts:List (Nat × Nat × SX))
 |mkrow (t sz:Nat) (z:List SV) (len:Nat) (parts:List (Nat × SX))
 |load (agg:Bool) (n:Nat) (x:SX)
 |store (n:Nat) (x v:SX)
 |nilchk (x:SX)
 |bin (op:BinOp) (tb:Bool) (x y:SX)
 |un (op:UnOp) (x:SX)
 |conv (k:IntKind) (x:SX)
 |mkfn (f:FuncId) (caps:List SX)
 |mkslice (t sz bytes:Nat) (z:List SV) (len:SX)
 |slice (str:Bool) (sz:Nat) (x:SX) (lo hi:Option SX)
 |faddr (off:Nat) (x:SX)
 |field (agg:Bool) (off n:Nat) (x:SX)
 |iaddr (sz:Nat) (x i:SX)
 |idx (x i:SX)
 |ext (x:SX) (k:Nat)
 |call (f:FuncId) (args:List SX)
 |callv (x:SX) (args:List SX)
 |len (str:Bool) (x:SX)
 |append (t sz bytes:Nat) (z:List SV) (x y:SX)
 |minmax (mx:Bool) (x y:SX)
 |mkmap (ks:Bool) (hint:Option SX)
 |mset (ks:Bool) (m k v:SX)
 |mget (ks ok agg:Bool) (z:List SV) (m k:SX)
 |mkit (x:SX)
 |mcur (x:SX)
def nomap:MF:=fun _=>none
def Ik:Value→SV
 | .int k n=>.int k n
 | .bool b=>.bool b
 | .string s=>if s.size≤9223372036854775807 then .str s else .any
 | .slice none 0 0=>.nil
 | .map none=>.mp true nomap
 | _=>.any
def trX:Operand→SX
 | .tmp k=>.t k
 | .const v=>.c (Ik v)
 | .func f=>.c (.fn f [])
 | .global _=>.c .any
def G7 (P:Program) (t:TypeId):Option Bool :=
 match P.underlying t with
 | some (.struct _)=>some true
 | some (.array _ _)=>some true
 | some _=>some false
 | none=>none
def CN (P:Program) (t:TypeId):Option (List SV):=(P.info? t).bind fun i=>i.zero.map fun z=>z.cells.toList.map Ik
def Dt (P:Program) (t:TypeId) (k:Nat):Option (Nat × Nat × Bool) :=
 match P.underlying t with
 | some (.struct fs)=>match fs[k]? with
  | some f=>match P.info? f.type,G7 P f.type with
   | some i,some g=>some (f.offset,i.size,g)
   | _,_=>none
  | none=>none
 | _=>none
def MN (P:Program) (t:TypeId):Bool :=
 match P.underlying t with
 | some .bool=>true
 | _=>false
def JK (P:Program) (f:FuncId):Bool :=
 match P.funcs[f]? with
 | some fn=>fn.name != "runtime.NumGoroutine"&&fn.body.isSome
 | none=>false
def B3 {α:Type}:List (Option α)→Option (List α)
 | []=>some []
 | none :: _=>none
 | some x :: r=>(B3 r).map (x :: ·)
def JS:Operand→Operand→Bool
 | .tmp a,.tmp b=>a == b
 | .const (.int k a),.const (.int k' b)=>k == k'&&a == b
 | _,_=>false
def MO (P:Program) (t:TypeId):Option Bool :=
 match P.underlying t with
 | some .string=>some true
 | some (.int .i64)=>some false
 | _=>none
def CT (P:Program) (t:TypeId):Option (Bool × TypeId) :=
 match P.underlying t with
 | some (.map kt et)=>(MO P kt).map fun ks=>(ks,et)
 | _=>none
def Vr (P:Program) (t:TypeId):Option Bool :=
 match (P.info? t).bind (·.zero) with
 | some (.agg _)=>some true
 | some v=>if v.oneCell' then some false else none
 | none=>none
def CI (P:Program) (o:Oper):Option SOp :=
 match o.op with
 | .move x=>some (.mv (trX x))
 | .assign x=>some (.mv (trX x))
 | .pick c a b=>some (.pick (trX c) (trX a) (trX b))
 | .alloc t=>(CN P t).map (.alloc t)
 | .box t x=>(P.info? t).map fun i=>.boxv t i.size (trX x)
 | .build t parts=>match P.underlying t,CN P t with
  | some (.struct fs),some z=>if !(fs.toList.all fun f=>(P.info? f.type).isSome) then none else (B3 (parts.toList.map fun (k,x)=>(Dt P t k).map fun (off,n,_)=>(off,n,trX x))).map (.build z)
  | _,_=>none
 | .buildSlice t len parts=>match P.underlying t with
  | some (.slice e)=>match P.info? e,CN P e with
   | some i,some z=>if len*i.size≤2 ^ 24&&decide (0 < i.size)&&z.length == i.size&&parts.toList.all (fun p=>decide (p.1 < len)) then some (.mkrow e i.size z len (parts.toList.map fun (k,x)=>(k,trX x))) else none
   | _,_=>none
  | _=>none
 | .load t x=>match G7 P t,P.info? t with
  | some g,some i=>if g || i.size == 1 then some (.load g i.size (trX x)) else none
  | _,_=>none
 | .store t x v=>(P.info? t).map fun i=>.store i.size (trX x) (trX v)
 | .nilCheck x=>some (.nilchk (trX x))
 | .binOp op t x y _=>some (.bin op (MN P t) (trX x) (trX y))
 | .unOp op _ x=>some (.un op (trX x))
 | .convert s d x=>match P.underlying s,P.underlying d with
  | some _,some (.int k)=>some (.conv k (trX x))
  | _,_=>none
 | .makeFunc (.func f) first caps=>if first.isEmpty then some (.mkfn f (caps.toList.map trX)) else none
 | .makeSlice t l c=>match P.underlying t with
  | some (.slice e)=>match P.info? e,CN P e with
   | some i,some z=>if JS l c&&decide (0 < i.size)&&z.length == i.size then some (.mkslice e i.size i.bytes z (trX l)) else none
   | _,_=>none
  | _=>none
 | .slice t x lo hi none=>match P.underlying t with
  | some .string=>some (.slice true 0 (trX x) (lo.map trX) (hi.map trX))
  | some (.slice e)=>(P.info? e).map fun i=>.slice false i.size (trX x) (lo.map trX) (hi.map trX)
  | _=>none
 | .fieldAddr t x k=>match Dt P t k with
  | some (off,n,_)=>if n=0 then none else some (.faddr off (trX x))
  | none=>none
 | .field t x k=>match Dt P t k with
  | some (off,n,g)=>if g || n == 1 then some (.field g off n (trX x)) else none
  | none=>none
 | .indexAddr t x i=>match P.underlying t with
  | some (.slice e)=>(P.info? e).map fun j=>.iaddr j.size (trX x) (trX i)
  | _=>none
 | .index t x i=>match P.underlying t with
  | some .string=>some (.idx (trX x) (trX i))
  | _=>none
 | .extract x k=>some (.ext (trX x) k)
 | .call { callee:=.value (.func f),args,.. }=>if JK P f then some (.call f (args.toList.map trX)) else none
 | .call { callee:=.value x,args,.. }=>some (.callv (trX x) (args.toList.map trX))
 | .call { callee:=.builtin .len,args,argTypes }=>match args.toList,argTypes.toList with
  | [x],[t]=>match P.underlying t with
   | some .string=>some (.len true (trX x))
   | some (.slice _)=>some (.len false (trX x))
   | _=>none
  | _,_=>none
 | .call { callee:=.builtin .append,args,argTypes }=>match args.toList,argTypes.toList with
  | [x,y],[t,t']=>match P.underlying t with
   | some (.slice e)=>match P.info? e,CN P e with
    | some i,some z=>if t == t'&&decide (0 < i.size)&&z.length == i.size then some (.append e i.size i.bytes z (trX x) (trX y)) else none
    | _,_=>none
   | _=>none
  | _,_=>none
 | .call { callee:=.builtin .max,args,.. }=>match args.toList with
  | [x,y]=>some (.minmax true (trX x) (trX y))
  | _=>none
 | .call { callee:=.builtin .min,args,.. }=>match args.toList with
  | [x,y]=>some (.minmax false (trX x) (trX y))
  | _=>none
 | .makeMap t r=>(CT P t).map fun q=>.mkmap q.1 (r.map trX)
 | .mapUpdate t m k v=>(CT P t).map fun q=>.mset q.1 (trX m) (trX k) (trX v)
 | .insert t m k v=>(CT P t).map fun q=>.mset q.1 (trX m) (trX k) (trX v)
 | .lookup t m k ok=>match CT P t with
  | some (ks,et)=>match CN P et,Vr P et with
   | some z,some g=>some (.mget ks ok g z (trX m) (trX k))
   | _,_=>none
  | none=>none
 | .range t x=>(CT P t).map fun _=>.mkit (trX x)
 | .entry x=>some (.mcur (trX x))
 | .makeInterface _ _=>some (.un .neg (.c .nil))
 | .panic _=>some (.un .neg (.c .nil))
 | _=>none
def As (sl:Nat→SV):SX→SV
 | .t k=>sl k
 | .c x=>x
def SV.one:SV→Bool
 | .any=>false
 | .agg _=>false
 | .tup _=>false
 | _=>true
def SV.cellsN (n:Nat):SV→Option (List SV)
 | .agg l=>if l.length=n then some l else none
 | .any=>none
 | .tup _=>none
 | x=>if n=1 then some [x] else none
def OT.sv:OT→SV
 | .int n=>.int .i64 n
 | .byte n=>.int .u8 n
 | .bool b=>.bool b
 | .str s=>.str s
 | .sh es=>.arr es
 | .ow []=>.arr []
 | .ow (_ :: _)=>.any
 | .hole=>.any
 | .pin u=>.val u
def D.ot:D→OT
 | .int n=>.int n
 | .byte n=>.byte n
 | .nl=>.ow []
 | .bool b=>.bool b
 | .str s=>.str s
 | .arr es=>.sh es
def NA (ob:Nat→Ob):SV→Option (OT × List Nat)
 | .int .i64 n=>some (.int n,[])
 | .int .u8 n=>some (.byte n,[])
 | .bool b=>some (.bool b,[])
 | .str s=>some (.str s,[])
 | .nil=>some (.ow [],[])
 | .arr es=>some (.sh es,[])
 | .ref g=>match ob g with
  | .row _ _ es=>some (.ow es,[g])
  | _=>none
 | .val u=>some (.pin u,[])
 | _=>none
def svK:Bool→SV→Option MK
 | true,.str s=>some (.str s)
 | false,.int .i64 n=>some (.int n)
 | _,_=>none
def svD:SV→Option D
 | .int .i64 n=>some (.int n)
 | .bool b=>some (.bool b)
 | .str s=>some (.str s)
 | .arr es=>some (.arr es)
 | .nil=>some (.arr [])
 | _=>none
def RH:List SV→Option (List D)
 | []=>some []
 | x :: r=>match svD x with
  | some d=>match RH r with
   | some l=>some (d :: l)
   | none=>none
  | none=>none
def svM:SV→Option MV
 | .agg l=>match RH l with
  | some ds=>some (true,ds)
  | none=>none
 | x=>match svD x with
  | some d=>some (false,[d])
  | none=>none
def MV.sv:MV→SV
 | (true,ds)=>.agg (ds.map D.sv)
 | (false,ds)=>(ds.map D.sv).getD 0 .any
def MK.sv:MK→SV
 | .int n=>.int .i64 n
 | .str s=>.str s
noncomputable def Kk (m:MF) (k:MK) (x:MV):MF:=fun q=>@ite _ (q=k) (Classical.propDecidable _) (some x) (m q)
def Vs (ok agg:Bool) (z:List SV):Option MV→SV
 | some x=>if ok then .tup [MV.sv x,.bool true] else MV.sv x
 | none=>if ok then .tup [if agg then .agg z else z.getD 0 .any,.bool false] else (if agg then .agg z else z.getD 0 .any)
def PI (ob:Nat→Ob):SV→Option (Bool × MF × List Nat)
 | .mp ks m=>some (ks,m,[])
 | .ref g=>match ob g with
  | .mp ks m=>some (ks,m,[g])
  | _=>none
 | _=>none
def H0:SV→List Nat
 | .ref g=>[g]
 | _=>[]
def Il:SV→List Nat
 | .agg l=>(l.map H0).flatten
 | x=>H0 x
def Dq (ob:Nat→Ob) (l:List SV):Option (List (OT × List Nat)):=B3 (l.map (NA ob))
def Dg (l:List (OT × List Nat)):List OT:=l.map (·.1)
def BA (l:List (OT × List Nat)):List Nat:=(l.map (·.2)).flatten
def B7 (gs:List Nat):List (Nat × Ob):=gs.map fun g=>(g,.gone)
def splice {α:Type} (l:List α) (o:Nat) (vs:List α):List α:=l.take o++vs++l.drop (o+vs.length)
def H1 (ev:SX→SV):List SV→List (Nat × Nat × SX)→Option (List SV)
 | z,[]=>some z
 | z,(off,n,x) :: r=>match (ev x).cellsN n with
  | some l=>if off+n≤z.length then H1 ev (splice z off l) r else none
  | none=>none
def inK (k:IntKind) (n:Int):Prop:=k.min≤n∧n≤k.max
def H2 (a b:ByteArray):Bool:=a.toList == b.toList
def strLt (a b:ByteArray):Bool:=Op.bytesLess a.toList b.toList
def G8 (s:ByteArray) (i:Nat):Int:=((s[i]?).getD 0).toNat
abbrev Kont:=SV→List (Nat × Ob)→List Nat→Prop
def F6 (k:IntKind) (r:Int) (K:Kont):Prop :=
 match k with
 | .u64=>K (.int k (k.wrap r)) [] []
 | .u32=>K (.int k (k.wrap r)) [] []
 | .u8=>K (.int k (k.wrap r)) [] []
 | _=>(inK k r→K (.int k r) [] [])∧(¬ inK k r→K (.int k (k.wrap r)) [] [])
def T3 (op:BinOp) (k:IntKind) (a b:Int) (K:Kont):Prop :=
 match op with
 | .add=>F6 k (a+b) K
 | .sub=>F6 k (a - b) K
 | .mul=>F6 k (a*b) K
 | .quo=>b≠0∧F6 k (a.tdiv b) K
 | .rem=>b≠0∧K (.int k (a.tmod b)) [] []
 | .eql=>K (.bool (a == b)) [] []
 | .neq=>K (.bool (a != b)) [] []
 | .lss=>K (.bool (decide (a < b))) [] []
 | .leq=>K (.bool (decide (a≤b))) [] []
 | .gtr=>K (.bool (decide (a > b))) [] []
 | .geq=>K (.bool (decide (a ≥ b))) [] []
 | .shr=>(b=1∧K (.int k (a / 2)) [] [])∨((b=40∧k=.u64)∧K (.int k (a / 1099511627776)) [] [])
 | .and=>K (.int k (bits .and k a b)) [] []
 | _=>False
def T4 (op:BinOp) (a b:ByteArray) (K:Kont):Prop :=
 match op with
 | .add=>a.size+b.size≤9223372036854775807∧K (.str (a++b)) [] []
 | .eql=>K (.bool (H2 a b)) [] []
 | .neq=>K (.bool (!H2 a b)) [] []
 | .lss=>K (.bool (strLt a b)) [] []
 | .leq=>K (.bool (strLt a b || H2 a b)) [] []
 | .gtr=>K (.bool (!(strLt a b || H2 a b))) [] []
 | .geq=>K (.bool (!strLt a b)) [] []
 | _=>False
def Vt (op:BinOp) (a b:Bool) (K:Kont):Prop :=
 match op with
 | .eql=>K (.bool (a == b)) [] []
 | .neq=>K (.bool (!(a == b))) [] []
 | _=>False
def T5 (op:BinOp) (tb:Bool) (x y:SV) (K:Kont):Prop :=
 match x,y with
 | .int k a,.int k' b=>k=k'∧T3 op k a b K
 | .str a,.str b=>T4 op a b K
 | .bool a,.bool b=>tb=true∧Vt op a b K
 | _,_=>False
def Ao (upd:List (Nat × Ob)) (g:Nat):Prop:=g∈upd.map (·.1)
def A1 (ob:Nat→Ob) (upd:List (Nat × Ob)):Nat→Ob:=fun g=>(AE upd g).getD (ob g)
structure After (w:World) (I:Nat→Prop) (V:Nat→Option Value) (B:Nat→Nat→Prop) (ob:Nat→Ob) (upd:List (Nat × Ob)) (w':World) (I':Nat→Prop) (V':Nat→Option Value) (B':Nat→Nat→Prop):Prop where
 wf:Wf w' I' V' B' (A1 ob upd)
 os:w'.os=w.os
 tape:TapeOk w w'
 output:w'.output=w.output
 size:w.heap.size≤w'.heap.size
 block:∀ b,b<w.heap.size→(∀ g,Ao upd g→(ob g).live→¬ B g b)→w'.heap[b]?=w.heap[b]?
 i0:∀ b,I b→I' b
 i1:∀ b,I' b→I b∨w.heap.size≤b∨∃ g,Ao upd g∧(ob g).live∧B g b
 v:VLe V V'
 out:∀ g,¬ Ao upd g→B' g=B g
 b1:∀ g b,Ao upd g→(A1 ob upd g).live→B' g b→w.heap.size≤b∨∃ g0,Ao upd g0∧(ob g0).live∧B g0 b
def CallOK (P:Program) (f:FuncId) (xs:List SV) (ob:Nat→Ob) (x:SV) (upd:List (Nat × Ob)):Prop :=
 ∀ (w:World) (I:Nat→Prop) (V:Nat→Option Value) (B:Nat→Nat→Prop) (vs:List Value),Wf w I V B ob→RepVs w I V xs vs →
  Calls P f vs.toArray w (fun e w'=>∃ v I' V' B',e=.returned v∧RepV w' I' V' x v∧After w I V B ob upd w' I' V' B')
def CallP (P:Program) (f:FuncId) (xs:List SV) (ob:Nat→Ob) (p:Nat) (K:Kont):Prop :=
 ∃ x upd rd,K x upd rd∧∀ ob':Nat→Ob,(∀ g,g∈rd→ob' g=ob g)→(∀ g,g∈upd.map (·.1)→ob' g=ob g)→CallOK P f xs ob' x upd
def OP:SV→Option Int
 | .int _ n=>some n
 | _=>none
def FK (ev:SX→SV):Option SX→Option Int
 | none=>some 0
 | some x=>OP (ev x)
def G0 (ev:SX→SV) (n:Nat):Option SX→Option Int
 | none=>some n
 | some x=>OP (ev x)
def DO:List (Nat × Nat × Nat)→Nat→Nat→Option Nat
 | [],_,_=>none
 | (k,o,q) :: r,k',o'=>if k=k'∧o=o' then some q else DO r k' o'
def OQ (g:Nat) (es:List (List OT)) (hs:List (Nat × Nat × Nat)) (k o:Nat) (l:List OT) (p:Nat) (x:OT) (K:Kont):Prop :=
 match x with
 | .ow e2=>K (.ref p) [(p,.tree e2 []),(g,.tree (es.set k (l.set o .hole)) ((k,o,p) :: hs))] []
 | .hole=>False
 | .pin _=>False
 | x=>K x.sv [] [g]
def LT:SV→Option OT
 | .int .i64 n=>some (.int n)
 | .bool b=>some (.bool b)
 | .str s=>some (.str s)
 | _=>none
def pfx:Option SX→Option SX→Bool
 | none,some (.c _)=>true
 | _,_=>false
noncomputable def eOp (P:Program) (so:SOp) (sl:Nat→SV) (ob:Nat→Ob) (p:Nat) (K:Kont):Prop :=
 match so with
 | .mv x=>K (As sl x) [] []
 | .pick c a b=>match As sl c with
  | .bool t=>K (if t then As sl a else As sl b) [] []
  | _=>False
 | .alloc t z=>K (.ptr p 0) [(p,.box t z)] []
 | .boxv t n x=>match (As sl x).cellsN n with
  | some l=>K (.ptr p 0) [(p,.box t l)] []
  | none=>False
 | .build z parts=>match H1 (As sl) z parts with
  | some l=>K (.agg l) [] []
  | none=>False
 | .mkrow t sz z len parts=>match Dq ob z with
  | some zl=>match mkEs (As sl) ob sz (yC len zl) parts with
   | some es=>(BA zl=[]∧(es.map BA).flatten.Nodup)∧K (.ref p) ((p,.row t sz (es.map Dg)) :: B7 (es.map BA).flatten) (parts.map fun q=>Il (As sl q.2)).flatten
   | none=>False
  | none=>False
 | .load agg n x=>match As sl x with
  | .ptr g o=>match ob g with
   | .box _ l=>o+n≤l.length∧K (if agg then .agg ((l.drop o).take n) else l.getD o .any) [] [g]
   | _=>False
  | .vptr es k o=>∃ l,es[k]?=some l∧o+n≤l.length∧K (if agg then .agg (((l.drop o).take n).map D.sv) else (l.map D.sv).getD o .any) [] []
  | .eptr g sz k o=>match ob g with
   | .row _ sz' es=>sz=sz'∧∃ l,es[k]?=some l∧o+n≤l.length∧K (if agg then .agg (((l.drop o).take n).map OT.sv) else (l.map OT.sv).getD o .any) [] [g]
   | .tree es hs=>(agg=false∧n=1)∧∃ l,es[k]?=some l∧(l.length=sz∧o < sz)∧(match DO hs k o with
    | some q=>K (.ref q) [] [g]
    | none=>∃ x,l[o]?=some x∧OQ g es hs k o l p x K)
   | .hist _ sz' es _=>sz=sz'∧∃ l,es[k]?=some l∧o+n≤l.length∧K (if agg then .agg (((l.drop o).take n).map OT.sv) else (l.map OT.sv).getD o .any) [] [g]
   | _=>False
  | _=>False
 | .store n x v=>match As sl x with
  | .ptr g o=>match ob g,(As sl v).cellsN n with
   | .box t l,some vs=>(o+n≤l.length∧vs.all SV.one=true)∧K .any [(g,.box t (splice l o vs))] []
   | _,_=>False
  | .eptr g sz k o=>match ob g,(As sl v).cellsN n with
   | .row t sz' es,some vs=>match Dq ob vs with
    | some ls=>(sz=sz'∧o+n≤sz∧g ∉ BA ls∧(BA ls).Nodup)∧∃ l,es[k]?=some l∧K .any ((g,.row t sz (es.set k (splice l o (Dg ls)))) :: B7 (BA ls)) (Il (As sl v))
    | none=>False
   | .tree es hs,some vs=>∃ v x,vs=[v]∧LT v=some x∧DO hs k o=none∧∃ l,es[k]?=some l∧(l.length=sz∧o < sz)∧K .any [(g,.tree (es.set k (splice l o [x])) hs)] []
   | _,_=>False
  | _=>False
 | .nilchk x=>match As sl x with
  | .ptr g o=>K (.ptr g o) [] []
  | .eptr g sz k o=>K (.eptr g sz k o) [] []
  | .vptr es k o=>K (.vptr es k o) [] []
  | _=>False
 | .bin op tb x y=>T5 op tb (As sl x) (As sl y) K
 | .un op x=>match op,As sl x with
  | .not,.bool b=>K (.bool (!b)) [] []
  | .neg,.int k n=>inK k (0 - n)∧K (.int k (0 - n)) [] []
  | _,_=>False
 | .conv k x=>match As sl x with
  | .int _ n=>F6 k n K
  | _=>False
 | .mkfn f caps=>K (.fn f (caps.map (As sl))) [] []
 | .mkslice t sz bytes z len=>match As sl len,Dq ob z with
  | .int _ n,some zl=>(0≤n∧(bytes:Int)*n≤140737488355328∧n≤9223372036854775807∧BA zl=[])∧K (.ref p) [(p,.row t sz (yC n.toNat (Dg zl)))] []
  | _,_=>False
 | .slice str sz x lo hi=>match As sl x with
  | .str s=>match FK (As sl) lo,G0 (As sl) s.size hi with
   | some l,some h=>(0≤l∧l≤h∧h≤s.size)∧str=true∧K (.str (s.extract l.toNat h.toNat)) [] []
   | _,_=>False
  | .arr es=>match FK (As sl) lo,G0 (As sl) es.length hi with
   | some l,some h=>(0≤l∧l≤h∧h≤es.length)∧str=false∧(∀ e∈es,e.length=sz)∧K (.arr ((es.take h.toNat).drop l.toNat)) [] []
   | _,_=>False
  | .ref g=>match ob g with
   | .row t sz' es=>match FK (As sl) lo,G0 (As sl) es.length hi with
    | some l,some h=>(0≤l∧l≤h∧h≤es.length)∧str=false∧sz'=sz∧((OT.Aq es=true∧K (.arr (((OT.erss es).take h.toNat).drop l.toNat)) [(g,.shd (OT.erss es))] [])∨(pfx lo hi=true∧K (.ref p) [(p,.row t sz (es.take h.toNat)),(g,.gone)] []))
    | _,_=>False
   | .shd es=>match FK (As sl) lo,G0 (As sl) es.length hi with
    | some l,some h=>(0≤l∧l≤h∧h≤es.length)∧str=false∧(∀ e∈es,e.length=sz)∧K (.arr ((es.take h.toNat).drop l.toNat)) [] [g]
    | _,_=>False
   | _=>False
  | _=>False
 | .faddr off x=>match As sl x with
  | .ptr g o=>K (.ptr g (o+off)) [] []
  | .vptr es k o=>K (.vptr es k (o+off)) [] []
  | .eptr g sz k o=>K (.eptr g sz k (o+off)) [] []
  | _=>False
 | .field agg off n x=>match As sl x with
  | .agg l=>off+n≤l.length∧K (if agg then .agg ((l.drop off).take n) else l.getD off .any) [] []
  | _=>False
 | .iaddr sz x i=>match As sl x,As sl i with
  | .arr es,.int _ n=>(0≤n)∧∃ l,es[n.toNat]?=some l∧l.length=sz∧K (.vptr es n.toNat 0) [] []
  | .ref g,.int _ n=>match ob g with
   | .row _ sz' es=>(sz=sz'∧0≤n∧n.toNat < es.length)∧K (.eptr g sz n.toNat 0) [] [g]
   | .tree es _=>(0≤n∧n.toNat < es.length)∧K (.eptr g sz n.toNat 0) [] [g]
   | .hist _ sz' es _=>(sz=sz'∧0≤n∧n.toNat < es.length)∧K (.eptr g sz n.toNat 0) [] [g]
   | _=>False
  | _,_=>False
 | .idx x i=>match As sl x,As sl i with
  | .str s,.int _ n=>(0≤n∧n.toNat < s.size)∧K (.int .u8 (G8 s n.toNat)) [] []
  | _,_=>False
 | .ext x k=>match As sl x with
  | .tup l=>k < l.length∧K (l.getD k .any) [] []
  | _=>False
 | .call f args=>CallP P f (args.map (As sl)) ob p K
 | .callv x args=>match As sl x with
  | .fn f caps=>JK P f=true∧CallP P f (args.map (As sl)++caps) ob p K
  | _=>False
 | .len str x=>match As sl x with
  | .str s=>str=true∧K (.int .i64 s.size) [] []
  | .arr es=>str=false∧K (.int .i64 es.length) [] []
  | .nil=>str=false∧K (.int .i64 0) [] []
  | .ref g=>match ob g with
   | .row _ _ es=>str=false∧K (.int .i64 es.length) [] [g]
   | .tree es _=>str=false∧K (.int .i64 es.length) [] [g]
   | .hist _ _ es _=>str=false∧K (.int .i64 es.length) [] [g]
   | _=>False
  | _=>False
 | .append t sz bytes z x y=>match addS ob sz (As sl y) with
  | some (new,gs)=>match As sl x with
   | .nil=>((new.length:Int)*bytes≤140737488355328∧new.length≤9223372036854775807∧(new.all fun l=>l.length == sz)=true)∧K (.ref p) ((p,.row t sz new) :: B7 gs) []
   | .ref g=>match ob g with
    | .row t' sz' es=>(t=t'∧sz=sz'∧((es.length+new.length:Nat):Int)*bytes≤140737488355328∧es.length+new.length≤9223372036854775807∧g ∉ gs∧(new.all fun l=>l.length == sz)=true)∧K (.ref p) ((p,.row t sz (es++new)) :: B7 (g :: gs)) []
    | .hist t' sz' es us=>(t=t'∧sz=sz'∧((es.length+new.length:Nat):Int)*bytes≤140737488355328∧es.length+new.length≤9223372036854775807∧g ∉ gs∧(new.all fun l=>l.length == sz)=true∧Cj new=true)∧K (.ref p) ((p,.hist t sz (es++new) us) :: B7 (g :: gs)) []
    | _=>False
   | _=>False
  | none=>False
 | .minmax mx x y=>match As sl x,As sl y with
  | .int k a,.int k' b=>k=k'∧K (.int k (if mx then (if b > a then b else a) else (if b < a then b else a))) [] []
  | _,_=>False
 | .mkmap ks hint=>(match hint with
  | none=>True
  | some x=>(OP (As sl x)).isSome=true)∧K (.ref p) [(p,.mp ks nomap)] []
 | .mset ks m k v=>match As sl m with
  | .ref g=>match ob g with
   | .mp ks' f=>ks'=ks∧∃ q x,svK ks (As sl k)=some q∧svM (As sl v)=some x∧K .any [(g,.mp ks (Kk f q x))] []
   | _=>False
  | _=>False
 | .mkit x=>match As sl x with
  | .mp ks m=>K (.ptr p 0) [(p,.it ks m [] none)] []
  | _=>False
 | .mcur x=>match As sl x with
  | .ptr g o=>match ob g with
   | .it _ _ _ (some (k,v))=>o=0∧K (.tup [MK.sv k,MV.sv v]) [] [g]
   | _=>False
  | _=>False
 | .mget ks ok agg z m k=>∃ f rd q,PI ob (As sl m)=some (ks,f,rd)∧svK ks (As sl k)=some q∧K (Vs ok agg z (f q)) [] rd
where
 mkEs (ev:SX→SV) (ob:Nat→Ob) (sz:Nat):List (List (OT × List Nat))→List (Nat × SX)→Option (List (List (OT × List Nat)))
  | es,[]=>some es
  | es,(k,x) :: r=>match (ev x).cellsN sz with
   | some l=>match Dq ob l with
    | some y=>mkEs ev ob sz (es.set k y) r
    | none=>none
   | none=>none
 addS (ob:Nat→Ob) (sz:Nat):SV→Option (List (List OT) × List Nat)
  | .nil=>some ([],[])
  | .arr es=>some (es.map (·.map D.ot),[])
  | .ref g=>match ob g with
   | .row _ sz' es=>if sz'=sz then some (es,[g]) else none
   | _=>none
  | _=>none
section
variable {P:Program} {c:Ctx} {I I':Nat→Prop} {V V':Nat→Option Value} {B B':Nat→Nat→Prop} {s:Fst} {a:Act} {w w':World}
theorem After.keepI {ob:Nat→Ob} {upd:List (Nat × Ob)} (hwf:Wf w I V B ob) (h:After w I V B ob upd w' I' V' B'):KeepS I w w' :=
 ⟨h.size,fun b hb hl=>h.block b hl fun g _ hlv hB=>hwf.dI g b hlv hB hb⟩
theorem IP {upd:List (Nat × Ob)} {g:Nat} (h:¬ Ao upd g):AE upd g=none:=by
 cases hl:AE upd g with
 | none=>rfl
 | some o=>exact absurd (IM (by rw [hl]; simp)) h
theorem FL {ob:Nat→Ob} {upd:List (Nat × Ob)} {g:Nat} (h:¬ Ao upd g):A1 ob upd g=ob g:=by
 unfold A1
 rw [IP h]; rfl
theorem RepI.after {upd:List (Nat × Ob)} (h:RepI c I V B s a w) (k:After w I V B s.ob upd w' I' V' B'):RepI c I' V' B' (s.setO upd) a w':=by
 have hbh:∀ g b,(A1 s.ob upd g).live→B' g b→c.H b∨c.w0.heap.size≤b:=fun g b hl hb=>by
  by_cases ht:Ao upd g
  ·rcases k.b1 g b ht hl hb with h1 | ⟨g0,_,h2,h3⟩
   ·exact .inr (y7 h.fr.size h1)
   ·exact h.bh g0 b h2 h3
  ·rw [FL ht] at hl
   rw [k.out g ht] at hb
   exact h.bh g b hl hb
 refine ⟨⟨k.os.trans h.fr.os,k.tape.trans h.fr.tape,k.output.trans h.fr.output,y7 h.fr.size k.size,fun b hb hH=>?_⟩,fun b hb=>k.i0 b (h.i0 b hb),fun b hb=>?_,h.v0.trans k.v,k.wf,hbh,h.nd,h.sz,fun j=>?_⟩
 ·rw [k.block b (zR hb h.fr.size) fun g _ hl hB=>by rcases h.bh g b hl hB with h1 | h1; exact hH h1; omega]
  exact h.fr.block b hb hH
 ·rcases k.i1 b hb with h1 | h1 | ⟨g,_,h2,h3⟩
  ·exact h.i1 b h1
  ·exact .inr (.inl (y7 h.fr.size h1))
  ·rcases h.bh g b h2 h3 with h1 | h1
   ·exact .inr (.inr h1)
   ·exact .inr (.inl h1)
 ·exact RepV.mono (k.keepI h.wf) k.i0 k.v _ _ (h.slots j)
theorem After.mk' {ob:Nat→Ob} {upd:List (Nat × Ob)} (h:Wf w I V B ob) (os:w'.os=w.os) (tape:TapeOk w w') (output:w'.output=w.output)
  (hsz:w.heap.size≤w'.heap.size) (hkeep:∀ b,b<w.heap.size→(∀ g,Ao upd g→(ob g).live→¬ B g b)→w'.heap[b]?=w.heap[b]?)
  (hV:VLe V V') (hout:∀ g,¬ Ao upd g→B' g=B g∧(ob g=.free→V' g=none))
  (hobj:∀ g,Ao upd g→(A1 ob upd g).live→∃ val,V' g=some val∧ObR w' I V' (B' g) val (A1 ob upd g))
  (hB:∀ g b,Ao upd g→(A1 ob upd g).live→B' g b→(w.heap.size≤b∧b<w'.heap.size)∨∃ g0,Ao upd g0∧(ob g0).live∧B g0 b)
  (hBB:∀ g g' b,Ao upd g→Ao upd g'→(A1 ob upd g).live→(A1 ob upd g').live→B' g b→B' g' b→g=g')
  (hfr:∀ g,Ao upd g→A1 ob upd g=.free→V' g=none):After w I V B ob upd w' I V' B':=by
 refine ⟨?_,os,tape,output,hsz,hkeep,fun _ h=>h,fun b hb=>.inl hb,hV,fun g hg=>(hout g hg).1,fun g b hg hl hb=>(hB g b hg hl hb).imp (fun h=>h.1) id⟩
 refine h.upd (Ao upd) hsz hkeep (fun _ h=>h) hV (fun g hg=>⟨FL hg,(hout g hg).1,(hout g hg).2⟩) (fun b hb=>.inl hb) (fun b hb=>zR (h.ilt b hb) hsz) hobj hB ?_ hBB hfr
 intro g b hg hl hb hI
 rcases hB g b hg hl hb with h1 | ⟨g0,_,h2,h3⟩
 ·have:=h.ilt b hI; omega
 ·exact h.dI g0 b h2 h3 hI
theorem G9 (v:Value):RepV w I V (Ik v) v:=by
 unfold Ik
 split
 ·simp [RepV]
 ·simp [RepV]
 ·rename_i s
  split
  ·rename_i h; simp only [RepV]; exact ⟨trivial,h⟩
  ·simp [RepV]
 ·simp [RepV]
 ·simp only [RepV]; exact .inl ⟨rfl,fun _=>rfl⟩
 ·simp [RepV]
theorem An (h:RepI c I V B s a w) (y:Operand):RepV w I V (As s.sl (trX y)) (a.eval y):=by
 cases y with
 | tmp t=>exact h.slots t
 | const v=>exact G9 v
 | global g=>simp [trX,As,RepV]
 | func f=>simp only [trX,As,RepV,Act.eval]; exact ⟨[],rfl,rfl⟩
theorem JT (h:RepI c I V B s a w):∀ ys:List Operand,RepVs w I V (ys.map fun y=>As s.sl (trX y)) (ys.map a.eval)
 | []=>by simp [RepVs]
 | y :: ys=>by
  simp only [zJ,RepVs]
  exact ⟨_,_,rfl,An h y,JT h ys⟩
def Agrees (o:Oper) (ops:Array Oper) (s s':Fst):Prop:=∀ k,k∈o.looksAt ops→s'.sl k=s.sl k
theorem Agrees.ev {o:Oper} {ops:Array Oper} {s s':Fst} (h:Agrees o ops s s') {y:Operand} (hy:y∈o.op.operands.toList):As s'.sl (trX y)=As s.sl (trX y):=by
 cases y with
 | tmp t=>exact h t (List.mem_append_left _ (List.mem_filterMap.2 ⟨.tmp t,hy,rfl⟩))
 | const v=>rfl
 | global g=>rfl
 | func f=>rfl
theorem Cn {o:Oper} {x:SV} {upd:List (Nat × Ob)} (hd:AS c.nt o.dst=true)
  (h:∀ I V B a w,RepI c I V B s a w→∃ v w' I' V' B',(execOp a.eval o).run P w=.ok (.value v) w'∧After w I V B s.ob upd w' I' V' B'∧RepV w' I' V' x v):OpS P c o s x upd:=by
 intro a w K Q hr hK
 obtain ⟨I,V,B,hr⟩:=hr
 obtain ⟨v,w',I',V',B',h1,h2,h3⟩:=h I V B a w hr
 unfold Oper.wp
 rw [h1]
 exact hK _ _ ⟨I',V',B',(hr.after h2).put hd h3⟩
theorem Im {o:Oper} {upd:List (Nat × Ob)} (hd:AS c.nt o.dst=true)
  (h:∀ I V B a w,RepI c I V B s a w→∃ w' I' V' B',(execOp a.eval o).run P w=.ok .skip w'∧After w I V B s.ob upd w' I' V' B'):OpS P c o s .any upd:=by
 intro a w K Q hr hK
 obtain ⟨I,V,B,hr⟩:=hr
 obtain ⟨w',I',V',B',h1,h2⟩:=h I V B a w hr
 unfold Oper.wp
 rw [h1]
 exact hK _ _ ⟨I',V',B',(hr.after h2).put hd (by simp [RepV])⟩
theorem After.same {ob:Nat→Ob} (h:Wf w I V B ob):After w I V B ob [] w I V B:=by
 refine After.mk' h rfl (TapeOk.mk' rfl rfl) rfl (zL _) (fun _ _ _=>rfl) (VLe.refl _) (fun g _=>⟨rfl,fun e=>h.fr g e⟩) ?_ ?_ ?_ ?_ <;> intros <;> rename_i ht _ <;> simp_all [Ao]
theorem RI {o:Oper} {x:SV} (hd:AS c.nt o.dst=true)
  (h:∀ I V B a w,RepI c I V B s a w→∃ v,(execOp a.eval o).run P w=.ok (.value v) w∧RepV w I V x v):OpS P c o s x [] :=
 Cn hd fun I V B a w hr=>let ⟨v,h1,h2⟩:=h I V B a w hr; ⟨v,w,I,V,B,h1,After.same hr.wf,h2⟩
theorem NB {o:Oper} {x:SV} {upd:List (Nat × Ob)} {f:FuncId} {xs:List SV} (hd:AS c.nt o.dst=true) (hc:CallOK P f xs s.ob x upd)
  (h:∀ I V B a w,RepI c I V B s a w→∃ vs:List Value,(execOp a.eval o).run P w=.ok (.enter f vs.toArray) w∧RepVs w I V xs vs):OpS P c o s x upd:=by
 intro a w K Q hr hK
 obtain ⟨I,V,B,hr⟩:=hr
 obtain ⟨vs,h1,h2⟩:=h I V B a w hr
 unfold Oper.wp
 rw [h1]
 refine (hc w I V B vs hr.wf h2).mono ?_
 rintro e w' ⟨v,I',V',B',rfl,h3,h4⟩
 exact hK _ _ ⟨I',V',B',(hr.after h4).put hd h3⟩
theorem RepV.oneCell {x:SV} {v:Value} (h:RepV w I V x v) (h1:x.one=true):v.oneCell'=true:=by
 cases x <;> simp only [SV.one,yT] at h1 <;> simp only [RepV] at h
 case int k n=>subst h; rfl
 case bool b=>subst h; rfl
 case str s=>obtain ⟨rfl,_⟩:=h; rfl
 case val u=>exact h.2
 case nil=>subst h; rfl
 case arr es=>obtain ⟨a,n,rfl,_⟩:=h.slice_form; rfl
 case ref g=>exact h.2
 case mp ks m=>exact h.one
 case ptr g o=>obtain ⟨b,_,rfl⟩:=h; rfl
 case eptr g sz k o=>obtain ⟨b,off,n,c,_,rfl⟩:=h; rfl
 case vptr es k o=>obtain ⟨b,off,c,_,_,rfl⟩:=h; rfl
 case fn f caps=>obtain ⟨vs,rfl,_⟩:=h; rfl
theorem cells_one {v:Value} (h:v.oneCell'=true):v.cells=#[v]:=by cases v <;> simp_all [Value.oneCell',Value.cells]
theorem RepV.cellsN {x:SV} {v:Value} {n:Nat} {l:List SV} (h:RepV w I V x v) (hl:x.cellsN n=some l):v.cells.size=n∧RepVs w I V l v.cells.toList∧l.length=n:=by
 have single:∀ (x:SV),x.one=true→RepV w I V x v→(if n=1 then some [x] else none)=some l→v.cells.size=n∧RepVs w I V l v.cells.toList∧l.length=n:=by
  intro y h1 hy hly
  by_cases hn:n=1
  ·rw [if_pos hn] at hly
   subst hn
   obtain rfl:=zB hly
   rw [cells_one (hy.oneCell h1)]
   exact ⟨rfl,RepVs.one hy,rfl⟩
  ·rw [if_neg hn] at hly
   cases hly
 cases x <;> simp only [SV.cellsN] at hl
 case any=>cases hl
 case tup=>cases hl
 case agg xs =>
  split at hl
  ·rename_i hn
   obtain rfl:=zB hl
   simp only [RepV] at h
   obtain ⟨vs,rfl,h⟩:=h
   have:=h.len
   refine ⟨by simp [Value.cells]; omega,by simpa [Value.cells] using h,hn⟩
  ·cases hl
 all_goals exact single _ rfl h hl
theorem RepVs.all_one {l:List SV}:∀ {vs:List Value},RepVs w I V l vs→l.all SV.one=true→∀ u∈vs,u.oneCell'=true:=by
 induction l with
 | nil=>intro vs h _ u hu; simp only [RepVs] at h; subst h; cases hu
 | cons x xs ih =>
  intro vs h h1 u hu
  simp only [RepVs] at h
  obtain ⟨v,r,rfl,h2,h3⟩:=h
  simp only [List.all_cons,z1] at h1
  rcases zO.1 hu with rfl | hu
  ·exact h2.oneCell h1.1
  ·exact ih h3 h1.2 u hu
theorem LU {t:TypeId} {g:Bool} (h:G7 P t=some g):(isAgg t).run P w=.ok g w:=by
 unfold G7 at h
 split at h
 case h_1 hu=>obtain rfl:=zB h; simp [isAgg,run_underlying hu]
 case h_2 hu=>obtain rfl:=zB h; simp [isAgg,run_underlying hu]
 case h_3 d h1 h2 hu =>
  obtain rfl:=zB h
  simp only [isAgg,Sem.run_bind,run_underlying hu,Result.andThen_ok]
  simp
 case h_4=>cases h
theorem GA {t:TypeId} {g:Bool} {i:TypeInfo} (hg:G7 P t=some g) (hi:P.info? t=some i) (h1:(g || i.size == 1)=true) (b o:Nat) (vs:List Value) (hl:vs.length=i.size)
  (hc:∀ (j:Nat) v,vs[j]?=some v→w.cell? ⟨b,o+j,none⟩=some v):(loadVar t ⟨b,o,none⟩).run P w=.ok (if g then .agg vs.toArray else vs.getD 0 undef) w:=by
 unfold loadVar
 rw [Sem.run_bind,LU hg,Result.andThen_ok]
 cases g with
 | true =>
  have:=run_loadCells_list (P:=P) w ⟨b,o,none⟩ vs (fun j v hv=>by rw [Addr.add_lit]; exact hc j v hv)
  rw [hl] at this
  simp [sizeOf,typeInfo,hi,this]
 | false =>
  simp only [xM,beq_iff_eq] at h1
  cases vs with
  | nil=>simp only [yS] at hl; omega
  | cons v r =>
   have:=hc 0 v (by simp)
   rw [y6] at this
   simp [run_load,this]
theorem Ev {t:TypeId} {i:TypeInfo} (hi:P.info? t=some i) (b o:Nat) (v:Value) (hv:v.cells.size=i.size) (h1:∀ u∈v.cells.toList,u.oneCell'=true) (cur:Array Value) (e:TypeId)
  (hb:w.heap[b]?=some (.cells cur e (0,0))) (hfit:o+i.size≤cur.size):(storeVar t ⟨b,o,none⟩ v).run P w=.ok () (w.setRow b (splice cur.toList o v.cells.toList).toArray):=by
 have hst:=run_storeCells_at P b o e v.cells.toList 0 cur w hb (by simp; omega) h1
 simp only [y6] at hst
 unfold storeVar
 simp only [sizeOf,typeInfo,hi,Sem.run_bind,run_program,Result.andThen_ok,Sem.run_pure,hv,ne_eq,not_true_eq_false,↓reduceIte]
 exact hst
end
def Good (P:Program) (c:Ctx) (o:Oper) (ops:Array Oper) (s:Fst) (K:Kont):Prop :=
 ∃ x upd rd,K x upd rd∧∀ s':Fst,Agrees o ops s s'→(∀ g,g∈rd→s'.ob g=s.ob g)→(∀ g,g∈upd.map (·.1)→s'.ob g=s.ob g)→OpS P c o s' x upd
section
variable {P:Program} {c:Ctx} {ops:Array Oper} {s:Fst} {K:Kont} {o:Oper} {p:Nat}
theorem Az {x:SV} {rd:List Nat} (hd:AS c.nt o.dst=true) (hK:K x [] rd)
  (h:∀ s':Fst,Agrees o ops s s'→(∀ g,g∈rd→s'.ob g=s.ob g)→∀ I V B a w,RepI c I V B s' a w→∃ v,(execOp a.eval o).run P w=.ok (.value v) w∧RepV w I V x v):Good P c o ops s K :=
 ⟨x,[],rd,hK,fun s' h1 h2 _=>RI hd (h s' h1 h2)⟩
theorem Be {x:Sem Value} {v:Value} {w w':World} (h:x.run P w=.ok v w'):(do pure (.value (← x)):Sem Next).run P w=.ok (.value v) w':=by
 rw [Sem.run_bind,h]; rfl
theorem PJ {x:Operand} (hop:o.op=.move x∨o.op=.assign x) (hd:AS c.nt o.dst=true) (h:eOp P (.mv (trX x)) s.sl s.ob p K):Good P c o ops s K:=by
 refine Az (rd:=[]) hd h fun s' ha _ I V B a w hr=>⟨a.eval x,?_,?_⟩
 ·rcases hop with hop | hop <;> simp [execOp,hop]
 ·rw [←ha.ev (y:=x) (by rcases hop with hop | hop <;> simp [hop,Op.operands])]
  exact An hr x
theorem T6 {x y z:Operand} (hop:o.op=.pick x y z) (hd:AS c.nt o.dst=true) (h:eOp P (.pick (trX x) (trX y) (trX z)) s.sl s.ob p K):Good P c o ops s K:=by
 simp only [eOp] at h
 split at h
 ·rename_i t ht
  refine Az (rd:=[]) hd h fun s' ha _ I V B a w hr=>⟨if t then a.eval y else a.eval z,?_,?_⟩
  ·have:=An hr x
   rw [ha.ev (y:=x) (by simp [hop,Op.operands]),ht] at this
   simp only [RepV] at this
   simp [execOp,hop,this,asBool]
  ·rw [←ha.ev (y:=y) (by simp [hop,Op.operands]),← ha.ev (y:=z) (by simp [hop,Op.operands])]
   cases t
   ·exact An hr z
   ·exact An hr y
 ·exact h.elim
theorem OT.rep_sv {w:World} {I S:Nat→Prop} {V:Nat→Option Value} {o:OT} {v:Value} (h:ORep w I S o v):RepV w I V o.sv v:=by
 cases h with
 | int S n=>simp [OT.sv,RepV]
 | byte S n=>simp [OT.sv,RepV]
 | bool S b=>simp [OT.sv,RepV]
 | str S s h=>simp only [OT.sv,RepV]; exact ⟨trivial,h⟩
 | sh S es v h=>simpa only [OT.sv,RepV] using h
 | nil S =>
  simp only [OT.sv,RepV]
  exact DRep.arr I 0 [] none 0 (fun _ _=>undef) (fun _ _ _=>False) (zL _) (by simp) (.inl rfl) (fun i h=>absurd h (by simp)) (fun _ _ _ h=>h.elim) (fun _ _ _ _ _ _ h=>h.elim) fun i j h=>absurd h (by simp)
 | @row _ t sz es b cap cur Sub hS hb h1 h2 =>
  cases es with
  | nil =>
   simp only [OT.sv,RepV]
   exact DRep.arr I 0 [] _ cap (fun _ _=>undef) (fun _ _ _=>False) h1 h2 (.inl rfl) (fun i h=>absurd h (by simp)) (fun _ _ _ h=>h.elim) (fun _ _ _ _ _ _ h=>h.elim) fun i j h=>absurd h (by simp)
  | cons x r=>simp [OT.sv,RepV]
 | hole S v h=>simp [OT.sv,RepV]
 | pin S v h=>simp only [OT.sv,RepV]; exact ⟨trivial,h⟩
theorem ORep.one {w:World} {I S:Nat→Prop} {o:OT} {v:Value} (h:ORep w I S o v):v.oneCell'=true:=by
 cases h with
 | sh S es v h=>obtain ⟨a,n,rfl,_⟩:=h.slice_form; rfl
 | hole S v h=>exact h
 | pin S v h=>exact h
 | _=>rfl
theorem OR {I:Nat→Prop} {V:Nat→Option Value} {B:Nat→Nat→Prop} {a:Act} {w:World} (hr:RepI c I V B s a w) {g o:Nat} {t:TypeId} {l:List SV} (hg:s.ob g=.box t l) {v:Value} (hv:RepV w I V (.ptr g o) v) :
  ∃ (b:Nat) (vs:List Value),v=.pointer (some ⟨b,o,none⟩)∧V g=some (.pointer (some ⟨b,0,none⟩))∧(∀ x,B g x ↔ x=b)∧w.heap[b]?=some (.cells vs.toArray t (0,0))∧RepVs w I V l vs:=by
 obtain ⟨val,h1,h2⟩:=hr.wf.obj g (by rw [hg]; trivial)
 rw [hg] at h2
 obtain ⟨b,vs,rfl,h3,h4,h5⟩:=h2
 simp only [RepV] at hv
 obtain ⟨b',h6,h7⟩:=hv
 rw [h1] at h6
 injection h6 with h6; injection h6 with h6; injection h6 with h6; injection h6 with h6 _
 subst h6
 exact ⟨b,vs,h7,h1,h3,h4,h5⟩
theorem GB {w:World} {I:Nat→Prop} {V:Nat→Option Value} {g:Bool} {l:List SV} {vs:List Value} {o n:Nat} (h:RepVs w I V l vs) (hn:o+n≤l.length) (h1:(g || n == 1)=true) :
  RepV w I V (if g then .agg ((l.drop o).take n) else l.getD o .any) (if g then .agg ((vs.drop o).take n).toArray else ((vs.drop o).take n).getD 0 undef):=by
 cases g with
 | true=>simp only [if_true,RepV]; exact ⟨_,rfl,(h.drop o).take n⟩
 | false =>
  simp only [xM,beq_iff_eq] at h1
  subst h1
  have ho:o<l.length:=by omega
  obtain ⟨v,hv,hr⟩:=h.get (zA ho)
  have e1:l.getD o .any=l[o]:=by simp [ho]
  have e2:((vs.drop o).take 1).getD 0 undef=v:=by
   rw [zE,yD]
   simp [hv]
  simp only [yT,if_false]
  rw [e1,e2]
  exact hr
theorem Kl:∀ {hs:List (Nat × Nat × Nat)} {k o q:Nat},DO hs k o=some q→(k,o,q)∈hs
 | [],k,o,q,h=>by cases h
 | (k1,o1,q1) :: r,k,o,q,h=>by
  simp only [DO] at h
  split at h
  ·rename_i e
   obtain ⟨rfl,rfl⟩:=e
   obtain rfl:=zB h
   simp
  ·exact List.mem_cons_of_mem _ (Kl h)
theorem ORep.rowR {w:World} {I S:Nat→Prop} {es:List (List OT)} {v:Value} (h:ORep w I S (.ow es) v):∃ t sz,RowR w I S t sz es v:=by
 cases h with
 | nil S=>exact ⟨0,0,RowR.nil _ _ _ _ _⟩
 | row S t sz es b cap cur Sub hS hb h1 h2 h3 h4 h5 h6 h7=>exact ⟨t,sz,.inr ⟨b,cap,cur,Sub,rfl,hS,hb,h1,h2,h3,h4,h5,h6,h7⟩⟩
theorem RowR.leaf {w:World} {I S:Nat→Prop} {t:TypeId} {sz:Nat} {es:List (List OT)} {val:Value} {k off:Nat} {l:List OT} (h:RowR w I S t sz es val) (hl:es[k]?=some l) (hls:l.length=sz∨off<l.length) (ho:off<l.length) :
  ∃ (b cap:Nat) (v:Value) (S0:Nat→Prop),l.length=sz∧val=.slice (some ⟨b,0,none⟩) es.length cap∧S b∧¬ S0 b∧w.cell? ⟨b,k*sz+off,none⟩=some v∧ORep w I S0 (l.getD off .hole) v∧(∀ x,S0 x→S x) ∧
   ∀ (y:OT) (T:Nat→Prop),ORep w I T y v→(∀ x,T x→S x→S0 x)→RowR w I (fun x=>(S x∧¬ S0 x)∨T x) t sz (es.set k (l.set off y)) val:=by
 have hk:k<es.length:=(zC.1 hl).1
 have hlk:es[k]=l:=by rw [zA hk] at hl; exact zB hl
 rcases h with ⟨rfl,_⟩ | ⟨b,cap,cur,Sub,rfl,hS,hb,h1,h2,h3,h4,h5,h6,h7⟩
 ·simp at hk
 ·have hll:l.length=sz:=by rw [←hlk]; exact h4 k hk
  have hlt:k*sz+off<cur.size:=by
   rw [h3]; exact mul_lt (zR hk h1) (by omega)
  have h70:=h7 k off hk (by rw [hlk]; exact ho)
  have e70:es[k][off]'(by rw [hlk]; exact ho)=l.getD off .hole:=by
   have:es[k][off]?=l[off]?:=by rw [hlk]
   rw [zA (by rw [hlk]; exact ho)] at this
   rw [zE,← this]; rfl
  rw [e70] at h70
  refine ⟨b,cap,cur.getD (k*sz+off) undef,Sub k off,hll,rfl,hS,fun hx=>(h5 k off b hx).2 rfl,?_,h70,fun x hx=>(h5 k off x hx).1,fun y T hy hT=>?_⟩
  ·rw [cell_of_row w b _ _ _ _ hb]
   simp [zD,hlt]
  ·have hset:∀ i (hi:i<(es.set k (l.set off y)).length),(es.set k (l.set off y))[i]=if k=i then l.set off y else es[i]'(by simpa using hi):=fun i hi=>by rw [List.getElem_set]
   refine .inr ⟨b,cap,cur,fun i j x=>if i=k∧j=off then T x∧x≠b else Sub i j x,by simp,.inl ⟨hS,fun hx=>(h5 k off b hx).2 rfl⟩,hb,by simpa using h1,h2,h3,fun i hi=>?_,fun i j x hx=>?_,fun i j i' j' x hx hx'=>?_,fun i j hi hj=>?_⟩
   ·rw [hset i hi]
    split
    ·rw [y5]; exact hll
    ·exact h4 i _
   ·dsimp only at hx
    split at hx
    ·exact ⟨.inr hx.1,hx.2⟩
    ·rename_i hne
     exact ⟨.inl ⟨(h5 i j x hx).1,fun h8=>hne (h6 i j k off x hx h8)⟩,(h5 i j x hx).2⟩
   ·dsimp only at hx hx'
    have cross:∀ i j,¬ (i=k∧j=off)→Sub i j x→T x→False:=fun i j hne hs ht=>hne (h6 i j k off x hs (hT x ht (h5 i j x hs).1))
    split at hx <;> split at hx'
    ·rename_i e1 e2
     exact ⟨by omega,by omega⟩
    ·rename_i e1 e2
     exact (cross i' j' e2 hx' hx.1).elim
    ·rename_i e1 e2
     exact (cross i j e1 hx hx'.1).elim
    ·exact h6 i j i' j' x hx hx'
   ·have hi':i<es.length:=by simpa using hi
    have hjs:j<sz:=by
     have h9:=hj
     rw [hset i hi] at h9
     split at h9
     ·rw [y5,hll] at h9; exact h9
     ·rw [h4 i hi'] at h9; exact h9
    by_cases hin:i=k∧j=off
    ·obtain ⟨rfl,rfl⟩:=hin
     have e1:(es.set i (l.set j y))[i][j]=y:=by
      have:(es.set i (l.set j y))[i][j]?=some y:=by rw [hset i hi]; simp [ho]
      rw [zA hj] at this
      exact zB this
     rw [e1]
     simp only [and_self,if_true]
     by_cases hTb:T b
     ·exact absurd rfl (h5 i j b (hT b hTb hS)).2
     ·exact hy.up fun x hx=>⟨hx,fun e=>hTb (e▸hx)⟩
    ·have hje:j<es[i].length:=by rw [h4 i hi']; exact hjs
     have e1:(es.set k (l.set off y))[i][j]=es[i][j]:=by
      have:(es.set k (l.set off y))[i][j]?=es[i][j]?:=by
       rw [hset i hi]
       split
       ·rename_i e
        subst e
        have:¬ off=j:=fun e=>hin ⟨rfl,e.symm⟩
        rw [z6 this,hlk]
       ·rfl
      rw [zA hj,zA hje] at this
      exact zB this
     rw [e1]
     simp only [hin,if_false]
     exact h7 i j hi' hje
theorem JU {I:Nat→Prop} {V:Nat→Option Value} {B:Nat→Nat→Prop} {a:Act} {w:World} (hr:RepI c I V B s a w) {g:Nat} {es:List (List OT)} {hs:List (Nat × Nat × Nat)} (hg:s.ob g=.tree es hs):∃ val,V g=some val∧TreeR w I V (B g) es hs val:=by
 obtain ⟨val,h1,h2⟩:=hr.wf.obj g (by rw [hg]; trivial)
 rw [hg] at h2
 exact ⟨val,h1,h2⟩
theorem HoleR.up {w:World} {V V':Nat→Option Value} {val:Value} {n sz:Nat} {h:Nat × Nat × Nat} (hV:VLe V V') (hh:HoleR w V val n sz h):HoleR w V' val n sz h:=by
 obtain ⟨g1,g2,b,c,v,e,g3,g4,g5⟩:=hh
 exact ⟨g1,g2,b,c,v,e,g3,hV _ _ g4,g5⟩
theorem ORep.slice {w:World} {I S:Nat→Prop} {es:List (List OT)} {v:Value} (h:ORep w I S (.ow es) v):∃ a m d,v=.slice a m d:=by
 cases h with
 | nil S=>exact ⟨_,_,_,rfl⟩
 | row S t sz es b cap cur Sub hS hb h1 h2 h3 h4 h5 h6 h7=>exact ⟨_,_,_,rfl⟩
theorem MP {x:Operand} {g0 sz k off:Nat} {es:List (List OT)} {hs:List (Nat × Nat × Nat)} {l:List OT} (hx:x∈o.op.operands.toList)
  (run:∀ {a:Act} {w:World} {b q:Nat} {v:Value},a.eval x=.pointer (some ⟨b,q,none⟩)→w.cell? ⟨b,q,none⟩=some v→(execOp a.eval o).run P w=.ok (.value v) w)
  (hd:AS c.nt o.dst=true) (hp:s.ob p=.free) (he:As s.sl (trX x)=.eptr g0 sz k off) (hob:s.ob g0=.tree es hs) (hl:es[k]?=some l) (hls:l.length=sz) (ho:off<sz)
  (h:match DO hs k off with
   | some q=>K (.ref q) [] [g0]
   | none=>∃ y,l[off]?=some y∧OQ g0 es hs k off l p y K):Good P c o ops s K:=by
 have at_:∀ {s':Fst} {I V B a w},Agrees o ops s s'→s'.ob g0=.tree es hs→RepI c I V B s' a w→∃ (b cap:Nat) (v:Value) (S0:Nat→Prop) (t:TypeId),V g0=some (.slice (some ⟨b,0,none⟩) es.length cap)∧TreeR w I V (B g0) es hs (.slice (some ⟨b,0,none⟩) es.length cap)∧(execOp a.eval o).run P w=.ok (.value v) w∧B g0 b∧¬ S0 b∧w.cell? ⟨b,k*sz+off,none⟩=some v∧ORep w I S0 (l.getD off .hole) v∧(∀ x,S0 x→B g0 x) ∧
   (∀ q,q∈hs→HoleR w V (.slice (some ⟨b,0,none⟩) es.length cap) es.length sz q)∧∀ (y:OT) (T:Nat→Prop),ORep w I T y v→(∀ x,T x→B g0 x→S0 x)→RowR w I (fun x=>(B g0 x∧¬ S0 x)∨T x) t sz (es.set k (l.set off y)) (.slice (some ⟨b,0,none⟩) es.length cap):=by
  intro s' I V B a w ha hob' hr
  obtain ⟨val,hV,hT⟩:=JU hr hob'
  obtain ⟨t,sz',hR,hH⟩:=id hT
  obtain ⟨b,cap,v,S0,e1,rfl,h1,h2,h3,h4,h5,h6⟩:=hR.leaf (l:=l) (off:=off) hl (.inr (by omega)) (by omega)
  have e2:sz'=sz:=by omega
  subst e2
  have hv:=An hr x
  rw [ha.ev hx,he] at hv
  simp only [RepV] at hv
  obtain ⟨b',off0,n0,cp,hV2,hv⟩:=hv
  rw [hV] at hV2
  have hbb:b'=b∧off0=0:=by simp at hV2; exact ⟨hV2.1.1.symm,hV2.1.2.symm⟩
  obtain ⟨rfl,rfl⟩:=hbb
  rw [zV] at hv
  exact ⟨b',cap,v,S0,t,hV,hT,run hv h3,h1,h2,h3,h4,h5,hH,h6⟩
 cases hq:DO hs k off with
 | some q =>
  rw [hq] at h
  refine Az hd h fun s' ha hrd I V B a w hr=>?_
  obtain ⟨b,cap,v,S0,t,hV,hT,hrun,_,_,hcell,_,_,hH,_⟩:=at_ ha (by rw [hrd g0 (by simp),hob]) hr
  obtain ⟨_,_,b2,c2,v2,e,g3,g4,g5⟩:=hH _ (Kl hq)
  have hb2:b2=b:=by simp at e; exact e.1.symm
  subst hb2
  rw [hcell] at g3
  obtain rfl:=zB g3
  exact ⟨_,hrun,by simp only [RepV]; exact ⟨g4,by obtain ⟨_,_,_,e9⟩:=g5; rw [e9]; rfl⟩⟩
 | none =>
  rw [hq] at h
  obtain ⟨y,hy,h⟩:=h
  have hyd:l.getD off .hole=y:=by rw [zE,hy]; rfl
  have plain:K y.sv [] [g0]→Good P c o ops s K:=fun h=>by
   refine Az hd h fun s' ha hrd I V B a w hr=>?_
   obtain ⟨b,cap,v,S0,t,hV,hT,hrun,_,_,hcell,hO,_,hH,_⟩:=at_ ha (by rw [hrd g0 (by simp),hob]) hr
   rw [hyd] at hO
   exact ⟨_,hrun,OT.rep_sv hO⟩
  cases y with
  | int n=>exact plain h
  | byte n=>exact plain h
  | bool n=>exact plain h
  | str n=>exact plain h
  | sh n=>exact plain h
  | hole=>exact h.elim
  | pin u=>exact h.elim
  | ow e2 =>
   have hpg:p≠g0:=fun e=>by rw [e,hob] at hp; cases hp
   refine ⟨_,_,_,h,fun s' ha hrd hup=>Cn hd fun I V B a w hr=>?_⟩
   have hob':s'.ob g0=.tree es hs:=by rw [hup g0 (by simp),hob]
   have hp':s'.ob p=.free:=by rw [hup p (by simp),hp]
   obtain ⟨b,cap,v,S0,t,hV,hT,hrun,hBb,hS0b,hcell,hO,hSS,hH,hnew⟩:=at_ ha hob' hr
   rw [hyd] at hO
   have hwf:=hr.wf
   have hVp:V p=none:=hwf.fr p hp'
   obtain ⟨t2,sz2,hR2⟩:=hO.rowR
   have hlive:(s'.ob g0).live:=by rw [hob']; trivial
   have hVV:VLe V (fun g=>if g=p then some v else V g):=fun g u hu=>by
    by_cases e:g=p
    ·subst e; rw [hVp] at hu; cases hu
    ·simp only [if_neg e]; exact hu
   have ht:∀ g,Ao [(p,Ob.tree e2 []),(g0,Ob.tree (es.set k (l.set off .hole)) ((k,off,p) :: hs))] g ↔ g=p∨g=g0:=fun g=>by simp [Ao]
   have hu1:A1 s'.ob [(p,Ob.tree e2 []),(g0,Ob.tree (es.set k (l.set off .hole)) ((k,off,p) :: hs))] p=.tree e2 []:=by simp [A1,AE]
   have hu2:A1 s'.ob [(p,Ob.tree e2 []),(g0,Ob.tree (es.set k (l.set off .hole)) ((k,off,p) :: hs))] g0=.tree (es.set k (l.set off .hole)) ((k,off,p) :: hs):=by simp [A1,AE,hpg]
   have hg0p:¬ g0=p:=fun e=>hpg e.symm
   refine ⟨v,w,I,fun g=>if g=p then some v else V g,fun g x=>if g=p then S0 x else if g=g0 then B g0 x∧¬ S0 x else B g x,hrun,?_,?_⟩
   ·refine After.mk' hwf rfl (TapeOk.mk' rfl rfl) rfl (zL _) (fun _ _ _=>rfl) hVV (fun g hg=>?_) (fun g hg hl'=>?_) (fun g x hg hl' hb=>?_) (fun g g' x hg hg' hl1 hl2 hb hb'=>?_) (fun g hg hf=>?_)
    ·have h1:¬ g=p:=fun e=>hg ((ht g).2 (.inl e))
     have h2:¬ g=g0:=fun e=>hg ((ht g).2 (.inr e))
     exact ⟨by funext x; simp only [if_neg h1,if_neg h2],fun hf=>by simp only [if_neg h1]; exact hwf.fr g hf⟩
    ·rcases (ht g).1 hg with rfl | rfl
     ·rw [hu1]
      refine ⟨v,if_pos rfl,t2,sz2,?_,fun q hq=>by cases hq⟩
      simp only [if_true]
      exact hR2
     ·rw [hu2]
      refine ⟨_,by rw [if_neg hg0p]; exact hV,t,sz,?_,fun q hq=>?_⟩
      ·simp only [if_neg hg0p,if_true]
       refine (hnew .hole (fun _=>False) (.hole _ _ hO.one) (fun x hx=>hx.elim)).up fun x hx=>?_
       rcases hx with hx | hx
       ·exact hx
       ·exact hx.elim
      ·rw [y5]
       rcases zO.1 hq with rfl | hq
       ·exact ⟨(zC.1 hl).1,ho,b,cap,v,rfl,hcell,if_pos rfl,hO.slice⟩
       ·exact (hH q hq).up hVV
    ·refine .inr ⟨g0,(ht g0).2 (.inr rfl),hlive,?_⟩
     rcases (ht g).1 hg with rfl | rfl
     ·simp only [if_true] at hb; exact hSS x hb
     ·simp only [if_neg hg0p,if_true] at hb; exact hb.1
    ·rcases (ht g).1 hg with rfl | rfl <;> rcases (ht g').1 hg' with rfl | rfl
     ·rfl
     ·simp only [if_true] at hb
      simp only [if_neg hg0p,if_true] at hb'
      exact (hb'.2 hb).elim
     ·simp only [if_true] at hb'
      simp only [if_neg hg0p,if_true] at hb
      exact (hb.2 hb').elim
     ·rfl
    ·rcases (ht g).1 hg with rfl | rfl
     ·rw [hu1] at hf; cases hf
     ·rw [hu2] at hf; cases hf
   ·simp only [RepV,if_true,true_and]
    exact hO.one
theorem T7 {t:TypeId} {x:Operand} {g:Bool} {i:TypeInfo} (hop:o.op=.load t x) (hg:G7 P t=some g) (hi:P.info? t=some i) (h1:(g || i.size == 1)=true) (hd:AS c.nt o.dst=true) (hp:s.ob p=.free)
  (h:eOp P (.load g i.size (trX x)) s.sl s.ob p K):Good P c o ops s K:=by
 have hx:x∈o.op.operands.toList:=by simp [hop,Op.operands]
 have run:∀ {a:Act} {w:World} {b off:Nat} {vs:List Value},a.eval x=.pointer (some ⟨b,off,none⟩)→vs.length=i.size→(∀ (j:Nat) v,vs[j]?=some v→w.cell? ⟨b,off+j,none⟩=some v) →
   (execOp a.eval o).run P w=.ok (.value (if g then .agg vs.toArray else vs.getD 0 undef)) w:=by
  intro a w b off vs hv hl hc
  simp only [execOp,hop,hv,Instr.loadAt,Instr.sureAddr,pure_bind]
  exact Be (GA hg hi h1 b off vs hl hc)
 simp only [eOp] at h
 split at h
 ·rename_i g0 off he
  split at h
  ·rename_i t0 l hob
   refine Az hd h.2 fun s' ha hrd I V B a w hr=>?_
   have hv:=An hr x
   rw [ha.ev hx,he] at hv
   obtain ⟨b,vs,h2,h3,h4,h5,h6⟩:=OR hr (by rw [hrd g0 (by simp),hob]) hv
   have hlen:=h6.len
   refine ⟨_,run (vs:=(vs.drop off).take i.size) h2 (by simp; omega) (fun j v hj=>?_),GB h6 h.1 h1⟩
   rw [cell_of_row w b _ _ _ _ h5]
   rw [yD] at hj
   split at hj
   ·rw [yU] at hj; simpa using hj
   ·cases hj
  ·exact h.elim
 ·rename_i es k off he
  obtain ⟨l,hl,hn,hK⟩:=h
  refine Az (rd:=[]) hd hK fun s' ha hrd I V B a w hr=>?_
  have hv:=An hr x
  rw [ha.ev hx,he] at hv
  simp only [RepV] at hv
  obtain ⟨b,o0,cp,hD,hk,hv⟩:=hv
  have hlk:l=es[k]:=by rw [zA hk] at hl; exact (zB hl).symm
  have hgd:es.getD k []=l:=by simp [hk,hlk]
  have hleaf:∀ j,j<l.length→∃ u,w.cell? ⟨b,o0+k*l.length+j,none⟩=some u∧RepV w I V ((l.map D.sv).getD j .any) u:=fun j hj=>by
   obtain ⟨u,h2,h3⟩:=DRep.leaf hD hk (j:=j) (by rw [←hlk]; exact hj)
   refine ⟨u,by rw [←hlk] at h2; exact h2,?_⟩
   have e1:(l.map D.sv).getD j .any=(es[k][j]'(by rw [←hlk]; exact hj)).sv:=by
    subst hlk
    rw [zE,zX,zA hj]; rfl
   rw [e1]
   exact D.rep_sv h3
  have hvs:∃ vs:List Value,RepVs w I V (l.map D.sv) vs∧∀ (j:Nat) v,vs[j]?=some v→w.cell? ⟨b,o0+k*l.length+j,none⟩=some v:=by
   have key:∀ (m:List D) (q:Nat),q+m.length=l.length→(∀ j,j<m.length→m[j]?=l[q+j]?)→∃ vs:List Value,RepVs w I V (m.map D.sv) vs∧∀ (j:Nat) v,vs[j]?=some v→w.cell? ⟨b,o0+k*l.length+(q+j),none⟩=some v:=by
    intro m
    induction m with
    | nil=>intro q _ _; exact ⟨[],by simp [RepVs],fun j v hj=>by simp at hj⟩
    | cons d m ih =>
     intro q hq hm
     obtain ⟨vs,h2,h3⟩:=ih (q+1) (by simp at hq; omega) (fun j hj=>by have:=hm (j+1) (by simp; omega); simpa [zU,z2 1 j] using this)
     obtain ⟨u,h4,h5⟩:=hleaf q (by simp at hq; omega)
     have hq0:l[q]?=some d:=by have:=hm 0 (by simp); simpa using this.symm
     have e1:(l.map D.sv).getD q .any=d.sv:=by simp [hq0]
     rw [e1] at h5
     refine ⟨u :: vs,by simp only [zJ,RepVs]; exact ⟨u,vs,rfl,h5,h2⟩,fun j v hj=>?_⟩
     cases j with
     | zero=>simp only [zG,zF] at hj; subst hj; simpa using h4
     | succ j =>
      simp only [zI] at hj
      have:=h3 j v hj
      rwa [show q+1+j=q+(j+1) by omega] at this
   have:=key l 0 (by simp) (fun j _=>by simp)
   simpa using this
  obtain ⟨vs,h2,h3⟩:=hvs
  have hlen:=h2.len
  simp only [yK] at hlen
  rw [hgd] at hv
  have hrep:=GB (g:=g) h2 (o:=off) (n:=i.size) (by simpa using hn) h1
  rw [←List.map_drop,← List.map_take] at hrep
  refine ⟨_,run (vs:=(vs.drop off).take i.size) hv (by simp; omega) (fun j v hj=>?_),hrep⟩
  rw [yD] at hj
  split at hj
  ·rw [yU] at hj
   have:=h3 _ _ hj
   rwa [show o0+k*l.length+(off+j)=o0+k*l.length+off+j by omega] at this
  ·cases hj
 ·rename_i g0 sz k off he
  have core:∀ (o1:Ob) (t0:TypeId) (es:List (List OT)),s.ob g0=o1→o1.live→(∀ w I V S val,ObR w I V S val o1→RowR w I S t0 sz es val)→∀ l,es[k]?=some l→off+i.size≤l.length→K (if g then .agg (((l.drop off).take i.size).map OT.sv) else (l.map OT.sv).getD off .any) [] [g0]→Good P c o ops s K:=by
   intro o1 t0 es hob hlv hrow l hl hn hK
   refine Az hd hK fun s' ha hrd I V B a w hr=>?_
   have hv:=An hr x
   rw [ha.ev hx,he] at hv
   simp only [RepV] at hv
   obtain ⟨b,off0,n0,cp,hV,hv⟩:=hv
   obtain ⟨val,hV2,hR⟩:=hr.wf.obj g0 (by rw [hrd g0 (by simp),hob]; exact hlv)
   rw [hrd g0 (by simp),hob] at hR
   have hR:=hrow _ _ _ _ _ hR
   rw [hV] at hV2
   obtain rfl:=zB hV2
   have hk:k<es.length:=(zC.1 hl).1
   have hlk:l=es[k]:=by rw [zA hk] at hl; exact (zB hl).symm
   rcases hR with ⟨_,hR⟩ | ⟨b',cap,cur,Sub,e1,hS,hb,h2,h3,h4,h5,h6,h7,h8⟩
   ·cases hR
   ·injection e1 with e1 e2 e3; injection e1 with e1; injection e1 with e1 e4 _; subst e1; subst e4
    rw [zV] at hv
    have hlsz:l.length=sz:=by rw [hlk]; exact h5 k hk
    have hcur:∀ j,j<sz→cur[k*sz+j]?=some (cur.getD (k*sz+j) undef):=fun j hj=>by
     have:k*sz+j<cur.size:=by
      rw [h4]
      exact mul_lt (zR hk h2) hj
     simp [zD,this]
    have hvs:RepVs w I V (l.map OT.sv) ((zN sz).map fun j=>cur.getD (k*sz+j) undef):=by
     have key:∀ (m:List OT) (q:Nat),q+m.length=sz→(∀ j,j<m.length→m[j]?=l[q+j]?)→RepVs w I V (m.map OT.sv) ((zN m.length).map fun j=>cur.getD (k*sz+(q+j)) undef):=by
      intro m
      induction m with
      | nil=>intro q _ _; simp [RepVs]
      | cons d m ih =>
       intro q hq hm
       have h9:=ih (q+1) (by simp at hq; omega) (fun j hj=>by have:=hm (j+1) (by simp; omega); simpa [zU,z2 1 j] using this)
       have hq0:l[q]?=some d:=by have:=hm 0 (by simp); simpa using this.symm
       have hqs:q<sz:=by simp at hq; omega
       have h10:=h8 k q hk (by rw [←hlk,hlsz]; exact hqs)
       have e9:es[k][q]'(by rw [←hlk,hlsz]; exact hqs)=d:=by
        have:es[k][q]?=some d:=by rw [←hlk]; exact hq0
        rw [zA (by rw [←hlk,hlsz]; exact hqs)] at this
        exact zB this
       rw [e9] at h10
       simp only [zJ,xG,List.range_succ_eq_map,RepVs]
       refine ⟨_,_,rfl,OT.rep_sv h10,?_⟩
       rw [y8]
       refine Eq.mp ?_ h9
       congr 1
       exact yP fun j _=>by simp [zU,z2 1 j]
     have:=key l 0 (by simp [hlsz]) (fun j _=>by simp)
     simpa [hlsz] using this
    have hrep:=GB (g:=g) hvs (o:=off) (n:=i.size) (by simpa using hn) h1
    rw [←List.map_drop,← List.map_take] at hrep
    refine ⟨_,run (vs:=(((zN sz).map fun j=>cur.getD (k*sz+j) undef).drop off).take i.size) hv (by simp; omega) (fun j v hj=>?_),hrep⟩
    rw [yD] at hj
    split at hj
    ·rw [yU,zX] at hj
     cases hrg:(zN sz)[off+j]? with
     | none=>rw [hrg] at hj; cases hj
     | some q =>
      rw [hrg] at hj
      have hlt:off+j<sz:=by have:=(zC.1 hrg).1; simpa using this
      have hqe:q=off+j:=by
       have:=(zC.1 hrg).2
       simpa using this.symm
      subst hqe
      simp only [zW,zF] at hj
      rw [cell_of_row w b _ _ _ _ hb,show k*sz+off+j=k*sz+(off+j) by omega,hcur _ hlt,hj]
    ·cases hj
  split at h
  ·rename_i t0 sz' es hob
   obtain ⟨hsz,l,hl,hn,hK⟩:=h
   subst hsz
   exact core _ t0 es hob trivial (fun _ _ _ _ _ h=>h) l hl hn hK
  ·rename_i es hs hob
   obtain ⟨⟨rfl,h11⟩,l,hl,⟨hls,ho⟩,h⟩:=h
   refine MP hx (fun {a w b q v} hv hc=>?_) hd hp he hob hl hls ho h
   have:=run (a:=a) (w:=w) (b:=b) (off:=q) (vs:=[v]) hv (by simp [h11]) (fun j u hj=>by
    cases j with
    | zero=>simp only [zG,zF] at hj; subst hj; simpa using hc
    | succ j=>simp at hj)
   simpa using this
  ·rename_i t0 sz' es us hob
   obtain ⟨hsz,l,hl,hn,hK⟩:=h
   subst hsz
   exact core _ t0 es hob trivial (fun _ _ _ _ _ h=>h.1) l hl hn hK
  ·exact h.elim
 ·exact h.elim
end
section
variable {P:Program} {c:Ctx} {ops:Array Oper} {s:Fst} {K:Kont} {o:Oper} {p:Nat}
theorem After.PK {I:Nat→Prop} {V:Nat→Option Value} {B:Nat→Nat→Prop} {w:World} {ob:Nat→Ob} (h:Wf w I V B ob) {p:Nat} (hp:ob p=.free) {t:TypeId} {l:List SV} {cs:Array Value} (hl:RepVs w I V l cs.toList) :
  After w I V B ob [(p,.box t l)] (w.alloc (.cells cs t)) I (fun g=>if g=p then some (.pointer (some ⟨w.heap.size,0,none⟩)) else V g) (fun g b=>if g=p then b=w.heap.size else B g b):=by
 have hVp:=h.fr p hp
 have hV:VLe V (fun g=>if g=p then some (.pointer (some ⟨w.heap.size,0,none⟩)) else V g):=fun g u hu=>by
  by_cases e:g=p
  ·subst e; rw [hVp] at hu; cases hu
  ·simp only [e,if_false]; exact hu
 have ht:∀ g,Ao [(p,Ob.box t l)] g ↔ g=p:=fun g=>by simp [Ao]
 have hu:A1 ob [(p,.box t l)] p=.box t l:=by simp [A1,AE]
 refine After.mk' h rfl (TapeOk.mk' rfl rfl) rfl (by simp) (fun b hb _=>Below.heap_alloc w _ b hb) hV (fun g hg=>?_) (fun g hg hl'=>?_) (fun g b hg hl' hb=>?_) (fun g g' b hg hg' _ _ _ _=>?_) (fun g hg hf=>?_)
 ·have hg:¬ g=p:=fun e=>hg ((ht g).2 e)
  exact ⟨by funext b; simp only [hg,if_false],fun hf=>by simp only [hg,if_false]; exact h.fr g hf⟩
 ·obtain rfl:=(ht g).1 hg
  refine ⟨_,by simp only [if_true]; rfl,?_⟩
  rw [hu]
  refine ⟨w.heap.size,cs.toList,rfl,fun x=>by simp,by simpa using heap_alloc_new w _,?_⟩
  exact RepVs.mono ⟨by simp,fun b _ hb=>Below.heap_alloc w _ b hb⟩ (fun _ h=>h) hV _ _ hl
 ·obtain rfl:=(ht g).1 hg
  simp only [if_true] at hb
  subst hb
  exact .inl ⟨zL _,by simp⟩
 ·rw [(ht g).1 hg,(ht g').1 hg']
 ·obtain rfl:=(ht g).1 hg
  rw [hu] at hf; cases hf
theorem After.T8 {I:Nat→Prop} {V:Nat→Option Value} {B:Nat→Nat→Prop} {w:World} {ob:Nat→Ob} (h:Wf w I V B ob) {g:Nat} {t:TypeId} {l l':List SV} (hg:ob g=.box t l) {b:Nat} {vs vs':List Value}
  (hV:V g=some (.pointer (some ⟨b,0,none⟩))) (hB:∀ x,B g x ↔ x=b) (hb:w.heap[b]?=some (.cells vs.toArray t (0,0))) (hl:RepVs w I V l' vs'):After w I V B ob [(g,.box t l')] (w.setRow b vs'.toArray) I V B:=by
 have ht:∀ g',Ao [(g,Ob.box t l')] g' ↔ g'=g:=fun g'=>by simp [Ao]
 have hu:A1 ob [(g,.box t l')] g=.box t l':=by simp [A1,AE]
 have hlive:(ob g).live:=by rw [hg]; trivial
 refine After.mk' h rfl (TapeOk.mk' rfl rfl) rfl (by simp) (fun b' hb' hno=>setRow_other w b b' _ fun e=>hno g ((ht g).2 rfl) hlive ((hB b').2 e)) (VLe.refl _) (fun g' hg'=>⟨rfl,fun hf=>h.fr g' hf⟩) (fun g' hg' hl'=>?_) (fun g' b' hg' hl' hb'=>?_) (fun g1 g2 b hg hg' _ _ _ _=>?_) (fun g' hg' hf=>?_)
 ·obtain rfl:=(ht g').1 hg'
  refine ⟨_,hV,?_⟩
  rw [hu]
  refine ⟨b,vs',rfl,hB,setRow_heap w b _ _ t _ hb,?_⟩
  refine RepVs.mono ⟨by simp,fun b' hI hb'=>setRow_other w b b' _ fun e=>?_⟩ (fun _ h=>h) (VLe.refl _) _ _ hl
  exact h.dI g' b' hlive ((hB b').2 e) hI
 ·obtain rfl:=(ht g').1 hg'
  exact .inr ⟨g',hg',hlive,hb'⟩
 ·rw [(ht g1).1 hg,(ht g2).1 hg']
 ·obtain rfl:=(ht g').1 hg'
  rw [hu] at hf; cases hf
theorem Km {t:TypeId} {z:List SV} (h:CN P t=some z) {w:World} {I:Nat→Prop} {V:Nat→Option Value}:∃ (i:TypeInfo) (v:Value),P.info? t=some i∧i.zero=some v∧RepVs w I V z v.cells.toList:=by
 unfold CN at h
 obtain ⟨i,hi,h⟩:=xH.1 h
 obtain ⟨v,hv,rfl⟩:=zT.1 h
 refine ⟨i,v,hi,hv,?_⟩
 generalize v.cells.toList=l
 induction l with
 | nil=>simp [RepVs]
 | cons u l ih=>simp only [zJ,RepVs]; exact ⟨u,l,rfl,G9 u,ih⟩
theorem RJ {t:TypeId} {z:List SV} (hop:o.op=.alloc t) (hz:CN P t=some z) (hd:AS c.nt o.dst=true) (hp:s.ob p=.free) (h:eOp P (.alloc t z) s.sl s.ob p K):Good P c o ops s K:=by
 refine ⟨_,_,_,h,fun s' ha hrd hup=>Cn hd fun I V B a w hr=>?_⟩
 obtain ⟨i,v,hi,hv,hrep⟩:=Km (w:=w) (I:=I) (V:=V) hz
 refine ⟨.pointer (some ⟨w.heap.size,0,none⟩),w.alloc (.cells v.cells t),_,_,_,?_,After.PK hr.wf (by rw [hup p (by simp),hp]) hrep,?_⟩
 ·simp only [execOp,hop]
  refine Be ?_
  simp [Instr.alloc,zeroValue,typeInfo,hi,hv,newVar,newRow]
 ·simp only [RepV,if_true]
  exact ⟨w.heap.size,rfl,rfl⟩
theorem Vu {t:TypeId} {x:Operand} {n:Nat} (hop:o.op=.box t x) (hd:AS c.nt o.dst=true) (hp:s.ob p=.free) (h:eOp P (.boxv t n (trX x)) s.sl s.ob p K):Good P c o ops s K:=by
 simp only [eOp] at h
 split at h
 ·rename_i l hl
  refine ⟨_,_,_,h,fun s' ha hrd hup=>Cn hd fun I V B a w hr=>?_⟩
  have hv:=An hr x
  rw [ha.ev (y:=x) (by simp [hop,Op.operands])] at hv
  obtain ⟨_,hrep,_⟩:=hv.cellsN hl
  refine ⟨.pointer (some ⟨w.heap.size,0,none⟩),w.alloc (.cells (a.eval x).cells t),_,_,_,?_,After.PK hr.wf (by rw [hup p (by simp),hp]) hrep,?_⟩
  ·simp only [execOp,hop]
   refine Be ?_
   simp [Instr.box,newVar,newRow]
  ·simp only [RepV,if_true]
   exact ⟨w.heap.size,rfl,rfl⟩
 ·exact h.elim
theorem RepVs.splice {w:World} {I:Nat→Prop} {V:Nat→Option Value} {l l':List SV} {vs vs':List Value} (h:RepVs w I V l vs) (h':RepVs w I V l' vs') (o:Nat):RepVs w I V (splice l o l') (splice vs o vs'):=by
 unfold Proofs.Ytjkcamgfimpggaa.splice
 rw [h'.len]
 exact ((h.take o).app h').app (h.drop _)
theorem MQ {t:TypeId} {x y:Operand} {i:TypeInfo} {g off:Nat} (hop:o.op=.store t x y) (hi:P.info? t=some i) (hd:AS c.nt o.dst=true) (he:As s.sl (trX x)=.ptr g off)
  {t0:TypeId} {l vs:List SV} (hob:s.ob g=.box t0 l) (hc:(As s.sl (trX y)).cellsN i.size=some vs) (hn:off+i.size≤l.length) (h1:vs.all SV.one=true) (h:K .any [(g,.box t0 (splice l off vs))] []):Good P c o ops s K:=by
 refine ⟨_,_,_,h,fun s' ha hrd hup=>Im hd fun I V B a w hr=>?_⟩
 have hv:=An hr x
 rw [ha.ev (y:=x) (by simp [hop,Op.operands]),he] at hv
 have hobs:s'.ob g=.box t0 l:=by rw [hup g (by simp),hob]
 obtain ⟨b,us,h2,h3,h4,h5,h6⟩:=OR hr hobs hv
 have hy:=An hr y
 rw [ha.ev (y:=y) (by simp [hop,Op.operands])] at hy
 obtain ⟨h7,h8,h9⟩:=hy.cellsN hc
 refine ⟨w.setRow b (splice us off (a.eval y).cells.toList).toArray,I,V,B,?_,After.T8 hr.wf hobs h3 h4 h5 (h6.splice h8 off)⟩
 simp only [execOp,hop,h2,Instr.storeAt,Instr.sureAddr,pure_bind]
 have:=Ev (P:=P) (w:=w) hi b off (a.eval y) h7 (h8.all_one h1) _ t0 h5 (by simp [h6.len]; omega)
 simp only [List.toList_toArray] at this
 rw [Sem.run_bind,this]; rfl
theorem Gf {t:TypeId} {k off n:Nat} {g:Bool} (h:Dt P t k=some (off,n,g)):∃ fs f i,P.underlying t=some (.struct fs)∧fs[k]?=some f∧P.info? f.type=some i∧G7 P f.type=some g∧off=f.offset∧n=i.size:=by
 unfold Dt at h
 split at h
 ·rename_i fs hu
  split at h
  ·rename_i f hf
   split at h
   ·rename_i i g' hi hg
    simp only [zF,yQ] at h
    obtain ⟨rfl,rfl,rfl⟩:=h
    exact ⟨fs,f,i,hu,hf,hi,hg,rfl,rfl⟩
   ·cases h
  ·cases h
 ·cases h
theorem RK {t:TypeId} {x:Operand} {k off n:Nat} {g:Bool} (hop:o.op=.fieldAddr t x k) (hf:Dt P t k=some (off,n,g)) (hn:n≠0) (hd:AS c.nt o.dst=true) (h:eOp P (.faddr off (trX x)) s.sl s.ob p K):Good P c o ops s K:=by
 obtain ⟨fs,f,i,hu,hfs,hi,hg,rfl,rfl⟩:=Gf hf
 have hx:x∈o.op.operands.toList:=by simp [hop,Op.operands]
 have run:∀ {a:Act} {w:World} {b q:Nat},a.eval x=.pointer (some ⟨b,q,none⟩)→(execOp a.eval o).run P w=.ok (.value (.pointer (some ⟨b,q+f.offset,none⟩))) w:=by
  intro a w b q hv
  simp only [execOp,hop,hv]
  refine Be ?_
  simp [Instr.fieldAt,run_underlying hu,hfs,Instr.sureAddr,fieldPlace,sizeOf,typeInfo,hi,hn,Addr.add_lit]
 simp only [eOp] at h
 split at h
 ·rename_i g0 q he
  refine Az (rd:=[]) hd h fun s' ha _ I V B a w hr=>?_
  have hv:=An hr x
  rw [ha.ev hx,he] at hv
  simp only [RepV] at hv ⊢
  obtain ⟨b,h1,h2⟩:=hv
  exact ⟨_,run h2,b,h1,rfl⟩
 ·rename_i es k' q he
  refine Az (rd:=[]) hd h fun s' ha _ I V B a w hr=>?_
  have hv:=An hr x
  rw [ha.ev hx,he] at hv
  simp only [RepV] at hv ⊢
  obtain ⟨b,o0,cp,h1,h2,h3⟩:=hv
  exact ⟨_,run h3,b,o0,cp,h1,h2,by rw [zU]⟩
 ·rename_i g0 sz k' q he
  refine Az (rd:=[]) hd h fun s' ha _ I V B a w hr=>?_
  have hv:=An hr x
  rw [ha.ev hx,he] at hv
  simp only [RepV] at hv ⊢
  obtain ⟨b,off0,n,cp,h1,h2⟩:=hv
  exact ⟨_,run h2,b,off0,n,cp,h1,by rw [zU]⟩
 ·exact h.elim
theorem RL {t:TypeId} {x:Operand} {k off n:Nat} {g:Bool} (hop:o.op=.field t x k) (hf:Dt P t k=some (off,n,g)) (h1:(g || n == 1)=true) (hd:AS c.nt o.dst=true) (h:eOp P (.field g off n (trX x)) s.sl s.ob p K):Good P c o ops s K:=by
 obtain ⟨fs,f,i,hu,hfs,hi,hg,rfl,rfl⟩:=Gf hf
 simp only [eOp] at h
 split at h
 ·rename_i l he
  refine Az (rd:=[]) hd h.2 fun s' ha _ I V B a w hr=>?_
  have hv:=An hr x
  rw [ha.ev (y:=x) (by simp [hop,Op.operands]),he] at hv
  simp only [RepV] at hv
  obtain ⟨vs,hv,hrep⟩:=hv
  have hlen:=hrep.len
  refine ⟨_,?_,GB hrep h.1 h1⟩
  simp only [execOp,hop,hv]
  refine Be ?_
  simp only [Instr.field,Sem.run_bind,run_underlying hu,Result.andThen_ok,hfs,asAgg,Sem.run_pure]
  unfold part
  rw [Sem.run_bind,LU hg,Result.andThen_ok]
  cases g with
  | true =>
   simp only [if_true,sizeOf,typeInfo,Sem.run_bind,run_program,Result.andThen_ok,hi,Sem.run_pure]
   congr 2
   apply xN
   simp [List.take_drop,z2]
  | false =>
   simp only [xM,beq_iff_eq] at h1
   have:f.offset<vs.length:=by omega
   simp [this,h1,zE,yD]
 ·exact h.elim
theorem Vv {x:Operand} {k:Nat} (hop:o.op=.extract x k) (hd:AS c.nt o.dst=true) (h:eOp P (.ext (trX x) k) s.sl s.ob p K):Good P c o ops s K:=by
 simp only [eOp] at h
 split at h
 ·rename_i l he
  refine Az (rd:=[]) hd h.2 fun s' ha _ I V B a w hr=>?_
  have hv:=An hr x
  rw [ha.ev (y:=x) (by simp [hop,Op.operands]),he] at hv
  simp only [RepV] at hv
  obtain ⟨vs,hv,hrep⟩:=hv
  obtain ⟨u,hu,hr'⟩:=hrep.get (zA h.1)
  refine ⟨u,?_,?_⟩
  ·simp only [execOp,hop,hv]
   refine Be ?_
   simp [Instr.extract,hu]
  ·have:l.getD k .any=l[k]:=by simp [h.1]
   rw [this]; exact hr'
 ·exact h.elim
theorem OS {I:Nat→Prop} {V:Nat→Option Value} {B:Nat→Nat→Prop} {a:Act} {w:World} (hr:RepI c I V B s a w) {g:Nat} {t:TypeId} {sz:Nat} {es:List (List OT)} (hg:s.ob g=.row t sz es) {v:Value} (hv:RepV w I V (.ref g) v):RowR w I (B g) t sz es v:=by
 obtain ⟨val,h1,h2⟩:=hr.wf.obj g (by rw [hg]; trivial)
 rw [hg] at h2
 simp only [RepV] at hv
 rw [h1] at hv
 obtain rfl:=zB hv.1
 exact h2
theorem PL {I:Nat→Prop} {V:Nat→Option Value} {B:Nat→Nat→Prop} {a:Act} {w:World} (hr:RepI c I V B s a w) {g:Nat} {t:TypeId} {sz:Nat} {es:List (List OT)} {us:List (Value × Nat)} (hg:s.ob g=.hist t sz es us) {v:Value} (hv:RepV w I V (.ref g) v):RowR w I (B g) t sz es v:=by
 obtain ⟨val,h1,h2⟩:=hr.wf.obj g (by rw [hg]; trivial)
 rw [hg] at h2
 simp only [RepV] at hv
 rw [h1] at hv
 obtain rfl:=zB hv.1
 exact h2.1
theorem RN {x:Operand} {t:TypeId} {str:Bool} (hop:o.op=.call ⟨.builtin .len,#[x],#[t]⟩) (ht:str=true→P.underlying t=some .string) (ht':str=false→∃ e,P.underlying t=some (.slice e)) (hd:AS c.nt o.dst=true) (h:eOp P (.len str (trX x)) s.sl s.ob p K):Good P c o ops s K:=by
 have hx:x∈o.op.operands.toList:=by simp [hop,Op.operands,Call.operands]
 have runs:∀ {a:Act} {w:World} {q:ByteArray},str=true→a.eval x=.string q→(execOp a.eval o).run P w=.ok (.value (.int .i64 q.size)) w:=by
  intro a w q hs hv
  simp only [execOp,hop,resolve,invoke,builtin,Sem.run_bind,Sem.run_pure,Result.andThen_ok]
  simp [Builtin.len_,hv,run_underlying (ht hs),goInt]
 have runl:∀ {a:Act} {w:World} {q n cp},str=false→a.eval x=.slice q n cp→(execOp a.eval o).run P w=.ok (.value (.int .i64 n)) w:=by
  intro a w q n cp hs hv
  obtain ⟨e,hu⟩:=ht' hs
  simp only [execOp,hop,resolve,invoke,builtin,Sem.run_bind,Sem.run_pure,Result.andThen_ok]
  simp [Builtin.len_,hv,run_underlying hu,goInt]
 simp only [eOp] at h
 split at h
 ·rename_i q he
  refine Az (rd:=[]) hd h.2 fun s' ha _ I V B a w hr=>?_
  have hv:=An hr x
  rw [ha.ev hx,he] at hv
  simp only [RepV] at hv
  exact ⟨_,runs h.1 hv.1,by simp [RepV]⟩
 ·rename_i es he
  refine Az (rd:=[]) hd h.2 fun s' ha _ I V B a w hr=>?_
  have hv:=An hr x
  rw [ha.ev hx,he] at hv
  simp only [RepV] at hv
  obtain ⟨q,n,e,_⟩:=hv.slice_form
  exact ⟨_,runl h.1 e,by simp [RepV]⟩
 ·rename_i he
  refine Az (rd:=[]) hd h.2 fun s' ha _ I V B a w hr=>?_
  have hv:=An hr x
  rw [ha.ev hx,he] at hv
  simp only [RepV] at hv
  exact ⟨_,runl h.1 hv,by simp [RepV]⟩
 ·rename_i g he
  split at h
  ·rename_i t0 sz es hob
   refine Az hd h.2 fun s' ha hrd I V B a w hr=>?_
   have hv:=An hr x
   rw [ha.ev hx,he] at hv
   obtain ⟨q,n,e,_⟩:=(OS hr (by rw [hrd g (by simp),hob]) hv).form
   exact ⟨_,runl h.1 e,by simp [RepV]⟩
  ·rename_i es hs hob
   refine Az hd h.2 fun s' ha hrd I V B a w hr=>?_
   have hv:=An hr x
   rw [ha.ev hx,he] at hv
   obtain ⟨val,hV,t,sz,hR,_⟩:=JU hr (by rw [hrd g (by simp),hob]:s'.ob g=.tree es hs)
   simp only [RepV] at hv
   rw [hV] at hv
   obtain ⟨q,n,e,_⟩:=hR.form
   exact ⟨_,runl h.1 (by rw [←zB hv.1]; exact e),by simp [RepV]⟩
  ·rename_i t0 sz es us hob
   refine Az hd h.2 fun s' ha hrd I V B a w hr=>?_
   have hv:=An hr x
   rw [ha.ev hx,he] at hv
   obtain ⟨q,n,e,_⟩:=(PL hr (by rw [hrd g (by simp),hob]) hv).form
   exact ⟨_,runl h.1 e,by simp [RepV]⟩
  ·exact h.elim
 ·exact h.elim
theorem RO {t e:TypeId} {x y:Operand} {j:TypeInfo} (hop:o.op=.indexAddr t x y) (hu:P.underlying t=some (.slice e)) (hj:P.info? e=some j) (hd:AS c.nt o.dst=true) (h:eOp P (.iaddr j.size (trX x) (trX y)) s.sl s.ob p K):Good P c o ops s K:=by
 have hx:x∈o.op.operands.toList:=by simp [hop,Op.operands]
 have hy:y∈o.op.operands.toList:=by simp [hop,Op.operands]
 have run:∀ {a:Act} {w:World} {b off len cp:Nat} {k:IntKind} {n:Int},a.eval x=.slice (some ⟨b,off,none⟩) len cp→a.eval y=.int k n→0≤n→n.toNat<len→(execOp a.eval o).run P w=.ok (.value (.pointer (some ⟨b,off+n.toNat*j.size,none⟩))) w:=by
  intro a w b off len cp k n hv hw h0 h1
  have h2:0≤n∧n<len:=⟨h0,by omega⟩
  simp only [execOp,hop,hv,hw]
  refine Be ?_
  simp [Instr.indexAt,run_underlying hu,asIntOf,h2,sizeOf,typeInfo,hj,Addr.add_lit]
 simp only [eOp] at h
 split at h
 ·rename_i es k n he hi
  obtain ⟨h0,l,hl,hsz,hK⟩:=h
  refine Az (rd:=[]) hd hK fun s' ha _ I V B a w hr=>?_
  have hv:=An hr x
  rw [ha.ev hx,he] at hv
  have hw:=An hr y
  rw [ha.ev hy,hi] at hw
  simp only [RepV] at hv hw
  have hlt:n.toNat<es.length:=(zC.1 hl).1
  obtain ⟨q,cp,e1,_,_,h3⟩:=hv.slice_form
  obtain ⟨b,off,rfl⟩:=h3 (by omega)
  rw [e1] at hv
  refine ⟨_,run e1 hw h0 hlt,?_⟩
  simp only [RepV]
  refine ⟨b,off,cp,hv,hlt,?_⟩
  rw [zE,hl,yZ,hsz,y6]
 ·rename_i g k n he hi
  split at h
  ·rename_i t0 sz' es hob
   obtain ⟨⟨hsz,h0,hlt⟩,hK⟩:=h
   refine Az hd hK fun s' ha hrd I V B a w hr=>?_
   have hv:=An hr x
   rw [ha.ev hx,he] at hv
   have hw:=An hr y
   rw [ha.ev hy,hi] at hw
   obtain ⟨q,cp,e1,_,_,h3⟩:=(OS hr (by rw [hrd g (by simp),hob]) hv).form
   obtain ⟨b,rfl⟩:=h3 (by omega)
   simp only [RepV] at hv hw ⊢
   refine ⟨_,run e1 hw h0 hlt,b,0,es.length,cp,by rw [hv.1,e1],?_⟩
   simp [hsz]
  ·rename_i es hs hob
   obtain ⟨⟨h0,hlt⟩,hK⟩:=h
   refine Az hd hK fun s' ha hrd I V B a w hr=>?_
   have hv:=An hr x
   rw [ha.ev hx,he] at hv
   have hw:=An hr y
   rw [ha.ev hy,hi] at hw
   obtain ⟨val,hV,t,sz,hR,_⟩:=JU hr (by rw [hrd g (by simp),hob]:s'.ob g=.tree es hs)
   obtain ⟨q,cp,e1,_,_,h3⟩:=hR.form
   obtain ⟨b,rfl⟩:=h3 (by omega)
   simp only [RepV] at hv hw ⊢
   rw [hV] at hv
   have e2:=zB hv.1
   refine ⟨_,run (by rw [←e2]; exact e1) hw h0 hlt,b,0,es.length,cp,by rw [hV,e1],?_⟩
   simp
  ·rename_i t0 sz' es us hob
   obtain ⟨⟨hsz,h0,hlt⟩,hK⟩:=h
   refine Az hd hK fun s' ha hrd I V B a w hr=>?_
   have hv:=An hr x
   rw [ha.ev hx,he] at hv
   have hw:=An hr y
   rw [ha.ev hy,hi] at hw
   obtain ⟨q,cp,e1,_,_,h3⟩:=(PL hr (by rw [hrd g (by simp),hob]) hv).form
   obtain ⟨b,rfl⟩:=h3 (by omega)
   simp only [RepV] at hv hw ⊢
   refine ⟨_,run e1 hw h0 hlt,b,0,es.length,cp,by rw [hv.1,e1],?_⟩
   simp [hsz]
  ·exact h.elim
 ·exact h.elim
theorem Vw {t:TypeId} {x y:Operand} (hop:o.op=.index t x y) (hu:P.underlying t=some .string) (hd:AS c.nt o.dst=true) (h:eOp P (.idx (trX x) (trX y)) s.sl s.ob p K):Good P c o ops s K:=by
 simp only [eOp] at h
 split at h
 ·rename_i q k n he hi
  obtain ⟨⟨h0,hlt⟩,hK⟩:=h
  refine Az (rd:=[]) hd hK fun s' ha _ I V B a w hr=>?_
  have hv:=An hr x
  rw [ha.ev (by simp [hop,Op.operands]),he] at hv
  have hw:=An hr y
  rw [ha.ev (by simp [hop,Op.operands]),hi] at hw
  simp only [RepV] at hv hw ⊢
  refine ⟨_,?_,rfl⟩
  simp only [execOp,hop,hv.1,hw]
  refine Be ?_
  simp [Instr.index,run_underlying hu,asIntOf,h0,G8,hlt]
 ·exact h.elim
theorem Kn {k:IntKind} {r:Int} (hd:AS c.nt o.dst=true) (h:F6 k r K) (hrun:∀ s':Fst,Agrees o ops s s'→∀ I V B a w,RepI c I V B s' a w→(execOp a.eval o).run P w=.ok (.value (.int k (k.wrap r))) w):Good P c o ops s K:=by
 have wrap:inK k r→k.wrap r=r:=fun h=>by
  unfold inK at h
  cases k <;> simp only [IntKind.min,IntKind.max,IntKind.bits,IntKind.signed] at h <;> simp only [IntKind.wrap,IntKind.bits,IntKind.signed] <;> (try simp at h ⊢) <;> (try split) <;> omega
 have one:K (.int k (k.wrap r)) [] []→Good P c o ops s K:=fun hK=>Az (rd:=[]) hd hK fun s' ha _ I V B a w hr=>⟨_,hrun s' ha I V B a w hr,by simp [RepV]⟩
 have two:(inK k r→K (.int k r) [] [])∧(¬ inK k r→K (.int k (k.wrap r)) [] [])→Good P c o ops s K:=fun hK=>one (by
  by_cases h:inK k r
  ·rw [wrap h]; exact hK.1 h
  ·exact hK.2 h)
 unfold F6 at h
 cases k <;> first | exact one h | exact two h
end
section
variable {P:Program} {c:Ctx} {ops:Array Oper} {s:Fst} {K:Kont} {o:Oper} {p:Nat}
theorem Vx {op:BinOp} {t t':TypeId} {x y:Operand} (hop:o.op=.binOp op t x y t') (hd:AS c.nt o.dst=true) (h:eOp P (.bin op (MN P t) (trX x) (trX y)) s.sl s.ob p K):Good P c o ops s K:=by
 have hx:x∈o.op.operands.toList:=by simp [hop,Op.operands]
 have hy:y∈o.op.operands.toList:=by simp [hop,Op.operands]
 have guardI:∀ {k k':IntKind} {a b:Int} {w:World},(eqGuard op t x y (.int k a) (.int k' b)).run P w=.ok () w:=by intros; unfold eqGuard; split <;> rfl
 have guardS:∀ {a b:ByteArray} {w:World},(eqGuard op t x y (.string a) (.string b)).run P w=.ok () w:=by intros; unfold eqGuard; split <;> rfl
 have guardB:∀ {a b:Bool} {w:World},(eqGuard op t x y (.bool a) (.bool b)).run P w=.ok () w:=by intros; unfold eqGuard; split <;> rfl
 simp only [eOp] at h
 unfold T5 at h
 split at h
 ·rename_i k n k' m he hf
  obtain ⟨rfl,h⟩:=h
  have ev2:∀ s':Fst,Agrees o ops s s'→∀ {I V B a w},RepI c I V B s' a w→a.eval x=.int k n∧a.eval y=.int k m:=fun s' ha I V B a w hr=>by
   have hv:=An hr x
   have hw:=An hr y
   rw [ha.ev hx,he] at hv
   rw [ha.ev hy,hf] at hw
   simp only [RepV] at hv hw
   exact ⟨hv,hw⟩
  have fin:∀ {v:Value} {sv:SV},K sv [] []→(∀ w,(binOp op t (.int k n) (.int k m)).run P w=.ok v w)→(∀ w I V,RepV w I V sv v)→Good P c o ops s K:=fun hK hrun hrep =>
   Az (rd:=[]) hd hK fun s' ha _ I V B a w hr=>⟨_,by
    obtain ⟨e1,e2⟩:=ev2 s' ha hr
    simp only [execOp,hop,e1,e2]
    refine Be ?_
    rw [Sem.run_bind,guardI]; exact hrun w,hrep _ _ _⟩
  have ari:∀ {r:Int},F6 k r K→(∀ w,(binOp op t (.int k n) (.int k m)).run P w=.ok (.int k (k.wrap r)) w)→Good P c o ops s K:=fun hK hrun =>
   Kn hd hK fun s' ha I V B a w hr=>by
    obtain ⟨e1,e2⟩:=ev2 s' ha hr
    simp only [execOp,hop,e1,e2]
    refine Be ?_
    rw [Sem.run_bind,guardI]; exact hrun w
  unfold T3 at h
  cases op <;> simp only at h
  case add=>exact ari h fun w=>by simp [binOp,Op.intArith]
  case sub=>exact ari h fun w=>by simp [binOp,Op.intArith]
  case mul=>exact ari h fun w=>by simp [binOp,Op.intArith]
  case quo=>exact ari h.2 fun w=>by simp [binOp,Op.intDiv,h.1]
  case rem=>exact fin h.2 (fun w=>by simp [binOp,Op.intDiv,h.1]; rfl) fun _ _ _=>by simp [RepV]
  case eql=>exact fin h (fun w=>by simp [binOp,Op.intCmp]; rfl) fun _ _ _=>by simp [RepV]
  case neq=>exact fin h (fun w=>by simp [binOp,Op.intCmp]; rfl) fun _ _ _=>by simp [RepV]
  case lss=>exact fin h (fun w=>by simp [binOp,Op.intCmp]; rfl) fun _ _ _=>by simp [RepV]
  case leq=>exact fin h (fun w=>by simp [binOp,Op.intCmp]; rfl) fun _ _ _=>by simp [RepV]
  case gtr=>exact fin h (fun w=>by simp [binOp,Op.intCmp]; rfl) fun _ _ _=>by simp [RepV]
  case geq=>exact fin h (fun w=>by simp [binOp,Op.intCmp]; rfl) fun _ _ _=>by simp [RepV]
  case shr =>
   rcases h with ⟨rfl,h⟩ | ⟨⟨rfl,rfl⟩,h⟩
   ·exact fin h (fun w=>by
     rw [binOp_shr,shift_shr _ _ _ _ (by decide) (by cases k <;> decide)]; rfl) fun _ _ _=>by simp [RepV]
   ·exact fin h (fun w=>by
     rw [binOp_shr,shift_shr _ _ _ _ (by decide) (by decide)]; rfl) fun _ _ _=>by simp [RepV]
  case and=>exact fin h (fun w=>by rw [binOp_and,intBits_and]; rfl) fun _ _ _=>by simp [RepV]
  all_goals exact h.elim
 ·rename_i n m he hf
  have ev2:∀ s':Fst,Agrees o ops s s'→∀ {I V B a w},RepI c I V B s' a w→a.eval x=.string n∧a.eval y=.string m:=fun s' ha I V B a w hr=>by
   have hv:=An hr x
   have hw:=An hr y
   rw [ha.ev hx,he] at hv
   rw [ha.ev hy,hf] at hw
   simp only [RepV] at hv hw
   exact ⟨hv.1,hw.1⟩
  have fin:∀ {v:Value} {sv:SV},K sv [] []→(∀ w,(Op.stringOp op n m).run P w=.ok v w)→(∀ w I V,RepV w I V sv v)→Good P c o ops s K:=fun hK hrun hrep =>
   Az (rd:=[]) hd hK fun s' ha _ I V B a w hr=>⟨_,by
    obtain ⟨e1,e2⟩:=ev2 s' ha hr
    simp only [execOp,hop,e1,e2]
    refine Be ?_
    rw [Sem.run_bind,guardS]
    have:binOp op t (.string n) (.string m)=Op.stringOp op n m:=by cases op <;> rfl
    rw [Result.andThen_ok,this]
    exact hrun w,hrep _ _ _⟩
  unfold T4 at h
  cases op <;> simp only at h
  case add=>exact fin (v:=.string (n++m)) h.2 (fun w=>by
    have:¬ (((n.size+m.size:Nat):Int) > IntKind.i64.max):=by
     have e:IntKind.i64.max=9223372036854775807:=by decide
     rw [e]; have:=h.1; omega
    unfold Op.stringOp
    simp only
    rw [Sem.run_ite,if_neg this]; rfl) fun _ _ _=>by simp only [RepV]; exact ⟨trivial,by rw [ByteArray.size_append]; exact h.1⟩
  case eql=>exact fin h (fun w=>by simp only [Op.stringOp,Sem.run_pure]; rfl) fun _ _ _=>by simp [RepV,H2]
  case neq=>exact fin h (fun w=>by simp only [Op.stringOp,Sem.run_pure]; rfl) fun _ _ _=>by simp [RepV,H2]
  case lss=>exact fin h (fun w=>by simp only [Op.stringOp,Sem.run_pure]; rfl) fun _ _ _=>by simp [RepV,strLt]
  case leq=>exact fin h (fun w=>by simp only [Op.stringOp,Sem.run_pure]; rfl) fun _ _ _=>by simp [RepV,strLt,H2]
  case gtr=>exact fin h (fun w=>by simp only [Op.stringOp,Sem.run_pure]; rfl) fun _ _ _=>by simp [RepV,strLt,H2]
  case geq=>exact fin h (fun w=>by simp only [Op.stringOp,Sem.run_pure]; rfl) fun _ _ _=>by simp [RepV,strLt]
  all_goals exact h.elim
 ·rename_i n m he hf
  have ev2:∀ s':Fst,Agrees o ops s s'→∀ {I V B a w},RepI c I V B s' a w→a.eval x=.bool n∧a.eval y=.bool m:=fun s' ha I V B a w hr=>by
   have hv:=An hr x
   have hw:=An hr y
   rw [ha.ev hx,he] at hv
   rw [ha.ev hy,hf] at hw
   simp only [RepV] at hv hw
   exact ⟨hv,hw⟩
  obtain ⟨htb,h⟩:=h
  have htb:P.underlying t=some .bool:=by
   unfold MN at htb
   split at htb
   ·assumption
   ·cases htb
  unfold Vt at h
  cases op <;> simp only at h
  case eql =>
   refine Az (rd:=[]) hd h fun s' ha _ I V B a w hr=>⟨.bool (n == m),?_,by simp [RepV]⟩
   obtain ⟨e1,e2⟩:=ev2 s' ha hr
   simp only [execOp,hop,e1,e2]
   refine Be ?_
   rw [Sem.run_bind,guardB]
   simp only [binOp,Sem.run_bind,run_equal_bool w t n m htb,Result.andThen_ok,Sem.run_pure]
  case neq =>
   refine Az (rd:=[]) hd h fun s' ha _ I V B a w hr=>⟨.bool (!(n == m)),?_,by simp [RepV]⟩
   obtain ⟨e1,e2⟩:=ev2 s' ha hr
   simp only [execOp,hop,e1,e2]
   refine Be ?_
   rw [Sem.run_bind,guardB]
   simp only [binOp,Sem.run_bind,run_equal_bool w t n m htb,Result.andThen_ok,Sem.run_pure]
  all_goals exact h.elim
 ·exact h.elim
theorem Ko {k:IntKind} {r:Int} (h:inK k r):k.wrap r=r:=by
 unfold inK at h
 cases k <;> simp only [IntKind.min,IntKind.max,IntKind.bits,IntKind.signed] at h <;> simp only [IntKind.wrap,IntKind.bits,IntKind.signed] <;> (try simp at h ⊢) <;> (try split) <;> omega
theorem W2 {op:UnOp} {t:TypeId} {x:Operand} (hop:o.op=.unOp op t x) (hd:AS c.nt o.dst=true) (h:eOp P (.un op (trX x)) s.sl s.ob p K):Good P c o ops s K:=by
 have hx:x∈o.op.operands.toList:=by simp [hop,Op.operands]
 simp only [eOp] at h
 split at h
 ·rename_i b he
  refine Az (rd:=[]) hd h fun s' ha _ I V B a w hr=>⟨.bool (!b),?_,by simp [RepV]⟩
  have hv:=An hr x
  rw [ha.ev hx,he] at hv
  simp only [RepV] at hv
  simp only [execOp,hop,hv]
  exact Be (by simp [Op.unary])
 ·rename_i k n he
  refine Az (rd:=[]) hd h.2 fun s' ha _ I V B a w hr=>⟨.int k (k.wrap (0-n)),?_,by rw [Ko h.1]; simp [RepV]⟩
  have hv:=An hr x
  rw [ha.ev hx,he] at hv
  simp only [RepV] at hv
  simp only [execOp,hop,hv]
  exact Be (by simp [Op.unary,Op.intArith])
 ·exact h.elim
theorem T9 {sr ds:TypeId} {x:Operand} {k:IntKind} {d:TypeDesc} (hop:o.op=.convert sr ds x) (h1:P.underlying sr=some d) (h2:P.underlying ds=some (.int k)) (hd:AS c.nt o.dst=true) (h:eOp P (.conv k (trX x)) s.sl s.ob p K):Good P c o ops s K:=by
 have hx:x∈o.op.operands.toList:=by simp [hop,Op.operands]
 simp only [eOp] at h
 split at h
 ·rename_i k' n he
  refine Kn hd h fun s' ha I V B a w hr=>?_
  have hv:=An hr x
  rw [ha.ev hx,he] at hv
  simp only [RepV] at hv
  simp only [execOp,hop,hv]
  exact Be (by simp [convert,run_underlying h1,run_underlying h2,Conv.intToInt])
 ·exact h.elim
theorem Vy {x:Operand} (hop:o.op=.nilCheck x) (hd:AS c.nt o.dst=true) (h:eOp P (.nilchk (trX x)) s.sl s.ob p K):Good P c o ops s K:=by
 have hx:x∈o.op.operands.toList:=by simp [hop,Op.operands]
 have fin:∀ {sv:SV},As s.sl (trX x)=sv→K sv [] []→(∀ {w I V v},RepV w I V sv v→∃ b off,v=.pointer (some ⟨b,off,none⟩))→Good P c o ops s K:=fun he hK hf =>
  Az (rd:=[]) hd hK fun s' ha _ I V B a w hr=>by
   have hv:=An hr x
   rw [ha.ev hx,he] at hv
   obtain ⟨b,off,e⟩:=hf hv
   exact ⟨_,by simp only [execOp,hop,e]; rfl,by rw [←e]; exact hv⟩
 simp only [eOp] at h
 split at h
 ·rename_i g q he
  exact fin he h fun hv=>by simp only [RepV] at hv; obtain ⟨b,_,e⟩:=hv; exact ⟨_,_,e⟩
 ·rename_i g sz k q he
  exact fin he h fun hv=>by simp only [RepV] at hv; obtain ⟨b,_,_,_,_,e⟩:=hv; exact ⟨_,_,e⟩
 ·rename_i es k q he
  exact fin he h fun hv=>by simp only [RepV] at hv; obtain ⟨b,_,_,_,_,e⟩:=hv; exact ⟨_,_,e⟩
 ·exact h.elim
theorem Agrees.evs {s':Fst} (ha:Agrees o ops s s'):∀ {ys:List Operand},(∀ y∈ys,y∈o.op.operands.toList)→ys.map (fun y=>As s'.sl (trX y))=ys.map fun y=>As s.sl (trX y):=fun h=>yP fun y hy=>ha.ev (h y hy)
theorem TA {f:FuncId} {caps:Array Operand} (hop:o.op=.makeFunc (.func f) #[] caps) (hd:AS c.nt o.dst=true) (h:eOp P (.mkfn f (caps.toList.map trX)) s.sl s.ob p K):Good P c o ops s K:=by
 refine Az (rd:=[]) hd h fun s' ha _ I V B a w hr=>⟨.func (.func f) #[] (caps.map a.eval),?_,?_⟩
 ·simp only [execOp,hop]
  exact Be (by simp only [Instr.makeFunc,Sem.run_pure]; simp)
 ·simp only [RepV]
  refine ⟨caps.toList.map a.eval,by rw [←xI],?_⟩
  have:=JT hr caps.toList
  rw [ha.evs (ys:=caps.toList) (by simp [hop,Op.operands])] at this
  rw [y8]
  exact this
theorem Jq {f:FuncId} {args:Array Value} (h:JK P f=true) (w:World):(callFunc f args).run P w=.ok (.enter f args) w:=by
 unfold JK at h
 split at h
 ·rename_i fn hf
  simp only [z1,bne_iff_ne,ne_eq] at h
  have h2:¬ fn.body=none:=by intro hb; rw [hb] at h; simp at h
  simp [callFunc,hf,h.1,h2]
 ·cases h
theorem TB {f:FuncId} {args:Array Operand} {ts:Array TypeId} (hop:o.op=.call ⟨.value (.func f),args,ts⟩) (hf:JK P f=true) (hd:AS c.nt o.dst=true) (h:eOp P (.call f (args.toList.map trX)) s.sl s.ob p K):Good P c o ops s K:=by
 simp only [eOp] at h
 obtain ⟨x,upd,rd,hK,hc⟩:=h
 refine ⟨x,upd,rd,hK,fun s' ha hrd hup=>NB hd (hc s'.ob hrd hup) fun I V B a w hr=>⟨args.toList.map a.eval,?_,?_⟩⟩
 ·simp only [execOp,hop,resolve,Act.eval,Deferred.ofValue,invoke]
  simp only [Sem.run_bind,Sem.run_pure,Result.andThen_ok,invoke,Array.append_empty,Jq hf]
  congr 2
  apply xN
  simp
 ·have:=JT hr args.toList
  rw [ha.evs (ys:=args.toList) (fun y hy=>by simp only [hop,Op.operands,Call.operands,Array.toList_append]; exact yL _ hy)] at this
  rw [y8]
  exact this
theorem Kp {y:Operand} {args:Array Operand} {ts:Array TypeId} (hop:o.op=.call ⟨.value y,args,ts⟩) (hd:AS c.nt o.dst=true) (h:eOp P (.callv (trX y) (args.toList.map trX)) s.sl s.ob p K):Good P c o ops s K:=by
 simp only [eOp] at h
 split at h
 ·rename_i f caps he
  obtain ⟨hf,x,upd,rd,hK,hc⟩:=h
  refine ⟨x,upd,rd,hK,fun s' ha hrd hup=>NB hd (hc s'.ob hrd hup) fun I V B a w hr=>?_⟩
  have hv:=An hr y
  rw [ha.ev (by simp [hop,Op.operands,Call.operands]),he] at hv
  simp only [RepV] at hv
  obtain ⟨vs,hv,hrep⟩:=hv
  refine ⟨args.toList.map a.eval++vs,?_,?_⟩
  ·simp only [execOp,hop,resolve,hv,Deferred.ofValue,invoke]
   simp only [Sem.run_bind,Sem.run_pure,Result.andThen_ok,invoke,Jq hf]
   congr 2
   apply xN
   simp
  ·have:=JT hr args.toList
   rw [ha.evs (ys:=args.toList) (fun y hy=>by simp only [hop,Op.operands,Call.operands,Array.toList_append]; exact yL _ hy)] at this
   rw [y8]
   exact this.app hrep
 ·exact h.elim
theorem LV {x y:Operand} {mx:Bool} {ts:Array TypeId} (hop:o.op=.call ⟨.builtin (if mx then .max else .min),#[x,y],ts⟩) (hd:AS c.nt o.dst=true) (h:eOp P (.minmax mx (trX x) (trX y)) s.sl s.ob p K):Good P c o ops s K:=by
 simp only [eOp] at h
 split at h
 ·rename_i k n k' m he hf
  obtain ⟨rfl,h⟩:=h
  refine Az (rd:=[]) hd h fun s' ha _ I V B a w hr=>⟨.int k (if mx then (if m > n then m else n) else (if m<n then m else n)),?_,by simp [RepV]⟩
  have hv:=An hr x
  have hw:=An hr y
  rw [ha.ev (by simp [hop,Op.operands,Call.operands]),he] at hv
  rw [ha.ev (by simp [hop,Op.operands,Call.operands]),hf] at hw
  simp only [RepV] at hv hw
  simp only [execOp,hop,resolve,invoke,Sem.run_bind,Sem.run_pure,Result.andThen_ok]
  cases mx
  ·simp [builtin,Builtin.min_,Builtin.min2,hv,hw]
  ·simp [builtin,Builtin.max_,Builtin.max2,hv,hw]
 ·exact h.elim
end
section
variable {P:Program} {c:Ctx} {ops:Array Oper} {s:Fst} {K:Kont} {o:Oper} {p:Nat}
theorem DRep.sub {w:World} {I:Nat→Prop} {es:List (List D)} {a:Option Addr} {n cp l h:Nat} {size:Nat} (hD:DRep false w I (.arr es) (.slice a n cp)) (hsz:∀ e∈es,e.length=size) (h1:l≤h) (h2:h≤es.length) :
  DRep false w I (.arr ((es.take h).drop l)) (.slice (if cp=l then a else a.map (·.add (l*size))) (h-l) (cp-l)):=by
 have hlen:((es.take h).drop l).length=h-l:=by simp; omega
 cases hD with
 | arr S sz es a cap f Sub g1 g2 g3 g4 g5 g6 g7 =>
  rw [←hlen]
  have hget:∀ i (hi:i<((es.take h).drop l).length),((es.take h).drop l)[i]=es[l+i]'(by rw [hlen] at hi; omega):=fun i hi=>by simp
  refine DRep.arr I sz _ _ (cp-l) (fun i j=>f (l+i) j) (fun i j=>Sub (l+i) j) (by rw [hlen]; omega) (by omega) ?_ ?_ (fun i j x hx=>g5 (l+i) j x hx) (fun e=>by cases e) ?_
  ·rcases g3 with g3 | ⟨b,off,ha,hS,hlt,hc,_⟩
   ·left; rw [hlen]; omega
   ·by_cases e0:h-l=0
    ·left; rw [hlen]; exact e0
    ·right
     have hne:¬ cp=l:=by omega
     have hs:size=sz:=by
      have:=hsz es[0] (z7 (by omega))
      rw [←this]; exact g4 0 (by omega)
     subst hs
     refine ⟨b,off+l*size,?_,hS,hlt,fun i j hi hj=>?_,fun e=>by cases e⟩
     ·rw [if_neg hne,ha]; simp [Addr.add_lit]
     ·rw [hlen] at hi
      have:=hc (l+i) j (by omega) hj
      rw [zP] at this
      rwa [show off+l*size+i*size+j=off+(l*size+i*size)+j by omega]
  ·intro i hi
   rw [hget i hi]
   exact g4 _ _
  ·intro i j hi hj
   have e1:=hget i hi
   have hj':j<(es[l+i]'(by rw [hlen] at hi; omega)).length:=by rw [←e1]; exact hj
   have:=g7 (l+i) j (by rw [hlen] at hi; omega) hj'
   have e2:((es.take h).drop l)[i][j]=(es[l+i]'(by rw [hlen] at hi; omega))[j]:=by simp only [e1]
   rw [e2]; exact this
theorem Kq {a:Act} {w:World} {I:Nat→Prop} {V:Nat→Option Value} {sl:Nat→SV} {lo:Option Operand} {q:Int} (h:FK (As sl) (lo.map trX)=some q) (hr:∀ y,lo=some y→RepV w I V (As sl (trX y)) (a.eval y)) :
  (lo=none∧q=0)∨∃ y k,lo=some y∧a.eval y=.int k q:=by
 cases lo with
 | none=>left; simp only [zS,FK,zF] at h; exact ⟨rfl,h.symm⟩
 | some y =>
  right
  simp only [zW,FK] at h
  have:=hr y rfl
  unfold OP at h
  split at h
  ·rename_i k n he
   obtain rfl:=zB h
   rw [he] at this
   simp only [RepV] at this
   exact ⟨y,k,rfl,this⟩
  ·cases h
theorem Kr {a:Act} {w:World} {I:Nat→Prop} {V:Nat→Option Value} {sl:Nat→SV} {hi:Option Operand} {m:Nat} {q:Int} (h:G0 (As sl) m (hi.map trX)=some q) (hr:∀ y,hi=some y→RepV w I V (As sl (trX y)) (a.eval y)) :
  (hi=none∧q=m)∨∃ y k,hi=some y∧a.eval y=.int k q:=by
 cases hi with
 | none=>left; simp only [zS,G0,zF] at h; exact ⟨rfl,h.symm⟩
 | some y =>
  right
  simp only [zW,G0] at h
  have:=hr y rfl
  unfold OP at h
  split at h
  ·rename_i k n he
   obtain rfl:=zB h
   rw [he] at this
   simp only [RepV] at this
   exact ⟨y,k,rfl,this⟩
  ·cases h
theorem EJ {isS:Bool} {len cap:Nat} {lo hi:Option Operand} {a:Act} {w:World} {l h:Int} (hl:(lo=none∧l=0)∨∃ y k,lo=some y∧a.eval y=.int k l) (hh:(hi=none∧h=len)∨∃ y k,hi=some y∧a.eval y=.int k h)
  (h0:0≤l) (h1:l≤h) (h2:h≤cap):(Instr.sliceBounds isS len cap (lo.map a.eval) (hi.map a.eval) none).run P w=.ok (l.toNat,h.toNat,cap) w:=by
 have sb:∀ (k:IntKind) (q:Int) (m:Nat) (code:BoundsCode),0≤q→q≤m→(Instr.sliceBound (.int k q) m code).run P w=.ok q.toNat w:=fun k q m code g0 g1=>by
  simp [Instr.sliceBound,asIntOf,g0,g1]
 have hlh:l≤(h.toNat:Int):=by omega
 rcases hl with ⟨rfl,rfl⟩ | ⟨y,k,rfl,hy⟩ <;> rcases hh with ⟨rfl,rfl⟩ | ⟨z,k',rfl,hz⟩
 ·simp [Instr.sliceBounds]
 ·simp only [Instr.sliceBounds,zS,zW,hz,Sem.run_bind,Sem.run_pure,Result.andThen_ok,sb k' h cap _ (by omega) h2]; rfl
 ·simp only [Instr.sliceBounds,zS,zW,hy,Sem.run_bind,Sem.run_pure,Result.andThen_ok,sb k l len _ h0 h1]; rfl
 ·simp only [Instr.sliceBounds,zS,zW,hy,hz,Sem.run_bind,Sem.run_pure,Result.andThen_ok,sb k' h cap _ (by omega) h2,sb k l h.toNat _ h0 hlh]
theorem MR {t:TypeId} {x:Operand} {lo hi:Option Operand} {sz:Nat} (hop:o.op=.slice t x lo hi none) (hu:P.underlying t=some .string) (hd:AS c.nt o.dst=true) (h:eOp P (.slice true sz (trX x) (lo.map trX) (hi.map trX)) s.sl s.ob p K):Good P c o ops s K:=by
 have hx:x∈o.op.operands.toList:=by simp [hop,Op.operands]
 simp only [eOp] at h
 split at h
 ·rename_i q he
  split at h
  ·rename_i l h' hl hh
   obtain ⟨⟨h0,h1,h2⟩,_,hK⟩:=h
   refine Az (rd:=[]) hd hK fun s' ha _ I V B a w hr=>⟨.string (q.extract l.toNat h'.toNat),?_,?_⟩
   ·have hv:=An hr x
    rw [ha.ev hx,he] at hv
    simp only [RepV] at hv
    have hl':=Kq (a:=a) (w:=w) (I:=I) (V:=V) hl fun y hy=>by rw [←ha.ev (y:=y) (by simp [hop,Op.operands,hy])]; exact An hr y
    have hh':=Kr (a:=a) (w:=w) (I:=I) (V:=V) hh fun y hy=>by rw [←ha.ev (y:=y) (by simp [hop,Op.operands,hy])]; exact An hr y
    simp only [execOp,hop,hv.1]
    refine Be ?_
    simp only [Instr.sliceAt,Sem.run_bind,run_underlying hu,Result.andThen_ok,zS]
    simp [Instr.slice,run_underlying hu,EJ hl' hh' h0 h1 h2]
   ·have hv:=An hr x
    rw [ha.ev hx,he] at hv
    simp only [RepV] at hv ⊢
    refine ⟨trivial,?_⟩
    have:=hv.2
    have e1:(q.extract l.toNat h'.toNat).size≤q.size:=by rw [ByteArray.size_extract]; omega
    omega
  ·exact h.elim
 ·rename_i es he
  split at h
  ·exact absurd h.2.1 (by simp)
  ·exact h.elim
 ·split at h
  ·split at h
   ·exact absurd h.2.1 (by simp)
   ·exact h.elim
  ·split at h
   ·exact absurd h.2.1 (by simp)
   ·exact h.elim
  ·exact h.elim
 ·exact h.elim
theorem After.frz {w:World} {I:Nat→Prop} {V:Nat→Option Value} {B:Nat→Nat→Prop} {ob:Nat→Ob} {g:Nat} (hwf:Wf w I V B ob) (hl:(ob g).live):After w I V B ob [(g,.gone)] w (fun b=>I b∨B g b) V B:=by
 have hself:A1 ob [(g,.gone)] g=.gone:=by unfold A1; simp [AE]
 have hoth:∀ g',g'≠g→A1 ob [(g,.gone)] g'=ob g':=fun g' h=>by
  unfold A1
  simp [AE,h,Ne.symm h]
 have hlive:∀ g',(A1 ob [(g,.gone)] g').live→g'≠g∧(ob g').live:=fun g' h=>by
  by_cases e:g'=g
  ·subst e; rw [hself] at h; exact h.elim
  ·rw [hoth g' e] at h; exact ⟨e,h⟩
 have htch:∀ g',Ao [(g,Ob.gone)] g' ↔ g'=g:=fun g'=>by simp [Ao]
 refine ⟨⟨fun b hb=>hb.elim (hwf.ilt b) (hwf.lt g b hl),fun g' h=>?_,fun g' b h hb=>hwf.lt g' b (hlive g' h).2 hb,fun g' b h hb hI=>?_,fun g1 g2 b h1 h2=>hwf.dO g1 g2 b (hlive g1 h1).2 (hlive g2 h2).2,fun g' h=>?_,hwf.gl.keep (KeepS.refl _ _) fun _ h=>.inl h⟩,rfl,TapeOk.mk' rfl rfl,rfl,zL _,fun _ _ _=>rfl,fun _ h=>.inl h,fun b h=>?_,VLe.refl V,fun _ _=>rfl,fun g' b ht h _=>?_⟩
 ·obtain ⟨h1,h2⟩:=hlive g' h
  rw [hoth g' h1]
  obtain ⟨val,h3,h4⟩:=hwf.obj g' h2
  exact ⟨val,h3,h4.keep (KeepS.refl _ _) (fun _ h=>.inl h) (VLe.refl V) fun _ _ _=>rfl⟩
 ·obtain ⟨h1,h2⟩:=hlive g' h
  rcases hI with hI | hI
  ·exact hwf.dI g' b h2 hb hI
  ·exact h1 (hwf.dO g' g b h2 hl hb hI)
 ·by_cases e:g'=g
  ·subst e; rw [hself] at h; cases h
  ·rw [hoth g' e] at h; exact hwf.fr g' h
 ·rcases h with h | h
  ·exact .inl h
  ·exact .inr (.inr ⟨g,(htch g).2 rfl,hl,h⟩)
 ·obtain rfl:=(htch g').1 ht
  rw [hself] at h; exact h.elim
theorem After.shd {w:World} {I:Nat→Prop} {V:Nat→Option Value} {B:Nat→Nat→Prop} {ob:Nat→Ob} {g:Nat} {es:List (List D)} {val:Value} (hwf:Wf w I V B ob) (hl:(ob g).live) (hV:V g=some val) (hD:DRep false w (fun b=>I b∨B g b) (.arr es) val) :
  After w I V B ob [(g,.shd es)] w (fun b=>I b∨B g b) V (fun x b=>x≠g∧B x b):=by
 have hself:A1 ob [(g,.shd es)] g=.shd es:=by unfold A1; simp [AE]
 have hoth:∀ g',g'≠g→A1 ob [(g,.shd es)] g'=ob g':=fun g' h=>by
  unfold A1
  simp [AE,h,Ne.symm h]
 have hlive:∀ g',g'≠g→(A1 ob [(g,.shd es)] g').live→(ob g').live:=fun g' e h=>by
  rw [hoth g' e] at h; exact h
 have htch:∀ g',Ao [(g,Ob.shd es)] g' ↔ g'=g:=fun g'=>by simp [Ao]
 have hB:∀ g',g'≠g→(fun b=>g'≠g∧B g' b)=B g':=fun g' e=>funext fun b=>propext ⟨fun h=>h.2,fun h=>⟨e,h⟩⟩
 refine ⟨⟨fun b hb=>hb.elim (hwf.ilt b) (hwf.lt g b hl),fun g' h=>?_,fun g' b h hb=>hwf.lt g' b (hlive g' hb.1 h) hb.2,fun g' b h hb hI=>?_,fun g1 g2 b h1 h2 hb1 hb2=>hwf.dO g1 g2 b (hlive g1 hb1.1 h1) (hlive g2 hb2.1 h2) hb1.2 hb2.2,fun g' h=>?_,hwf.gl.keep (KeepS.refl _ _) fun _ h=>.inl h⟩,rfl,TapeOk.mk' rfl rfl,rfl,zL _,fun _ _ _=>rfl,fun _ h=>.inl h,fun b h=>?_,VLe.refl V,fun g' hn=>hB g' fun e=>hn ((htch g').2 e),fun g' b ht h hb=>absurd ((htch g').1 ht) hb.1⟩
 ·by_cases e:g'=g
  ·subst e
   rw [hself]
   exact ⟨val,hV,hD⟩
  ·have h2:=hlive g' e h
   rw [hoth g' e,hB g' e]
   obtain ⟨val,h3,h4⟩:=hwf.obj g' h2
   exact ⟨val,h3,h4.keep (KeepS.refl _ _) (fun _ h=>.inl h) (VLe.refl V) fun _ _ _=>rfl⟩
 ·have h2:=hlive g' hb.1 h
  rcases hI with hI | hI
  ·exact hwf.dI g' b h2 hb.2 hI
  ·exact hb.1 (hwf.dO g' g b h2 hl hb.2 hI)
 ·by_cases e:g'=g
  ·subst e; rw [hself] at h; cases h
  ·rw [hoth g' e] at h; exact hwf.fr g' h
 ·rcases h with h | h
  ·exact .inl h
  ·exact .inr (.inr ⟨g,(htch g).2 rfl,hl,h⟩)
theorem RP {t e:TypeId} {i:TypeInfo} {x:Operand} {lo hi:Option Operand} (hop:o.op=.slice t x lo hi none) (hu:P.underlying t=some (.slice e)) (hi':P.info? e=some i) (hd:AS c.nt o.dst=true) (hp:s.ob p=.free) (h:eOp P (.slice false i.size (trX x) (lo.map trX) (hi.map trX)) s.sl s.ob p K):Good P c o ops s K:=by
 have hx:x∈o.op.operands.toList:=by simp [hop,Op.operands]
 simp only [eOp] at h
 split at h
 ·rename_i q he
  split at h
  ·exact absurd h.2.1 (by simp)
  ·exact h.elim
 ·rename_i es he
  split at h
  ·rename_i l h' hl hh
   obtain ⟨⟨h0,h1,h2⟩,_,hsz,hK⟩:=h
   refine Az (rd:=[]) hd hK fun s' ha _ I V B a w hr=>?_
   have hv:=An hr x
   rw [ha.ev hx,he] at hv
   simp only [RepV] at hv
   obtain ⟨q,cp,e1,h3,h4,_⟩:=hv.slice_form
   have hl':=Kq (a:=a) (w:=w) (I:=I) (V:=V) hl fun y hy=>by rw [←ha.ev (y:=y) (by simp [hop,Op.operands,hy])]; exact An hr y
   have hh':=Kr (a:=a) (w:=w) (I:=I) (V:=V) hh fun y hy=>by rw [←ha.ev (y:=y) (by simp [hop,Op.operands,hy])]; exact An hr y
   rw [e1] at hv
   refine ⟨_,?_,by simp only [RepV]; exact hv.sub hsz (l:=l.toNat) (h:=h'.toNat) (by omega) (by omega)⟩
   simp only [execOp,hop,e1]
   refine Be ?_
   simp only [Instr.sliceAt,Sem.run_bind,run_underlying hu,Result.andThen_ok,zS]
   simp [Instr.slice,run_underlying hu,EJ (isS:=true) (len:=es.length) (cap:=cp) hl' hh' h0 h1 (by omega),sizeOf,typeInfo,hi']
  ·exact h.elim
 ·rename_i g he
  split at h
  ·rename_i t0 sz' es hob
   split at h
   ·rename_i l h' hl hh
    obtain ⟨⟨h0,h1,h2⟩,_,hsz,⟨hfull,hK⟩ | ⟨hpf,hK⟩⟩:=h
    rotate_left
    ·subst hsz
     obtain ⟨rfl,q,rfl⟩:lo=none∧∃ q,hi=some q:=by
      cases lo with
      | some y=>simp [pfx] at hpf
      | none=>cases hi with
       | none=>simp [pfx] at hpf
       | some q=>exact ⟨rfl,q,rfl⟩
     have hpg:p≠g:=fun e=>by rw [e,hob] at hp; cases hp
     refine ⟨_,_,_,hK,fun s' ha hrd hup=>Cn hd fun I V B a w hr=>?_⟩
     have hobs:s'.ob g=.row t0 i.size es:=by rw [hup g (by simp),hob]
     have hp':s'.ob p=.free:=by rw [hup p (by simp),hp]
     have hlive:(s'.ob g).live:=by rw [hobs]; trivial
     have hwf:=hr.wf
     have hVp:V p=none:=hwf.fr p hp'
     have hv:=An hr x
     rw [ha.ev hx,he] at hv
     simp only [RepV] at hv
     obtain ⟨val,hval,hrow⟩:=hr.wf.obj g hlive
     rw [hobs] at hrow
     rw [hv.1] at hval
     have hval:=zB hval
     have hrow:RowR w I (B g) t0 i.size es val:=hrow
     rw [←hval] at hrow
     obtain ⟨q',cp,e1,h3,h4,_⟩:=hrow.form
     have hl':=Kq (a:=a) (w:=w) (I:=I) (V:=V) hl fun y hy=>by cases hy
     have hh':=Kr (a:=a) (w:=w) (I:=I) (V:=V) hh fun y hy=>by rw [←ha.ev (y:=y) (by simp [hop,Op.operands,hy])]; exact An hr y
     have hl0:l=0:=by simp [FK] at hl; exact hl.symm
     subst hl0
     have hT:∃ u,RowR w I (B g) t0 i.size (es.take h'.toNat) u∧(execOp a.eval o).run P w=.ok (.value u) w:=by
      have run:∀ (q':Option Addr) (cp:Nat),a.eval x=.slice q' es.length cp→es.length≤cp→(execOp a.eval o).run P w=.ok (.value (.slice q' h'.toNat cp)) w:=by
       intro q' cp e1 h3
       simp only [execOp,hop,e1]
       refine Be ?_
       simp only [Instr.sliceAt,Sem.run_bind,run_underlying hu,Result.andThen_ok,zS]
       have rb:=EJ (P:=P) (w:=w) (isS:=true) (len:=es.length) (cap:=cp) hl' hh' h0 h1 (by omega)
       simp only [zS,zW] at rb
       simp [Instr.slice,run_underlying hu,rb,sizeOf,typeInfo,hi']
       intro _
       cases q' <;> simp [Addr.add]
      rcases hrow with ⟨rfl,e2⟩ | ⟨b,cap,cur,Sub,e2,hS,hb,g1,g2,g3,g4,g5,g6,g7⟩
      ·have h'0:h'.toNat=0:=by simp at h2; omega
       refine ⟨.slice none 0 0,.inl ⟨by simp,rfl⟩,?_⟩
       have:=run none 0 e2 (zL _)
       rw [h'0] at this
       exact this
      ·have hlt:(es.take h'.toNat).length=h'.toNat:=by rw [z8]; omega
       refine ⟨.slice (some ⟨b,0,none⟩) h'.toNat cap,.inr ⟨b,cap,cur,Sub,by rw [hlt],hS,hb,by rw [hlt]; omega,g2,g3,fun i hi=>?_,g5,g6,fun i j hi hj=>?_⟩,run _ _ e2 g1⟩
       ·rw [xB]; exact g4 i (by omega)
       ·have e3:(es.take h'.toNat)[i]=es[i]'(by omega):=xB
        simp only [e3]
        exact g7 i j (by omega) (by rw [e3] at hj; exact hj)
     obtain ⟨u,hu1,hu2⟩:=hT
     have hVV:VLe V (fun x=>if x=p then some u else V x):=fun x y hy=>by
      by_cases e:x=p
      ·subst e; rw [hVp] at hy; cases hy
      ·simp only [if_neg e]; exact hy
     have ht:∀ x,Ao [(p,Ob.row t0 i.size (es.take h'.toNat)),(g,Ob.gone)] x ↔ x=p∨x=g:=fun x=>by simp [Ao]
     have k1:A1 s'.ob [(p,Ob.row t0 i.size (es.take h'.toNat)),(g,Ob.gone)] p=.row t0 i.size (es.take h'.toNat):=by simp [A1,AE]
     have k2:A1 s'.ob [(p,Ob.row t0 i.size (es.take h'.toNat)),(g,Ob.gone)] g=.gone:=by simp [A1,AE,hpg]
     have only:∀ x,Ao [(p,Ob.row t0 i.size (es.take h'.toNat)),(g,Ob.gone)] x→(A1 s'.ob [(p,Ob.row t0 i.size (es.take h'.toNat)),(g,Ob.gone)] x).live→x=p:=fun x hx hl=>by
      rcases (ht x).1 hx with rfl | rfl
      ·rfl
      ·rw [k2] at hl; exact hl.elim
     refine ⟨u,w,I,fun x=>if x=p then some u else V x,fun x b=>if x=p then B g b else B x b,hu2,?_,?_⟩
     ·refine After.mk' hwf rfl (TapeOk.mk' rfl rfl) rfl (zL _) (fun _ _ _=>rfl) hVV (fun x hx=>?_) (fun x hx hl'=>?_) (fun x b hx hl' hb=>?_) (fun x x' b hx hx' hl1 hl2 hb hb'=>?_) (fun x hx hf=>?_)
      ·have n1:¬ x=p:=fun e=>hx ((ht x).2 (.inl e))
       exact ⟨by funext b; simp only [if_neg n1],fun hf=>by simp only [if_neg n1]; exact hwf.fr x hf⟩
      ·obtain rfl:=only x hx hl'
       rw [k1]
       refine ⟨u,if_pos rfl,?_⟩
       simp only [if_true]
       exact hu1
      ·obtain rfl:=only x hx hl'
       simp only [if_true] at hb
       exact .inr ⟨g,(ht g).2 (.inr rfl),hlive,hb⟩
      ·rw [only x hx hl1,only x' hx' hl2]
      ·rcases (ht x).1 hx with rfl | rfl
       ·rw [k1] at hf; cases hf
       ·rw [k2] at hf; cases hf
     ·simp only [RepV,if_true,true_and]
      rcases hu1 with ⟨_,rfl⟩ | ⟨_,_,_,_,rfl,_⟩ <;> rfl
    subst hsz
    refine ⟨_,_,_,hK,fun s' ha hrd hup=>Cn hd fun I V B a w hr=>?_⟩
    have hobs:s'.ob g=.row t0 i.size es:=by rw [hup g (by simp),hob]
    have hlive:(s'.ob g).live:=by rw [hobs]; trivial
    have hv:=An hr x
    rw [ha.ev hx,he] at hv
    simp only [RepV] at hv
    obtain ⟨val,hval,hrow⟩:=hr.wf.obj g hlive
    rw [hobs] at hrow
    have hval':=hval
    rw [hv.1] at hval
    have hval:=zB hval
    have hrow:RowR w I (B g) t0 i.size es val:=hrow
    have hD0:=hrow.er (T:=fun b=>I b∨B g b) (fun _ h=>.inr h) (fun _ h=>.inl h) hfull
    rw [←hval] at hrow
    have hlen:(OT.erss es).length=es.length:=by rw [OT.EI]; simp
    have hD:=hrow.er (T:=fun b=>I b∨B g b) (fun _ h=>.inr h) (fun _ h=>.inl h) hfull
    have hrl:∀ k (hk:k<es.length),es[k].length=i.size:=by
     rcases hrow with ⟨rfl,_⟩ | ⟨_,_,_,_,_,_,_,_,_,_,h4,_⟩
     ·exact fun k hk=>absurd hk (by simp)
     ·exact h4
    have hsz:∀ e∈OT.erss es,e.length=i.size:=fun e he=>by
     rw [OT.EI] at he
     obtain ⟨l,h1,rfl⟩:=zY.1 he
     rw [yK]
     obtain ⟨k,hk,rfl⟩:=List.getElem_of_mem h1
     exact hrl k hk
    obtain ⟨q,cp,e1,h3,h4,_⟩:=hD.slice_form
    have hl':=Kq (a:=a) (w:=w) (I:=I) (V:=V) hl fun y hy=>by rw [←ha.ev (y:=y) (by simp [hop,Op.operands,hy])]; exact An hr y
    have hh':=Kr (a:=a) (w:=w) (I:=I) (V:=V) hh fun y hy=>by rw [←ha.ev (y:=y) (by simp [hop,Op.operands,hy])]; exact An hr y
    rw [e1] at hD
    rw [hlen] at hD h3 e1
    have hD':=hD.sub hsz (l:=l.toNat) (h:=h'.toNat) (by omega) (by rw [hlen]; omega)
    refine ⟨_,w,_,V,_,?_,After.shd hr.wf hlive hval' hD0,by simp only [RepV]; exact hD'⟩
    simp only [execOp,hop,e1]
    refine Be ?_
    simp only [Instr.sliceAt,Sem.run_bind,run_underlying hu,Result.andThen_ok,zS]
    simp [Instr.slice,run_underlying hu,EJ (isS:=true) (len:=es.length) (cap:=cp) hl' hh' h0 h1 (by omega),sizeOf,typeInfo,hi']
   ·exact h.elim
  ·rename_i es hob
   split at h
   ·rename_i l h' hl hh
    obtain ⟨⟨h0,h1,h2⟩,_,hsz,hK⟩:=h
    refine Az (rd:=[g]) hd hK fun s' ha hrd I V B a w hr=>?_
    have hobs:s'.ob g=.shd es:=by rw [hrd g (by simp),hob]
    have hlive:(s'.ob g).live:=by rw [hobs]; trivial
    have hv:=An hr x
    rw [ha.ev hx,he] at hv
    simp only [RepV] at hv
    obtain ⟨val,hval,hrow⟩:=hr.wf.obj g hlive
    rw [hobs] at hrow
    rw [hv.1] at hval
    have hval:=zB hval
    have hD:DRep false w I (.arr es) val:=hrow
    rw [←hval] at hD
    obtain ⟨q,cp,e1,h3,h4,_⟩:=hD.slice_form
    have hl':=Kq (a:=a) (w:=w) (I:=I) (V:=V) hl fun y hy=>by rw [←ha.ev (y:=y) (by simp [hop,Op.operands,hy])]; exact An hr y
    have hh':=Kr (a:=a) (w:=w) (I:=I) (V:=V) hh fun y hy=>by rw [←ha.ev (y:=y) (by simp [hop,Op.operands,hy])]; exact An hr y
    rw [e1] at hD
    refine ⟨_,?_,by simp only [RepV]; exact hD.sub hsz (l:=l.toNat) (h:=h'.toNat) (by omega) (by omega)⟩
    simp only [execOp,hop,e1]
    refine Be ?_
    simp only [Instr.sliceAt,Sem.run_bind,run_underlying hu,Result.andThen_ok,zS]
    simp [Instr.slice,run_underlying hu,EJ (isS:=true) (len:=es.length) (cap:=cp) hl' hh' h0 h1 (by omega),sizeOf,typeInfo,hi']
   ·exact h.elim
  ·exact h.elim
 ·exact h.elim
theorem CF {α:Type} {l vs:List α} {o j:Nat} (h:o+vs.length≤l.length):(splice l o vs)[j]?=if j<o then l[j]? else if j<o+vs.length then vs[j-o]? else l[j]?:=by
 unfold splice
 have e1:(l.take o).length=o:=by rw [z8]; omega
 by_cases h1:j<o
 ·rw [if_pos h1,List.append_assoc,yG (by omega),xD h1]
 ·rw [if_neg h1,List.append_assoc,yB (by omega),e1]
  by_cases h2:j<o+vs.length
  ·rw [if_pos h2,yG (by omega)]
  ·rw [if_neg h2,yB (by omega),yU]
   congr 1; omega
theorem DP {α:Type} {l vs:List α} {o:Nat} (h:o+vs.length≤l.length):(splice l o vs).length=l.length:=by
 unfold splice
 simp only [yE,z8,List.length_drop]; omega
theorem Ks (cs:List Value):∀ (vs:List Value) (off:Nat),off+vs.length≤cs.length→(vs.zipIdx.foldl (fun (acc:Array Value) (x:Value × Nat)=>acc.setIfInBounds (off+x.2) x.1) cs.toArray)=(splice cs off vs).toArray:=by
 have key:∀ (vs:List Value) (k off:Nat) (cs:List Value),off+k+vs.length≤cs.length→((vs.zipIdx k).foldl (fun (acc:Array Value) (x:Value × Nat)=>acc.setIfInBounds (off+x.2) x.1) cs.toArray)=(splice cs (off+k) vs).toArray:=by
  intro vs
  induction vs with
  | nil=>intro k off cs h; simp [splice]
  | cons v vs ih =>
   intro k off cs h
   simp only [List.zipIdx_cons,List.foldl_cons,List.setIfInBounds_toArray]
   simp only [xG] at h
   rw [ih (k+1) off (cs.set (off+k) v) (by simp; omega)]
   congr 1
   apply List.ext_getElem?
   intro j
   rw [CF (by simp; omega),CF (by simp; omega)]
   simp only [xG]
   by_cases h1:j<off+k
   ·rw [if_pos (by omega),if_pos h1,z6 (by omega)]
   ·by_cases h2:j=off+k
    ·subst h2
     rw [if_pos (by omega),yJ (by omega),if_neg h1,if_pos (by omega)]; simp
    ·rw [if_neg (by omega),if_neg h1]
     by_cases h3:j<off+(k+1)+vs.length
     ·rw [if_pos h3,if_pos (by omega),show j-(off+k)=(j-(off+(k+1)))+1 by omega,zI]
     ·rw [if_neg h3,if_neg (by omega),z6 (by omega)]
 intro vs off h
 have:=key vs 0 off cs (by omega)
 simpa using this
theorem NC {w:World} {I:Nat→Prop} {V:Nat→Option Value} {place:Nat→Option (Nat × Nat)} {ev:SX→SV} {av:Operand→Value}:∀ (parts:List (Nat × Operand)) (qs:List (Nat × Nat × SX)) (z z':List SV) (vs:List Value),RepVs w I V z vs →
  (∀ y∈parts.map (·.2),RepV w I V (ev (trX y)) (av y))→qs.length=parts.length→(∀ (j:Nat) k y,parts[j]?=some (k,y)→∃ off n,place k=some (off,n)∧qs[j]?=some (off,n,trX y)) →
  H1 ev z qs=some z'→∃ us:List Value,Instr.fill place vs.toArray (parts.map fun (k,y)=>(k,av y))=some us.toArray∧RepVs w I V z' us
 | [],[],z,z',vs,hz,_,_,_,h=>by
  simp only [H1,zF] at h
  subst h
  exact ⟨vs,rfl,hz⟩
 | [],_ :: _,_,_,_,_,_,hl,_,_=>by simp at hl
 | _ :: _,[],_,_,_,_,_,hl,_,_=>by simp at hl
 | (k,y) :: parts,q :: qs,z,z',vs,hz,hy,hl,hp,h=>by
  obtain ⟨off,n,h1,h2⟩:=hp 0 k y (by simp)
  simp only [zG,zF] at h2
  subst h2
  simp only [H1] at h
  split at h
  ·rename_i l hc
   split at h
   ·rename_i hle
    obtain ⟨h3,h4,h5⟩:=(hy y (by simp)).cellsN hc
    have hzl:=hz.len
    obtain ⟨us,h6,h7⟩:=NC parts qs (splice z off l) z' (splice vs off (av y).cells.toList) (hz.splice h4 off) (fun y' hy'=>hy y' (by simp only [zJ,zO]; exact .inr hy')) (by simpa using hl) (fun j k' y' hj=>by have:=hp (j+1) k' y' (by simpa using hj); simpa using this) h
    refine ⟨us,?_,h7⟩
    simp only [zJ,Instr.fill,h1]
    rw [if_neg (by simp [h3]; omega)]
    have:=Ks vs (av y).cells.toList off (by rw [zQ,h3]; omega)
    rw [←h6,← this]
    congr 1
    rw [←Array.foldl_toList,Array.toList_zipIdx]
   ·cases h
  ·cases h
theorem Jr {α:Type}:∀ {l:List (Option α)} {r:List α},B3 l=some r→r.length=l.length∧∀ (j:Nat) (x:Option α),l[j]?=some x→∃ y,x=some y∧r[j]?=some y
 | [],r,h=>by simp only [B3,zF] at h; subst h; exact ⟨rfl,fun j x hx=>by simp at hx⟩
 | none :: l,r,h=>by cases h
 | some x :: l,r,h=>by
  simp only [B3] at h
  obtain ⟨r',hr,rfl⟩:=zT.1 h
  obtain ⟨h1,h2⟩:=Jr hr
  refine ⟨by simp [h1],fun j y hy=>?_⟩
  cases j with
  | zero=>simp only [zG,zF] at hy; subst hy; exact ⟨x,rfl,by simp⟩
  | succ j=>simp only [zI] at hy; obtain ⟨u,h3,h4⟩:=h2 j y hy; exact ⟨u,h3,by simpa using h4⟩
end
def UB (B:Nat→Nat→Prop) (gs:List Nat):Nat→Prop:=fun x=>∃ g,g∈gs∧B g x
section
variable {P:Program} {c:Ctx} {ops:Array Oper} {s:Fst} {K:Kont} {o:Oper} {p:Nat}
variable {w w':World} {I:Nat→Prop} {V:Nat→Option Value} {B:Nat→Nat→Prop} {ob:Nat→Ob}
theorem Kt {gs:List Nat} {g:Nat}:AE (B7 gs) g=if g∈gs then some .gone else none:=by
 induction gs with
 | nil=>simp [B7,AE]
 | cons k r ih =>
  simp only [B7,zJ,AE] at ih ⊢
  by_cases e:k=g
  ·subst e; simp
  ·rw [if_neg e,ih]
   simp [show ¬ g=k from fun h=>e h.symm]
theorem FN {gs:List Nat}:(B7 gs).map (·.1)=gs:=by simp [B7,Function.comp_def]
theorem After.row (h:Wf w I V B ob) {q:Nat} {gs:List Nat} {t:TypeId} {sz:Nat} {es:List (List OT)} {val:Value} {Bq:Nat→Prop} (hq:ob q=.free∨(ob q).live) (hgs:∀ g,g∈gs→(ob g).live) (hqg:q ∉ gs)
  (os:w'.os=w.os) (tape:TapeOk w w') (output:w'.output=w.output) (hsz:w.heap.size≤w'.heap.size) (hkeep:∀ b,b<w.heap.size→¬ ((ob q).live∧B q b)→(∀ g,g∈gs→¬ B g b)→w'.heap[b]?=w.heap[b]?)
  (hval:∀ u,V q=some u→u=val) (hobj:RowR w' I Bq t sz es val) (hB:∀ b,Bq b→(w.heap.size≤b∧b<w'.heap.size)∨((ob q).live∧B q b)∨UB B gs b) :
  After w I V B ob ((q,.row t sz es) :: B7 gs) w' I (fun g=>if g=q then some val else V g) (fun g b=>if g=q then Bq b else B g b):=by
 have ht:∀ g,Ao ((q,Ob.row t sz es) :: B7 gs) g ↔ g=q∨g∈gs:=fun g=>by
  unfold Ao
  rw [zJ,FN]; simp
 have hu:A1 ob ((q,.row t sz es) :: B7 gs) q=.row t sz es:=by simp [A1,AE]
 have hug:∀ g,g∈gs→A1 ob ((q,.row t sz es) :: B7 gs) g=.gone:=fun g hg=>by
  have:¬ q=g:=fun e=>hqg (e▸hg)
  simp [A1,AE,this,Kt,hg]
 refine After.mk' h os tape output hsz (fun b hb hno=>hkeep b hb (fun hl=>hno q ((ht q).2 (.inl rfl)) hl.1 hl.2) fun g hg=>hno g ((ht g).2 (.inr hg)) (hgs g hg)) (fun g u hgu=>?_) (fun g hg=>?_) (fun g hg hl'=>?_) (fun g b hg hl' hb=>?_) (fun g g' b hg hg' hl hl' _ _=>?_) (fun g hg hf=>?_)
 ·by_cases e:g=q
  ·subst e; simp only [if_true]; rw [hval u hgu]
  ·simp only [e,if_false]; exact hgu
 ·have hg:¬ g=q:=fun e=>hg ((ht g).2 (.inl e))
  exact ⟨by funext b; simp only [hg,if_false],fun hf=>by simp only [hg,if_false]; exact h.fr g hf⟩
 ·rcases (ht g).1 hg with rfl | hg
  ·exact ⟨val,by simp only [if_true],by rw [hu]; simp only [if_true]; exact hobj⟩
  ·rw [hug g hg] at hl'; exact hl'.elim
 ·rcases (ht g).1 hg with rfl | hg
  ·simp only [if_true] at hb
   rcases hB b hb with h1 | h1 | ⟨g0,h1,h2⟩
   ·exact .inl h1
   ·exact .inr ⟨g,(ht g).2 (.inl rfl),h1.1,h1.2⟩
   ·exact .inr ⟨g0,(ht g0).2 (.inr h1),hgs g0 h1,h2⟩
  ·rw [hug g hg] at hl'; exact hl'.elim
 ·rcases (ht g).1 hg with rfl | hg
  ·rcases (ht g').1 hg' with rfl | hg'
   ·rfl
   ·rw [hug g' hg'] at hl'; exact hl'.elim
  ·rw [hug g hg] at hl; exact hl.elim
 ·rcases (ht g).1 hg with rfl | hg
  ·rw [hu] at hf; cases hf
  ·rw [hug g hg] at hf; cases hf
theorem After.one (h:Wf w I V B ob) {q:Nat} {gs:List Nat} {o:Ob} (hol:o.live) {val:Value} {Bq:Nat→Prop} (hq:ob q=.free∨(ob q).live) (hgs:∀ g,g∈gs→(ob g).live) (hqg:q ∉ gs)
  (os:w'.os=w.os) (tape:TapeOk w w') (output:w'.output=w.output) (hsz:w.heap.size≤w'.heap.size) (hkeep:∀ b,b<w.heap.size→¬ ((ob q).live∧B q b)→(∀ g,g∈gs→¬ B g b)→w'.heap[b]?=w.heap[b]?)
  (hval:∀ u,V q=some u→u=val) (hobj:∀ V,ObR w' I V Bq val o) (hB:∀ b,Bq b→(w.heap.size≤b∧b<w'.heap.size)∨((ob q).live∧B q b)∨UB B gs b) :
  After w I V B ob ((q,o) :: B7 gs) w' I (fun g=>if g=q then some val else V g) (fun g b=>if g=q then Bq b else B g b):=by
 have ht:∀ g,Ao ((q,o) :: B7 gs) g ↔ g=q∨g∈gs:=fun g=>by
  unfold Ao
  rw [zJ,FN]; simp
 have hu:A1 ob ((q,o) :: B7 gs) q=o:=by simp [A1,AE]
 have hug:∀ g,g∈gs→A1 ob ((q,o) :: B7 gs) g=.gone:=fun g hg=>by
  have:¬ q=g:=fun e=>hqg (e▸hg)
  simp [A1,AE,this,Kt,hg]
 refine After.mk' h os tape output hsz (fun b hb hno=>hkeep b hb (fun hl=>hno q ((ht q).2 (.inl rfl)) hl.1 hl.2) fun g hg=>hno g ((ht g).2 (.inr hg)) (hgs g hg)) (fun g u hgu=>?_) (fun g hg=>?_) (fun g hg hl'=>?_) (fun g b hg hl' hb=>?_) (fun g g' b hg hg' hl hl' _ _=>?_) (fun g hg hf=>?_)
 ·by_cases e:g=q
  ·subst e; simp only [if_true]; rw [hval u hgu]
  ·simp only [e,if_false]; exact hgu
 ·have hg:¬ g=q:=fun e=>hg ((ht g).2 (.inl e))
  exact ⟨by funext b; simp only [hg,if_false],fun hf=>by simp only [hg,if_false]; exact h.fr g hf⟩
 ·rcases (ht g).1 hg with rfl | hg
  ·exact ⟨val,by simp only [if_true],by rw [hu]; simp only [if_true]; exact hobj _⟩
  ·rw [hug g hg] at hl'; exact hl'.elim
 ·rcases (ht g).1 hg with rfl | hg
  ·simp only [if_true] at hb
   rcases hB b hb with h1 | h1 | ⟨g0,h1,h2⟩
   ·exact .inl h1
   ·exact .inr ⟨g,(ht g).2 (.inl rfl),h1.1,h1.2⟩
   ·exact .inr ⟨g0,(ht g0).2 (.inr h1),hgs g0 h1,h2⟩
  ·rw [hug g hg] at hl'; exact hl'.elim
 ·rcases (ht g).1 hg with rfl | hg
  ·rcases (ht g').1 hg' with rfl | hg'
   ·rfl
   ·rw [hug g' hg'] at hl'; exact hl'.elim
  ·rw [hug g hg] at hl; exact hl.elim
 ·rcases (ht g).1 hg with rfl | hg
  ·rw [hu] at hf; rw [hf] at hol; exact hol.elim
  ·rw [hug g hg] at hf; cases hf
theorem RQ (h:Wf w I V B ob) {x:SV} {v:Value} {r:OT × List Nat} (hx:RepV w I V x v) (ht:NA ob x=some r):ORep w I (UB B r.2) r.1 v∧∀ g,g∈r.2→(ob g).live:=by
 unfold NA at ht
 split at ht
 ·obtain rfl:=zB ht; simp only [RepV] at hx; subst hx; exact ⟨.int _ _,by simp⟩
 ·obtain rfl:=zB ht; simp only [RepV] at hx; subst hx; exact ⟨.byte _ _,by simp⟩
 ·obtain rfl:=zB ht; simp only [RepV] at hx; subst hx; exact ⟨.bool _ _,by simp⟩
 ·obtain rfl:=zB ht; simp only [RepV] at hx; obtain ⟨rfl,h⟩:=hx; exact ⟨.str _ _ h,by simp⟩
 ·obtain rfl:=zB ht; simp only [RepV] at hx; subst hx; exact ⟨.nil _,by simp⟩
 ·obtain rfl:=zB ht; simp only [RepV] at hx; exact ⟨.sh _ _ _ hx,by simp⟩
 ·rename_i g
  split at ht
  ·rename_i t sz es hob
   obtain rfl:=zB ht
   simp only [RepV] at hx
   obtain ⟨val,h1,h2⟩:=h.obj g (by rw [hob]; trivial)
   rw [hob] at h2
   rw [h1] at hx
   obtain rfl:=zB hx.1
   refine ⟨(RowR.ot h2).up fun x hx=>⟨g,by simp,hx⟩,fun g' hg'=>?_⟩
   obtain rfl:g'=g:=by simpa using hg'
   rw [hob]; trivial
  ·cases ht
 ·obtain rfl:=zB ht; simp only [RepV] at hx; obtain ⟨rfl,h⟩:=hx; exact ⟨.pin _ _ h,by simp⟩
 ·cases ht
def RR (w:World) (I:Nat→Prop) (B:Nat→Nat→Prop) (ls:List (OT × List Nat)) (vs:List Value):Prop :=
 ls.length=vs.length∧∀ (j:Nat) r v,ls[j]?=some r→vs[j]?=some v→ORep w I (UB B r.2) r.1 v
theorem FO (h:Wf w I V B ob):∀ {l:List SV} {vs:List Value} {ls:List (OT × List Nat)},RepVs w I V l vs→Dq ob l=some ls→RR w I B ls vs∧(∀ g,g∈BA ls→(ob g).live)∧ls.length=l.length
 | [],vs,ls,hl,ht=>by
  simp only [Dq,List.map_nil,B3,zF] at ht
  subst ht
  simp only [RepVs] at hl
  subst hl
  exact ⟨⟨rfl,fun j r v hj _=>by simp at hj⟩,by simp [BA],rfl⟩
 | x :: l,vs,ls,hl,ht=>by
  simp only [RepVs] at hl
  obtain ⟨v,us,rfl,h1,h2⟩:=hl
  simp only [Dq,zJ] at ht
  cases hx:NA ob x with
  | none=>rw [hx] at ht; cases ht
  | some r =>
   rw [hx] at ht
   simp only [B3] at ht
   obtain ⟨ls',h3,rfl⟩:=zT.1 ht
   obtain ⟨⟨g1,g2⟩,g3,g4⟩:=FO h h2 h3
   obtain ⟨k1,k2⟩:=RQ h h1 hx
   refine ⟨⟨by simp [g1],fun j r' v' hj hv=>?_⟩,fun g hg=>?_,by simp [g4]⟩
   ·cases j with
    | zero=>simp only [zG,zF] at hj hv; subst hj hv; exact k1
    | succ j=>simp only [zI] at hj hv; exact g2 j r' v' hj hv
   ·simp only [BA,zJ,yH,xJ] at hg
    rcases hg with hg | hg
    ·exact k2 g hg
    ·exact g3 g hg
theorem C7 {ls:List (OT × List Nat)} {j:Nat} {r:OT × List Nat} {g:Nat} (h:ls[j]?=some r) (hg:g∈r.2):g∈BA ls:=by
 unfold BA
 rw [y0]
 exact ⟨r.2,zY.2 ⟨r,y2 h,rfl⟩,hg⟩
theorem Ku:∀ {ls:List (OT × List Nat)} {i j:Nat} {r r':OT × List Nat} {g:Nat},(BA ls).Nodup→ls[i]?=some r→ls[j]?=some r'→g∈r.2→g∈r'.2→i=j
 | [],i,j,r,r',g,_,hi,_,_,_=>by simp at hi
 | x :: ls,i,j,r,r',g,hn,hi,hj,h1,h2=>by
  simp only [BA,zJ,yH] at hn
  rw [xC] at hn
  obtain ⟨_,n2,n3⟩:=hn
  cases i with
  | zero =>
   cases j with
   | zero=>rfl
   | succ j =>
    simp only [zG,zI,zF] at hi hj
    subst hi
    exact absurd rfl (n3 g h1 g (C7 hj h2))
  | succ i =>
   cases j with
   | zero =>
    simp only [zG,zI,zF] at hi hj
    subst hj
    exact absurd rfl (n3 g h2 g (C7 hi h1))
   | succ j =>
    simp only [zI] at hi hj
    rw [Ku n2 hi hj h1 h2]
theorem FP {es:List (List (OT × List Nat))} {i:Nat} {l:List (OT × List Nat)} {g:Nat} (h:es[i]?=some l) (hg:g∈BA l):g∈(es.map BA).flatten:=by
 rw [y0]
 exact ⟨BA l,zY.2 ⟨l,y2 h,rfl⟩,hg⟩
theorem LW:∀ {es:List (List (OT × List Nat))} {i j:Nat} {l l':List (OT × List Nat)} {g:Nat},(es.map BA).flatten.Nodup→es[i]?=some l→es[j]?=some l'→g∈BA l→g∈BA l'→i=j
 | [],i,j,r,r',g,_,hi,_,_,_=>by simp at hi
 | x :: ls,i,j,r,r',g,hn,hi,hj,h1,h2=>by
  simp only [zJ,yH] at hn
  rw [xC] at hn
  obtain ⟨_,n2,n3⟩:=hn
  cases i with
  | zero =>
   cases j with
   | zero=>rfl
   | succ j =>
    simp only [zG,zI,zF] at hi hj
    subst hi
    exact absurd rfl (n3 g h1 g (FP hj h2))
  | succ i =>
   cases j with
   | zero =>
    simp only [zG,zI,zF] at hi hj
    subst hj
    exact absurd rfl (n3 g h2 g (FP hi h1))
   | succ j =>
    simp only [zI] at hi hj
    rw [LW n2 hi hj h1 h2]
theorem Js:∀ {es:List (List (OT × List Nat))} {i:Nat} {l:List (OT × List Nat)},(es.map BA).flatten.Nodup→es[i]?=some l→(BA l).Nodup
 | [],i,l,_,hi=>by simp at hi
 | x :: ls,i,l,hn,hi=>by
  simp only [zJ,yH] at hn
  rw [xC] at hn
  cases i with
  | zero=>simp only [zG,zF] at hi; subst hi; exact hn.1
  | succ i=>simp only [zI] at hi; exact Js hn.2.1 hi
theorem RowR.make {es:List (List (OT × List Nat))} {b cap:Nat} {cur:Array Value} {t:TypeId} {sz:Nat} (hb:w.heap[b]?=some (.cells cur t (0,0))) (h1:es.length≤cap) (h2:cap≤9223372036854775807) (h3:cur.size=cap*sz) (h4:∀ (i:Nat) l,es[i]?=some l→l.length=sz)
  (hn:(es.map BA).flatten.Nodup) (hdb:∀ g,g∈(es.map BA).flatten→¬ B g b) (hdO:∀ g g' x,g∈(es.map BA).flatten→g'∈(es.map BA).flatten→B g x→B g' x→g=g')
  (h7:∀ (i j:Nat) l r,es[i]?=some l→l[j]?=some r→ORep w I (UB B r.2) r.1 (cur.getD (i*sz+j) undef)):RowR w I (fun x=>x=b∨UB B (es.map BA).flatten x) t sz (es.map Dg) (.slice (some ⟨b,0,none⟩) es.length cap):=by
 have hlen:(es.map Dg).length=es.length:=by simp
 refine .inr ⟨b,cap,cur,fun i j x=>∃ l r,es[i]?=some l∧l[j]?=some r∧UB B r.2 x,by rw [hlen],.inl rfl,hb,by rw [hlen]; exact h1,h2,h3,fun i hi=>?_,fun i j x ⟨l,r,e1,e2,g,e3,e4⟩=>?_,fun i j i' j' x ⟨l,r,e1,e2,g,e3,e4⟩ ⟨l',r',e1',e2',g',e3',e4'⟩=>?_,fun i j hi hj=>?_⟩
 ·rw [hlen] at hi
  simp only [yI,Dg,yK]
  exact h4 i _ (zA hi)
 ·have hm:=FP e1 (C7 e2 e3)
  exact ⟨.inr ⟨g,hm,e4⟩,fun e=>hdb g hm (e▸e4)⟩
 ·have hm:=FP e1 (C7 e2 e3)
  have hm':=FP e1' (C7 e2' e3')
  have:=hdO g g' x hm hm' e4 e4'
  subst this
  have hij:=LW hn e1 e1' (C7 e2 e3) (C7 e2' e3')
  subst hij
  rw [e1] at e1'
  obtain rfl:=zB e1'
  exact ⟨rfl,Ku (Js hn e1) e2 e2' e3 e3'⟩
 ·rw [hlen] at hi
  simp only [yI,Dg,yK] at hj
  have e1:es[i]?=some es[i]:=zA hi
  have e2:es[i][j]?=some es[i][j]:=zA hj
  have:=h7 i j _ _ e1 e2
  have e3:(es.map Dg)[i][j]'(by simpa [Dg] using hj)=es[i][j].1:=by simp [Dg]
  rw [e3]
  exact this.up fun x hx=>⟨_,_,e1,e2,hx⟩
end
section
variable {P:Program} {w w':World} {I S T:Nat→Prop} {t:TypeId} {sz:Nat} {es new:List (List OT)}
theorem ORep.lt_ {w w':World} {I S:Nat→Prop} {o:OT} {v:Value} (h:ORep w I S o v) (hk:KeepS I w w') (hS:∀ b,b<w.heap.size→w'.heap[b]?=w.heap[b]?):ORep w' I (fun x=>S x∧x<w.heap.size) o v:=by
 induction h with
 | int S n=>exact .int _ n
 | byte S n=>exact .byte _ n
 | bool S b=>exact .bool _ b
 | str S s h=>exact .str _ s h
 | sh S es v h=>exact .sh _ es v (h.keep hk)
 | nil S=>exact .nil _
 | hole S v h=>exact .hole _ v h
 | pin S v h=>exact .pin _ v h
 | row S t sz es b cap cur Sub hs hb h1 h2 h3 h4 h5 h6 h7 ih =>
  have hlt:=(zH.1 hb).1
  exact .row _ t sz es b cap cur (fun i j x=>Sub i j x∧x<w.heap.size) ⟨hs,hlt⟩ (by rw [hS b hlt]; exact hb) h1 h2 h3 h4 (fun i j x hx=>⟨⟨(h5 i j x hx.1).1,hx.2⟩,(h5 i j x hx.1).2⟩) (fun i j i' j' x hx hx'=>h6 i j i' j' x hx.1 hx'.1) fun i j hi hj=>ih i j hi hj
theorem HI {b cap:Nat} {cur:Array Value} {Sub Sub':Nat→Nat→Nat→Prop} (hb:w'.heap[b]?=some (.cells cur t (0,0))) (h1:es.length+new.length≤cap) (h2:cap≤9223372036854775807) (h3:cur.size=cap*sz)
  (h4:∀ i (h:i<es.length),es[i].length=sz) (h4':∀ i (h:i<new.length),new[i].length=sz)
  (h5:∀ i j x,Sub i j x→S x∧x≠b) (h5':∀ i j x,Sub' i j x→T x∧x≠b) (hST:∀ x,S x→¬ T x)
  (h6:∀ i j i' j' x,Sub i j x→Sub i' j' x→i=i'∧j=j') (h6':∀ i j i' j' x,Sub' i j x→Sub' i' j' x→i=i'∧j=j')
  (h7:∀ i j (h:i<es.length) (h':j<es[i].length),ORep w' I (Sub i j) (es[i][j]) (cur.getD (i*sz+j) undef))
  (h7':∀ i j (h:i<new.length) (h':j<new[i].length),ORep w' I (Sub' i j) (new[i][j]) (cur.getD ((es.length+i)*sz+j) undef)) :
  RowR w' I (fun x=>x=b∨S x∨T x) t sz (es++new) (.slice (some ⟨b,0,none⟩) (es.length+new.length) cap):=by
 refine .inr ⟨b,cap,cur,fun i j=>if i<es.length then Sub i j else Sub' (i-es.length) j,by rw [yE],.inl rfl,hb,by rw [yE]; exact h1,h2,h3,fun i hi=>?_,fun i j x hx=>?_,fun i j i' j' x hx hx'=>?_,fun i j hi hj=>?_⟩
 ·rw [yE] at hi
  by_cases e:i<es.length
  ·rw [xE e]; exact h4 i e
  ·rw [xA (by omega)]; exact h4' _ _
 ·by_cases e:i<es.length
  ·simp only [e,if_true] at hx
   exact ⟨.inr (.inl (h5 i j x hx).1),(h5 i j x hx).2⟩
  ·simp only [e,if_false] at hx
   exact ⟨.inr (.inr (h5' _ j x hx).1),(h5' _ j x hx).2⟩
 ·by_cases e:i<es.length <;> by_cases e':i' < es.length
  ·simp only [e,e',if_true] at hx hx'; exact h6 _ _ _ _ x hx hx'
  ·simp only [e,e',if_true,if_false] at hx hx'
   exact absurd (h5' _ _ x hx').1 (hST x (h5 _ _ x hx).1)
  ·simp only [e,e',if_true,if_false] at hx hx'
   exact absurd (h5' _ _ x hx).1 (hST x (h5 _ _ x hx').1)
  ·simp only [e,e',if_false] at hx hx'
   have:=h6' _ _ _ _ x hx hx'
   exact ⟨by omega,this.2⟩
 ·rw [yE] at hi
  by_cases e:i<es.length
  ·simp only [e,if_true]
   have e1:(es++new)[i]=es[i]:=xE e
   have hj':j<es[i].length:=by rw [←e1]; exact hj
   have e2:(es++new)[i][j]=es[i][j]:=by simp only [e1]
   rw [e2]
   exact h7 i j e hj'
  ·simp only [e,if_false]
   have hi':i-es.length<new.length:=by omega
   have e1:(es++new)[i]=new[i-es.length]:=xA (by omega)
   have hj':j<new[i-es.length].length:=by rw [←e1]; exact hj
   have e2:(es++new)[i][j]=new[i-es.length][j]:=by simp only [e1]
   rw [e2]
   have:=h7' (i-es.length) j hi' hj'
   rwa [show es.length+(i-es.length)=i by omega] at this
theorem JL {ty tr e:TypeId} {i:TypeInfo} (ht:P.underlying ty=some (.slice e)) (hi:P.info? e=some i) (base a:Option Addr) (n cap cp:Nat) (hn:n≤cap) :
  (Builtin.append_ #[ty,ty] tr #[.slice base n cap,.slice a 0 cp]).run P w=.ok (.slice base n cap) w:=by
 have hf:(Builtin.firstCells i.size 0 (.slice a 0 cp)).run P w=.ok #[] w:=by
  cases a <;> simp [Builtin.firstCells,loadCells,loadCellsFrom]
 cases base <;> simp [Builtin.append_,run_underlying ht,sizeOf,typeInfo,hi,Builtin.lenOf,hn,hf,storeCells]
theorem getD_eq {cur:Array Value} {q:Nat} {v:Value} (h:cur[q]?=some v):cur.getD q undef=v:=by simp [zD,h]
theorem Jt {ty tr:TypeId} {i:TypeInfo} {z v:Value} {a:Option Addr} {cp:Nat} {val:Nat→Nat→Value} {Sub':Nat→Nat→Nat→Prop} (ht:P.underlying ty=some (.slice t)) (hi:P.info? t=some i) (hz:i.zero=some z) (hsz:i.size=sz) (hzs:z.cells.size=sz) (hpos:0<sz)
  (hI:∀ b,S b→¬ I b) (hd:RowR w I S t sz es v) (hx:0<new.length→∃ b off,a=some ⟨b,off,none⟩∧∀ i j,i<new.length→j<sz→w.cell? ⟨b,off+i*sz+j,none⟩=some (val i j))
  (h4':∀ i (h:i<new.length),new[i].length=sz) (h5':∀ i j x,Sub' i j x→T x) (hTl:∀ x,T x→x<w.heap.size) (hST:∀ x,S x→¬ T x) (h6':∀ i j i' j' x,Sub' i j x→Sub' i' j' x→i=i'∧j=j')
  (h7':∀ i j (h:i<new.length) (h':j<new[i].length),ORep w I (Sub' i j) (new[i][j]) (val i j)) (h63:es.length+new.length≤9223372036854775807) (hby:(es.length+new.length)*i.bytes≤140737488355328) :
  ∃ v' w' S',(Builtin.append_ #[ty,ty] tr #[v,.slice a new.length cp]).run P w=.ok v' w'∧RowR w' I S' t sz (es++new) v'∧(∀ b,S' b→S b∨T b∨(w.heap.size≤b∧b<w'.heap.size))∧w'.os=w.os∧TapeOk w w'∧w'.output=w.output∧w.heap.size≤w'.heap.size ∧
   (∀ b,b<w.heap.size→¬ S b→w'.heap[b]?=w.heap[b]?)∧RowR w' I S t sz es v∧∀ b,b<w.heap.size→(∀ n c,v≠.slice (some ⟨b,0,none⟩) n c)→w'.heap[b]?=w.heap[b]?:=by
 subst hsz
 rcases y9 new.length with h0 | h0
 ·have hnew:new=[]:=y3 h0
  obtain ⟨q,n,e,hn,_⟩:=hd.form
  refine ⟨v,w,S,?_,by rw [hnew,List.append_nil]; exact hd,fun b hb=>.inl hb,rfl,TapeOk.le rfl (by first | exact zL _ | exact xK _),rfl,zL _,fun _ _ _=>rfl,hd,fun _ _ _=>rfl⟩
  rw [e,h0]
  exact JL ht hi q a es.length n cp hn
 ·obtain ⟨bx,off,rfl,hcell⟩:=hx h0
  have hnl:((zN (new.length*i.size)).map fun q=>val (q / i.size) (q % i.size)).length=new.length*i.size:=by simp
  have hnews:∀ (j:Nat) u,((zN (new.length*i.size)).map fun q=>val (q / i.size) (q % i.size))[j]?=some u→w.cell? ((⟨bx,off,none⟩:Addr).add j)=some u:=by
   intro j u hu
   obtain ⟨hj,hu⟩:=zC.1 hu
   rw [hnl] at hj
   simp only [yI,List.getElem_range] at hu
   subst hu
   rw [Addr.add_lit]
   have:=hcell (j / i.size) (j % i.size) (Nat.div_lt_of_lt_mul (by rw [yW]; exact hj)) (Nat.mod_lt _ hpos)
   have e:off+j / i.size*i.size+j % i.size=off+j:=by have:=Nat.div_add_mod j i.size; rw [yW] at this; omega
   rwa [e] at this
  have hnat:∀ i' j,i' < new.length→j<i.size→((zN (new.length*i.size)).map fun q=>val (q / i.size) (q % i.size))[i'*i.size+j]?=some (val i' j):=by
   intro i' j h1 h2
   have hlt:=mul_lt h1 h2
   rw [zX,List.getElem?_range hlt]
   simp only [zW]
   have e1:(i'*i.size+j) / i.size=i':=by rw [yW,Nat.mul_add_div hpos,Nat.div_eq_of_lt h2,y6]
   have e2:(i'*i.size+j) % i.size=j:=by rw [yW,Nat.mul_add_mod,Nat.mod_eq_of_lt h2]
   rw [e1,e2]
  have hone:∀ u∈(zN (new.length*i.size)).map fun q=>val (q / i.size) (q % i.size),u.oneCell'=true:=by
   intro u hu
   obtain ⟨q,hq,rfl⟩:=zY.1 hu
   have hq:=yA.1 hq
   have h1:q / i.size<new.length:=Nat.div_lt_of_lt_mul (by rw [yW]; exact hq)
   exact (h7' (q / i.size) (q % i.size) h1 (by rw [h4' _ h1]; exact Nat.mod_lt _ hpos)).one
  generalize (zN (new.length*i.size)).map (fun q=>val (q / i.size) (q % i.size))=news at hnl hnews hnat hone
  have keepT:∀ {w':World},(∀ b,b<w.heap.size→¬ S b→w'.heap[b]?=w.heap[b]?)→w.heap.size≤w'.heap.size→KeepS I w w':=fun hk hs=>⟨hs,fun b hb hl=>hk b hl fun hS=>hI b hS hb⟩
  have keepN:∀ {w':World},(∀ b,b<w.heap.size→¬ S b→w'.heap[b]?=w.heap[b]?)→w.heap.size≤w'.heap.size→∀ i' j (h:i' < new.length) (h':j<new[i'].length),ORep w' I (Sub' i' j) (new[i'][j]) (val i' j):=fun hk hs i' j h h' =>
   (h7' i' j h h').keep (keepT hk hs) (fun _ h=>h) fun b hb hl=>hk b hl fun hS=>hST b hS (h5' _ _ b hb)
  have capge:∀ old,es.length+new.length≤grownCap w (es.length+new.length) old t:=fun old=>grownCap_ge w _ old t
  have caple:∀ old,grownCap w (es.length+new.length) old t≤9223372036854775807:=fun old=>by have:=grownCap_le_maxLen w (es.length+new.length) old t (by unfold maxLen; omega); unfold maxLen at this; omega
  rcases hd with ⟨rfl,rfl⟩ | ⟨b,cap,cur,Sub,rfl,hS,hb,g1,g2,g3,g4,g5,g6,g7⟩
  ·
   simp only [yS,zV] at h63 hby capge caple
   have hr:=run_append_nil (P:=P) w ty tr t i z ht hi hz ⟨bx,off,none⟩ new.length cp news hnl hnews h0 (by omega) (by omega)
   have hk:∀ b,b<w.heap.size→¬ S b→(w.drew.alloc (.cells (news.toArray++Builtin.zeroCells z.cells (grownCap w new.length 0 t-new.length)) t)).heap[b]?=w.heap[b]?:=fun b hb _=>Below.heap_alloc w.drew _ b hb
   refine ⟨.slice (some ⟨w.heap.size,0,none⟩) (([]:List (List OT)).length+new.length) (grownCap w new.length 0 t),_,_,by simpa using hr,HI (es:=[]) (S:=fun _=>False) (T:=T) (Sub:=fun _ _ _=>False) (Sub':=Sub') (heap_alloc_new w.drew _) (by simpa using capge 0) (caple 0) ?_ (fun i h=>absurd h (by simp)) h4' (fun _ _ _ h=>h.elim) (fun i j x hx=>⟨h5' i j x hx,?_⟩) (fun _ h=>h.elim) (fun _ _ _ _ _ h=>h.elim) h6' (fun i j h=>absurd h (by simp)) ?_,fun b hb=>?_,rfl,TapeOk.le rfl (by first | exact zL _ | exact xK _),rfl,by simp,hk,.inl ⟨rfl,rfl⟩,fun b hb _=>Below.heap_alloc w.drew _ b hb⟩
   ·rw [yX,zM,hnl,size_zeroCells,hzs,← zP]
    congr 1
    have:=capge 0
    omega
   ·have:=hTl x (h5' i j x hx)
    exact Nat.ne_of_lt this
   ·intro i' j h h'
    have e1:(news.toArray++Builtin.zeroCells z.cells (grownCap w new.length 0 t-new.length))[i'*i.size+j]?=some (val i' j):=by
     rw [yF (by rw [zM,hnl]; exact mul_lt h (by rw [←h4' i' h]; exact h'))]
     simpa using hnat i' j h (by rw [←h4' i' h]; exact h')
    simp only [yS,zV]
    rw [getD_eq e1]
    exact keepN hk (by simp) i' j h h'
   ·rcases hb with rfl | hb | hb
    ·exact .inr (.inr ⟨zL _,by simp⟩)
    ·exact hb.elim
    ·exact .inr (.inl hb)
  ·by_cases hroom:es.length+new.length≤cap
   ·
    have hfit:es.length*i.size+news.length≤cur.size:=by rw [hnl,g3,← zP]; exact zK _ hroom
    have hr:=run_append_room (P:=P) w ty tr t i ht hi b es.length cap cur hb ⟨bx,off,none⟩ new.length cp news hnl hnews hone hroom hfit
    have hk:∀ b',b' < w.heap.size→¬ S b'→(w.setRow b (cur.toList.take (es.length*i.size)++news++cur.toList.drop (es.length*i.size+news.length)).toArray).heap[b']?=w.heap[b']?:=fun b' _ hn=>setRow_other w b b' _ fun e=>hn (e▸hS)
    have hget:∀ q,(splice cur.toList (es.length*i.size) news).toArray[q]?=if q<es.length*i.size then cur[q]? else if q<es.length*i.size+news.length then news[q-es.length*i.size]? else cur[q]?:=fun q=>by
     have:=CF (l:=cur.toList) (vs:=news) (o:=es.length*i.size) (j:=q) (by simpa using hfit)
     simpa using this
    refine ⟨_,_,_,hr,HI (S:=fun x=>S x∧x≠b) (T:=T) (Sub:=Sub) (Sub':=Sub') (setRow_heap w b cur _ t _ hb) hroom g2 ?_ g4 h4' (fun i j x hx=>⟨g5 i j x hx,(g5 i j x hx).2⟩) (fun i j x hx=>⟨h5' i j x hx,fun e=>hST b hS (e▸h5' i j x hx)⟩) (fun x hx=>hST x hx.1) g6 h6' ?_ ?_,fun b' hb'=>?_,rfl,TapeOk.le rfl (by first | exact zL _ | exact xK _),rfl,by simp,hk,.inr ⟨b,cap,_,Sub,rfl,hS,setRow_heap w b cur _ t _ hb,g1,g2,?_,g4,g5,g6,?_⟩,fun b' hb' hne=>setRow_other w b b' _ fun e=>hne es.length cap (by subst e; rfl)⟩
    ·have:=DP (l:=cur.toList) (vs:=news) (o:=es.length*i.size) (by simpa using hfit)
     unfold splice at this
     rw [zM,this,zQ,g3]
    ·intro i' j h h'
     have hlt:i'*i.size+j<es.length*i.size:=mul_lt h (by rw [←g4 i' h]; exact h')
     have e1:(splice cur.toList (es.length*i.size) news).toArray.getD (i'*i.size+j) undef=cur.getD (i'*i.size+j) undef:=by
      rw [zD,hget,if_pos hlt,zD]
     unfold splice at e1
     rw [e1]
     exact (g7 i' j h h').keep (keepT hk (by simp)) (fun _ h=>h) fun x hx hl=>setRow_other w b x _ (g5 _ _ x hx).2
    ·intro i' j h h'
     have hj:j<i.size:=by rw [←h4' i' h]; exact h'
     have e0:(es.length+i')*i.size+j=es.length*i.size+(i'*i.size+j):=by rw [zP]; omega
     have e1:(splice cur.toList (es.length*i.size) news).toArray[(es.length+i')*i.size+j]?=some (val i' j):=by
      rw [hget,e0,if_neg (by omega),if_pos (by rw [hnl]; have:=mul_lt h hj; omega),yV]
      exact hnat i' j h hj
     unfold splice at e1
     rw [getD_eq e1]
     exact keepN hk (by simp) i' j h h'
    ·rcases hb' with rfl | hb' | hb'
     ·exact .inl hS
     ·exact .inl hb'.1
     ·exact .inr (.inl hb')
    ·have:=DP (l:=cur.toList) (vs:=news) (o:=es.length*i.size) (by simpa using hfit)
     unfold splice at this
     rw [zM,this,zQ,g3]
    ·intro i' j h h'
     have hlt:i'*i.size+j<es.length*i.size:=mul_lt h (by rw [←g4 i' h]; exact h')
     have e1:(splice cur.toList (es.length*i.size) news).toArray.getD (i'*i.size+j) undef=cur.getD (i'*i.size+j) undef:=by
      rw [zD,hget,if_pos hlt,zD]
     unfold splice at e1
     rw [e1]
     exact (g7 i' j h h').keep (keepT hk (by simp)) (fun _ h=>h) fun x hx hl=>setRow_other w b x _ (g5 _ _ x hx).2
   ·
    have olds:∀ (j:Nat) u,(cur.toList.take (es.length*i.size))[j]?=some u→w.cell? ((⟨b,0,none⟩:Addr).add j)=some u:=by
     intro j u hu
     rw [Addr.add_lit,zV,cell_of_row w b j cur t (0,0) hb]
     rw [yD] at hu
     split at hu
     ·simpa using hu
     ·cases hu
    have hle:es.length*i.size≤cur.size:=by rw [g3]; exact zK _ g1
    have hlo:(cur.toList.take (es.length*i.size)).length=es.length*i.size:=by
     have:cur.toList.length=cur.size:=zQ
     rw [z8]; omega
    have hr:=run_append_grow (P:=P) w ty tr t i z ht hi hz ⟨b,0,none⟩ es.length cap _ hlo olds ⟨bx,off,none⟩ new.length cp news hnl hnews (by omega) (by omega) (growslice_fits (by omega) hby)
    have hk:∀ b',b' < w.heap.size→¬ S b'→(w.drew.alloc (.cells ((cur.toList.take (es.length*i.size)).toArray++news.toArray++Builtin.zeroCells z.cells (grownCap w (es.length+new.length) cap t-(es.length+new.length))) t)).heap[b']?=w.heap[b']?:=fun b' hb' _=>Below.heap_alloc w.drew _ b' hb'
    have hs1:(cur.toList.take (es.length*i.size)).toArray.size=es.length*i.size:=by rw [zM,hlo]
    have hs2:((cur.toList.take (es.length*i.size)).toArray++news.toArray).size=es.length*i.size+new.length*i.size:=by rw [yX,hs1,zM,hnl]
    have hka:∀ b',b' < w.heap.size→(w.drew.alloc (.cells ((cur.toList.take (es.length*i.size)).toArray++news.toArray++Builtin.zeroCells z.cells (grownCap w (es.length+new.length) cap t-(es.length+new.length))) t)).heap[b']?=w.heap[b']?:=fun b' hb'=>Below.heap_alloc w.drew _ b' hb'
    refine ⟨_,_,_,hr,HI (S:=fun x=>S x∧x<w.heap.size) (T:=T) (Sub:=fun i j x=>Sub i j x∧x<w.heap.size) (Sub':=Sub') (heap_alloc_new w.drew _) (capge cap) (caple cap) ?_ g4 h4' (fun i j x hx=>⟨⟨(g5 i j x hx.1).1,hx.2⟩,Nat.ne_of_lt hx.2⟩) (fun i j x hx=>⟨h5' i j x hx,Nat.ne_of_lt (hTl x (h5' i j x hx))⟩) (fun x hx=>hST x hx.1) (fun i j i' j' x hx hx'=>g6 i j i' j' x hx.1 hx'.1) h6' ?_ ?_,fun b' hb'=>?_,rfl,TapeOk.le rfl (by first | exact zL _ | exact xK _),rfl,by simp,hk,RowR.keep (.inr ⟨b,cap,cur,Sub,rfl,hS,hb,g1,g2,g3,g4,g5,g6,g7⟩) (keepT hk (by simp)) (fun _ h=>h) (fun x _ hl=>hka x hl),fun b' hb' _=>hka b' hb'⟩
    ·rw [yX,yX,zM,zM,hnl,hlo,size_zeroCells,hzs,← zP,← zP]
     congr 1
     have:=capge cap
     omega
    ·intro i' j h h'
     have hlt:i'*i.size+j<es.length*i.size:=mul_lt h (by rw [←g4 i' h]; exact h')
     have e1:((cur.toList.take (es.length*i.size)).toArray++news.toArray++Builtin.zeroCells z.cells (grownCap w (es.length+new.length) cap t-(es.length+new.length))).getD (i'*i.size+j) undef=cur.getD (i'*i.size+j) undef:=by
      rw [zD,yF (by rw [hs2]; omega),yF (by rw [hs1]; omega),zD]
      congr 1
      simp only [yM]
      rw [xD hlt]; simp
     rw [e1]
     exact ORep.lt_ (g7 i' j h h') (keepT hk (by simp)) hka
    ·intro i' j h h'
     have hj:j<i.size:=by rw [←h4' i' h]; exact h'
     have e0:(es.length+i')*i.size+j=es.length*i.size+(i'*i.size+j):=by rw [zP]; omega
     have hml:=mul_lt h hj
     have e1:((cur.toList.take (es.length*i.size)).toArray++news.toArray++Builtin.zeroCells z.cells (grownCap w (es.length+new.length) cap t-(es.length+new.length)))[(es.length+i')*i.size+j]?=some (val i' j):=by
      rw [e0,yF (by rw [hs2]; omega),Array.getElem?_append_right (by rw [hs1]; omega),hs1,yV]
      simp only [yM]
      exact hnat i' j h hj
     rw [getD_eq e1]
     exact keepN hk (by simp) i' j h h'
    ·rcases hb' with rfl | hb' | hb'
     ·exact .inr (.inr ⟨zL _,by simp⟩)
     ·exact .inl hb'.1
     ·exact .inr (.inl hb')
theorem Kv {ty tr:TypeId} {i:TypeInfo} {z v:Value} {a:Option Addr} {cp:Nat} {val:Nat→Nat→Value} {Sub':Nat→Nat→Nat→Prop} (ht:P.underlying ty=some (.slice t)) (hi:P.info? t=some i) (hz:i.zero=some z) (hsz:i.size=sz) (hzs:z.cells.size=sz) (hpos:0<sz)
  (hI:∀ b,S b→¬ I b) (hd:RowR w I S t sz es v) (hx:0<new.length→∃ b off,a=some ⟨b,off,none⟩∧∀ i j,i<new.length→j<sz→w.cell? ⟨b,off+i*sz+j,none⟩=some (val i j))
  (h4':∀ i (h:i<new.length),new[i].length=sz) (h5':∀ i j x,Sub' i j x→T x) (hTl:∀ x,T x→x<w.heap.size) (hST:∀ x,S x→¬ T x) (h6':∀ i j i' j' x,Sub' i j x→Sub' i' j' x→i=i'∧j=j')
  (h7':∀ i j (h:i<new.length) (h':j<new[i].length),ORep w I (Sub' i j) (new[i][j]) (val i j)) (h63:es.length+new.length≤9223372036854775807) (hby:(es.length+new.length)*i.bytes≤140737488355328) :
  ∃ v' w' S',(Builtin.append_ #[ty,ty] tr #[v,.slice a new.length cp]).run P w=.ok v' w'∧RowR w' I S' t sz (es++new) v'∧(∀ b,S' b→S b∨T b∨(w.heap.size≤b∧b<w'.heap.size))∧w'.os=w.os∧TapeOk w w'∧w'.output=w.output∧w.heap.size≤w'.heap.size ∧
   ∀ b,b<w.heap.size→¬ S b→w'.heap[b]?=w.heap[b]?:=by
 obtain ⟨v',w',S',h1,h2,h3,h4,h5,h6,h7,h8,_⟩:=Jt (P:=P) (w:=w) (I:=I) (S:=S) (T:=T) (tr:=tr) ht hi hz hsz hzs hpos hI hd hx h4' h5' hTl hST h6' h7' h63 hby
 exact ⟨v',w',S',h1,h2,h3,h4,h5,h6,h7,h8⟩
end
section
variable {P:Program} {c:Ctx} {ops:Array Oper} {s:Fst} {K:Kont} {o:Oper} {p:Nat}
structure Grid (w:World) (I:Nat→Prop) (B:Nat→Nat→Prop) (ob:Nat→Ob) (len sz:Nat) (es:List (List (OT × List Nat))) (vs:List Value):Prop where
 n:es.length=len
 m:vs.length=len*sz
 l:∀ (i:Nat) l,es[i]?=some l→l.length=sz
 r:∀ (i j:Nat) l r,es[i]?=some l→l[j]?=some r→ORep w I (UB B r.2) r.1 (vs.getD (i*sz+j) undef)
 g:∀ (i:Nat) l g,es[i]?=some l→g∈BA l→(ob g).live
theorem Grid.set {w:World} {I:Nat→Prop} {B:Nat→Nat→Prop} {ob:Nat→Ob} {len sz:Nat} {es:List (List (OT × List Nat))} {vs us:List Value} {ls:List (OT × List Nat)} {k:Nat} (h:Grid w I B ob len sz es vs) (hk:k<len) (hl:RR w I B ls us) (hsz:ls.length=sz) (hg:∀ g,g∈BA ls→(ob g).live) :
  Grid w I B ob len sz (es.set k ls) (splice vs (k*sz) us):=by
 have hu:us.length=sz:=by rw [←hl.1,hsz]
 have hfit:k*sz+us.length≤vs.length:=by rw [h.m,hu]; have:=zK sz (show k+1≤len from hk); rw [zP] at this; omega
 refine ⟨by simp [h.n],by rw [DP hfit,h.m],fun i l hi=>?_,fun i j l r hi hj=>?_,fun i l g hi hgl=>?_⟩
 ·by_cases e:k=i
  ·subst e
   rw [yJ (by rw [h.n]; exact hk)] at hi
   obtain rfl:=zB hi
   exact hsz
  ·rw [z6 e] at hi
   exact h.l i l hi
 ·by_cases e:k=i
  ·subst e
   rw [yJ (by rw [h.n]; exact hk)] at hi
   obtain rfl:=zB hi
   have hj':j<sz:=by rw [←hsz]; exact (zC.1 hj).1
   have e1:(splice vs (k*sz) us).getD (k*sz+j) undef=us.getD j undef:=by
    rw [zE,CF hfit,if_neg (by omega),if_pos (by omega),yV,zE]
   rw [e1]
   have hju:us[j]?=some (us.getD j undef):=by
    rw [zE,zA (by omega)]; rfl
   exact hl.2 j r _ hj hju
  ·rw [z6 e] at hi
   have hj':j<sz:=by rw [←h.l i l hi]; exact (zC.1 hj).1
   have e1:(splice vs (k*sz) us).getD (i*sz+j) undef=vs.getD (i*sz+j) undef:=by
    rw [zE,CF hfit,zE]
    rcases Nat.lt_or_ge i k with h1 | h1
    ·have:=zK sz (show i+1≤k from h1)
     rw [zP] at this
     rw [if_pos (by omega)]
    ·have:=zK sz (show k+1≤i by omega)
     rw [zP] at this
     rw [if_neg (by omega),if_neg (by omega)]
   rw [e1]
   exact h.r i j l r hi hj
 ·by_cases e:k=i
  ·subst e
   rw [yJ (by rw [h.n]; exact hk)] at hi
   obtain rfl:=zB hi
   exact hg g hgl
  ·rw [z6 e] at hi
   exact h.g i l g hi hgl
theorem LX {w:World} {I:Nat→Prop} {V:Nat→Option Value} {B:Nat→Nat→Prop} {ob:Nat→Ob} (hwf:Wf w I V B ob) {len sz:Nat} {ev:SX→SV} {av:Operand→Value}:∀ (parts:List (Nat × Operand)) (es es':List (List (OT × List Nat))) (vs:List Value),Grid w I B ob len sz es vs →
  (∀ y∈parts.map (·.2),RepV w I V (ev (trX y)) (av y))→(∀ q∈parts,q.1<len)→eOp.mkEs ev ob sz es (parts.map fun (k,x)=>(k,trX x))=some es' →
  ∃ us:List Value,Instr.fill (fun i=>some (i*sz,sz)) vs.toArray (parts.map fun (k,y)=>(k,av y))=some us.toArray∧Grid w I B ob len sz es' us
 | [],es,es',vs,hg,_,_,h=>by
  simp only [List.map_nil,eOp.mkEs,zF] at h
  subst h
  exact ⟨vs,rfl,hg⟩
 | (k,y) :: parts,es,es',vs,hg,hy,hk,h=>by
  simp only [zJ,eOp.mkEs] at h
  split at h
  ·rename_i l hc
   split at h
   ·rename_i ls hls
    obtain ⟨h3,h4,h5⟩:=(hy y (by simp)).cellsN hc
    obtain ⟨g1,g2,g3⟩:=FO hwf h4 hls
    have hkl:=hk (k,y) (by simp)
    have hset:=hg.set hkl g1 (by rw [g3,h5]) g2
    obtain ⟨us,h6,h7⟩:=LX hwf parts _ es' _ hset (fun y' hy'=>hy y' (by simp only [zJ,zO]; exact .inr hy')) (fun q hq=>hk q (by simp [hq])) h
    refine ⟨us,?_,h7⟩
    have hfit:k*sz+sz≤vs.length:=by rw [hg.m]; have:=zK sz (show k+1≤len from hkl); rw [zP] at this; omega
    simp only [zJ,Instr.fill]
    rw [if_neg (by simp [h3]; omega)]
    have:=Ks vs (av y).cells.toList (k*sz) (by rw [zQ,h3]; omega)
    rw [←h6,← this]
    congr 1
    rw [←Array.foldl_toList,Array.toList_zipIdx]
   ·cases h
  ·cases h
theorem Grid.zero {w:World} {I:Nat→Prop} {B:Nat→Nat→Prop} {ob:Nat→Ob} {len sz:Nat} {zl:List (OT × List Nat)} {zs:List Value} (hl:RR w I B zl zs) (hsz:zl.length=sz) (hg:BA zl=[]) (hpos:0<sz) :
  Grid w I B ob len sz (yC len zl) ((zN (len*sz)).map fun q=>zs.getD (q % sz) undef):=by
 have hrep:∀ (i:Nat) l,(yC len zl)[i]?=some l→i<len∧l=zl:=fun i l hi=>by
  rw [List.getElem?_replicate] at hi
  split at hi
  ·rename_i h; exact ⟨h,(zB hi).symm⟩
  ·cases hi
 refine ⟨by simp,by simp,fun i l hi=>?_,fun i j l r hi hj=>?_,fun i l g hi hgl=>?_⟩
 ·rw [(hrep i l hi).2,hsz]
 ·obtain ⟨h1,rfl⟩:=hrep i l hi
  have hj':j<sz:=by rw [←hsz]; exact (zC.1 hj).1
  have e1:((zN (len*sz)).map fun q=>zs.getD (q % sz) undef).getD (i*sz+j) undef=zs.getD j undef:=by
   rw [zE,zX,List.getElem?_range (mul_lt h1 hj')]
   simp only [zW,yZ]
   rw [yW,Nat.mul_add_mod,Nat.mod_eq_of_lt hj']
  rw [e1]
  have hz:zs[j]?=some (zs.getD j undef):=by
   rw [zE,zA (by rw [←hl.1,hsz]; exact hj')]; rfl
  exact hl.2 j r _ hj hz
 ·rw [(hrep i l hi).2,hg] at hgl
  cases hgl
theorem Grid.keep {w w':World} {I:Nat→Prop} {B:Nat→Nat→Prop} {ob:Nat→Ob} {len sz:Nat} {es:List (List (OT × List Nat))} {vs:List Value} (h:Grid w I B ob len sz es vs) (hs:w.heap.size≤w'.heap.size) (hk:∀ b,b<w.heap.size→w'.heap[b]?=w.heap[b]?):Grid w' I B ob len sz es vs :=
 ⟨h.n,h.m,h.l,fun i j l r hi hj=>(h.r i j l r hi hj).keep ⟨hs,fun b _ hb=>hk b hb⟩ (fun _ h=>h) fun b _ hb=>hk b hb,h.g⟩
theorem After.W3 {w:World} {I:Nat→Prop} {V:Nat→Option Value} {B:Nat→Nat→Prop} {ob:Nat→Ob} (hwf:Wf w I V B ob) {p:Nat} (hp:ob p=.free) {t:TypeId} {len sz:Nat} {es:List (List (OT × List Nat))} {vs:List Value} (h:Grid w I B ob len sz es vs) (hlen:len≤9223372036854775807) (hn:(es.map BA).flatten.Nodup) :
  ∃ V' B',After w I V B ob ((p,.row t sz (es.map Dg)) :: B7 (es.map BA).flatten) (w.alloc (.cells vs.toArray t)) I V' B'∧V' p=some (.slice (some ⟨w.heap.size,0,none⟩) len len):=by
 have hlive:∀ g,g∈(es.map BA).flatten→(ob g).live:=fun g hg=>by
  rw [y0] at hg
  obtain ⟨l,hl,hg⟩:=hg
  obtain ⟨x,hx,rfl⟩:=zY.1 hl
  obtain ⟨i,hi⟩:=yN hx
  exact h.g i x g hi hg
 have hk:∀ b,b<w.heap.size→(w.alloc (.cells vs.toArray t)).heap[b]?=w.heap[b]?:=fun b hb=>Below.heap_alloc w _ b hb
 have h':=h.keep (w':=w.alloc (.cells vs.toArray t)) (by simp) hk
 have hrow:RowR (w.alloc (.cells vs.toArray t)) I (fun x=>x=w.heap.size∨UB B (es.map BA).flatten x) t sz (es.map Dg) (.slice (some ⟨w.heap.size,0,none⟩) es.length len) :=
  RowR.make (heap_alloc_new w _) (Nat.le_of_eq h.n) hlen (by simp [h.m]) h'.l hn (fun g hg hB=>by have:=hwf.lt g _ (hlive g hg) hB; omega) (fun g g' x hg hg' hB hB'=>hwf.dO g g' x (hlive g hg) (hlive g' hg') hB hB')
   (fun i j l r hi hj=>by
    have:=h'.r i j l r hi hj
    have e:vs.toArray.getD (i*sz+j) undef=vs.getD (i*sz+j) undef:=by simp [zD,zE]
    rw [e]; exact this)
 rw [h.n] at hrow
 refine ⟨_,_,After.row hwf (q:=p) (gs:=(es.map BA).flatten) (Bq:=fun x=>x=w.heap.size∨UB B (es.map BA).flatten x) (.inl hp) hlive (fun hm=>by have:=hlive p hm; rw [hp] at this; exact this) rfl (TapeOk.mk' rfl rfl) rfl (by simp) (fun b hb _ _=>hk b hb) (fun u hu=>by rw [hwf.fr p hp] at hu; cases hu) hrow (fun b hb=>?_),by simp⟩
 rcases hb with rfl | hb
 ·exact .inl ⟨zL _,by simp⟩
 ·exact .inr (.inr hb)
theorem OU {ob ob':Nat→Ob} {x:SV} (h:∀ g,g∈H0 x→ob' g=ob g):NA ob' x=NA ob x:=by
 cases x with
 | ref g=>simp only [NA]; rw [h g (by simp [H0])]
 | int k n=>cases k <;> rfl
 | _=>rfl
theorem Fq {ob ob':Nat→Ob} {l:List SV} (h:∀ g,g∈(l.map H0).flatten→ob' g=ob g):Dq ob' l=Dq ob l:=by
 unfold Dq
 congr 1
 refine yP fun x hx=>OU fun g hg=>h g ?_
 rw [y0]
 exact ⟨H0 x,zY.2 ⟨x,hx,rfl⟩,hg⟩
theorem Ju {x:SV} {n:Nat} {l:List SV} (h:x.cellsN n=some l):(l.map H0).flatten=Il x:=by
 cases x <;> simp only [SV.cellsN] at h <;> (try cases h) <;> (try (split at h)) <;> (try cases h) <;> simp [Il,H0]
theorem Kw {ob ob':Nat→Ob} {sz:Nat} {ev ev':SX→SV}:∀ {parts:List (Nat × SX)} {es:List (List (OT × List Nat))},(∀ q∈parts,ev' q.2=ev q.2)→(∀ g,g∈(parts.map fun q=>Il (ev q.2)).flatten→ob' g=ob g)→eOp.mkEs ev' ob' sz es parts=eOp.mkEs ev ob sz es parts
 | [],es,_,_=>rfl
 | (k,x) :: r,es,hev,h=>by
  simp only [eOp.mkEs]
  rw [hev (k,x) (by simp)]
  cases hc:(ev x).cellsN sz with
  | none=>rfl
  | some l =>
   simp only []
   have e1:Dq ob' l=Dq ob l:=Fq fun g hg=>h g (by
    rw [Ju hc] at hg
    simp only [zJ,yH,xJ]; exact .inl hg)
   rw [e1]
   cases Dq ob l with
   | none=>rfl
   | some y=>exact Kw (fun q hq=>hev q (by simp [hq])) fun g hg=>h g (by simp only [zJ,yH,xJ]; exact .inr hg)
theorem IQ {t:TypeId} {z:List SV} {i:TypeInfo} (hz:CN P t=some z) (hi:P.info? t=some i):∃ v:Value,i.zero=some v∧v.cells.size=z.length∧∀ (w:World) (I:Nat→Prop) (V:Nat→Option Value),RepVs w I V z v.cells.toList:=by
 unfold CN at hz
 rw [hi] at hz
 simp only [xF] at hz
 obtain ⟨v,hv,rfl⟩:=zT.1 hz
 refine ⟨v,hv,by simp,fun w I V=>?_⟩
 generalize v.cells.toList=l
 induction l with
 | nil=>simp [RepVs]
 | cons u l ih=>simp only [zJ,RepVs]; exact ⟨u,l,rfl,G9 u,ih⟩
theorem LY {t:TypeId} {z:List SV} (hz:CN P t=some z):(z.map H0).flatten=[]:=by
 unfold CN at hz
 obtain ⟨i,hi,h⟩:=xH.1 hz
 obtain ⟨v,hv,rfl⟩:=zT.1 h
 rw [List.flatten_eq_nil_iff]
 intro l hl
 rw [y8] at hl
 obtain ⟨u,_,rfl⟩:=zY.1 hl
 simp only [Function.comp]
 unfold Ik
 split <;> first | rfl | (split <;> rfl)
theorem Kx (z:Array Value) (m:Nat) {sz:Nat} (h:z.size=sz) (hpos:0<sz):((xL m).map (z[· % z.size]!))=((zN m).map fun q=>z.toList.getD (q % sz) undef).toArray:=by
 apply xN
 simp only [xI,Array.toList_range]
 refine yP fun q hq=>?_
 have:q % z.size<z.size:=by rw [h]; exact Nat.mod_lt _ hpos
 rw [getElem!_pos z _ this,zE,← h]
 simp [this]
theorem RS {t e:TypeId} {len:Nat} {parts:Array (Nat × Operand)} {i:TypeInfo} {z:List SV} (hop:o.op=.buildSlice t len parts) (hu:P.underlying t=some (.slice e)) (hi:P.info? e=some i) (hz:CN P e=some z) (h24:len*i.size≤2 ^ 24) (hpos:0<i.size) (hzl:z.length=i.size)
  (hpl:∀ q∈parts.toList,q.1<len) (hd:AS c.nt o.dst=true) (hp:s.ob p=.free) (h:eOp P (.mkrow e i.size z len (parts.toList.map fun (k,x)=>(k,trX x))) s.sl s.ob p K):Good P c o ops s K:=by
 simp only [eOp] at h
 split at h
 ·rename_i zl hzl'
  split at h
  ·rename_i es hes
   obtain ⟨⟨hgz,hn⟩,hK⟩:=h
   have hops:∀ q∈parts.toList,q.2∈o.op.operands.toList:=fun q hq=>by
    simp only [hop,Op.operands,zY]; exact ⟨q,hq,rfl⟩
   refine ⟨_,_,_,hK,fun s' ha hrd hup=>Cn hd fun I V B a w hr=>?_⟩
   have hwf:=hr.wf
   have hes':eOp.mkEs (As s'.sl) s'.ob i.size (yC len zl) (parts.toList.map fun (k,x)=>(k,trX x))=some es:=by
    rw [Kw (ev:=As s.sl) (ob:=s.ob) (fun q hq=>?_) (fun g hg=>hrd g hg)]
    ·exact hes
    ·obtain ⟨q',hq',rfl⟩:=zY.1 hq
     exact ha.ev (hops q' hq')
   have hzl2:Dq s'.ob z=some zl:=by
    rw [Fq (ob:=s.ob) (fun g hg=>by rw [LY hz] at hg; cases hg)]
    exact hzl'
   obtain ⟨zv,hzv,hzs,hzrep⟩:=IQ hz hi
   obtain ⟨g1,g2,g3⟩:=FO hwf (hzrep w I V) hzl2
   have hzero:=Grid.zero (ob:=s'.ob) (len:=len) g1 (by rw [g3,hzl]) hgz hpos
   obtain ⟨us,h6,h7⟩:=LX hwf (av:=a.eval) parts.toList _ es _ hzero (fun y hy=>by
    obtain ⟨q,hq,rfl⟩:=zY.1 hy
    exact An hr q.2) hpl hes'
   have hlen:len≤9223372036854775807:=by
    have:=Nat.mul_le_mul_left len hpos
    omega
   obtain ⟨V',B',h8,h9⟩:=After.W3 hwf (by rw [hup p (by simp),hp]) h7 hlen hn
   refine ⟨.slice (some ⟨w.heap.size,0,none⟩) len len,_,I,V',B',?_,h8,by simp only [RepV]; exact ⟨h9,rfl⟩⟩
   simp only [execOp,hop]
   refine Be ?_
   have hzz:=Kx zv.cells (len*i.size) (by rw [hzs,hzl]) hpos
   have hfill:Instr.fill (fun k=>some (k*i.size,i.size)) ((xL (len*i.size)).map (zv.cells[· % zv.cells.size]!)) ((parts.map fun (k,x)=>(k,a.eval x)).toList)=some us.toArray:=by
    rw [hzz,xI]
    exact h6
   unfold Instr.buildSlice
   simp only [Sem.run_bind,run_underlying hu,Result.andThen_ok,sizeOf,typeInfo,run_program,hi,Sem.run_pure]
   rw [if_neg (by omega)]
   by_cases h0:len*i.size=0
   ·rw [if_pos h0]
    have e1:((xL (len*i.size)).map ((#[]:Array Value)[· % (#[]:Array Value).size]!))=((xL (len*i.size)).map (zv.cells[· % zv.cells.size]!)):=by rw [h0]; simp
    rw [pure_bind,e1,hfill]
    simp [newRow]
   ·rw [if_neg h0]
    simp only [Sem.run_bind,zeroValue,typeInfo,run_program,Result.andThen_ok,hi,hzv,Sem.run_pure]
    rw [hfill]
    simp [newRow]
  ·exact h.elim
 ·exact h.elim
theorem OV {t e:TypeId} {x y:Operand} {i:TypeInfo} {z:List SV} (hop:o.op=.makeSlice t x y) (hxy:JS x y=true) (hu:P.underlying t=some (.slice e)) (hi:P.info? e=some i) (hz:CN P e=some z) (hpos:0<i.size) (hzl:z.length=i.size)
  (hd:AS c.nt o.dst=true) (hp:s.ob p=.free) (h:eOp P (.mkslice e i.size i.bytes z (trX x)) s.sl s.ob p K):Good P c o ops s K:=by
 simp only [eOp] at h
 split at h
 ·rename_i k n zl he hzl'
  obtain ⟨⟨h0,hby,hmax,hgz⟩,hK⟩:=h
  refine ⟨_,_,_,hK,fun s' ha hrd hup=>Cn hd fun I V B a w hr=>?_⟩
  have hwf:=hr.wf
  have hv:=An hr x
  rw [ha.ev (by simp [hop,Op.operands]),he] at hv
  simp only [RepV] at hv
  have hv2:a.eval y=.int k n:=by
   cases x <;> cases y <;> simp only [JS,yT] at hxy
   ·rename_i q q'
    simp only [beq_iff_eq] at hxy
    subst hxy; exact hv
   ·rename_i v v'
    cases v <;> cases v' <;> simp only [JS,yT,z1,beq_iff_eq] at hxy
    obtain ⟨rfl,rfl⟩:=hxy
    exact hv
  have hzl2:Dq s'.ob z=some zl:=by
   rw [Fq (ob:=s.ob) (fun g hg=>by rw [LY hz] at hg; cases hg)]
   exact hzl'
  obtain ⟨zv,hzv,hzs,hzrep⟩:=IQ hz hi
  obtain ⟨g1,g2,g3⟩:=FO hwf (hzrep w I V) hzl2
  have hzero:=Grid.zero (ob:=s'.ob) (len:=n.toNat) g1 (by rw [g3,hzl]) hgz hpos
  have hno:((yC n.toNat zl).map BA).flatten=[]:=by
   rw [List.flatten_eq_nil_iff]
   intro l hl
   obtain ⟨q,hq,rfl⟩:=zY.1 hl
   rw [(List.mem_replicate.1 hq).2,hgz]
  obtain ⟨V',B',h8,h9⟩:=After.W3 (t:=e) hwf (by rw [hup p (by simp),hp]) hzero (by omega) (by rw [hno]; exact List.nodup_nil)
  rw [hno] at h8
  have e2:(yC n.toNat zl).map Dg=yC n.toNat (Dg zl):=by simp
  rw [e2] at h8
  refine ⟨.slice (some ⟨w.heap.size,0,none⟩) n.toNat n.toNat,_,I,V',B',?_,h8,by simp only [RepV]; exact ⟨h9,rfl⟩⟩
  simp only [execOp,hop,hv,hv2]
  refine Be ?_
  have hrun:=run_make (P:=P) w t e i zv hu hi hzv k k n n h0 (Int.le_refl _) (by omega) (by omega)
  rw [hrun]
  unfold madeCells
  rw [Kx zv.cells (n.toNat*i.size) (by rw [hzs,hzl]) hpos]
 ·exact h.elim
end
section
variable {P:Program} {c:Ctx} {ops:Array Oper} {s:Fst} {K:Kont} {o:Oper} {p:Nat}
theorem RowR.store {w:World} {I:Nat→Prop} {B:Nat→Nat→Prop} {t:TypeId} {sz:Nat} {es:List (List OT)} {v:Value} {g k q:Nat} {l:List OT} {ls:List (OT × List Nat)} {us:List Value}
  (h:RowR w I (B g) t sz es v) (hl:es[k]?=some l) (hL:RR w I B ls us) (hq:q+ls.length≤sz) (hgI:∀ x,B g x→¬ I x) (hn:(BA ls).Nodup) (hd:∀ g',g'∈BA ls→∀ x,B g' x→¬ B g x) (hdO:∀ g1 g2 x,g1∈BA ls→g2∈BA ls→B g1 x→B g2 x→g1=g2) :
  ∃ (b cp:Nat) (cur:Array Value),v=.slice (some ⟨b,0,none⟩) es.length cp∧w.heap[b]?=some (.cells cur t (0,0))∧B g b∧k*sz+q+us.length≤cur.size ∧
   RowR (w.setRow b (splice cur.toList (k*sz+q) us).toArray) I (fun x=>B g x∨UB B (BA ls) x) t sz (es.set k (splice l q (Dg ls))) v:=by
 have hk:k<es.length:=(zC.1 hl).1
 rcases h with ⟨rfl,_⟩ | ⟨b,cap,cur,Sub,rfl,hS,hb,h1,h2,h3,h4,h5,h6,h7⟩
 ·simp at hk
 ·have hlk:es[k]=l:=by rw [zA hk] at hl; exact zB hl
  have hll:l.length=sz:=by rw [←hlk]; exact h4 k hk
  have hu:us.length=ls.length:=hL.1.symm
  have hfl:(Dg ls).length=ls.length:=by simp [Dg]
  have hfit:k*sz+q+us.length≤cur.size:=by
   rw [h3]
   have:=zK sz (show k+1≤cap by omega)
   rw [zP] at this; omega
  have hfit':k*sz+q+us.length≤cur.toList.length:=by simpa using hfit
  have hfq:q+(Dg ls).length≤l.length:=by omega
  refine ⟨b,cap,cur,rfl,hb,hS,hfit,?_⟩
  have hset:∀ i (hi:i<(es.set k (splice l q (Dg ls))).length),(es.set k (splice l q (Dg ls)))[i]=if k=i then splice l q (Dg ls) else es[i]'(by simpa using hi):=fun i hi=>by
   rw [List.getElem_set]
  have hkI:KeepS I w (w.setRow b (splice cur.toList (k*sz+q) us).toArray):=⟨by simp,fun x hx hl=>setRow_other w b x _ fun e=>hgI b hS (e▸hx)⟩
  have notb:∀ g' x,g'∈BA ls→B g' x→x≠b:=fun g' x hg hB e=>hd g' hg x hB (e▸hS)
  refine .inr ⟨b,cap,(splice cur.toList (k*sz+q) us).toArray,fun i j x=>if i=k∧q≤j∧j<q+ls.length then (∃ r,ls[j-q]?=some r∧UB B r.2 x) else Sub i j x,by simp,.inl hS,setRow_heap w b cur _ t _ hb,by simpa using h1,h2,?_,fun i hi=>?_,fun i j x hx=>?_,fun i j i' j' x hx hx'=>?_,fun i j hi hj=>?_⟩
  ·rw [zM,DP hfit',zQ,h3]
  ·rw [hset i hi]
   split
   ·rw [DP hfq,hll]
   ·exact h4 i _
  ·dsimp only at hx
   split at hx
   ·obtain ⟨r,hr,g',hg',hB⟩:=hx
    have hm:=C7 hr hg'
    exact ⟨.inr ⟨g',hm,hB⟩,notb g' x hm hB⟩
   ·exact ⟨.inl (h5 i j x hx).1,(h5 i j x hx).2⟩
  ·have cross:∀ i j x,Sub i j x→∀ g',g'∈BA ls→B g' x→False:=fun i j x hs g' hg hB=>hd g' hg x hB (h5 i j x hs).1
   dsimp only at hx hx'
   split at hx <;> split at hx'
   ·rename_i e1 e2
    obtain ⟨r,hr,g1,hg1,hB1⟩:=hx
    obtain ⟨r',hr',g2,hg2,hB2⟩:=hx'
    have:=hdO g1 g2 x (C7 hr hg1) (C7 hr' hg2) hB1 hB2
    subst this
    have:=Ku hn hr hr' hg1 hg2
    exact ⟨by omega,by omega⟩
   ·obtain ⟨r,hr,g1,hg1,hB1⟩:=hx
    exact (cross _ _ x hx' g1 (C7 hr hg1) hB1).elim
   ·obtain ⟨r,hr,g1,hg1,hB1⟩:=hx'
    exact (cross _ _ x hx g1 (C7 hr hg1) hB1).elim
   ·exact h6 _ _ _ _ x hx hx'
  ·have hi':i<es.length:=by simpa using hi
   have hcur:∀ m,(splice cur.toList (k*sz+q) us).toArray.getD m undef=if m<k*sz+q then cur.getD m undef else if m<k*sz+q+us.length then us.getD (m-(k*sz+q)) undef else cur.getD m undef:=fun m=>by
    have:=CF (l:=cur.toList) (vs:=us) (o:=k*sz+q) (j:=m) hfit'
    simp only [zD,zE,yM,this,Array.getElem?_toList]
    repeat' split
    all_goals rfl
   by_cases hin:i=k∧q≤j∧j<q+ls.length
   ·obtain ⟨rfl,hq1,hq2⟩:=hin
    have e0:(es.set i (splice l q (Dg ls)))[i]=splice l q (Dg ls):=by rw [hset]; simp
    have hjl:j-q<ls.length:=by omega
    have e1:(es.set i (splice l q (Dg ls)))[i][j]=(ls[j-q]).1:=by
     have:(es.set i (splice l q (Dg ls)))[i][j]?=some (ls[j-q]).1:=by
      rw [e0,CF hfq,if_neg (by omega),if_pos (by omega)]
      simp only [Dg,zX,zA hjl,zW]
     rw [zA hj] at this
     exact zB this
    rw [e1,hcur,if_neg (by omega),if_pos (by omega),show i*sz+j-(i*sz+q)=j-q by omega]
    have hju:us[j-q]?=some (us.getD (j-q) undef):=by
     rw [zE,zA (by omega)]; rfl
    have:=hL.2 (j-q) _ _ (zA hjl) hju
    refine (this.keep hkI (fun _ h=>h) fun x hx hlt=>?_).up fun x hx=>?_
    ·obtain ⟨g',hg',hB⟩:=hx
     exact setRow_other w b x _ (notb g' x (C7 (zA hjl) hg') hB)
    ·simp only [and_self,true_and,hq1,hq2,if_true]
     exact ⟨_,zA hjl,hx⟩
   ·have hjsz:j<sz:=by
     have h9:=hj
     rw [hset i hi] at h9
     split at h9
     ·rw [DP hfq,hll] at h9; exact h9
     ·rw [h4 i hi'] at h9; exact h9
    have hje:j<es[i].length:=by rw [h4 i hi']; exact hjsz
    have e1:(es.set k (splice l q (Dg ls)))[i][j]=es[i][j]:=by
     have:(es.set k (splice l q (Dg ls)))[i][j]?=some es[i][j]:=by
      rw [hset i hi]
      split
      ·rename_i e
       subst e
       rw [CF hfq]
       rw [hfl]
       by_cases h8:j<q
       ·rw [if_pos h8,← zA hje,hlk]
       ·rw [if_neg h8,if_neg (by omega),← zA hje,hlk]
      ·exact zA hje
     rw [zA hj] at this
     exact zB this
    have e2:(splice cur.toList (k*sz+q) us).toArray.getD (i*sz+j) undef=cur.getD (i*sz+j) undef:=by
     rw [hcur]
     rcases Nat.lt_trichotomy i k with h8 | h8 | h8
     ·have:=zK sz (show i+1≤k from h8)
      rw [zP] at this
      rw [if_pos (by omega)]
     ·subst h8
      by_cases h9:j<q
      ·rw [if_pos (by omega)]
      ·rw [if_neg (by omega),if_neg (by omega)]
     ·have:=zK sz (show k+1≤i from h8)
      rw [zP] at this
      rw [if_neg (by omega),if_neg (by omega)]
    rw [e1,e2]
    refine ((h7 i j hi' hje).keep hkI (fun _ h=>h) fun x hx hlt=>setRow_other w b x _ (h5 i j x hx).2).up fun x hx=>?_
    dsimp only
    rw [if_neg hin]; exact hx
theorem MS {t:TypeId} {x y:Operand} {i:TypeInfo} {g sz k q:Nat} (hop:o.op=.store t x y) (hi:P.info? t=some i) (hd:AS c.nt o.dst=true) (he:As s.sl (trX x)=.eptr g sz k q)
  {t0:TypeId} {es:List (List OT)} {vs:List SV} {l:List OT} {ls:List (OT × List Nat)} (hob:s.ob g=.row t0 sz es) (hc:(As s.sl (trX y)).cellsN i.size=some vs) (hls:Dq s.ob vs=some ls) (hn:q+i.size≤sz) (hg:g ∉ BA ls) (hnd:(BA ls).Nodup) (hl:es[k]?=some l)
  (h:K .any ((g,.row t0 sz (es.set k (splice l q (Dg ls)))) :: B7 (BA ls)) (Il (As s.sl (trX y)))):Good P c o ops s K:=by
 refine ⟨_,_,_,h,fun s' ha hrd hup=>Im hd fun I V B a w hr=>?_⟩
 have hwf:=hr.wf
 have hv:=An hr x
 rw [ha.ev (y:=x) (by simp [hop,Op.operands]),he] at hv
 have hobs:s'.ob g=.row t0 sz es:=by rw [hup g (by simp),hob]
 have hls':Dq s'.ob vs=some ls:=by rw [Fq (ob:=s.ob) (fun g' hg'=>hrd g' (by rw [Ju hc] at hg'; exact hg'))]; exact hls
 have hy:=An hr y
 rw [ha.ev (y:=y) (by simp [hop,Op.operands])] at hy
 obtain ⟨h7,h8,h9⟩:=hy.cellsN hc
 obtain ⟨g1,g2,g3⟩:=FO hwf h8 hls'
 have hlive:(s'.ob g).live:=by rw [hobs]; trivial
 obtain ⟨val,hV,hR⟩:=hwf.obj g hlive
 rw [hobs] at hR
 have hdis:∀ g',g'∈BA ls→∀ z,B g' z→¬ B g z:=fun g' hg' z hB hB'=>hg (by rw [hwf.dO g g' z hlive (g2 g' hg') hB' hB]; exact hg')
 obtain ⟨b,cp,cur,e1,hb,hBb,hfit,hrow⟩:=RowR.store hR hl g1 (by rw [g3,h9]; exact hn) (fun z hz hI=>hwf.dI g z hlive hz hI) hnd hdis (fun g1' g2' z hg1 hg2 hB1 hB2=>hwf.dO _ _ z (g2 _ hg1) (g2 _ hg2) hB1 hB2)
 simp only [RepV] at hv
 obtain ⟨b',off0,n',c',e2,e3⟩:=hv
 rw [hV,e1] at e2
 have hbb:b'=b∧off0=0:=by simp at e2; exact ⟨e2.1.1.symm,e2.1.2.symm⟩
 obtain ⟨rfl,rfl⟩:=hbb
 rw [zV] at e3
 refine ⟨w.setRow b' (splice cur.toList (k*sz+q) (a.eval y).cells.toList).toArray,I,_,_,?_,After.row (w':=w.setRow b' (splice cur.toList (k*sz+q) (a.eval y).cells.toList).toArray) hwf (q:=g) (gs:=BA ls) (.inr hlive) g2 hg rfl (TapeOk.mk' rfl rfl) rfl (by simp) (fun z hz h1 h2=>setRow_other w b' z _ fun e=>h1 ⟨hlive,e▸hBb⟩) (fun u hu=>by rw [hV] at hu; exact (zB hu).symm) hrow (fun z hz=>?_)⟩
 ·simp only [execOp,hop,e3,Instr.storeAt,Instr.sureAddr,pure_bind]
  have h1c:∀ u∈(a.eval y).cells.toList,u.oneCell'=true:=by
   intro u hu
   obtain ⟨j,hj⟩:=yN hu
   have hjl:j<ls.length:=by rw [g1.1]; exact (zC.1 hj).1
   exact (g1.2 j _ u (zA hjl) hj).one
  have:=Ev (P:=P) (w:=w) hi b' (k*sz+q) (a.eval y) h7 h1c cur t0 hb (by rw [←h7,← zQ]; exact hfit)
  rw [Sem.run_bind,this]; rfl
 ·rcases hz with hz | hz
  ·exact .inr (.inl ⟨hlive,hz⟩)
  ·exact .inr (.inr hz)
theorem Q8 {w:World} {I:Nat→Prop} {V:Nat→Option Value} {S:Nat→Prop} {v:SV} {x:OT} {u:Value} (h:LT v=some x) (hv:RepV w I V v u):ORep w I S x u:=by
 unfold LT at h
 split at h
 ·obtain rfl:=zB h
  simp only [RepV] at hv; subst hv; exact .int _ _
 ·obtain rfl:=zB h
  simp only [RepV] at hv; subst hv; exact .bool _ _
 ·obtain rfl:=zB h
  simp only [RepV] at hv
  obtain ⟨rfl,h1⟩:=hv
  exact .str _ _ h1
 ·cases h
theorem Jv:∀ {hs:List (Nat × Nat × Nat)} {k o:Nat},DO hs k o=none→∀ q,q∈hs→¬ (q.1=k∧q.2.1=o)
 | [],k,o,_,q,hq=>by cases hq
 | (k1,o1,q1) :: r,k,o,h,q,hq=>by
  simp only [DO] at h
  split at h
  ·cases h
  ·rename_i hne
   rcases zO.1 hq with rfl | hq
   ·exact hne
   ·exact Jv h q hq
theorem Vz {k k' o o' sz:Nat} (ho:o<sz) (ho':o' < sz) (hne:¬ (k'=k∧o'=o)):k'*sz+o'≠k*sz+o:=by
 intro e
 rcases Nat.lt_trichotomy k' k with h | h | h
 ·have:=zK sz (show k'+1≤k from h)
  rw [zP] at this; omega
 ·subst h; exact hne ⟨rfl,by omega⟩
 ·have:=zK sz (show k+1≤k' from h)
  rw [zP] at this; omega
theorem LA {t:TypeId} {x y:Operand} {i:TypeInfo} {g sz k q:Nat} (hop:o.op=.store t x y) (hi:P.info? t=some i) (hd:AS c.nt o.dst=true) (he:As s.sl (trX x)=.eptr g sz k q)
  {es:List (List OT)} {hs:List (Nat × Nat × Nat)} {v:SV} {z:OT} {l:List OT} (hob:s.ob g=.tree es hs) (hc:(As s.sl (trX y)).cellsN i.size=some [v]) (hz:LT v=some z) (hh:DO hs k q=none) (hl:es[k]?=some l) (hls:l.length=sz) (hq:q<sz)
  (h:K .any [(g,.tree (es.set k (splice l q [z])) hs)] []):Good P c o ops s K:=by
 refine ⟨_,_,_,h,fun s' ha hrd hup=>Im hd fun I V B a w hr=>?_⟩
 have hwf:=hr.wf
 have hv:=An hr x
 rw [ha.ev (y:=x) (by simp [hop,Op.operands]),he] at hv
 have hobs:s'.ob g=.tree es hs:=by rw [hup g (by simp),hob]
 have hy:=An hr y
 rw [ha.ev (y:=y) (by simp [hop,Op.operands])] at hy
 obtain ⟨h7,h8,h9⟩:=hy.cellsN hc
 have hlive:(s'.ob g).live:=by rw [hobs]; trivial
 obtain ⟨val,hV,t0,sz',hR,hH⟩:=JU hr hobs
 have hk:k<es.length:=(zC.1 hl).1
 have hlk:es[k]=l:=by rw [zA hk] at hl; exact zB hl
 have hsz:sz'=sz:=by
  rcases hR with ⟨rfl,_⟩ | ⟨b,cap,cur,Sub,_,_,_,_,_,_,h4,_⟩
  ·simp at hk
  ·rw [←h4 k hk,hlk,hls]
 subst hsz
 have h1:i.size=1:=by rw [←h9]; rfl
 have hL:RR w I B [(z,[])] (a.eval y).cells.toList:=by
  simp only [RepVs] at h8
  obtain ⟨u,r,e,h10,rfl⟩:=h8
  rw [e]
  refine ⟨rfl,fun j r u' hj hj'=>?_⟩
  cases j with
  | zero =>
   simp only [zG,zF] at hj hj'
   subst hj hj'
   exact Q8 hz h10
  | succ j=>simp at hj
 obtain ⟨b,cp,cur,e1,hb,hBb,hfit,hrow⟩:=RowR.store (g:=g) (q:=q) hR hl hL (by simp; omega) (fun z hz hI=>hwf.dI g z hlive hz hI) (by simp [BA]) (fun g' hg'=>by simp [BA] at hg') (fun g1 g2 x h1=>by simp [BA] at h1)
 simp only [RepV] at hv
 obtain ⟨b',off0,n',c',e2,e3⟩:=hv
 rw [hV,e1] at e2
 have hbb:b'=b∧off0=0:=by simp at e2; exact ⟨e2.1.1.symm,e2.1.2.symm⟩
 obtain ⟨rfl,rfl⟩:=hbb
 rw [zV] at e3
 have hu1:(a.eval y).cells.toList.length=1:=by rw [zQ,h7,h1]
 have hu:A1 s'.ob [(g,Ob.tree (es.set k (splice l q [z])) hs)] g=.tree (es.set k (splice l q [z])) hs:=by simp [A1,AE]
 have ht:∀ g',Ao [(g,Ob.tree (es.set k (splice l q [z])) hs)] g' ↔ g'=g:=fun g'=>by simp [Ao]
 refine ⟨w.setRow b' (splice cur.toList (k*sz'+q) (a.eval y).cells.toList).toArray,I,V,B,?_,?_⟩
 ·simp only [execOp,hop,e3,Instr.storeAt,Instr.sureAddr,pure_bind]
  have h1c:∀ u∈(a.eval y).cells.toList,u.oneCell'=true:=by
   intro u hu
   obtain ⟨j,hj⟩:=yN hu
   have hjl:j < [(z,([]:List Nat))].length:=by rw [hL.1]; exact (zC.1 hj).1
   exact (hL.2 j _ u (zA hjl) hj).one
  have:=Ev (P:=P) (w:=w) hi b' (k*sz'+q) (a.eval y) h7 h1c cur t0 hb (by rw [←h7,← zQ]; exact hfit)
  rw [Sem.run_bind,this]; rfl
 ·refine After.mk' hwf rfl (TapeOk.mk' rfl rfl) rfl (by simp) (fun x hx hno=>setRow_other w b' x _ fun e=>hno g ((ht g).2 rfl) hlive (e▸hBb)) (VLe.refl _) (fun g' hg=>⟨rfl,fun hf=>hwf.fr g' hf⟩) (fun g' hg hl'=>?_) (fun g' x hg hl' hb'=>?_) (fun g1 g2 x hg1 hg2 _ _ _ _=>by rw [(ht g1).1 hg1,(ht g2).1 hg2]) (fun g' hg hf=>?_)
  ·obtain rfl:=(ht g').1 hg
   rw [hu]
   refine ⟨_,hV,t0,sz',?_,fun r hr'=>?_⟩
   ·rw [show splice l q [z]=splice l q (Dg [(z,([]:List Nat))]) from rfl]
    refine hrow.up fun x hx=>?_
    rcases hx with hx | hx
    ·exact hx
    ·obtain ⟨g1,hg1,_⟩:=hx
     simp [BA] at hg1
   ·rw [y5]
    obtain ⟨g1,g2,b2,c2,v2,e4,g3,g4,g5⟩:=hH r hr'
    have hb2:b2=b':=by rw [e1] at e4; simp at e4; exact e4.1.symm
    subst hb2
    refine ⟨g1,g2,b2,c2,v2,e4,?_,g4,g5⟩
    rw [cell_of_row _ b2 _ _ _ _ (setRow_heap w b2 cur _ t0 _ hb)]
    rw [cell_of_row w b2 _ _ _ _ hb] at g3
    have hne:=Vz hq g2 (Jv hh r hr')
    rw [yM,CF (by simpa using hfit),hu1]
    rw [←Array.getElem?_toList] at g3
    by_cases h8:r.1*sz'+r.2.1<k*sz'+q
    ·rw [if_pos h8]; exact g3
    ·rw [if_neg h8,if_neg (by omega)]; exact g3
  ·obtain rfl:=(ht g').1 hg
   exact .inr ⟨g',(ht g').2 rfl,hlive,hb'⟩
  ·obtain rfl:=(ht g').1 hg
   rw [hu] at hf; cases hf
theorem RT {t:TypeId} {parts:Array (Nat × Operand)} {fs:Array Field} {z:List SV} {qs:List (Nat × Nat × SX)} (hop:o.op=.build t parts) (hu:P.underlying t=some (.struct fs)) (hz:CN P t=some z)
  (hq:B3 (parts.toList.map fun (k,x)=>(Dt P t k).map fun (off,n,_)=>(off,n,trX x))=some qs) (hall:∀ f∈fs.toList,∃ i,P.info? f.type=some i) (hd:AS c.nt o.dst=true) (h:eOp P (.build z qs) s.sl s.ob p K):Good P c o ops s K:=by
 simp only [eOp] at h
 split at h
 ·rename_i z' hz'
  refine Az (rd:=[]) hd h fun s' ha _ I V B a w hr=>?_
  obtain ⟨i,zv,hi,hzv,hzrep⟩:=Km (w:=w) (I:=I) (V:=V) hz
  obtain ⟨hql,hqg⟩:=Jr hq
  have hplace:∃ places:Array (Nat × Nat),(fs.mapM fun f=>do pure (f.offset,← sizeOf f.type):Sem (Array (Nat × Nat))).run P w=.ok places w∧∀ (k:Nat) f j,fs[k]?=some f→P.info? f.type=some j→places[k]?=some (f.offset,j.size):=by
   have key:∀ (l:List Field),(∀ f∈l,∃ i,P.info? f.type=some i)→∃ pl:List (Nat × Nat),(l.mapM (fun f=>do pure (f.offset,← sizeOf f.type)):Sem (List (Nat × Nat))).run P w=.ok pl w∧∀ (k:Nat) f j,l[k]?=some f→P.info? f.type=some j→pl[k]?=some (f.offset,j.size):=by
    intro l
    induction l with
    | nil=>intro _; exact ⟨[],by simp,fun k f j hk _=>by simp at hk⟩
    | cons f l ih =>
     intro hl
     obtain ⟨pl,h1,h2⟩:=ih fun f' hf'=>hl f' (by simp [hf'])
     obtain ⟨j,hj⟩:=hl f (by simp)
     refine ⟨(f.offset,j.size) :: pl,?_,fun k f' j' hk hj'=>?_⟩
     ·rw [List.mapM_cons,Sem.run_bind]
      simp only [sizeOf,typeInfo,Sem.run_bind,run_program,Result.andThen_ok,hj,Sem.run_pure]
      simp only [sizeOf,typeInfo] at h1
      rw [h1]; rfl
     ·cases k with
      | zero=>simp only [zG,zF] at hk ⊢; subst hk; rw [hj] at hj'; rw [zB hj']
      | succ k=>simp only [zI] at hk ⊢; exact h2 k f' j' hk hj'
   obtain ⟨pl,h1,h2⟩:=key fs.toList hall
   refine ⟨pl.toArray,?_,fun k f j hk hj=>by simpa using h2 k f j (by simpa using hk) hj⟩
   rw [Array.mapM_eq_mapM_toList,Sem.run_map,h1]; rfl
  obtain ⟨places,hpl,hpg⟩:=hplace
  have hfill:=NC (w:=w) (I:=I) (V:=V) (place:=(places[·]?)) (ev:=As s'.sl) (av:=a.eval) parts.toList qs z z' zv.cells.toList hzrep (fun y hy=>An hr y) (by simpa using hql) (fun j k y hj=>by
   have hm:(parts.toList.map fun (k,x)=>(Dt P t k).map fun (off,n,_)=>(off,n,trX x))[j]?=some ((Dt P t k).map fun (off,n,_)=>(off,n,trX y)):=by rw [zX,hj]; rfl
   obtain ⟨r,h1,h2⟩:=hqg j _ hm
   obtain ⟨⟨off,n,g⟩,h3,h4⟩:=zT.1 h1
   obtain ⟨fs',f,ii,k1,k2,k3,k4,rfl,rfl⟩:=Gf h3
   rw [hu] at k1
   injection k1 with k1; injection k1 with k1
   subst k1
   exact ⟨f.offset,ii.size,hpg k f ii k2 k3,by rw [h2]; exact congrArg some h4.symm⟩) (by
    have hev:∀ (qs':List (Nat × Nat × SX)) (zz:List SV),(∀ q∈qs',As s'.sl q.2.2=As s.sl q.2.2)→H1 (As s'.sl) zz qs'=H1 (As s.sl) zz qs':=by
     intro qs'
     induction qs' with
     | nil=>intro zz _; rfl
     | cons q qs' ih =>
      intro zz hq'
      obtain ⟨off,n,x⟩:=q
      simp only [H1]
      rw [hq' (off,n,x) (by simp)]
      cases hcc:(As s.sl x).cellsN n with
      | none=>rfl
      | some l =>
       simp only
       split
       ·exact ih _ fun q hq=>hq' q (by simp [hq])
       ·rfl
    rw [hev qs z fun q hqm=>?_]
    ·exact hz'
    ·obtain ⟨j,hj⟩:=yN hqm
     have hjl:j<parts.toList.length:=by
      have:=(zC.1 hj).1
      rw [hql] at this; simpa using this
     have hm:(parts.toList.map fun (k,x)=>(Dt P t k).map fun (off,n,_)=>(off,n,trX x))[j]?=some ((Dt P t (parts.toList[j]).1).map fun (off,n,_)=>(off,n,trX (parts.toList[j]).2)):=by rw [zX,zA hjl]; rfl
     obtain ⟨r,h1,h2⟩:=hqg j _ hm
     rw [hj] at h2
     obtain rfl:=zB h2
     obtain ⟨⟨off,n,g⟩,_,h4⟩:=zT.1 h1
     rw [←h4]
     refine ha.ev ?_
     simp only [hop,Op.operands,zY]
     exact ⟨parts.toList[j],z7 hjl,rfl⟩)
  obtain ⟨us,h1,h2⟩:=hfill
  refine ⟨.agg us.toArray,?_,by simp only [RepV]; exact ⟨us,rfl,h2⟩⟩
  simp only [execOp,hop]
  refine Be ?_
  unfold Instr.build
  simp only [Sem.run_bind,zeroValue,typeInfo,run_program,Result.andThen_ok,hi,hzv,Sem.run_pure,run_underlying hu]
  rw [hpl]
  simp only [Result.andThen_ok]
  have e1:(parts.map fun (k,x)=>(k,a.eval x)).toList=parts.toList.map fun (k,y)=>(k,a.eval y):=by simp
  rw [e1]
  rw [Array.toArray_toList] at h1
  rw [h1]
  simp
 ·exact h.elim
theorem HJ {a b:Nat} {m:Nat} (h:(a:Int)*(b:Int)≤(m:Int)):a*b≤m:=by
 rw [←Int.natCast_mul] at h
 exact Int.ofNat_le.1 h
theorem D.V3 {w:World} {I S:Nat→Prop} {d:D} {v:Value} (h:DRep false w I d v):ORep w I S d.ot v:=by
 cases d with
 | int n=>cases h; exact .int _ _
 | byte n=>cases h; exact .byte _ _
 | nl=>cases h; exact .nil _
 | bool b=>cases h; exact .bool _ _
 | str s=>cases h with | str _ _ hs=>exact .str _ _ hs
 | arr es=>exact .sh _ _ _ h
theorem Ky {w:World} {I:Nat→Prop} {V:Nat→Option Value} {B:Nat→Nat→Prop} {ob:Nat→Ob} (hwf:Wf w I V B ob) {x:SV} {v:Value} {sz:Nat} {new:List (List OT)} {gs:List Nat} (hx:RepV w I V x v) (h:eOp.addS ob sz x=some (new,gs)) (hall:(new.all fun l=>l.length == sz)=true) :
  ∃ (a:Option Addr) (cp:Nat) (val:Nat→Nat→Value) (Sub:Nat→Nat→Nat→Prop),v=.slice a new.length cp∧(0<new.length→∃ b off,a=some ⟨b,off,none⟩∧∀ i j,i<new.length→j<sz→w.cell? ⟨b,off+i*sz+j,none⟩=some (val i j)) ∧
   (∀ i (h:i<new.length),new[i].length=sz)∧(∀ i j x,Sub i j x→UB B gs x)∧(∀ i j i' j' x,Sub i j x→Sub i' j' x→i=i'∧j=j')∧(∀ i j (h:i<new.length) (h':j<new[i].length),ORep w I (Sub i j) (new[i][j]) (val i j))∧∀ g,g∈gs→(ob g).live:=by
 have hl:∀ i (h:i<new.length),new[i].length=sz:=fun i hi=>by
  have:=(yO.1 hall) new[i] (z7 hi)
  simpa using this
 unfold eOp.addS at h
 split at h
 ·simp only [zF,yQ] at h
  obtain ⟨rfl,rfl⟩:=h
  simp only [RepV] at hx
  subst hx
  exact ⟨none,0,fun _ _=>undef,fun _ _ _=>False,rfl,fun h=>absurd h (by simp),hl,fun _ _ _ h=>h.elim,fun _ _ _ _ _ h=>h.elim,fun i j h=>absurd h (by simp),fun g hg=>by cases hg⟩
 ·rename_i es
  simp only [zF,yQ] at h
  obtain ⟨rfl,rfl⟩:=h
  simp only [RepV] at hx
  obtain ⟨a,cp,rfl,_,_,hf⟩:=hx.slice_form
  have hl':∀ i (hi:i<es.length),es[i].length=sz:=fun i hi=>by
   have:=hl i (by simpa using hi)
   simpa using this
  rcases y9 es.length with h0 | h0
  ·have:es=[]:=y3 h0
   subst this
   exact ⟨a,cp,fun _ _=>undef,fun _ _ _=>False,rfl,fun h=>absurd h (by simp),hl,fun _ _ _ h=>h.elim,fun _ _ _ _ _ h=>h.elim,fun i j h=>absurd h (by simp),fun g hg=>by cases hg⟩
  ·obtain ⟨b,off,rfl⟩:=hf h0
   have hleaf:∀ i j (hi:i<es.length) (hj:j<es[i].length),∃ u,w.cell? ⟨b,off+i*sz+j,none⟩=some u∧DRep false w I (es[i][j]) u:=fun i j hi hj=>by
    obtain ⟨u,h1,h2⟩:=DRep.leaf hx hi hj
    rw [hl' i hi] at h1
    exact ⟨u,h1,h2⟩
   refine ⟨some ⟨b,off,none⟩,cp,fun i j=>(w.cell? ⟨b,off+i*sz+j,none⟩).getD undef,fun _ _ _=>False,by simp,fun _=>⟨b,off,rfl,fun i j hi hj=>?_⟩,hl,fun _ _ _ h=>h.elim,fun _ _ _ _ _ h=>h.elim,fun i j hi hj=>?_,fun g hg=>by cases hg⟩
   ·have hi':i<es.length:=by simpa using hi
    obtain ⟨u,h1,_⟩:=hleaf i j hi' (by rw [hl' i hi']; exact hj)
    dsimp only
    rw [h1]; rfl
   ·have hi':i<es.length:=by simpa using hi
    have hj':j<es[i].length:=by simpa using hj
    obtain ⟨u,h1,h2⟩:=hleaf i j hi' hj'
    dsimp only
    rw [h1]
    simp only [yZ,yI]
    exact D.V3 h2
 ·rename_i g
  split at h
  ·rename_i t sz' es hob
   split at h
   ·rename_i hsz
    subst hsz
    simp only [zF,yQ] at h
    obtain ⟨rfl,rfl⟩:=h
    have hlive:(ob g).live:=by rw [hob]; trivial
    obtain ⟨val,h1,h2⟩:=hwf.obj g hlive
    rw [hob] at h2
    simp only [RepV] at hx
    rw [h1] at hx
    obtain rfl:=zB hx.1
    have hg1:∀ g',g'∈[g]→(ob g').live:=fun g' hg'=>by rw [List.mem_singleton.1 hg']; exact hlive
    rcases h2 with ⟨rfl,rfl⟩ | ⟨b,cap,cur,Sub,rfl,hS,hb,k1,k2,k3,k4,k5,k6,k7⟩
    ·exact ⟨none,0,fun _ _=>undef,fun _ _ _=>False,rfl,fun h=>absurd h (by simp),hl,fun _ _ _ h=>h.elim,fun _ _ _ _ _ h=>h.elim,fun i j h=>absurd h (by simp),hg1⟩
    ·refine ⟨some ⟨b,0,none⟩,cap,fun i j=>cur.getD (i*sz'+j) undef,Sub,rfl,fun _=>⟨b,0,rfl,fun i j hi hj=>?_⟩,hl,fun i j x hx=>⟨g,by simp,(k5 i j x hx).1⟩,k6,k7,hg1⟩
     rw [zV,cell_of_row w b _ _ _ _ hb]
     have:i*sz'+j<cur.size:=by rw [k3]; exact mul_lt (zR hi k1) hj
     simp [zD,this]
   ·cases h
  ·cases h
 ·cases h
theorem HK {ob ob':Nat→Ob} {sz:Nat} {x:SV} {r:List (List OT) × List Nat} (h:eOp.addS ob sz x=some r) (ha:∀ g,g∈r.2→ob' g=ob g):eOp.addS ob' sz x=some r:=by
 unfold eOp.addS at h ⊢
 cases x <;> try exact h
 rename_i g
 simp only at h ⊢
 cases hob:ob g with
 | row t sz' es =>
  rw [hob] at h
  simp only at h
  split at h
  ·rename_i e
   obtain rfl:=zB h
   rw [ha g (by simp),hob]
   simp only [e,if_true]
  ·cases h
 | _=>rw [hob] at h; cases h
theorem Q9 {a b:List (List OT)} (h:Cj a=true) (k:Cj b=true):Cj (a++b)=true:=by
 unfold Cj at h k ⊢
 rw [List.all_append,h,k]; rfl
theorem QA {w w':World} {I S:Nat→Prop} {t:TypeId} {sz n:Nat} {es:List (List OT)} {v u:Value} (hF:Cj es=true) (hR:RowR w I S t sz es v) (hR':RowR w' I S t sz es v) (hk:KeepS I w w') (ho:∀ b,b<w.heap.size→(∀ n c,v≠.slice (some ⟨b,0,none⟩) n c)→w'.heap[b]?=w.heap[b]?) (hn:n≤es.length)
  (h:RowR w I S t sz (es.take n) u):RowR w' I S t sz (es.take n) u:=by
 have hget:∀ i (hi:i<(es.take n).length),(es.take n)[i]=es[i]'(by rw [z8] at hi; omega):=fun i hi=>xB
 rcases h with h | ⟨b,cap,cur,Sub,rfl,hs,hb,h1,h2,h3,h4,h5,h6,h7⟩
 ·exact .inl h
 ·have hlt:=(zH.1 hb).1
  by_cases hv:∃ m c,v=.slice (some ⟨b,0,none⟩) m c
  ·obtain ⟨m,c,rfl⟩:=hv
   rcases hR with ⟨_,e⟩ | ⟨b1,cap1,cur1,Sub1,e,_,hb1,_,_,k3,_⟩
   ·cases e
   ·obtain ⟨rfl,rfl,rfl⟩:b1=b∧m=es.length∧c=cap1:=by
     injection e with e1 e2 e3
     injection e1 with e1
     injection e1 with e1
     exact ⟨e1.symm,e2,e3⟩
    rcases hR' with ⟨_,e⟩ | ⟨b2,cap2,cur2,Sub2,e,_,hb2,_,_,q3,q4,_,_,q7⟩
    ·cases e
    ·obtain ⟨rfl,rfl⟩:b2=b1∧c=cap2:=by
      injection e with e1 e2 e3
      injection e1 with e1
      injection e1 with e1
      exact ⟨e1.symm,e3⟩
     rw [hb] at hb1
     have hcc:cur=cur1:=by
      have:=zB hb1
      injection this
     refine .inr ⟨b2,cap,cur2,fun _ _ _=>False,rfl,hs,hb2,h1,h2,by rw [q3,← k3,← hcc,h3],h4,fun _ _ _ h=>h.elim,fun _ _ _ _ _ h=>h.elim,fun i j hi hj=>?_⟩
     have hi':i<es.length:=by rw [z8] at hi; omega
     have hj':j<es[i].length:=by rw [←hget i hi]; exact hj
     have e2:(es.take n)[i][j]=es[i][j]:=by simp only [hget i hi]
     rw [e2]
     exact (q7 i j hi' hj').flat (N6 hF hi' hj')
  ·refine .inr ⟨b,cap,cur,fun _ _ _=>False,rfl,hs,by rw [ho b hlt fun m c e=>hv ⟨m,c,e⟩]; exact hb,h1,h2,h3,h4,fun _ _ _ h=>h.elim,fun _ _ _ _ _ h=>h.elim,fun i j hi hj=>?_⟩
   have hi':i<es.length:=by rw [z8] at hi; omega
   have hj':j<es[i].length:=by rw [←hget i hi]; exact hj
   have e2:(es.take n)[i][j]=es[i][j]:=by simp only [hget i hi]
   have hf:((es.take n)[i][j]).flat=true:=by rw [e2]; exact N6 hF hi' hj'
   exact ((h7 i j hi hj).flat (S':=fun _=>False) hf).keep hk (fun _ h=>h) fun _ h=>h.elim
theorem QB {t e:TypeId} {x y:Operand} {i:TypeInfo} {z:List SV} (hop:o.op=.call ⟨.builtin .append,#[x,y],#[t,t]⟩) (hu:P.underlying t=some (.slice e)) (hi:P.info? e=some i) (hz:CN P e=some z) (hpos:0<i.size) (hzl:z.length=i.size)
  (hd:AS c.nt o.dst=true) (hp:s.ob p=.free) (h:eOp P (.append e i.size i.bytes z (trX x) (trX y)) s.sl s.ob p K):Good P c o ops s K:=by
 have hx:x∈o.op.operands.toList:=by simp [hop,Op.operands,Call.operands]
 have hy:y∈o.op.operands.toList:=by simp [hop,Op.operands,Call.operands]
 obtain ⟨zv,hzv,hzs,_⟩:=IQ hz hi
 have exec:∀ {a:Act} {w w':World} {v':Value},(Builtin.append_ #[t,t] o.type #[a.eval x,a.eval y]).run P w=.ok v' w'→(execOp a.eval o).run P w=.ok (.value v') w':=by
  intro a w w' v' hr
  simp only [execOp,hop,resolve,invoke,builtin,Sem.run_bind,Sem.run_pure,Result.andThen_ok,List.map_toArray,zJ,List.map_nil,hr]
 simp only [eOp] at h
 split at h
 ·rename_i new gs hadd
  split at h
  ·rename_i he
   obtain ⟨⟨hby,hmax,hall⟩,hK⟩:=h
   refine ⟨_,_,_,hK,fun s' ha hrd hup=>Cn hd fun I V B a w hr=>?_⟩
   have hwf:=hr.wf
   have hps:s'.ob p=.free:=by rw [hup p (by simp),hp]
   have hvx:=An hr x
   rw [ha.ev hx,he] at hvx
   simp only [RepV] at hvx
   have hvy:=An hr y
   rw [ha.ev hy] at hvy
   obtain ⟨ad,cp,val,Sub,e1,h1,h2,h3,h4,h5,h6⟩:=Ky hwf hvy (HK (ob':=s'.ob) hadd fun g hg=>hup g (by simp only [zJ,FN,zO]; exact .inr hg)) hall
   have hpg:p ∉ gs:=fun hm=>by have:=h6 p hm; rw [hps] at this; exact this
   obtain ⟨v',w',S',hrun,hrow,hS,g1,g2,g3,g4,g5⟩:=Kv (w:=w) (I:=I) (S:=fun _=>False) (T:=UB B gs) (t:=e) (es:=[]) (tr:=o.type) hu hi hzv rfl (by rw [hzs,hzl]) hpos (fun _ h=>h.elim) (RowR.nil w I _ e i.size) h1 h2 h3 (fun x ⟨g,hg,hB⟩=>hwf.lt g x (h6 g hg) hB) (fun _ h=>h.elim) h4 h5 (by rw [yS,zV]; exact hmax) (by rw [yS,zV]; exact HJ hby)
   rw [List.nil_append] at hrow
   rw [←hvx,← e1] at hrun
   refine ⟨v',w',I,_,_,exec hrun,After.row hwf (q:=p) (gs:=gs) (.inl hps) h6 hpg g1 g2 g3 g4 (fun b hb _ _=>g5 b hb (fun h=>h)) (fun u hu=>by rw [hwf.fr p hps] at hu; cases hu) hrow (fun b hb=>?_),?_⟩
   ·rcases hS b hb with hf | hb | hb
    ·exact hf.elim
    ·exact .inr (.inr hb)
    ·exact .inl hb
   ·simp only [RepV]
    obtain ⟨q,cc,e2,_⟩:=hrow.form
    exact ⟨by simp,by rw [e2]; rfl⟩
  ·rename_i g he
   split at h
   ·rename_i t' sz' es hob
    obtain ⟨⟨rfl,hsz,hby,hmax,hgn,hall⟩,hK⟩:=h
    subst hsz
    refine ⟨_,_,_,hK,fun s' ha hrd hup=>Cn hd fun I V B a w hr=>?_⟩
    have hwf:=hr.wf
    have hps:s'.ob p=.free:=by rw [hup p (by simp),hp]
    have hobs:s'.ob g=.row e i.size es:=by rw [hup g (by simp [B7]),hob]
    have hlive:(s'.ob g).live:=by rw [hobs]; trivial
    have hvx:=An hr x
    rw [ha.ev hx,he] at hvx
    have hR:=OS hr hobs hvx
    have hvy:=An hr y
    rw [ha.ev hy] at hvy
    obtain ⟨ad,cp,val,Sub,e1,h1,h2,h3,h4,h5,h6⟩:=Ky hwf hvy (HK (ob':=s'.ob) hadd fun g' hg'=>hup g' (by simp only [zJ,FN,zO]; exact .inr (.inr hg'))) hall
    have hlives:∀ g',g'∈g :: gs→(s'.ob g').live:=fun g' hg'=>by
     rcases zO.1 hg' with rfl | hg'
     ·exact hlive
     ·exact h6 g' hg'
    have hpg:p ∉ g :: gs:=fun hm=>by have:=hlives p hm; rw [hps] at this; exact this
    obtain ⟨v',w',S',hrun,hrow,hS,g1,g2,g3,g4,g5⟩:=Kv (w:=w) (I:=I) (S:=B g) (T:=UB B gs) (t:=e) (es:=es) (tr:=o.type) hu hi hzv rfl (by rw [hzs,hzl]) hpos (fun b hb hI=>hwf.dI g b hlive hb hI) hR h1 h2 h3 (fun x ⟨g,hg,hB⟩=>hwf.lt g x (h6 g hg) hB) (fun b hb ⟨g',hg',hB⟩=>hgn (by rw [hwf.dO g g' b hlive (h6 g' hg') hb hB]; exact hg')) h4 h5 hmax (HJ hby)
    rw [←e1] at hrun
    refine ⟨v',w',I,_,_,exec hrun,After.row hwf (q:=p) (gs:=g :: gs) (.inl hps) hlives hpg g1 g2 g3 g4 (fun b hb _ hno=>g5 b hb (hno g (by simp))) (fun u hu=>by rw [hwf.fr p hps] at hu; cases hu) hrow (fun b hb=>?_),?_⟩
    ·rcases hS b hb with hb | ⟨g',hg',hB⟩ | hb
     ·exact .inr (.inr ⟨g,by simp,hb⟩)
     ·exact .inr (.inr ⟨g',by simp [hg'],hB⟩)
     ·exact .inl hb
    ·simp only [RepV]
     obtain ⟨q,cc,e2,_⟩:=hrow.form
     exact ⟨by simp,by rw [e2]; rfl⟩
   ·rename_i t' sz' es us hob
    obtain ⟨⟨rfl,hsz,hby,hmax,hgn,hall,hfl⟩,hK⟩:=h
    subst hsz
    refine ⟨_,_,_,hK,fun s' ha hrd hup=>Cn hd fun I V B a w hr=>?_⟩
    have hwf:=hr.wf
    have hps:s'.ob p=.free:=by rw [hup p (by simp),hp]
    have hobs:s'.ob g=.hist e i.size es us:=by rw [hup g (by simp [B7]),hob]
    have hlive:(s'.ob g).live:=by rw [hobs]; trivial
    have hvx:=An hr x
    rw [ha.ev hx,he] at hvx
    simp only [RepV] at hvx
    obtain ⟨val0,hv0,hO⟩:=hwf.obj g hlive
    obtain rfl:=zB (hv0.symm.trans hvx.1)
    rw [hobs] at hO
    obtain ⟨hR,hF,hH⟩:=hO
    have hvy:=An hr y
    rw [ha.ev hy] at hvy
    obtain ⟨ad,cp,val,Sub,e1,h1,h2,h3,h4,h5,h6⟩:=Ky hwf hvy (HK (ob':=s'.ob) hadd fun g' hg'=>hup g' (by simp only [zJ,FN,zO]; exact .inr (.inr hg'))) hall
    have hlives:∀ g',g'∈g :: gs→(s'.ob g').live:=fun g' hg'=>by
     rcases zO.1 hg' with rfl | hg'
     ·exact hlive
     ·exact h6 g' hg'
    have hpg:p ∉ g :: gs:=fun hm=>by have:=hlives p hm; rw [hps] at this; exact this
    obtain ⟨v',w',S',hrun,hrow,hS,g1,g2,g3,g4,g5,g6,g7⟩:=Jt (w:=w) (I:=I) (S:=B g) (T:=UB B gs) (t:=e) (es:=es) (tr:=o.type) hu hi hzv rfl (by rw [hzs,hzl]) hpos (fun b hb hI=>hwf.dI g b hlive hb hI) hR h1 h2 h3 (fun x ⟨g,hg,hB⟩=>hwf.lt g x (h6 g hg) hB) (fun b hb ⟨g',hg',hB⟩=>hgn (by rw [hwf.dO g g' b hlive (h6 g' hg') hb hB]; exact hg')) h4 h5 hmax (HJ hby)
    rw [←e1] at hrun
    have hkI:KeepS I w w':=⟨g4,fun b hb hl=>g5 b hl fun hB=>hwf.dI g b hlive hB hb⟩
    refine ⟨v',w',I,_,_,exec hrun,After.one hwf (q:=p) (gs:=g :: gs) (o:=.hist e i.size (es++new) us) (Bq:=fun b=>S' b∨B g b) trivial (.inl hps) hlives hpg g1 g2 g3 g4 (fun b hb _ hno=>g5 b hb (hno g (by simp))) (fun u hu=>by rw [hwf.fr p hps] at hu; cases hu) (fun V=>⟨hrow.up fun _ h=>.inl h,Q9 hF hfl,fun q hq=>?_⟩) (fun b hb=>?_),?_⟩
    ·obtain ⟨k1,k2⟩:=hH q hq
     refine ⟨by rw [yE]; omega,?_⟩
     rw [List.take_append_of_le_length k1]
     exact (QA hF hR g6 hkI g7 k1 k2).up fun _ h=>.inr h
    ·rcases hb with hb | hb
     ·rcases hS b hb with hb | ⟨g',hg',hB⟩ | hb
      ·exact .inr (.inr ⟨g,by simp,hb⟩)
      ·exact .inr (.inr ⟨g',by simp [hg'],hB⟩)
      ·exact .inl hb
     ·exact .inr (.inr ⟨g,by simp,hb⟩)
    ·simp only [RepV]
     obtain ⟨q,cc,e2,_⟩:=hrow.form
     exact ⟨by simp,by rw [e2]; rfl⟩
   ·exact h.elim
  ·exact h.elim
 ·exact h.elim
end
end Go.Proofs.Ytjkcamgfimpggaa
