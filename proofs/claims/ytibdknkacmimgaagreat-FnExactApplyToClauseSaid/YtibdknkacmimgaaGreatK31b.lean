/-
  This text holds, one behind the other: This text proves that slice literals, make, stores into rows and append have their shadows. No condition.
  This text proves that stores into rows, append and struct literals have their shadows. No condition.
  This text proves that operations on maps have their shadows. No condition.
  This text proves that ranges over maps have their shadows: making an iterator, stepping on, reading the entry. No condition.
  This text walks regions by their shadows. No condition.
  This text walks code by its shadows: rules for every form of code, loops, and ghost steps. No condition.
  This text proves ghost steps: objects take other names, what is no longer wanted is forgotten. No condition.
  This text says what a function's contract is and how a call meets it. No condition.
  This text proves that a call does what the contract of its function says. No condition.
  This text proves contracts from walks, and more ghost steps: a nil slice is an empty row of the call's own; a row is given to be shared. No condition.
  This text holds the equations by which a walk by shadows is computed, and the short forms that walks use. No condition.
  This text says for the seat's program how walks begin and how loops are walked. No condition.
  This text gives the shadow of each operation as a function, and says that it tells what the operation does. No condition.
  This text says that the function of an operation tells what the operation does, and the same for operations in a row. No condition.
  This text says how a call is met by a function of all contracts: objects handed over, rows lent, rows given up. No condition.
-/
import Derived.Test.YtibdknkacmimgaaGreatK31a
import Derived.Laws.IdiomRangeMap
set_option maxRecDepth 100000
set_option linter.unusedSimpArgs false
set_option linter.unusedVariables false
set_option linter.unusedSectionVars false
namespace Go.Proofs.YtibdknkacmimgaaGreat
open Go.RowKit
variable [Flag]
section
variable {P : Program} {c : Ctx} {ops : Array Oper} {s : Fst} {K : Kont} {o : Oper} {p : Nat}
structure Grid (w : World) (I : Nat → Prop) (B : Nat → Nat → Prop) (ob : Nat → Ob) (len sz : Nat) (es : List (List (OT × List Nat))) (vs : List Value) : Prop where
  n : es.length = len
  m : vs.length = len * sz
  l : ∀ (i : Nat) l, es[i]? = some l → l.length = sz
  r : ∀ (i j : Nat) l r, es[i]? = some l → l[j]? = some r → ORep w I (UB B r.2) r.1 (vs.getD (i * sz + j) undef)
  g : ∀ (i : Nat) l g, es[i]? = some l → g ∈ gids l → (ob g).live
theorem Grid.set {w : World} {I : Nat → Prop} {B : Nat → Nat → Prop} {ob : Nat → Ob} {len sz : Nat} {es : List (List (OT × List Nat))} {vs us : List Value} {ls : List (OT × List Nat)} {k : Nat} (h : Grid w I B ob len sz es vs) (hk : k < len) (hl : LRep w I B ls us) (hsz : ls.length = sz) (hg : ∀ g, g ∈ gids ls → (ob g).live) :
    Grid w I B ob len sz (es.set k ls) (splice vs (k * sz) us) := by
  have hu : us.length = sz := by rw [← hl.1, hsz]
  have hfit : k * sz + us.length ≤ vs.length := by rw [h.m, hu]; have := Nat.mul_le_mul_right sz (show k + 1 ≤ len from hk); rw [Nat.add_mul] at this; omega
  refine ⟨by simp [h.n], by rw [splice_len hfit, h.m], fun i l hi => ?_, fun i j l r hi hj => ?_, fun i l g hi hgl => ?_⟩
  · by_cases e : k = i
    · subst e
      rw [List.getElem?_set_self (by rw [h.n]; exact hk)] at hi
      obtain rfl := Option.some.inj hi
      exact hsz
    · rw [List.getElem?_set_ne e] at hi
      exact h.l i l hi
  · by_cases e : k = i
    · subst e
      rw [List.getElem?_set_self (by rw [h.n]; exact hk)] at hi
      obtain rfl := Option.some.inj hi
      have hj' : j < sz := by rw [← hsz]; exact (List.getElem?_eq_some_iff.1 hj).1
      have e1 : (splice vs (k * sz) us).getD (k * sz + j) undef = us.getD j undef := by
        rw [List.getD_eq_getElem?_getD, splice_get hfit, if_neg (by omega), if_pos (by omega), Nat.add_sub_cancel_left, List.getD_eq_getElem?_getD]
      rw [e1]
      have hju : us[j]? = some (us.getD j undef) := by
        rw [List.getD_eq_getElem?_getD, List.getElem?_eq_getElem (by omega)]; rfl
      exact hl.2 j r _ hj hju
    · rw [List.getElem?_set_ne e] at hi
      have hj' : j < sz := by rw [← h.l i l hi]; exact (List.getElem?_eq_some_iff.1 hj).1
      have e1 : (splice vs (k * sz) us).getD (i * sz + j) undef = vs.getD (i * sz + j) undef := by
        rw [List.getD_eq_getElem?_getD, splice_get hfit, List.getD_eq_getElem?_getD]
        rcases Nat.lt_or_ge i k with h1 | h1
        · have := Nat.mul_le_mul_right sz (show i + 1 ≤ k from h1)
          rw [Nat.add_mul] at this
          rw [if_pos (by omega)]
        · have := Nat.mul_le_mul_right sz (show k + 1 ≤ i by omega)
          rw [Nat.add_mul] at this
          rw [if_neg (by omega), if_neg (by omega)]
      rw [e1]
      exact h.r i j l r hi hj
  · by_cases e : k = i
    · subst e
      rw [List.getElem?_set_self (by rw [h.n]; exact hk)] at hi
      obtain rfl := Option.some.inj hi
      exact hg g hgl
    · rw [List.getElem?_set_ne e] at hi
      exact h.g i l g hi hgl
theorem fill_rows {w : World} {I : Nat → Prop} {V : Nat → Option Value} {B : Nat → Nat → Prop} {ob : Nat → Ob} (hwf : Wf w I V B ob) {len sz : Nat} {ev : SX → SV} {av : Operand → Value} : ∀ (parts : List (Nat × Operand)) (es es' : List (List (OT × List Nat))) (vs : List Value), Grid w I B ob len sz es vs →
    (∀ y ∈ parts.map (·.2), RepV w I V (ev (trX y)) (av y)) → (∀ q ∈ parts, q.1 < len) → eOp.mkEs ev ob sz es (parts.map fun (k, x) => (k, trX x)) = some es' →
    ∃ us : List Value, Instr.fill (fun i => some (i * sz, sz)) vs.toArray (parts.map fun (k, y) => (k, av y)) = some us.toArray ∧ Grid w I B ob len sz es' us
  | [], es, es', vs, hg, _, _, h => by
    simp only [List.map_nil, eOp.mkEs, Option.some.injEq] at h
    subst h
    exact ⟨vs, rfl, hg⟩
  | (k, y) :: parts, es, es', vs, hg, hy, hk, h => by
    simp only [List.map_cons, eOp.mkEs] at h
    split at h
    · rename_i l hc
      split at h
      · rename_i ls hls
        obtain ⟨h3, h4, h5⟩ := (hy y (by simp)).cellsN hc
        obtain ⟨g1, g2, g3⟩ := toOTs_rep hwf h4 hls
        have hkl := hk (k, y) (by simp)
        have hset := hg.set hkl g1 (by rw [g3, h5]) g2
        obtain ⟨us, h6, h7⟩ := fill_rows hwf parts _ es' _ hset (fun y' hy' => hy y' (by simp only [List.map_cons, List.mem_cons]; exact .inr hy')) (fun q hq => hk q (by simp [hq])) h
        refine ⟨us, ?_, h7⟩
        have hfit : k * sz + sz ≤ vs.length := by rw [hg.m]; have := Nat.mul_le_mul_right sz (show k + 1 ≤ len from hkl); rw [Nat.add_mul] at this; omega
        simp only [List.map_cons, Instr.fill]
        rw [if_neg (by simp [h3]; omega)]
        have := fold_cells vs (av y).cells.toList (k * sz) (by rw [Array.length_toList, h3]; omega)
        rw [← h6, ← this]
        congr 1
        rw [← Array.foldl_toList, Array.toList_zipIdx]
      · cases h
    · cases h
theorem Grid.zero {w : World} {I : Nat → Prop} {B : Nat → Nat → Prop} {ob : Nat → Ob} {len sz : Nat} {zl : List (OT × List Nat)} {zs : List Value} (hl : LRep w I B zl zs) (hsz : zl.length = sz) (hg : gids zl = []) (hpos : 0 < sz) :
    Grid w I B ob len sz (List.replicate len zl) ((List.range (len * sz)).map fun q => zs.getD (q % sz) undef) := by
  have hrep : ∀ (i : Nat) l, (List.replicate len zl)[i]? = some l → i < len ∧ l = zl := fun i l hi => by
    rw [List.getElem?_replicate] at hi
    split at hi
    · rename_i h; exact ⟨h, (Option.some.inj hi).symm⟩
    · cases hi
  refine ⟨by simp, by simp, fun i l hi => ?_, fun i j l r hi hj => ?_, fun i l g hi hgl => ?_⟩
  · rw [(hrep i l hi).2, hsz]
  · obtain ⟨h1, rfl⟩ := hrep i l hi
    have hj' : j < sz := by rw [← hsz]; exact (List.getElem?_eq_some_iff.1 hj).1
    have e1 : ((List.range (len * sz)).map fun q => zs.getD (q % sz) undef).getD (i * sz + j) undef = zs.getD j undef := by
      rw [List.getD_eq_getElem?_getD, List.getElem?_map, List.getElem?_range (mul_lt h1 hj')]
      simp only [Option.map_some, Option.getD_some]
      rw [Nat.mul_comm, Nat.mul_add_mod, Nat.mod_eq_of_lt hj']
    rw [e1]
    have hz : zs[j]? = some (zs.getD j undef) := by
      rw [List.getD_eq_getElem?_getD, List.getElem?_eq_getElem (by rw [← hl.1, hsz]; exact hj')]; rfl
    exact hl.2 j r _ hj hz
  · rw [(hrep i l hi).2, hg] at hgl
    cases hgl
theorem Grid.keep {w w' : World} {I : Nat → Prop} {B : Nat → Nat → Prop} {ob : Nat → Ob} {len sz : Nat} {es : List (List (OT × List Nat))} {vs : List Value} (h : Grid w I B ob len sz es vs) (hs : w.heap.size ≤ w'.heap.size) (hk : ∀ b, b < w.heap.size → w'.heap[b]? = w.heap[b]?) : Grid w' I B ob len sz es vs :=
  ⟨h.n, h.m, h.l, fun i j l r hi hj => (h.r i j l r hi hj).keep ⟨hs, fun b _ hb => hk b hb⟩ (fun _ h => h) fun b _ hb => hk b hb, h.g⟩
theorem After.grid {w : World} {I : Nat → Prop} {V : Nat → Option Value} {B : Nat → Nat → Prop} {ob : Nat → Ob} (hwf : Wf w I V B ob) {p : Nat} (hp : ob p = .free) {t : TypeId} {len sz : Nat} {es : List (List (OT × List Nat))} {vs : List Value} (h : Grid w I B ob len sz es vs) (hlen : len ≤ 9223372036854775807) (hn : (es.map gids).flatten.Nodup) :
    ∃ V' B', After w I V B ob ((p, .row t sz (es.map fsts)) :: gone1 (es.map gids).flatten) (w.alloc (.cells vs.toArray t)) I V' B' ∧ V' p = some (.slice (some ⟨w.heap.size, 0, none⟩) len len) := by
  have hlive : ∀ g, g ∈ (es.map gids).flatten → (ob g).live := fun g hg => by
    rw [List.mem_flatten] at hg
    obtain ⟨l, hl, hg⟩ := hg
    obtain ⟨x, hx, rfl⟩ := List.mem_map.1 hl
    obtain ⟨i, hi⟩ := List.getElem?_of_mem hx
    exact h.g i x g hi hg
  have hk : ∀ b, b < w.heap.size → (w.alloc (.cells vs.toArray t)).heap[b]? = w.heap[b]? := fun b hb => Below.heap_alloc w _ b hb
  have h' := h.keep (w' := w.alloc (.cells vs.toArray t)) (by simp) hk
  have hrow : RowR (w.alloc (.cells vs.toArray t)) I (fun x => x = w.heap.size ∨ UB B (es.map gids).flatten x) t sz (es.map fsts) (.slice (some ⟨w.heap.size, 0, none⟩) es.length len) :=
    RowR.make (heap_alloc_new w _) (Nat.le_of_eq h.n) hlen (by simp [h.m]) h'.l hn (fun g hg hB => by have := hwf.lt g _ (hlive g hg) hB; omega) (fun g g' x hg hg' hB hB' => hwf.dO g g' x (hlive g hg) (hlive g' hg') hB hB')
      (fun i j l r hi hj => by
        have := h'.r i j l r hi hj
        have e : vs.toArray.getD (i * sz + j) undef = vs.getD (i * sz + j) undef := by simp [Array.getD_eq_getD_getElem?, List.getD_eq_getElem?_getD]
        rw [e]; exact this)
  rw [h.n] at hrow
  refine ⟨_, _, After.row hwf (q := p) (gs := (es.map gids).flatten) (Bq := fun x => x = w.heap.size ∨ UB B (es.map gids).flatten x) (.inl hp) hlive (fun hm => by have := hlive p hm; rw [hp] at this; exact this) rfl (TapeOk.mk' rfl rfl) rfl (by simp) (fun b hb _ _ => hk b hb) (fun u hu => by rw [hwf.fr p hp] at hu; cases hu) hrow (fun b hb => ?_), by simp⟩
  rcases hb with rfl | hb
  · exact .inl ⟨Nat.le_refl _, by simp⟩
  · exact .inr (.inr hb)
theorem toOT_agree {ob ob' : Nat → Ob} {x : SV} (h : ∀ g, g ∈ refs1 x → ob' g = ob g) : toOT ob' x = toOT ob x := by
  cases x with
  | ref g => simp only [toOT]; rw [h g (by simp [refs1])]
  | int k n => cases k <;> rfl
  | _ => rfl
theorem toOTs_agree {ob ob' : Nat → Ob} {l : List SV} (h : ∀ g, g ∈ (l.map refs1).flatten → ob' g = ob g) : toOTs ob' l = toOTs ob l := by
  unfold toOTs
  congr 1
  refine List.map_congr_left fun x hx => toOT_agree fun g hg => h g ?_
  rw [List.mem_flatten]
  exact ⟨refs1 x, List.mem_map.2 ⟨x, hx, rfl⟩, hg⟩
theorem cellsN_refs {x : SV} {n : Nat} {l : List SV} (h : x.cellsN n = some l) : (l.map refs1).flatten = refsC x := by
  cases x <;> simp only [SV.cellsN] at h <;> (try cases h) <;> (try (split at h)) <;> (try cases h) <;> simp [refsC, refs1]
theorem mkEs_agree {ob ob' : Nat → Ob} {sz : Nat} {ev ev' : SX → SV} : ∀ {parts : List (Nat × SX)} {es : List (List (OT × List Nat))}, (∀ q ∈ parts, ev' q.2 = ev q.2) → (∀ g, g ∈ (parts.map fun q => refsC (ev q.2)).flatten → ob' g = ob g) → eOp.mkEs ev' ob' sz es parts = eOp.mkEs ev ob sz es parts
  | [], es, _, _ => rfl
  | (k, x) :: r, es, hev, h => by
    simp only [eOp.mkEs]
    rw [hev (k, x) (by simp)]
    cases hc : (ev x).cellsN sz with
    | none => rfl
    | some l =>
      simp only []
      have e1 : toOTs ob' l = toOTs ob l := toOTs_agree fun g hg => h g (by
        rw [cellsN_refs hc] at hg
        simp only [List.map_cons, List.flatten_cons, List.mem_append]; exact .inl hg)
      rw [e1]
      cases toOTs ob l with
      | none => rfl
      | some y => exact mkEs_agree (fun q hq => hev q (by simp [hq])) fun g hg => h g (by simp only [List.map_cons, List.flatten_cons, List.mem_append]; exact .inr hg)
theorem zero_grid {t : TypeId} {z : List SV} {i : TypeInfo} (hz : zeroSV P t = some z) (hi : P.info? t = some i) : ∃ v : Value, i.zero = some v ∧ v.cells.size = z.length ∧ ∀ (w : World) (I : Nat → Prop) (V : Nat → Option Value), RepVs w I V z v.cells.toList := by
  unfold zeroSV at hz
  rw [hi] at hz
  simp only [Option.bind_some] at hz
  obtain ⟨v, hv, rfl⟩ := Option.map_eq_some_iff.1 hz
  refine ⟨v, hv, by simp, fun w I V => ?_⟩
  generalize v.cells.toList = l
  induction l with
  | nil => simp [RepVs]
  | cons u l ih => simp only [List.map_cons, RepVs]; exact ⟨u, l, rfl, constSV_rep u, ih⟩
theorem zero_refs {t : TypeId} {z : List SV} (hz : zeroSV P t = some z) : (z.map refs1).flatten = [] := by
  unfold zeroSV at hz
  obtain ⟨i, hi, h⟩ := Option.bind_eq_some_iff.1 hz
  obtain ⟨v, hv, rfl⟩ := Option.map_eq_some_iff.1 h
  rw [List.flatten_eq_nil_iff]
  intro l hl
  rw [List.map_map] at hl
  obtain ⟨u, _, rfl⟩ := List.mem_map.1 hl
  simp only [Function.comp]
  unfold constSV
  split <;> first | rfl | (split <;> rfl)
theorem zero_cells (z : Array Value) (m : Nat) {sz : Nat} (h : z.size = sz) (hpos : 0 < sz) : ((Array.range m).map (z[· % z.size]!)) = ((List.range m).map fun q => z.toList.getD (q % sz) undef).toArray := by
  apply Array.ext'
  simp only [Array.toList_map, Array.toList_range]
  refine List.map_congr_left fun q hq => ?_
  have : q % z.size < z.size := by rw [h]; exact Nat.mod_lt _ hpos
  rw [getElem!_pos z _ this, List.getD_eq_getElem?_getD, ← h]
  simp [this]
theorem sh_mkrow {t e : TypeId} {len : Nat} {parts : Array (Nat × Operand)} {i : TypeInfo} {z : List SV} (hop : o.op = .buildSlice t len parts) (hu : P.underlying t = some (.slice e)) (hi : P.info? e = some i) (hz : zeroSV P e = some z) (h24 : len * i.size ≤ 2 ^ 24) (hpos : 0 < i.size) (hzl : z.length = i.size)
    (hpl : ∀ q ∈ parts.toList, q.1 < len) (hd : dstOk c.nt o.dst = true) (hp : s.ob p = .free) (h : eOp P (.mkrow e i.size z len (parts.toList.map fun (k, x) => (k, trX x))) s.sl s.ob p K) : Good P c o ops s K := by
  simp only [eOp] at h
  split at h
  · rename_i zl hzl'
    split at h
    · rename_i es hes
      obtain ⟨⟨hgz, hn⟩, hK⟩ := h
      have hops : ∀ q ∈ parts.toList, q.2 ∈ o.op.operands.toList := fun q hq => by
        simp only [hop, Op.operands, List.mem_map]; exact ⟨q, hq, rfl⟩
      refine ⟨_, _, _, hK, fun s' ha hrd hup => opS_value hd fun I V B a w hr => ?_⟩
      have hwf := hr.wf
      have hes' : eOp.mkEs (getX s'.sl) s'.ob i.size (List.replicate len zl) (parts.toList.map fun (k, x) => (k, trX x)) = some es := by
        rw [mkEs_agree (ev := getX s.sl) (ob := s.ob) (fun q hq => ?_) (fun g hg => hrd g hg)]
        · exact hes
        · obtain ⟨q', hq', rfl⟩ := List.mem_map.1 hq
          exact ha.ev (hops q' hq')
      have hzl2 : toOTs s'.ob z = some zl := by
        rw [toOTs_agree (ob := s.ob) (fun g hg => by rw [zero_refs hz] at hg; cases hg)]
        exact hzl'
      obtain ⟨zv, hzv, hzs, hzrep⟩ := zero_grid hz hi
      obtain ⟨g1, g2, g3⟩ := toOTs_rep hwf (hzrep w I V) hzl2
      have hzero := Grid.zero (ob := s'.ob) (len := len) g1 (by rw [g3, hzl]) hgz hpos
      obtain ⟨us, h6, h7⟩ := fill_rows hwf (av := a.eval) parts.toList _ es _ hzero (fun y hy => by
        obtain ⟨q, hq, rfl⟩ := List.mem_map.1 hy
        exact ev_rep hr q.2) hpl hes'
      have hlen : len ≤ 9223372036854775807 := by
        have := Nat.mul_le_mul_left len hpos
        omega
      obtain ⟨V', B', h8, h9⟩ := After.grid hwf (by rw [hup p (by simp), hp]) h7 hlen hn
      refine ⟨.slice (some ⟨w.heap.size, 0, none⟩) len len, _, I, V', B', ?_, h8, by simp only [RepV]; exact ⟨h9, rfl⟩⟩
      simp only [execOp, hop]
      refine run_val ?_
      have hzz := zero_cells zv.cells (len * i.size) (by rw [hzs, hzl]) hpos
      have hfill : Instr.fill (fun k => some (k * i.size, i.size)) ((Array.range (len * i.size)).map (zv.cells[· % zv.cells.size]!)) ((parts.map fun (k, x) => (k, a.eval x)).toList) = some us.toArray := by
        rw [hzz, Array.toList_map]
        exact h6
      unfold Instr.buildSlice
      simp only [Sem.run_bind, run_underlying hu, Result.andThen_ok, sizeOf, typeInfo, run_program, hi, Sem.run_pure]
      rw [if_neg (by omega)]
      by_cases h0 : len * i.size = 0
      · rw [if_pos h0]
        have e1 : ((Array.range (len * i.size)).map ((#[] : Array Value)[· % (#[] : Array Value).size]!)) = ((Array.range (len * i.size)).map (zv.cells[· % zv.cells.size]!)) := by rw [h0]; simp
        rw [pure_bind, e1, hfill]
        simp [newRow]
      · rw [if_neg h0]
        simp only [Sem.run_bind, zeroValue, typeInfo, run_program, Result.andThen_ok, hi, hzv, Sem.run_pure]
        rw [hfill]
        simp [newRow]
    · exact h.elim
  · exact h.elim
theorem sh_mkslice {t e : TypeId} {x y : Operand} {i : TypeInfo} {z : List SV} (hop : o.op = .makeSlice t x y) (hxy : sameLen x y = true) (hu : P.underlying t = some (.slice e)) (hi : P.info? e = some i) (hz : zeroSV P e = some z) (hpos : 0 < i.size) (hzl : z.length = i.size)
    (hd : dstOk c.nt o.dst = true) (hp : s.ob p = .free) (h : eOp P (.mkslice e i.size i.bytes z (trX x)) s.sl s.ob p K) : Good P c o ops s K := by
  simp only [eOp] at h
  split at h
  · rename_i k n zl he hzl'
    obtain ⟨⟨h0, hby, hmax, hgz⟩, hK⟩ := h
    refine ⟨_, _, _, hK, fun s' ha hrd hup => opS_value hd fun I V B a w hr => ?_⟩
    have hwf := hr.wf
    have hv := ev_rep hr x
    rw [ha.ev (by simp [hop, Op.operands]), he] at hv
    simp only [RepV] at hv
    have hv2 : a.eval y = .int k n := by
      cases x <;> cases y <;> simp only [sameLen, Bool.false_eq_true] at hxy
      · rename_i q q'
        simp only [beq_iff_eq] at hxy
        subst hxy; exact hv
      · rename_i v v'
        cases v <;> cases v' <;> simp only [sameLen, Bool.false_eq_true, Bool.and_eq_true, beq_iff_eq] at hxy
        obtain ⟨rfl, rfl⟩ := hxy
        exact hv
    have hzl2 : toOTs s'.ob z = some zl := by
      rw [toOTs_agree (ob := s.ob) (fun g hg => by rw [zero_refs hz] at hg; cases hg)]
      exact hzl'
    obtain ⟨zv, hzv, hzs, hzrep⟩ := zero_grid hz hi
    obtain ⟨g1, g2, g3⟩ := toOTs_rep hwf (hzrep w I V) hzl2
    have hzero := Grid.zero (ob := s'.ob) (len := n.toNat) g1 (by rw [g3, hzl]) hgz hpos
    have hno : ((List.replicate n.toNat zl).map gids).flatten = [] := by
      rw [List.flatten_eq_nil_iff]
      intro l hl
      obtain ⟨q, hq, rfl⟩ := List.mem_map.1 hl
      rw [(List.mem_replicate.1 hq).2, hgz]
    obtain ⟨V', B', h8, h9⟩ := After.grid (t := e) hwf (by rw [hup p (by simp), hp]) hzero (by omega) (by rw [hno]; exact List.nodup_nil)
    rw [hno] at h8
    have e2 : (List.replicate n.toNat zl).map fsts = List.replicate n.toNat (fsts zl) := by simp
    rw [e2] at h8
    refine ⟨.slice (some ⟨w.heap.size, 0, none⟩) n.toNat n.toNat, _, I, V', B', ?_, h8, by simp only [RepV]; exact ⟨h9, rfl⟩⟩
    simp only [execOp, hop, hv, hv2]
    refine run_val ?_
    have hrun := run_make (P := P) w t e i zv hu hi hzv k k n n h0 (Int.le_refl _) (by omega) (by omega)
    rw [hrun]
    unfold madeCells
    rw [zero_cells zv.cells (n.toNat * i.size) (by rw [hzs, hzl]) hpos]
  · exact h.elim
end
section
variable {P : Program} {c : Ctx} {ops : Array Oper} {s : Fst} {K : Kont} {o : Oper} {p : Nat}
theorem RowR.store {w : World} {I : Nat → Prop} {B : Nat → Nat → Prop} {t : TypeId} {sz : Nat} {es : List (List OT)} {v : Value} {g k q : Nat} {l : List OT} {ls : List (OT × List Nat)} {us : List Value}
    (h : RowR w I (B g) t sz es v) (hl : es[k]? = some l) (hL : LRep w I B ls us) (hq : q + ls.length ≤ sz) (hgI : ∀ x, B g x → ¬ I x) (hn : (gids ls).Nodup) (hd : ∀ g', g' ∈ gids ls → ∀ x, B g' x → ¬ B g x) (hdO : ∀ g1 g2 x, g1 ∈ gids ls → g2 ∈ gids ls → B g1 x → B g2 x → g1 = g2) :
    ∃ (b cp : Nat) (cur : Array Value), v = .slice (some ⟨b, 0, none⟩) es.length cp ∧ w.heap[b]? = some (.cells cur t (0, 0)) ∧ B g b ∧ k * sz + q + us.length ≤ cur.size ∧
      RowR (w.setRow b (splice cur.toList (k * sz + q) us).toArray) I (fun x => B g x ∨ UB B (gids ls) x) t sz (es.set k (splice l q (fsts ls))) v := by
  have hk : k < es.length := (List.getElem?_eq_some_iff.1 hl).1
  rcases h with ⟨rfl, _⟩ | ⟨b, cap, cur, Sub, rfl, hS, hb, h1, h2, h3, h4, h5, h6, h7⟩
  · simp at hk
  · have hlk : es[k] = l := by rw [List.getElem?_eq_getElem hk] at hl; exact Option.some.inj hl
    have hll : l.length = sz := by rw [← hlk]; exact h4 k hk
    have hu : us.length = ls.length := hL.1.symm
    have hfl : (fsts ls).length = ls.length := by simp [fsts]
    have hfit : k * sz + q + us.length ≤ cur.size := by
      rw [h3]
      have := Nat.mul_le_mul_right sz (show k + 1 ≤ cap by omega)
      rw [Nat.add_mul] at this; omega
    have hfit' : k * sz + q + us.length ≤ cur.toList.length := by simpa using hfit
    have hfq : q + (fsts ls).length ≤ l.length := by omega
    refine ⟨b, cap, cur, rfl, hb, hS, hfit, ?_⟩
    have hset : ∀ i (hi : i < (es.set k (splice l q (fsts ls))).length), (es.set k (splice l q (fsts ls)))[i] = if k = i then splice l q (fsts ls) else es[i]'(by simpa using hi) := fun i hi => by
      rw [List.getElem_set]
    have hkI : KeepS I w (w.setRow b (splice cur.toList (k * sz + q) us).toArray) := ⟨by simp, fun x hx hl => setRow_other w b x _ fun e => hgI b hS (e ▸ hx)⟩
    have notb : ∀ g' x, g' ∈ gids ls → B g' x → x ≠ b := fun g' x hg hB e => hd g' hg x hB (e ▸ hS)
    refine .inr ⟨b, cap, (splice cur.toList (k * sz + q) us).toArray, fun i j x => if i = k ∧ q ≤ j ∧ j < q + ls.length then (∃ r, ls[j - q]? = some r ∧ UB B r.2 x) else Sub i j x, by simp, .inl hS, setRow_heap w b cur _ t _ hb, by simpa using h1, h2, ?_, fun i hi => ?_, fun i j x hx => ?_, fun i j i' j' x hx hx' => ?_, fun i j hi hj => ?_⟩
    · rw [List.size_toArray, splice_len hfit', Array.length_toList, h3]
    · rw [hset i hi]
      split
      · rw [splice_len hfq, hll]
      · exact h4 i _
    · dsimp only at hx
      split at hx
      · obtain ⟨r, hr, g', hg', hB⟩ := hx
        have hm := gids_mem hr hg'
        exact ⟨.inr ⟨g', hm, hB⟩, notb g' x hm hB⟩
      · exact ⟨.inl (h5 i j x hx).1, (h5 i j x hx).2⟩
    · have cross : ∀ i j x, Sub i j x → ∀ g', g' ∈ gids ls → B g' x → False := fun i j x hs g' hg hB => hd g' hg x hB (h5 i j x hs).1
      dsimp only at hx hx'
      split at hx <;> split at hx'
      · rename_i e1 e2
        obtain ⟨r, hr, g1, hg1, hB1⟩ := hx
        obtain ⟨r', hr', g2, hg2, hB2⟩ := hx'
        have := hdO g1 g2 x (gids_mem hr hg1) (gids_mem hr' hg2) hB1 hB2
        subst this
        have := gids_inj hn hr hr' hg1 hg2
        exact ⟨by omega, by omega⟩
      · obtain ⟨r, hr, g1, hg1, hB1⟩ := hx
        exact (cross _ _ x hx' g1 (gids_mem hr hg1) hB1).elim
      · obtain ⟨r, hr, g1, hg1, hB1⟩ := hx'
        exact (cross _ _ x hx g1 (gids_mem hr hg1) hB1).elim
      · exact h6 _ _ _ _ x hx hx'
    · have hi' : i < es.length := by simpa using hi
      have hcur : ∀ m, (splice cur.toList (k * sz + q) us).toArray.getD m undef = if m < k * sz + q then cur.getD m undef else if m < k * sz + q + us.length then us.getD (m - (k * sz + q)) undef else cur.getD m undef := fun m => by
        have := splice_get (l := cur.toList) (vs := us) (o := k * sz + q) (j := m) hfit'
        simp only [Array.getD_eq_getD_getElem?, List.getD_eq_getElem?_getD, List.getElem?_toArray, this, Array.getElem?_toList]
        repeat' split
        all_goals rfl
      by_cases hin : i = k ∧ q ≤ j ∧ j < q + ls.length
      · obtain ⟨rfl, hq1, hq2⟩ := hin
        have e0 : (es.set i (splice l q (fsts ls)))[i] = splice l q (fsts ls) := by rw [hset]; simp
        have hjl : j - q < ls.length := by omega
        have e1 : (es.set i (splice l q (fsts ls)))[i][j] = (ls[j - q]).1 := by
          have : (es.set i (splice l q (fsts ls)))[i][j]? = some (ls[j - q]).1 := by
            rw [e0, splice_get hfq, if_neg (by omega), if_pos (by omega)]
            simp only [fsts, List.getElem?_map, List.getElem?_eq_getElem hjl, Option.map_some]
          rw [List.getElem?_eq_getElem hj] at this
          exact Option.some.inj this
        rw [e1, hcur, if_neg (by omega), if_pos (by omega), show i * sz + j - (i * sz + q) = j - q by omega]
        have hju : us[j - q]? = some (us.getD (j - q) undef) := by
          rw [List.getD_eq_getElem?_getD, List.getElem?_eq_getElem (by omega)]; rfl
        have := hL.2 (j - q) _ _ (List.getElem?_eq_getElem hjl) hju
        refine (this.keep hkI (fun _ h => h) fun x hx hlt => ?_).up fun x hx => ?_
        · obtain ⟨g', hg', hB⟩ := hx
          exact setRow_other w b x _ (notb g' x (gids_mem (List.getElem?_eq_getElem hjl) hg') hB)
        · simp only [and_self, true_and, hq1, hq2, if_true]
          exact ⟨_, List.getElem?_eq_getElem hjl, hx⟩
      · have hjsz : j < sz := by
          have h9 := hj
          rw [hset i hi] at h9
          split at h9
          · rw [splice_len hfq, hll] at h9; exact h9
          · rw [h4 i hi'] at h9; exact h9
        have hje : j < es[i].length := by rw [h4 i hi']; exact hjsz
        have e1 : (es.set k (splice l q (fsts ls)))[i][j] = es[i][j] := by
          have : (es.set k (splice l q (fsts ls)))[i][j]? = some es[i][j] := by
            rw [hset i hi]
            split
            · rename_i e
              subst e
              rw [splice_get hfq]
              rw [hfl]
              by_cases h8 : j < q
              · rw [if_pos h8, ← List.getElem?_eq_getElem hje, hlk]
              · rw [if_neg h8, if_neg (by omega), ← List.getElem?_eq_getElem hje, hlk]
            · exact List.getElem?_eq_getElem hje
          rw [List.getElem?_eq_getElem hj] at this
          exact Option.some.inj this
        have e2 : (splice cur.toList (k * sz + q) us).toArray.getD (i * sz + j) undef = cur.getD (i * sz + j) undef := by
          rw [hcur]
          rcases Nat.lt_trichotomy i k with h8 | h8 | h8
          · have := Nat.mul_le_mul_right sz (show i + 1 ≤ k from h8)
            rw [Nat.add_mul] at this
            rw [if_pos (by omega)]
          · subst h8
            by_cases h9 : j < q
            · rw [if_pos (by omega)]
            · rw [if_neg (by omega), if_neg (by omega)]
          · have := Nat.mul_le_mul_right sz (show k + 1 ≤ i from h8)
            rw [Nat.add_mul] at this
            rw [if_neg (by omega), if_neg (by omega)]
        rw [e1, e2]
        refine ((h7 i j hi' hje).keep hkI (fun _ h => h) fun x hx hlt => setRow_other w b x _ (h5 i j x hx).2).up fun x hx => ?_
        dsimp only
        rw [if_neg hin]; exact hx
theorem sh_store_row {t : TypeId} {x y : Operand} {i : TypeInfo} {g sz k q : Nat} (hop : o.op = .store t x y) (hi : P.info? t = some i) (hd : dstOk c.nt o.dst = true) (he : getX s.sl (trX x) = .eptr g sz k q)
    {t0 : TypeId} {es : List (List OT)} {vs : List SV} {l : List OT} {ls : List (OT × List Nat)} (hob : s.ob g = .row t0 sz es) (hc : (getX s.sl (trX y)).cellsN i.size = some vs) (hls : toOTs s.ob vs = some ls) (hn : q + i.size ≤ sz) (hg : g ∉ gids ls) (hnd : (gids ls).Nodup) (hl : es[k]? = some l)
    (h : K .any ((g, .row t0 sz (es.set k (splice l q (fsts ls)))) :: gone1 (gids ls)) (refsC (getX s.sl (trX y)))) : Good P c o ops s K := by
  refine ⟨_, _, _, h, fun s' ha hrd hup => opS_skip hd fun I V B a w hr => ?_⟩
  have hwf := hr.wf
  have hv := ev_rep hr x
  rw [ha.ev (y := x) (by simp [hop, Op.operands]), he] at hv
  have hobs : s'.ob g = .row t0 sz es := by rw [hup g (by simp), hob]
  have hls' : toOTs s'.ob vs = some ls := by rw [toOTs_agree (ob := s.ob) (fun g' hg' => hrd g' (by rw [cellsN_refs hc] at hg'; exact hg'))]; exact hls
  have hy := ev_rep hr y
  rw [ha.ev (y := y) (by simp [hop, Op.operands])] at hy
  obtain ⟨h7, h8, h9⟩ := hy.cellsN hc
  obtain ⟨g1, g2, g3⟩ := toOTs_rep hwf h8 hls'
  have hlive : (s'.ob g).live := by rw [hobs]; trivial
  obtain ⟨val, hV, hR⟩ := hwf.obj g hlive
  rw [hobs] at hR
  have hdis : ∀ g', g' ∈ gids ls → ∀ z, B g' z → ¬ B g z := fun g' hg' z hB hB' => hg (by rw [hwf.dO g g' z hlive (g2 g' hg') hB' hB]; exact hg')
  obtain ⟨b, cp, cur, e1, hb, hBb, hfit, hrow⟩ := RowR.store hR hl g1 (by rw [g3, h9]; exact hn) (fun z hz hI => hwf.dI g z hlive hz hI) hnd hdis (fun g1' g2' z hg1 hg2 hB1 hB2 => hwf.dO _ _ z (g2 _ hg1) (g2 _ hg2) hB1 hB2)
  simp only [RepV] at hv
  obtain ⟨b', off0, n', c', e2, e3⟩ := hv
  rw [hV, e1] at e2
  have hbb : b' = b ∧ off0 = 0 := by simp at e2; exact ⟨e2.1.1.symm, e2.1.2.symm⟩
  obtain ⟨rfl, rfl⟩ := hbb
  rw [Nat.zero_add] at e3
  refine ⟨w.setRow b' (splice cur.toList (k * sz + q) (a.eval y).cells.toList).toArray, I, _, _, ?_, After.row (w' := w.setRow b' (splice cur.toList (k * sz + q) (a.eval y).cells.toList).toArray) hwf (q := g) (gs := gids ls) (.inr hlive) g2 hg rfl (TapeOk.mk' rfl rfl) rfl (by simp) (fun z hz h1 h2 => setRow_other w b' z _ fun e => h1 ⟨hlive, e ▸ hBb⟩) (fun u hu => by rw [hV] at hu; exact (Option.some.inj hu).symm) hrow (fun z hz => ?_)⟩
  · simp only [execOp, hop, e3, Instr.storeAt, Instr.sureAddr, pure_bind]
    have h1c : ∀ u ∈ (a.eval y).cells.toList, u.oneCell' = true := by
      intro u hu
      obtain ⟨j, hj⟩ := List.getElem?_of_mem hu
      have hjl : j < ls.length := by rw [g1.1]; exact (List.getElem?_eq_some_iff.1 hj).1
      exact (g1.2 j _ u (List.getElem?_eq_getElem hjl) hj).one
    have := run_storeVar_at (P := P) (w := w) hi b' (k * sz + q) (a.eval y) h7 h1c cur t0 hb (by rw [← h7, ← Array.length_toList]; exact hfit)
    rw [Sem.run_bind, this]; rfl
  · rcases hz with hz | hz
    · exact .inr (.inl ⟨hlive, hz⟩)
    · exact .inr (.inr hz)
theorem scalO_rep {w : World} {I : Nat → Prop} {V : Nat → Option Value} {S : Nat → Prop} {v : SV} {x : OT} {u : Value} (h : scalO v = some x) (hv : RepV w I V v u) : ORep w I S x u := by
  unfold scalO at h
  split at h
  · obtain rfl := Option.some.inj h
    simp only [RepV] at hv; subst hv; exact .int _ _
  · obtain rfl := Option.some.inj h
    simp only [RepV] at hv; subst hv; exact .bool _ _
  · obtain rfl := Option.some.inj h
    simp only [RepV] at hv
    obtain ⟨rfl, h1⟩ := hv
    exact .str _ _ h1
  · cases h
theorem holeAt_none : ∀ {hs : List (Nat × Nat × Nat)} {k o : Nat}, holeAt hs k o = none → ∀ q, q ∈ hs → ¬ (q.1 = k ∧ q.2.1 = o)
  | [], k, o, _, q, hq => by cases hq
  | (k1, o1, q1) :: r, k, o, h, q, hq => by
    simp only [holeAt] at h
    split at h
    · cases h
    · rename_i hne
      rcases List.mem_cons.1 hq with rfl | hq
      · exact hne
      · exact holeAt_none h q hq
theorem mul_ne {k k' o o' sz : Nat} (ho : o < sz) (ho' : o' < sz) (hne : ¬ (k' = k ∧ o' = o)) : k' * sz + o' ≠ k * sz + o := by
  intro e
  rcases Nat.lt_trichotomy k' k with h | h | h
  · have := Nat.mul_le_mul_right sz (show k' + 1 ≤ k from h)
    rw [Nat.add_mul] at this; omega
  · subst h; exact hne ⟨rfl, by omega⟩
  · have := Nat.mul_le_mul_right sz (show k + 1 ≤ k' from h)
    rw [Nat.add_mul] at this; omega
theorem sh_store_tree {t : TypeId} {x y : Operand} {i : TypeInfo} {g sz k q : Nat} (hop : o.op = .store t x y) (hi : P.info? t = some i) (hd : dstOk c.nt o.dst = true) (he : getX s.sl (trX x) = .eptr g sz k q)
    {es : List (List OT)} {hs : List (Nat × Nat × Nat)} {v : SV} {z : OT} {l : List OT} (hob : s.ob g = .tree es hs) (hc : (getX s.sl (trX y)).cellsN i.size = some [v]) (hz : scalO v = some z) (hh : holeAt hs k q = none) (hl : es[k]? = some l) (hls : l.length = sz) (hq : q < sz)
    (h : K .any [(g, .tree (es.set k (splice l q [z])) hs)] []) : Good P c o ops s K := by
  refine ⟨_, _, _, h, fun s' ha hrd hup => opS_skip hd fun I V B a w hr => ?_⟩
  have hwf := hr.wf
  have hv := ev_rep hr x
  rw [ha.ev (y := x) (by simp [hop, Op.operands]), he] at hv
  have hobs : s'.ob g = .tree es hs := by rw [hup g (by simp), hob]
  have hy := ev_rep hr y
  rw [ha.ev (y := y) (by simp [hop, Op.operands])] at hy
  obtain ⟨h7, h8, h9⟩ := hy.cellsN hc
  have hlive : (s'.ob g).live := by rw [hobs]; trivial
  obtain ⟨val, hV, t0, sz', hR, hH⟩ := tree_at hr hobs
  have hk : k < es.length := (List.getElem?_eq_some_iff.1 hl).1
  have hlk : es[k] = l := by rw [List.getElem?_eq_getElem hk] at hl; exact Option.some.inj hl
  have hsz : sz' = sz := by
    rcases hR with ⟨rfl, _⟩ | ⟨b, cap, cur, Sub, _, _, _, _, _, _, h4, _⟩
    · simp at hk
    · rw [← h4 k hk, hlk, hls]
  subst hsz
  have h1 : i.size = 1 := by rw [← h9]; rfl
  have hL : LRep w I B [(z, [])] (a.eval y).cells.toList := by
    simp only [RepVs] at h8
    obtain ⟨u, r, e, h10, rfl⟩ := h8
    rw [e]
    refine ⟨rfl, fun j r u' hj hj' => ?_⟩
    cases j with
    | zero =>
      simp only [List.getElem?_cons_zero, Option.some.injEq] at hj hj'
      subst hj hj'
      exact scalO_rep hz h10
    | succ j => simp at hj
  obtain ⟨b, cp, cur, e1, hb, hBb, hfit, hrow⟩ := RowR.store (g := g) (q := q) hR hl hL (by simp; omega) (fun z hz hI => hwf.dI g z hlive hz hI) (by simp [gids]) (fun g' hg' => by simp [gids] at hg') (fun g1 g2 x h1 => by simp [gids] at h1)
  simp only [RepV] at hv
  obtain ⟨b', off0, n', c', e2, e3⟩ := hv
  rw [hV, e1] at e2
  have hbb : b' = b ∧ off0 = 0 := by simp at e2; exact ⟨e2.1.1.symm, e2.1.2.symm⟩
  obtain ⟨rfl, rfl⟩ := hbb
  rw [Nat.zero_add] at e3
  have hu1 : (a.eval y).cells.toList.length = 1 := by rw [Array.length_toList, h7, h1]
  have hu : obUpd s'.ob [(g, Ob.tree (es.set k (splice l q [z])) hs)] g = .tree (es.set k (splice l q [z])) hs := by simp [obUpd, lookO]
  have ht : ∀ g', touches [(g, Ob.tree (es.set k (splice l q [z])) hs)] g' ↔ g' = g := fun g' => by simp [touches]
  refine ⟨w.setRow b' (splice cur.toList (k * sz' + q) (a.eval y).cells.toList).toArray, I, V, B, ?_, ?_⟩
  · simp only [execOp, hop, e3, Instr.storeAt, Instr.sureAddr, pure_bind]
    have h1c : ∀ u ∈ (a.eval y).cells.toList, u.oneCell' = true := by
      intro u hu
      obtain ⟨j, hj⟩ := List.getElem?_of_mem hu
      have hjl : j < [(z, ([] : List Nat))].length := by rw [hL.1]; exact (List.getElem?_eq_some_iff.1 hj).1
      exact (hL.2 j _ u (List.getElem?_eq_getElem hjl) hj).one
    have := run_storeVar_at (P := P) (w := w) hi b' (k * sz' + q) (a.eval y) h7 h1c cur t0 hb (by rw [← h7, ← Array.length_toList]; exact hfit)
    rw [Sem.run_bind, this]; rfl
  · refine After.mk' hwf rfl (TapeOk.mk' rfl rfl) rfl (by simp) (fun x hx hno => setRow_other w b' x _ fun e => hno g ((ht g).2 rfl) hlive (e ▸ hBb)) (VLe.refl _) (fun g' hg => ⟨rfl, fun hf => hwf.fr g' hf⟩) (fun g' hg hl' => ?_) (fun g' x hg hl' hb' => ?_) (fun g1 g2 x hg1 hg2 _ _ _ _ => by rw [(ht g1).1 hg1, (ht g2).1 hg2]) (fun g' hg hf => ?_)
    · obtain rfl := (ht g').1 hg
      rw [hu]
      refine ⟨_, hV, t0, sz', ?_, fun r hr' => ?_⟩
      · rw [show splice l q [z] = splice l q (fsts [(z, ([] : List Nat))]) from rfl]
        refine hrow.up fun x hx => ?_
        rcases hx with hx | hx
        · exact hx
        · obtain ⟨g1, hg1, _⟩ := hx
          simp [gids] at hg1
      · rw [List.length_set]
        obtain ⟨g1, g2, b2, c2, v2, e4, g3, g4, g5⟩ := hH r hr'
        have hb2 : b2 = b' := by rw [e1] at e4; simp at e4; exact e4.1.symm
        subst hb2
        refine ⟨g1, g2, b2, c2, v2, e4, ?_, g4, g5⟩
        rw [cell_of_row _ b2 _ _ _ _ (setRow_heap w b2 cur _ t0 _ hb)]
        rw [cell_of_row w b2 _ _ _ _ hb] at g3
        have hne := mul_ne hq g2 (holeAt_none hh r hr')
        rw [List.getElem?_toArray, splice_get (by simpa using hfit), hu1]
        rw [← Array.getElem?_toList] at g3
        by_cases h8 : r.1 * sz' + r.2.1 < k * sz' + q
        · rw [if_pos h8]; exact g3
        · rw [if_neg h8, if_neg (by omega)]; exact g3
    · obtain rfl := (ht g').1 hg
      exact .inr ⟨g', (ht g').2 rfl, hlive, hb'⟩
    · obtain rfl := (ht g').1 hg
      rw [hu] at hf; cases hf
theorem sh_build {t : TypeId} {parts : Array (Nat × Operand)} {fs : Array Field} {z : List SV} {qs : List (Nat × Nat × SX)} (hop : o.op = .build t parts) (hu : P.underlying t = some (.struct fs)) (hz : zeroSV P t = some z)
    (hq : allSome (parts.toList.map fun (k, x) => (fieldOf P t k).map fun (off, n, _) => (off, n, trX x)) = some qs) (hall : ∀ f ∈ fs.toList, ∃ i, P.info? f.type = some i) (hd : dstOk c.nt o.dst = true) (h : eOp P (.build z qs) s.sl s.ob p K) : Good P c o ops s K := by
  simp only [eOp] at h
  split at h
  · rename_i z' hz'
    refine good_pure (rd := []) hd h fun s' ha _ I V B a w hr => ?_
    obtain ⟨i, zv, hi, hzv, hzrep⟩ := zero_rep (w := w) (I := I) (V := V) hz
    obtain ⟨hql, hqg⟩ := allSome_get hq
    have hplace : ∃ places : Array (Nat × Nat), (fs.mapM fun f => do pure (f.offset, ← sizeOf f.type) : Sem (Array (Nat × Nat))).run P w = .ok places w ∧ ∀ (k : Nat) f j, fs[k]? = some f → P.info? f.type = some j → places[k]? = some (f.offset, j.size) := by
      have key : ∀ (l : List Field), (∀ f ∈ l, ∃ i, P.info? f.type = some i) → ∃ pl : List (Nat × Nat), (l.mapM (fun f => do pure (f.offset, ← sizeOf f.type)) : Sem (List (Nat × Nat))).run P w = .ok pl w ∧ ∀ (k : Nat) f j, l[k]? = some f → P.info? f.type = some j → pl[k]? = some (f.offset, j.size) := by
        intro l
        induction l with
        | nil => intro _; exact ⟨[], by simp, fun k f j hk _ => by simp at hk⟩
        | cons f l ih =>
          intro hl
          obtain ⟨pl, h1, h2⟩ := ih fun f' hf' => hl f' (by simp [hf'])
          obtain ⟨j, hj⟩ := hl f (by simp)
          refine ⟨(f.offset, j.size) :: pl, ?_, fun k f' j' hk hj' => ?_⟩
          · rw [List.mapM_cons, Sem.run_bind]
            simp only [sizeOf, typeInfo, Sem.run_bind, run_program, Result.andThen_ok, hj, Sem.run_pure]
            simp only [sizeOf, typeInfo] at h1
            rw [h1]; rfl
          · cases k with
            | zero => simp only [List.getElem?_cons_zero, Option.some.injEq] at hk ⊢; subst hk; rw [hj] at hj'; rw [Option.some.inj hj']
            | succ k => simp only [List.getElem?_cons_succ] at hk ⊢; exact h2 k f' j' hk hj'
      obtain ⟨pl, h1, h2⟩ := key fs.toList hall
      refine ⟨pl.toArray, ?_, fun k f j hk hj => by simpa using h2 k f j (by simpa using hk) hj⟩
      rw [Array.mapM_eq_mapM_toList, Sem.run_map, h1]; rfl
    obtain ⟨places, hpl, hpg⟩ := hplace
    have hfill := fill_rep (w := w) (I := I) (V := V) (place := (places[·]?)) (ev := getX s'.sl) (av := a.eval) parts.toList qs z z' zv.cells.toList hzrep (fun y hy => ev_rep hr y) (by simpa using hql) (fun j k y hj => by
      have hm : (parts.toList.map fun (k, x) => (fieldOf P t k).map fun (off, n, _) => (off, n, trX x))[j]? = some ((fieldOf P t k).map fun (off, n, _) => (off, n, trX y)) := by rw [List.getElem?_map, hj]; rfl
      obtain ⟨r, h1, h2⟩ := hqg j _ hm
      obtain ⟨⟨off, n, g⟩, h3, h4⟩ := Option.map_eq_some_iff.1 h1
      obtain ⟨fs', f, ii, k1, k2, k3, k4, rfl, rfl⟩ := fieldOf_spec h3
      rw [hu] at k1
      injection k1 with k1; injection k1 with k1
      subst k1
      exact ⟨f.offset, ii.size, hpg k f ii k2 k3, by rw [h2]; exact congrArg some h4.symm⟩) (by
        have hev : ∀ (qs' : List (Nat × Nat × SX)) (zz : List SV), (∀ q ∈ qs', getX s'.sl q.2.2 = getX s.sl q.2.2) → fillS (getX s'.sl) zz qs' = fillS (getX s.sl) zz qs' := by
          intro qs'
          induction qs' with
          | nil => intro zz _; rfl
          | cons q qs' ih =>
            intro zz hq'
            obtain ⟨off, n, x⟩ := q
            simp only [fillS]
            rw [hq' (off, n, x) (by simp)]
            cases hcc : (getX s.sl x).cellsN n with
            | none => rfl
            | some l =>
              simp only
              split
              · exact ih _ fun q hq => hq' q (by simp [hq])
              · rfl
        rw [hev qs z fun q hqm => ?_]
        · exact hz'
        · obtain ⟨j, hj⟩ := List.getElem?_of_mem hqm
          have hjl : j < parts.toList.length := by
            have := (List.getElem?_eq_some_iff.1 hj).1
            rw [hql] at this; simpa using this
          have hm : (parts.toList.map fun (k, x) => (fieldOf P t k).map fun (off, n, _) => (off, n, trX x))[j]? = some ((fieldOf P t (parts.toList[j]).1).map fun (off, n, _) => (off, n, trX (parts.toList[j]).2)) := by rw [List.getElem?_map, List.getElem?_eq_getElem hjl]; rfl
          obtain ⟨r, h1, h2⟩ := hqg j _ hm
          rw [hj] at h2
          obtain rfl := Option.some.inj h2
          obtain ⟨⟨off, n, g⟩, _, h4⟩ := Option.map_eq_some_iff.1 h1
          rw [← h4]
          refine ha.ev ?_
          simp only [hop, Op.operands, List.mem_map]
          exact ⟨parts.toList[j], List.getElem_mem hjl, rfl⟩)
    obtain ⟨us, h1, h2⟩ := hfill
    refine ⟨.agg us.toArray, ?_, by simp only [RepV]; exact ⟨us, rfl, h2⟩⟩
    simp only [execOp, hop]
    refine run_val ?_
    unfold Instr.build
    simp only [Sem.run_bind, zeroValue, typeInfo, run_program, Result.andThen_ok, hi, hzv, Sem.run_pure, run_underlying hu]
    rw [hpl]
    simp only [Result.andThen_ok]
    have e1 : (parts.map fun (k, x) => (k, a.eval x)).toList = parts.toList.map fun (k, y) => (k, a.eval y) := by simp
    rw [e1]
    rw [Array.toArray_toList] at h1
    rw [h1]
    simp
  · exact h.elim
theorem nat_of_int {a b : Nat} {m : Nat} (h : (a : Int) * (b : Int) ≤ (m : Int)) : a * b ≤ m := by
  rw [← Int.natCast_mul] at h
  exact Int.ofNat_le.1 h
theorem D.rep_ot {w : World} {I S : Nat → Prop} {d : D} {v : Value} (h : DRep false w I d v) : ORep w I S d.ot v := by
  cases d with
  | int n => cases h; exact .int _ _
  | bool b => cases h; exact .bool _ _
  | str s => cases h with | str _ _ hs => exact .str _ _ hs
  | arr es => exact .sh _ _ _ h
theorem addS_rep {w : World} {I : Nat → Prop} {V : Nat → Option Value} {B : Nat → Nat → Prop} {ob : Nat → Ob} (hwf : Wf w I V B ob) {x : SV} {v : Value} {sz : Nat} {new : List (List OT)} {gs : List Nat} (hx : RepV w I V x v) (h : eOp.addS ob sz x = some (new, gs)) (hall : (new.all fun l => l.length == sz) = true) :
    ∃ (a : Option Addr) (cp : Nat) (val : Nat → Nat → Value) (Sub : Nat → Nat → Nat → Prop), v = .slice a new.length cp ∧ (0 < new.length → ∃ b off, a = some ⟨b, off, none⟩ ∧ ∀ i j, i < new.length → j < sz → w.cell? ⟨b, off + i * sz + j, none⟩ = some (val i j)) ∧
      (∀ i (h : i < new.length), new[i].length = sz) ∧ (∀ i j x, Sub i j x → UB B gs x) ∧ (∀ i j i' j' x, Sub i j x → Sub i' j' x → i = i' ∧ j = j') ∧ (∀ i j (h : i < new.length) (h' : j < new[i].length), ORep w I (Sub i j) (new[i][j]) (val i j)) ∧ ∀ g, g ∈ gs → (ob g).live := by
  have hl : ∀ i (h : i < new.length), new[i].length = sz := fun i hi => by
    have := (List.all_eq_true.1 hall) new[i] (List.getElem_mem hi)
    simpa using this
  unfold eOp.addS at h
  split at h
  · simp only [Option.some.injEq, Prod.mk.injEq] at h
    obtain ⟨rfl, rfl⟩ := h
    simp only [RepV] at hx
    subst hx
    exact ⟨none, 0, fun _ _ => undef, fun _ _ _ => False, rfl, fun h => absurd h (by simp), hl, fun _ _ _ h => h.elim, fun _ _ _ _ _ h => h.elim, fun i j h => absurd h (by simp), fun g hg => by cases hg⟩
  · rename_i es
    simp only [Option.some.injEq, Prod.mk.injEq] at h
    obtain ⟨rfl, rfl⟩ := h
    simp only [RepV] at hx
    obtain ⟨a, cp, rfl, _, _, hf⟩ := hx.slice_form
    have hl' : ∀ i (hi : i < es.length), es[i].length = sz := fun i hi => by
      have := hl i (by simpa using hi)
      simpa using this
    rcases Nat.eq_zero_or_pos es.length with h0 | h0
    · have : es = [] := List.eq_nil_of_length_eq_zero h0
      subst this
      exact ⟨a, cp, fun _ _ => undef, fun _ _ _ => False, rfl, fun h => absurd h (by simp), hl, fun _ _ _ h => h.elim, fun _ _ _ _ _ h => h.elim, fun i j h => absurd h (by simp), fun g hg => by cases hg⟩
    · obtain ⟨b, off, rfl⟩ := hf h0
      have hleaf : ∀ i j (hi : i < es.length) (hj : j < es[i].length), ∃ u, w.cell? ⟨b, off + i * sz + j, none⟩ = some u ∧ DRep false w I (es[i][j]) u := fun i j hi hj => by
        obtain ⟨u, h1, h2⟩ := DRep.leaf hx hi hj
        rw [hl' i hi] at h1
        exact ⟨u, h1, h2⟩
      refine ⟨some ⟨b, off, none⟩, cp, fun i j => (w.cell? ⟨b, off + i * sz + j, none⟩).getD undef, fun _ _ _ => False, by simp, fun _ => ⟨b, off, rfl, fun i j hi hj => ?_⟩, hl, fun _ _ _ h => h.elim, fun _ _ _ _ _ h => h.elim, fun i j hi hj => ?_, fun g hg => by cases hg⟩
      · have hi' : i < es.length := by simpa using hi
        obtain ⟨u, h1, _⟩ := hleaf i j hi' (by rw [hl' i hi']; exact hj)
        dsimp only
        rw [h1]; rfl
      · have hi' : i < es.length := by simpa using hi
        have hj' : j < es[i].length := by simpa using hj
        obtain ⟨u, h1, h2⟩ := hleaf i j hi' hj'
        dsimp only
        rw [h1]
        simp only [Option.getD_some, List.getElem_map]
        exact D.rep_ot h2
  · rename_i g
    split at h
    · rename_i t sz' es hob
      split at h
      · rename_i hsz
        subst hsz
        simp only [Option.some.injEq, Prod.mk.injEq] at h
        obtain ⟨rfl, rfl⟩ := h
        have hlive : (ob g).live := by rw [hob]; trivial
        obtain ⟨val, h1, h2⟩ := hwf.obj g hlive
        rw [hob] at h2
        simp only [RepV] at hx
        rw [h1] at hx
        obtain rfl := Option.some.inj hx.1
        have hg1 : ∀ g', g' ∈ [g] → (ob g').live := fun g' hg' => by rw [List.mem_singleton.1 hg']; exact hlive
        rcases h2 with ⟨rfl, rfl⟩ | ⟨b, cap, cur, Sub, rfl, hS, hb, k1, k2, k3, k4, k5, k6, k7⟩
        · exact ⟨none, 0, fun _ _ => undef, fun _ _ _ => False, rfl, fun h => absurd h (by simp), hl, fun _ _ _ h => h.elim, fun _ _ _ _ _ h => h.elim, fun i j h => absurd h (by simp), hg1⟩
        · refine ⟨some ⟨b, 0, none⟩, cap, fun i j => cur.getD (i * sz' + j) undef, Sub, rfl, fun _ => ⟨b, 0, rfl, fun i j hi hj => ?_⟩, hl, fun i j x hx => ⟨g, by simp, (k5 i j x hx).1⟩, k6, k7, hg1⟩
          rw [Nat.zero_add, cell_of_row w b _ _ _ _ hb]
          have : i * sz' + j < cur.size := by rw [k3]; exact mul_lt (Nat.lt_of_lt_of_le hi k1) hj
          simp [Array.getD_eq_getD_getElem?, this]
      · cases h
    · cases h
  · cases h
theorem addS_agree {ob ob' : Nat → Ob} {sz : Nat} {x : SV} {r : List (List OT) × List Nat} (h : eOp.addS ob sz x = some r) (ha : ∀ g, g ∈ r.2 → ob' g = ob g) : eOp.addS ob' sz x = some r := by
  unfold eOp.addS at h ⊢
  cases x <;> try exact h
  rename_i g
  simp only at h ⊢
  cases hob : ob g with
  | row t sz' es =>
    rw [hob] at h
    simp only at h
    split at h
    · rename_i e
      obtain rfl := Option.some.inj h
      rw [ha g (by simp), hob]
      simp only [e, if_true]
    · cases h
  | _ => rw [hob] at h; cases h
theorem sh_append {t e : TypeId} {x y : Operand} {i : TypeInfo} {z : List SV} (hop : o.op = .call ⟨.builtin .append, #[x, y], #[t, t]⟩) (hu : P.underlying t = some (.slice e)) (hi : P.info? e = some i) (hz : zeroSV P e = some z) (hpos : 0 < i.size) (hzl : z.length = i.size)
    (hd : dstOk c.nt o.dst = true) (hp : s.ob p = .free) (h : eOp P (.append e i.size i.bytes z (trX x) (trX y)) s.sl s.ob p K) : Good P c o ops s K := by
  have hx : x ∈ o.op.operands.toList := by simp [hop, Op.operands, Call.operands]
  have hy : y ∈ o.op.operands.toList := by simp [hop, Op.operands, Call.operands]
  obtain ⟨zv, hzv, hzs, _⟩ := zero_grid hz hi
  have exec : ∀ {a : Act} {w w' : World} {v' : Value}, (Builtin.append_ #[t, t] o.type #[a.eval x, a.eval y]).run P w = .ok v' w' → (execOp a.eval o).run P w = .ok (.value v') w' := by
    intro a w w' v' hr
    simp only [execOp, hop, resolve, invoke, builtin, Sem.run_bind, Sem.run_pure, Result.andThen_ok, List.map_toArray, List.map_cons, List.map_nil, hr]
  simp only [eOp] at h
  split at h
  · rename_i new gs hadd
    split at h
    · rename_i he
      obtain ⟨⟨hby, hmax, hall⟩, hK⟩ := h
      refine ⟨_, _, _, hK, fun s' ha hrd hup => opS_value hd fun I V B a w hr => ?_⟩
      have hwf := hr.wf
      have hps : s'.ob p = .free := by rw [hup p (by simp), hp]
      have hvx := ev_rep hr x
      rw [ha.ev hx, he] at hvx
      simp only [RepV] at hvx
      have hvy := ev_rep hr y
      rw [ha.ev hy] at hvy
      obtain ⟨ad, cp, val, Sub, e1, h1, h2, h3, h4, h5, h6⟩ := addS_rep hwf hvy (addS_agree (ob' := s'.ob) hadd fun g hg => hup g (by simp only [List.map_cons, gone1_ids, List.mem_cons]; exact .inr hg)) hall
      have hpg : p ∉ gs := fun hm => by have := h6 p hm; rw [hps] at this; exact this
      obtain ⟨v', w', S', hrun, hrow, hS, g1, g2, g3, g4, g5⟩ := append_rep (w := w) (I := I) (S := fun _ => False) (T := UB B gs) (t := e) (es := []) (tr := o.type) hu hi hzv rfl (by rw [hzs, hzl]) hpos (fun _ h => h.elim) (RowR.nil w I _ e i.size) h1 h2 h3 (fun x ⟨g, hg, hB⟩ => hwf.lt g x (h6 g hg) hB) (fun _ h => h.elim) h4 h5 (by rw [List.length_nil, Nat.zero_add]; exact hmax) (by rw [List.length_nil, Nat.zero_add]; exact nat_of_int hby)
      rw [List.nil_append] at hrow
      rw [← hvx, ← e1] at hrun
      refine ⟨v', w', I, _, _, exec hrun, After.row hwf (q := p) (gs := gs) (.inl hps) h6 hpg g1 g2 g3 g4 (fun b hb _ _ => g5 b hb (fun h => h)) (fun u hu => by rw [hwf.fr p hps] at hu; cases hu) hrow (fun b hb => ?_), ?_⟩
      · rcases hS b hb with hf | hb | hb
        · exact hf.elim
        · exact .inr (.inr hb)
        · exact .inl hb
      · simp only [RepV]
        obtain ⟨q, cc, e2, _⟩ := hrow.form
        exact ⟨by simp, by rw [e2]; rfl⟩
    · rename_i g he
      split at h
      · rename_i t' sz' es hob
        obtain ⟨⟨rfl, hsz, hby, hmax, hgn, hall⟩, hK⟩ := h
        subst hsz
        refine ⟨_, _, _, hK, fun s' ha hrd hup => opS_value hd fun I V B a w hr => ?_⟩
        have hwf := hr.wf
        have hps : s'.ob p = .free := by rw [hup p (by simp), hp]
        have hobs : s'.ob g = .row e i.size es := by rw [hup g (by simp [gone1]), hob]
        have hlive : (s'.ob g).live := by rw [hobs]; trivial
        have hvx := ev_rep hr x
        rw [ha.ev hx, he] at hvx
        have hR := row_at hr hobs hvx
        have hvy := ev_rep hr y
        rw [ha.ev hy] at hvy
        obtain ⟨ad, cp, val, Sub, e1, h1, h2, h3, h4, h5, h6⟩ := addS_rep hwf hvy (addS_agree (ob' := s'.ob) hadd fun g' hg' => hup g' (by simp only [List.map_cons, gone1_ids, List.mem_cons]; exact .inr (.inr hg'))) hall
        have hlives : ∀ g', g' ∈ g :: gs → (s'.ob g').live := fun g' hg' => by
          rcases List.mem_cons.1 hg' with rfl | hg'
          · exact hlive
          · exact h6 g' hg'
        have hpg : p ∉ g :: gs := fun hm => by have := hlives p hm; rw [hps] at this; exact this
        obtain ⟨v', w', S', hrun, hrow, hS, g1, g2, g3, g4, g5⟩ := append_rep (w := w) (I := I) (S := B g) (T := UB B gs) (t := e) (es := es) (tr := o.type) hu hi hzv rfl (by rw [hzs, hzl]) hpos (fun b hb hI => hwf.dI g b hlive hb hI) hR h1 h2 h3 (fun x ⟨g, hg, hB⟩ => hwf.lt g x (h6 g hg) hB) (fun b hb ⟨g', hg', hB⟩ => hgn (by rw [hwf.dO g g' b hlive (h6 g' hg') hb hB]; exact hg')) h4 h5 hmax (nat_of_int hby)
        rw [← e1] at hrun
        refine ⟨v', w', I, _, _, exec hrun, After.row hwf (q := p) (gs := g :: gs) (.inl hps) hlives hpg g1 g2 g3 g4 (fun b hb _ hno => g5 b hb (hno g (by simp))) (fun u hu => by rw [hwf.fr p hps] at hu; cases hu) hrow (fun b hb => ?_), ?_⟩
        · rcases hS b hb with hb | ⟨g', hg', hB⟩ | hb
          · exact .inr (.inr ⟨g, by simp, hb⟩)
          · exact .inr (.inr ⟨g', by simp [hg'], hB⟩)
          · exact .inl hb
        · simp only [RepV]
          obtain ⟨q, cc, e2, _⟩ := hrow.form
          exact ⟨by simp, by rw [e2]; rfl⟩
      · exact h.elim
    · exact h.elim
  · exact h.elim
end
omit [Flag] in
theorem mput_same (m : MF) (k : MK) (x : MV) : mput m k x k = some x := by unfold mput; rw [if_pos rfl]
omit [Flag] in
theorem mput_ne {m : MF} {k q : MK} {x : MV} (h : q ≠ k) : mput m k x q = m q := by unfold mput; rw [if_neg h]
def KindD (ks : Bool) (d : TypeDesc) : Prop := (ks = true ∧ d = .string) ∨ (ks = false ∧ d = .int .i64)
theorem keyKind_spec {P : Program} {t : TypeId} {ks : Bool} (h : keyKind P t = some ks) : ∃ d, P.underlying t = some d ∧ KindD ks d := by
  unfold keyKind at h
  split at h
  · rename_i hu; obtain rfl := Option.some.inj h; exact ⟨_, hu, .inl ⟨rfl, rfl⟩⟩
  · rename_i hu; obtain rfl := Option.some.inj h; exact ⟨_, hu, .inr ⟨rfl, rfl⟩⟩
  · cases h
theorem mapKinds_spec {P : Program} {t : TypeId} {q : Bool × TypeId} (h : mapKinds P t = some q) : ∃ kt d, P.underlying t = some (.map kt q.2) ∧ P.underlying kt = some d ∧ KindD q.1 d := by
  unfold mapKinds at h
  split at h
  · rename_i kt et hu
    obtain ⟨ks, hk, rfl⟩ := Option.map_eq_some_iff.1 h
    obtain ⟨d, h1, h2⟩ := keyKind_spec hk
    exact ⟨kt, d, hu, h1, h2⟩
  · cases h
theorem MKR.isKey {k : MK} {v : Value} {ks : Bool} {d : TypeDesc} (h : MKR k v) (hk : k.isStr = ks) (hd : KindD ks d) : MapKept.IsKey d v := by
  rcases hd with ⟨h1, rfl⟩ | ⟨h1, rfl⟩ <;> cases k <;> simp only [MKR] at h <;> subst h1 <;> simp only [MK.isStr] at hk <;> try (cases hk; done)
  · rw [h.1]; trivial
  · rw [h]; exact rfl
theorem svK_rep {w : World} {I : Nat → Prop} {V : Nat → Option Value} {ks : Bool} {x : SV} {q : MK} {v : Value} (h : svK ks x = some q) (hv : RepV w I V x v) : MKR q v ∧ q.isStr = ks := by
  unfold svK at h
  split at h
  · obtain rfl := Option.some.inj h; simp only [RepV] at hv; exact ⟨hv, rfl⟩
  · obtain rfl := Option.some.inj h; simp only [RepV] at hv; exact ⟨hv, rfl⟩
  · cases h
theorem nil_arr_rep (w : World) (T : Nat → Prop) : DRep false w T (.arr []) (.slice none 0 0) := .arr _ 0 [] none 0 (fun _ _ => undef) (fun _ _ _ => False) (Nat.le_refl _) (by omega) (.inl rfl) (fun i h => absurd h (by simp)) (fun _ _ _ h => h.elim) (fun e => by cases e) (fun i j h => absurd h (by simp))
theorem svD_rep {w : World} {I : Nat → Prop} {V : Nat → Option Value} {x : SV} {d : D} {v : Value} (h : svD x = some d) (hv : RepV w I V x v) : DRep false w I d v := by
  unfold svD at h
  split at h <;> (try (cases h; done)) <;> obtain rfl := Option.some.inj h <;> simp only [RepV] at hv
  · subst hv; exact .int _ _
  · subst hv; exact .bool _ _
  · rw [hv.1]; exact .str _ _ hv.2
  · exact hv
  · subst hv; exact nil_arr_rep _ _
theorem svDs_rep {w : World} {I : Nat → Prop} {V : Nat → Option Value} : ∀ {l : List SV} {ds : List D} {vs : List Value}, svDs l = some ds → RepVs w I V l vs → vs.length = ds.length ∧ ∀ (i : Nat) (d : D) (u : Value), ds[i]? = some d → vs[i]? = some u → DRep false w I d u
  | [], ds, vs, h, hv => by
    obtain rfl := Option.some.inj h
    simp only [RepVs] at hv
    subst hv
    exact ⟨rfl, fun i d u hd => by simp at hd⟩
  | x :: r, ds, vs, h, hv => by
    simp only [svDs] at h
    split at h
    · rename_i d hd
      split at h
      · rename_i l hl
        obtain rfl := Option.some.inj h
        simp only [RepVs] at hv
        obtain ⟨v, us, rfl, h1, h2⟩ := hv
        obtain ⟨h3, h4⟩ := svDs_rep hl h2
        refine ⟨by simp [h3], fun i d' u hi hu => ?_⟩
        cases i with
        | zero =>
          simp only [List.getElem?_cons_zero, Option.some.injEq] at hi hu
          subst hi hu
          exact svD_rep hd h1
        | succ i =>
          simp only [List.getElem?_cons_succ] at hi hu
          exact h4 i d' u hi hu
      · cases h
    · cases h
theorem svM_rep {w : World} {I : Nat → Prop} {V : Nat → Option Value} {x : SV} {m : MV} {v : Value} (h : svM x = some m) (hv : RepV w I V x v) : MVR w I m v := by
  have single : ∀ y : SV, (match svD y with | some d => some ((false, [d]) : MV) | none => none) = some m → RepV w I V y v → MVR w I m v := fun y h hv => by
    split at h
    · rename_i d hd
      obtain rfl := Option.some.inj h
      refine ⟨[v], rfl, fun i d' u hi hu => ?_, .inr ⟨rfl, rfl⟩⟩
      cases i with
      | zero =>
        simp only [List.getElem?_cons_zero, Option.some.injEq] at hi hu
        subst hi hu
        exact svD_rep hd hv
      | succ i => simp at hi
    · cases h
  unfold svM at h
  split at h
  · rename_i l
    split at h
    · rename_i ds hds
      obtain rfl := Option.some.inj h
      simp only [RepV] at hv
      obtain ⟨vs, rfl, hv⟩ := hv
      obtain ⟨h1, h2⟩ := svDs_rep hds hv
      exact ⟨vs, h1, h2, .inl ⟨rfl, rfl⟩⟩
    · cases h
  · exact single _ h hv
theorem dsv_rep {w : World} {I : Nat → Prop} {V : Nat → Option Value} : ∀ {ds : List D} {vs : List Value}, vs.length = ds.length → (∀ (i : Nat) (d : D) (u : Value), ds[i]? = some d → vs[i]? = some u → DRep false w I d u) → RepVs w I V (ds.map D.sv) vs
  | [], vs, h, _ => by
    have : vs = [] := List.eq_nil_of_length_eq_zero (by simpa using h)
    subst this; simp [RepVs]
  | d :: ds, [], h, _ => by simp at h
  | d :: ds, v :: vs, h, hr => by
    simp only [List.map_cons, RepVs]
    exact ⟨v, vs, rfl, D.rep_sv (hr 0 d v (by simp) (by simp)), dsv_rep (by simpa using h) fun i d' u hi hu => hr (i + 1) d' u (by simpa using hi) (by simpa using hu)⟩
theorem MVR.sv {w : World} {I : Nat → Prop} {V : Nat → Option Value} {x : MV} {v : Value} (h : MVR w I x v) : RepV w I V (MV.sv x) v := by
  obtain ⟨g, ds⟩ := x
  obtain ⟨vs, h1, h2, h3⟩ := h
  have hr := dsv_rep (V := V) h1 h2
  rcases h3 with ⟨h3, rfl⟩ | ⟨h3, h4⟩
  · simp only at h3
    subst h3
    simp only [MV.sv, RepV]
    exact ⟨vs, rfl, hr⟩
  · simp only at h3
    subst h3 h4
    simp only [MV.sv]
    simp only [List.length_cons, List.length_nil] at h1
    match ds, h1, hr with
    | [d], _, hr =>
      simp only [List.map_cons, List.map_nil, RepVs] at hr
      obtain ⟨u, r, e, hr, _⟩ := hr
      injection e with e _
      subst e
      simpa using hr
section
variable {w : World} {I : Nat → Prop} {ks : Bool} {m : MF} {es : Array MapEntry} {clock : Nat} {d : TypeDesc}
theorem EntR.keys (h : EntR w I ks m es clock) (hd : KindD ks d) : ∀ x ∈ es.toList, MapKept.IsKey d x.key := fun x hx => by
  obtain ⟨k, y, h1, h2, _⟩ := h.ent x hx
  exact h1.isKey h2 hd
theorem EntR.find (h : EntR w I ks m es clock) (hd : KindD ks d) {q : MK} {v : Value} (hq : MKR q v) (hqs : q.isStr = ks) :
    (Instr.findNow d v es.toList 0 = some none ∧ m q = none ∧ ∀ x ∈ es.toList, x.key ≠ v) ∨ ∃ j e x, Instr.findNow d v es.toList 0 = some (some (j, e.val)) ∧ es.toList[j]? = some e ∧ e.key = v ∧ m q = some x ∧ MVR w I x e.val := by
  rcases MapKept.findNow_spec (hq.isKey hqs hd) es.toList 0 (h.keys hd) with ⟨h1, h2⟩ | ⟨j, e, h1, h2, h3⟩
  · refine .inl ⟨h1, ?_, h2⟩
    cases hm : m q with
    | none => rfl
    | some x =>
      obtain ⟨e, he, hk⟩ := h.all q x hm
      exact absurd (hk.val hq) (h2 e he)
  · obtain ⟨k, x, h4, h5, h6, h7⟩ := h.ent e (List.mem_of_getElem? h2)
    rw [h3] at h4
    obtain rfl := h4.inj hq
    exact .inr ⟨j, e, x, by rw [h1, Nat.zero_add], h2, h3, h6, h7⟩
theorem EntR.push (h : EntR w I ks m es clock) {q : MK} {x : MV} {k v : Value} (hq : MKR q k) (hqs : q.isStr = ks) (hx : MVR w I x v) (hn : ∀ y ∈ es.toList, y.key ≠ k) : EntR w I ks (mput m q x) (es.push { key := k, val := v, born := clock }) (clock + 1) := by
  refine ⟨MapKept.stamped_push h.st hn, fun e he => ?_, fun k' y hy => ?_⟩
  · simp only [Array.toList_push, List.mem_append, List.mem_singleton] at he
    rcases he with he | rfl
    · obtain ⟨k', y, h1, h2, h3, h4⟩ := h.ent e he
      refine ⟨k', y, h1, h2, ?_, h4⟩
      rw [mput_ne fun e' => ?_]
      · exact h3
      · subst e'; exact hn e he (h1.val hq)
    · exact ⟨q, x, hq, hqs, mput_same _ _ _, hx⟩
  · by_cases e : k' = q
    · subst e; exact ⟨⟨k, v, clock⟩, by simp, hq⟩
    · rw [mput_ne e] at hy
      obtain ⟨e', h1, h2⟩ := h.all k' y hy
      exact ⟨e', by simp [h1], h2⟩
theorem EntR.modify (h : EntR w I ks m es clock) {q : MK} {x : MV} {k v : Value} (hq : MKR q k) (hqs : q.isStr = ks) (hx : MVR w I x v) {j : Nat} {e : MapEntry} (hj : es[j]? = some e) (he : e.key = k) : EntR w I ks (mput m q x) (es.modify j fun e => { e with key := k, val := v }) clock := by
  have hkey : ∀ e', e' ∈ es.toList → es[j]? = some e' → ({ e' with key := k, val := v } : MapEntry).key = e'.key := fun e' _ he' => by rw [hj] at he'; cases he'; exact he.symm
  have hd := h.st.2.2
  refine ⟨MapKept.stamped_modify h.st _ _ (fun _ _ => rfl) hkey, fun e1 he1 => ?_, fun k' y hy => ?_⟩
  · obtain ⟨i, hi⟩ := List.mem_iff_getElem?.1 he1
    rw [Array.getElem?_toList, Array.getElem?_modify] at hi
    by_cases hij : j = i
    · subst hij
      rw [if_pos rfl, hj] at hi
      simp only [Option.map_some, Option.some.injEq] at hi
      subst hi
      exact ⟨q, x, hq, hqs, mput_same _ _ _, hx⟩
    · rw [if_neg hij] at hi
      obtain ⟨k', y, h1, h2, h3, h4⟩ := h.ent e1 (MapFrom.at_mem hi)
      refine ⟨k', y, h1, h2, ?_, h4⟩
      rw [mput_ne fun e' => ?_]
      · exact h3
      · subst e'
        have hk1 : e1.key = e.key := by rw [h1.val hq, he]
        have hlj : j < es.size := (Array.getElem?_eq_some_iff.1 hj).1
        have hli : i < es.size := (Array.getElem?_eq_some_iff.1 hi).1
        have hp := ((MapKept.stamped_iff _ _).1 h.st).2.2
        rw [List.pairwise_iff_getElem] at hp
        have e1' : es.toList[i]'(by simpa using hli) = e1 := by
          have := (Array.getElem?_eq_some_iff.1 hi).2; simpa using this
        have e2' : es.toList[j]'(by simpa using hlj) = e := by
          have := (Array.getElem?_eq_some_iff.1 hj).2; simpa using this
        rcases Nat.lt_or_gt_of_ne hij with hlt | hlt
        · exact hp j i (by simpa using hlj) (by simpa using hli) hlt (by rw [e1', e2', hk1])
        · exact hp i j (by simpa using hli) (by simpa using hlj) hlt (by rw [e1', e2', hk1])
  · have mem : ∀ (i : Nat) (e2 : MapEntry), es[i]? = some e2 → (if j = i then { e2 with key := k, val := v } else e2) ∈ (es.modify j fun e => { e with key := k, val := v }).toList := fun i e2 hi => by
      refine List.mem_iff_getElem?.2 ⟨i, ?_⟩
      rw [Array.getElem?_toList, Array.getElem?_modify, hi]
      by_cases hij : j = i
      · simp [hij]
      · simp [hij]
    by_cases e' : k' = q
    · subst e'
      have := mem j e hj
      rw [if_pos rfl] at this
      exact ⟨_, this, hq⟩
    · rw [mput_ne e'] at hy
      obtain ⟨e2, h1, h2⟩ := h.all k' y hy
      obtain ⟨i, hi⟩ := List.mem_iff_getElem?.1 h1
      rw [Array.getElem?_toList] at hi
      refine ⟨_, mem i e2 hi, ?_⟩
      by_cases hij : j = i
      · subst hij
        rw [hj] at hi
        obtain rfl := Option.some.inj hi
        exfalso
        rw [he] at h2
        exact e' (h2.inj hq)
      · rw [if_neg hij]; exact h2
end
section
variable {P : Program} {c : Ctx} {ops : Array Oper} {s : Fst} {K : Kont} {o : Oper} {p : Nat}
theorem After.map_new {I : Nat → Prop} {V : Nat → Option Value} {B : Nat → Nat → Prop} {w : World} {ob : Nat → Ob} (h : Wf w I V B ob) {p : Nat} (hp : ob p = .free) (ks : Bool) :
    After w I V B ob [(p, .mp ks nomap)] (w.alloc (.map #[] 0)) I (fun g => if g = p then some (.map (some w.heap.size)) else V g) (fun g b => if g = p then b = w.heap.size else B g b) := by
  have hVp := h.fr p hp
  have hV : VLe V (fun g => if g = p then some (.map (some w.heap.size)) else V g) := fun g u hu => by
    by_cases e : g = p
    · subst e; rw [hVp] at hu; cases hu
    · simp only [e, if_false]; exact hu
  have ht : ∀ g, touches [(p, Ob.mp ks nomap)] g ↔ g = p := fun g => by simp [touches]
  have hu : obUpd ob [(p, .mp ks nomap)] p = .mp ks nomap := by simp [obUpd, lookO]
  refine After.mk' h rfl (TapeOk.mk' rfl rfl) rfl (by simp) (fun b hb _ => Below.heap_alloc w _ b hb) hV (fun g hg => ?_) (fun g hg hl' => ?_) (fun g b hg hl' hb => ?_) (fun g g' b hg hg' _ _ _ _ => ?_) (fun g hg hf => ?_)
  · have hg : ¬ g = p := fun e => hg ((ht g).2 e)
    exact ⟨by funext b; simp only [hg, if_false], fun hf => by simp only [hg, if_false]; exact h.fr g hf⟩
  · obtain rfl := (ht g).1 hg
    refine ⟨_, by simp only [if_true]; rfl, ?_⟩
    rw [hu]
    exact ⟨w.heap.size, #[], 0, rfl, fun x => by simp, (MapKept.heap_alloc w _).1, MapKept.stamped_empty 0, fun e he => by simp at he, fun k x hx => by cases hx⟩
  · obtain rfl := (ht g).1 hg
    simp only [if_true] at hb
    subst hb
    exact .inl ⟨Nat.le_refl _, by simp⟩
  · rw [(ht g).1 hg, (ht g').1 hg']
  · obtain rfl := (ht g).1 hg
    rw [hu] at hf; cases hf
theorem After.map_set {I : Nat → Prop} {V : Nat → Option Value} {B : Nat → Nat → Prop} {w : World} {ob : Nat → Ob} (h : Wf w I V B ob) {g : Nat} {ks : Bool} {m m' : MF} (hg : ob g = .mp ks m) {r : Nat} {es : Array MapEntry} {clock : Nat}
    (hV : V g = some (.map (some r))) (hB : ∀ x, B g x ↔ x = r) (hb : ∃ o, w.heap[r]? = some o) (he : EntR w I ks m' es clock) : After w I V B ob [(g, .mp ks m')] { w with heap := w.heap.setIfInBounds r (.map es clock) } I V B := by
  have ht : ∀ g', touches [(g, Ob.mp ks m')] g' ↔ g' = g := fun g' => by simp [touches]
  have hu : obUpd ob [(g, .mp ks m')] g = .mp ks m' := by simp [obUpd, lookO]
  have hlive : (ob g).live := by rw [hg]; trivial
  obtain ⟨o0, hb⟩ := hb
  obtain ⟨hs1, hs2⟩ := MapKept.heap_set (o' := Obj.map es clock) hb
  refine After.mk' h rfl (TapeOk.mk' rfl rfl) rfl (by simp) (fun b' hb' hno => hs2 b' fun e => hno g ((ht g).2 rfl) hlive ((hB b').2 e)) (VLe.refl _) (fun g' hg' => ⟨rfl, fun hf => h.fr g' hf⟩) (fun g' hg' hl' => ?_) (fun g' b' hg' hl' hb' => ?_) (fun g1 g2 b hg hg' _ _ _ _ => ?_) (fun g' hg' hf => ?_)
  · obtain rfl := (ht g').1 hg'
    refine ⟨_, hV, ?_⟩
    rw [hu]
    refine ⟨r, es, clock, rfl, hB, hs1, he.mono ⟨by simp, fun b' hI hb' => hs2 b' fun e => ?_⟩ fun _ h => h⟩
    exact h.dI g' b' hlive ((hB b').2 e) hI
  · obtain rfl := (ht g').1 hg'
    exact .inr ⟨g', hg', hlive, hb'⟩
  · rw [(ht g1).1 hg, (ht g2).1 hg']
  · obtain rfl := (ht g').1 hg'
    rw [hu] at hf; cases hf
theorem mapo_at {I : Nat → Prop} {V : Nat → Option Value} {B : Nat → Nat → Prop} {a : Act} {w : World} (hr : RepI c I V B s a w) {g : Nat} {ks : Bool} {m : MF} (hg : s.ob g = .mp ks m) {v : Value} (hv : RepV w I V (.ref g) v) : V g = some v ∧ MapO w I (B g) ks m v := by
  obtain ⟨val, h1, h2⟩ := hr.wf.obj g (by rw [hg]; trivial)
  rw [hg] at h2
  simp only [RepV] at hv
  rw [h1] at hv
  obtain rfl := Option.some.inj hv.1
  exact ⟨h1, h2⟩
theorem sh_mkmap {t : TypeId} {hint : Option Operand} {q : Bool × TypeId} (hop : o.op = .makeMap t hint) (hq : mapKinds P t = some q) (hd : dstOk c.nt o.dst = true) (hp : s.ob p = .free) (h : eOp P (.mkmap q.1 (hint.map trX)) s.sl s.ob p K) : Good P c o ops s K := by
  obtain ⟨kt, d, hu, _, _⟩ := mapKinds_spec hq
  simp only [eOp] at h
  obtain ⟨hh, hK⟩ := h
  refine ⟨_, _, _, hK, fun s' ha hrd hup => opS_value hd fun I V B a w hr => ⟨.map (some w.heap.size), w.alloc (.map #[] 0), _, _, _, ?_, After.map_new hr.wf (by rw [hup p (by simp), hp]) q.1, ?_⟩⟩
  · simp only [execOp, hop]
    refine run_val ?_
    cases hint with
    | none => rfl
    | some x =>
      have hv := ev_rep hr x
      rw [ha.ev (y := x) (by simp [hop, Op.operands])] at hv
      simp only [Option.map_some] at hh
      unfold intN at hh
      split at hh
      · rename_i k n he
        rw [he] at hv
        simp only [RepV] at hv
        simp [Instr.makeMap, run_underlying hu, hv, asInt, asIntOf, Result.andThen]
      · cases hh
  · simp only [RepV, if_true]
    exact ⟨trivial, rfl⟩
theorem sh_mset {t : TypeId} {x y z : Operand} {q : Bool × TypeId} (hop : o.op = .mapUpdate t x y z ∨ o.op = .insert t x y z) (hq : mapKinds P t = some q) (hd : dstOk c.nt o.dst = true) (h : eOp P (.mset q.1 (trX x) (trX y) (trX z)) s.sl s.ob p K) : Good P c o ops s K := by
  obtain ⟨kt, d, hu, hkt, hkd⟩ := mapKinds_spec hq
  simp only [eOp] at h
  split at h
  · rename_i g he
    split at h
    · rename_i ks' f hob
      obtain ⟨rfl, k, m, hk, hm, hK⟩ := h
      refine ⟨_, _, _, hK, fun s' ha hrd hup => opS_skip hd fun I V B a w hr => ?_⟩
      have hmem : x ∈ o.op.operands.toList ∧ y ∈ o.op.operands.toList ∧ z ∈ o.op.operands.toList := by rcases hop with hop | hop <;> simp [hop, Op.operands]
      have hx := ev_rep hr x
      rw [ha.ev hmem.1, he] at hx
      have hy := ev_rep hr y
      rw [ha.ev hmem.2.1] at hy
      have hz := ev_rep hr z
      rw [ha.ev hmem.2.2] at hz
      have hobs : s'.ob g = .mp q.1 f := by rw [hup g (by simp), hob]
      obtain ⟨hV, r, es, clock, hxv, hB, hb, hent⟩ := mapo_at hr hobs hx
      obtain ⟨hk1, hk2⟩ := svK_rep hk hy
      have hz1 := svM_rep hm hz
      have hik := hk1.isKey hk2 hkd
      rw [hxv] at hV
      have fin : ∀ w', (Instr.mapUpdate t (a.eval x) (a.eval y) (a.eval z)).run P w = .ok () w' → (execOp a.eval o).run P w = .ok .skip w' := fun w' hrun => by
        rcases hop with hop | hop <;> (simp only [execOp, hop]; rw [Sem.run_bind, hrun]; rfl)
      rcases hent.find hkd hk1 hk2 with ⟨h1, _, h3⟩ | ⟨j, e, x0, h1, h2, h3, _, _⟩
      · refine ⟨_, I, V, B, fin _ ?_, After.map_set hr.wf hobs hV hB ⟨_, hb⟩ (hent.push hk1 hk2 hz1 h3)⟩
        simp [Instr.mapUpdate, hxv, run_underlying hu, MapKept.run_getObj_map hb, MapKept.run_checkKey hkt hik, MapKept.run_findKey hkt h1, MapKept.run_setObj_map _ hb, Result.andThen]
      · have hj : es[j]? = some e := by simpa using h2
        refine ⟨_, I, V, B, fin _ ?_, After.map_set hr.wf hobs hV hB ⟨_, hb⟩ (hent.modify hk1 hk2 hz1 hj h3)⟩
        simp [Instr.mapUpdate, hxv, run_underlying hu, MapKept.run_getObj_map hb, MapKept.run_checkKey hkt hik, MapKept.run_findKey hkt h1, hj, h3, MapKept.run_keyThatStays hik, MapKept.run_setObj_map _ hb, Result.andThen]
    · exact h.elim
  · exact h.elim
theorem sh_mget {t : TypeId} {x y : Operand} {ok g : Bool} {q : Bool × TypeId} {z : List SV} (hop : o.op = .lookup t x y ok) (hq : mapKinds P t = some q) (hz : zeroSV P q.2 = some z) (hg : aggZ P q.2 = some g)
    (hd : dstOk c.nt o.dst = true) (h : eOp P (.mget q.1 ok g z (trX x) (trX y)) s.sl s.ob p K) : Good P c o ops s K := by
  obtain ⟨kt, d, hu, hkt, hkd⟩ := mapKinds_spec hq
  simp only [eOp] at h
  obtain ⟨f, rd, k, hm, hk, hK⟩ := h
  refine good_pure hd hK fun s' ha hrd I V B a w hr => ?_
  have hx := ev_rep hr x
  rw [ha.ev (by simp [hop, Op.operands])] at hx
  have hy := ev_rep hr y
  rw [ha.ev (by simp [hop, Op.operands])] at hy
  obtain ⟨hk1, hk2⟩ := svK_rep hk hy
  have hik := hk1.isKey hk2 hkd
  obtain ⟨i, zv, hi, hzv, hzr⟩ := zero_rep (w := w) (I := I) (V := V) hz
  have hzero : (zeroValue q.2).run P w = .ok zv w := by simp [zeroValue, typeInfo, hi, hzv]
  have hmap : (a.eval x = .map none ∧ f k = none) ∨ ∃ r es clock, a.eval x = .map (some r) ∧ w.heap[r]? = some (.map es clock) ∧ EntR w I q.1 f es clock := by
    unfold mapAt at hm
    split at hm
    · rename_i ks m he
      obtain ⟨rfl, rfl, rfl⟩ : ks = q.1 ∧ m = f ∧ [] = rd := by simpa using hm
      rw [he] at hx
      simp only [RepV] at hx
      rcases hx with ⟨h2, h3⟩ | ⟨r, es, clock, h2, _, h3, h4⟩
      · exact .inl ⟨h2, h3 k⟩
      · exact .inr ⟨r, es, clock, h2, h3, h4⟩
    · rename_i g' he
      split at hm
      · rename_i ks m hob
        obtain ⟨rfl, rfl, rfl⟩ : ks = q.1 ∧ m = f ∧ [g'] = rd := by simpa using hm
        rw [he] at hx
        obtain ⟨_, r, es, clock, h2, _, h3, h4⟩ := mapo_at hr (by rw [hrd g' (by simp), hob]) hx
        exact .inr ⟨r, es, clock, h2, h3, h4⟩
      · cases hm
    · cases hm
  have hzagg : RepV w I V (if g then .agg z else z.getD 0 .any) zv := by
    unfold aggZ at hg
    rw [hi, Option.bind_some, hzv] at hg
    split at hg
    · rename_i cs he
      obtain rfl := Option.some.inj he
      obtain rfl := Option.some.inj hg
      simp only [if_true, RepV]
      exact ⟨cs.toList, by simp, by simpa [Value.cells] using hzr⟩
    · rename_i v he
      obtain rfl := Option.some.inj he
      split at hg
      · rename_i h1
        obtain rfl := Option.some.inj hg
        rw [cells_one h1] at hzr
        match z, hzr with
        | [], hzr => simp [RepVs] at hzr
        | u :: r, hzr =>
          simp only [RepVs] at hzr
          obtain ⟨v', r', e, hr', _⟩ := hzr
          injection e with e _
          subst e
          simpa using hr'
      · cases hg
    · cases hg
  have fin : ∀ (v : Value) (b : Bool), (Instr.lookup t (a.eval x) (a.eval y) ok).run P w = .ok (if ok then .tuple #[v, .bool b] else v) w → (execOp a.eval o).run P w = .ok (.value (if ok then .tuple #[v, .bool b] else v)) w := fun v b hrun => by
    simp only [execOp, hop]
    exact run_val hrun
  have tup : ∀ (v : Value) (b : Bool) (u : SV), RepV w I V u v → RepV w I V (if ok then .tup [u, .bool b] else u) (if ok then .tuple #[v, .bool b] else v) := fun v b u hr => by
    cases ok with
    | false => exact hr
    | true =>
      simp only [if_true, RepV]
      exact ⟨[v, .bool b], rfl, by simp only [RepVs, RepV]; exact ⟨v, _, rfl, hr, _, _, rfl, rfl, rfl⟩⟩
  rcases hmap with ⟨h2, h3⟩ | ⟨r, es, clock, h2, h3, h4⟩
  · refine ⟨_, fin zv false ?_, ?_⟩
    · have hf : Instr.findNow d (a.eval y) [] 0 = some none := rfl
      simp [Instr.lookup, h2, run_underlying hu, MapKept.run_checkKey hkt hik, MapKept.run_findKey hkt hf, hzero, Result.andThen]
    · rw [h3]
      exact tup zv false _ hzagg
  · rcases h4.find hkd hk1 hk2 with ⟨h5, h6, _⟩ | ⟨j, e, x0, h5, h6, h7, h8, h9⟩
    · refine ⟨_, fin zv false ?_, ?_⟩
      · simp [Instr.lookup, h2, run_underlying hu, MapKept.run_getObj_map h3, MapKept.run_checkKey hkt hik, MapKept.run_findKey hkt h5, hzero, Result.andThen]
      · rw [h6]
        exact tup zv false _ hzagg
    · refine ⟨_, fin e.val true ?_, ?_⟩
      · simp [Instr.lookup, h2, run_underlying hu, MapKept.run_getObj_map h3, MapKept.run_checkKey hkt hik, MapKept.run_findKey hkt h5, Result.andThen]
      · rw [h8]
        exact tup e.val true _ h9.sv
end
def notCells : Obj → Bool
  | .cells _ _ _ => false
  | _ => true
theorem getObj_it {P : Program} {w : World} {r : Nat} {o : Obj} (hb : w.heap[r]? = some o) (hc : notCells o = true) : (getObj r).run P w = .ok o w := by
  simp only [getObj, Sem.run, hb]
  cases o <;> first | rfl | cases hc
theorem setObj_it {P : Program} {w : World} {r : Nat} {o : Obj} (o' : Obj) (hb : w.heap[r]? = some o) (hc : notCells o = true) : (setObj r o').run P w = .ok () { w with heap := w.heap.setIfInBounds r o' } := by
  simp only [setObj, Sem.run, hb]
  cases o <;> first | rfl | cases hc
theorem run_next_at {P : Program} {w : World} (ty : TypeId) {bi bm clock : Nat} {seen : Array Nat} {es : Array MapEntry} (hi : w.heap[bi]? = some (.mapIter (some bm) clock seen clock)) (hb : w.heap[bm]? = some (.map es clock)) (hold : ∀ x ∈ es.toList, x.born < clock) :
    ((∀ e, e ∈ es.toList → e.born ∈ seen) ∧ (Instr.next (.pointer (some ⟨bi, 0, none⟩)) false ty).run P w = .ok (.tuple #[.bool false]) w) ∨
    ∃ e, e ∈ es.toList ∧ e.born ∉ seen ∧ ∃ n : Nat, (Instr.next (.pointer (some ⟨bi, 0, none⟩)) false ty).run P w = .ok (.tuple #[.bool true, e.key, e.val]) { w.drewN n with heap := w.heap.setIfInBounds bi (.mapIter (some bm) clock (seen.push e.born) clock) } := by
  have hleft : ∀ x, x ∈ (Array.filter (fun e => !seen.contains e.born) es).toList ↔ x ∈ es.toList ∧ x.born ∉ seen := fun x => by simp
  simp only [Instr.next, Sem.run_bind, getObj_it hi rfl, getObj_it hb rfl, Result.andThen, next_test_false seen es clock clock hold (Nat.le_refl _), Bool.false_eq_true, if_false]
  have hmem : ∀ x ∈ (Array.filter (fun e => !seen.contains e.born) es).toList, x.born < clock := fun x hx => hold x ((hleft x).1 hx).1
  generalize hL : Array.filter (fun e => !seen.contains e.born) es = L at hmem hleft ⊢
  have e1 : L.filter (fun x => decide (x.born < clock)) = L := Array.filter_eq_self.2 (fun x hx => by simpa using hmem x (by simpa using hx))
  have e2 : L.filter (fun x => decide (x.born ≥ clock)) = #[] := by
    rw [Array.filter_eq_empty_iff]
    intro x hx
    have := hmem x (by simpa using hx)
    simp
    omega
  simp only [e1, e2, Array.append_empty]
  by_cases h0 : L.size = 0
  · left
    have : L = #[] := Array.eq_empty_of_size_eq_zero h0
    subst this
    refine ⟨fun e he => ?_, ?_⟩
    · exact Classical.byContradiction fun hn => by have := (hleft e).2 ⟨he, hn⟩; simp at this
    · simp [choose, Sem.run, Question.forced]
  · right
    have hne : L.isEmpty = false := by simp [Array.isEmpty, h0]
    simp only [hne, Bool.false_eq_true, if_false, Array.empty_append, Array.size_map]
    have hch : ∃ (j : Nat) (n : Nat), j < L.size ∧ (choose (Question.mapNext L.size)).run P w = .ok j (w.drewN n) := by
      by_cases hf : L.size ≤ 1
      · exact ⟨0, 0, by omega, by simp [choose, Sem.run, Question.forced, hf, World.drewN]⟩
      · exact ⟨_, 1, Nat.mod_lt _ (by omega), by
          simp only [choose, Sem.run, Question.forced, decide_eq_true_eq, hf, if_false, Question.cut]
          rfl⟩
    obtain ⟨j, n, hj, hrun⟩ := hch
    have hm := (hleft L[j]).1 (by simp)
    refine ⟨L[j], hm.1, hm.2, n, ?_⟩
    have hi' : (w.drewN n).heap[bi]? = some (.mapIter (some bm) clock seen clock) := hi
    simp only [hrun, Array.getElem?_map, Array.getElem?_eq_getElem hj, Option.map_some, Sem.run_bind, setObj_it _ hi' rfl, Result.andThen]
    rfl
section
variable {P : Program} {c : Ctx} {ops : Array Oper} {s : Fst} {K : Kont} {o : Oper} {p : Nat}
theorem After.it_new {I : Nat → Prop} {V : Nat → Option Value} {B : Nat → Nat → Prop} {w : World} {ob : Nat → Ob} (h : Wf w I V B ob) {p : Nat} (hp : ob p = .free) {ks : Bool} {m : MF} {x : Obj}
    (hx : ItO (w.alloc x) I (fun b => b = w.heap.size) ks m [] none (.pointer (some ⟨w.heap.size, 0, none⟩))) :
    After w I V B ob [(p, .it ks m [] none)] (w.alloc x) I (fun g => if g = p then some (.pointer (some ⟨w.heap.size, 0, none⟩)) else V g) (fun g b => if g = p then b = w.heap.size else B g b) := by
  have hVp := h.fr p hp
  have hV : VLe V (fun g => if g = p then some (.pointer (some ⟨w.heap.size, 0, none⟩)) else V g) := fun g u hu => by
    by_cases e : g = p
    · subst e; rw [hVp] at hu; cases hu
    · simp only [e, if_false]; exact hu
  have ht : ∀ g, touches [(p, Ob.it ks m [] none)] g ↔ g = p := fun g => by simp [touches]
  have hu : obUpd ob [(p, .it ks m [] none)] p = .it ks m [] none := by simp [obUpd, lookO]
  refine After.mk' h rfl (TapeOk.mk' rfl rfl) rfl (by simp) (fun b hb _ => Below.heap_alloc w _ b hb) hV (fun g hg => ?_) (fun g hg hl' => ?_) (fun g b hg hl' hb => ?_) (fun g g' b hg hg' _ _ _ _ => ?_) (fun g hg hf => ?_)
  · have hg : ¬ g = p := fun e => hg ((ht g).2 e)
    exact ⟨by funext b; simp only [hg, if_false], fun hf => by simp only [hg, if_false]; exact h.fr g hf⟩
  · obtain rfl := (ht g).1 hg
    refine ⟨_, by simp only [if_true]; rfl, ?_⟩
    rw [hu]
    simp only [if_true]
    exact hx
  · obtain rfl := (ht g).1 hg
    simp only [if_true] at hb
    subst hb
    exact .inl ⟨Nat.le_refl _, by simp⟩
  · rw [(ht g).1 hg, (ht g').1 hg']
  · obtain rfl := (ht g).1 hg
    rw [hu] at hf; cases hf
theorem it_at {I : Nat → Prop} {V : Nat → Option Value} {B : Nat → Nat → Prop} {a : Act} {w : World} (hr : RepI c I V B s a w) {g : Nat} {ks : Bool} {m : MF} {seen : List MK} {cur : Option (MK × MV)} (hg : s.ob g = .it ks m seen cur) {v : Value} (hv : RepV w I V (.ptr g 0) v) : V g = some v ∧ ItO w I (B g) ks m seen cur v := by
  obtain ⟨val, h1, h2⟩ := hr.wf.obj g (by rw [hg]; trivial)
  rw [hg] at h2
  simp only [RepV] at hv
  obtain ⟨b, h3, h4⟩ := hv
  have h2' := h2
  obtain ⟨b', h5, _⟩ := h2'
  rw [h1, h5] at h3
  have e : b' = b := by injection h3 with h3; injection h3 with h3; injection h3 with h3; injection h3
  subst e
  rw [h4, ← h5]
  exact ⟨h1, h2⟩
theorem sh_mkit {t : TypeId} {x : Operand} {q : Bool × TypeId} (hop : o.op = .range t x) (hq : mapKinds P t = some q) (hd : dstOk c.nt o.dst = true) (hp : s.ob p = .free) (h : eOp P (.mkit (trX x)) s.sl s.ob p K) : Good P c o ops s K := by
  obtain ⟨kt, d, hu, _, _⟩ := mapKinds_spec hq
  simp only [eOp] at h
  split at h
  · rename_i ks m he
    refine ⟨_, _, _, h, fun s' ha hrd hup => opS_value hd fun I V B a w hr => ?_⟩
    have hx := ev_rep hr x
    rw [ha.ev (y := x) (by simp [hop, Op.operands]), he] at hx
    simp only [RepV] at hx
    have hnew : ∀ y : Obj, (w.alloc y).heap[w.heap.size]? = some y := fun y => (MapKept.heap_alloc w y).1
    rcases hx with ⟨h1, h2⟩ | ⟨r, es, clock, h1, h2, h3, h4⟩
    · refine ⟨.pointer (some ⟨w.heap.size, 0, none⟩), w.alloc (.mapIter none 0 #[] 0), _, _, _, ?_, After.it_new hr.wf (by rw [hup p (by simp), hp]) ⟨w.heap.size, rfl, fun _ => Iff.rfl, .inl ⟨hnew _, h2, rfl⟩⟩, ?_⟩
      · simp only [execOp, hop, h1]
        exact run_val (run_range_nilMap w t kt q.2 hu)
      · simp only [RepV, if_true]
        exact ⟨w.heap.size, rfl, rfl⟩
    · have hlt : r < w.heap.size := (Array.getElem?_eq_some_iff.1 h3).1
      have hk : KeepS I w (w.alloc (.mapIter (some r) clock #[] clock)) := ⟨by simp, fun b _ hb => Below.heap_alloc w _ b hb⟩
      refine ⟨.pointer (some ⟨w.heap.size, 0, none⟩), w.alloc (.mapIter (some r) clock #[] clock), _, _, _, ?_, After.it_new hr.wf (by rw [hup p (by simp), hp]) ⟨w.heap.size, rfl, fun _ => Iff.rfl, .inr ⟨r, es, clock, #[], hnew _, h2, by rw [Below.heap_alloc w _ r hlt]; exact h3, h4.mono hk fun _ h => h, fun e he => by simp, fun k x hc => by cases hc⟩⟩, ?_⟩
      · simp only [execOp, hop, h1]
        exact run_val (run_range_map w t kt q.2 r es clock hu h3)
      · simp only [RepV, if_true]
        exact ⟨w.heap.size, rfl, rfl⟩
  · exact h.elim
theorem MKR.sv {w : World} {I : Nat → Prop} {V : Nat → Option Value} {k : MK} {v : Value} (h : MKR k v) : RepV w I V (MK.sv k) v := by
  cases k <;> simpa only [MK.sv, RepV, MKR] using h
theorem sh_mcur {x : Operand} (hop : o.op = .entry x) (hd : dstOk c.nt o.dst = true) (h : eOp P (.mcur (trX x)) s.sl s.ob p K) : Good P c o ops s K := by
  simp only [eOp] at h
  split at h
  · rename_i g off he
    split at h
    · rename_i ks m seen k mv hob
      obtain ⟨rfl, hK⟩ := h
      refine good_pure hd hK fun s' ha hrd I V B a w hr => ?_
      have hx := ev_rep hr x
      rw [ha.ev (by simp [hop, Op.operands]), he] at hx
      obtain ⟨_, b, h1, _, h3⟩ := it_at hr (by rw [hrd g (by simp), hob]) hx
      rcases h3 with ⟨_, _, h3⟩ | ⟨r, es, clock, sn, h3, _, h5, h6, _, h8⟩
      · cases h3
      · obtain ⟨e, g1, g2, g3, g4⟩ := h8 k mv rfl
        refine ⟨.tuple #[e.key, e.val], ?_, ?_⟩
        · simp only [execOp, hop, h1]
          refine run_val ?_
          have hf : es.find? (·.born == e.born) = some e := by rw [← Array.find?_toList]; exact find_born e es.toList ((MapKept.stamped_iff _ _).1 h6.st).2.1 g1
          simp [Instr.entry, getObj_it h3 rfl, getObj_it h5 rfl, g2, hf, Result.andThen]
        · simp only [RepV]
          refine ⟨[e.key, e.val], rfl, ?_⟩
          simp only [RepVs]
          exact ⟨_, _, rfl, g3.sv, _, _, rfl, g4.sv, rfl⟩
    · exact h.elim
  · exact h.elim
theorem After.it_next {I : Nat → Prop} {V : Nat → Option Value} {B : Nat → Nat → Prop} {w : World} {ob : Nat → Ob} (h : Wf w I V B ob) {g : Nat} {ks : Bool} {m : MF} {seen : List MK} {cur : Option (MK × MV)} (hg : ob g = .it ks m seen cur) {bi r : Nat} {es : Array MapEntry} {clock : Nat} {sn : Array Nat}
    (hV : V g = some (.pointer (some ⟨bi, 0, none⟩))) (hB : ∀ x, B g x ↔ x = bi) (hi : w.heap[bi]? = some (.mapIter (some r) clock sn clock)) (hIr : I r) (hb : w.heap[r]? = some (.map es clock)) (hent : EntR w I ks m es clock)
    (hsn : ∀ e, e ∈ es.toList → (e.born ∈ sn ↔ ∃ k, k ∈ seen ∧ MKR k e.key)) {e : MapEntry} (he : e ∈ es.toList) {k : MK} {x : MV} (hk : MKR k e.key) (hx : MVR w I x e.val) (n : Nat) :
    After w I V B ob [(g, .it ks m (k :: seen) (some (k, x)))] { w.drewN n with heap := w.heap.setIfInBounds bi (.mapIter (some r) clock (sn.push e.born) clock) } I V B := by
  have ht : ∀ g', touches [(g, Ob.it ks m (k :: seen) (some (k, x)))] g' ↔ g' = g := fun g' => by simp [touches]
  have hu : obUpd ob [(g, .it ks m (k :: seen) (some (k, x)))] g = .it ks m (k :: seen) (some (k, x)) := by simp [obUpd, lookO]
  have hlive : (ob g).live := by rw [hg]; trivial
  obtain ⟨hs1, hs2⟩ := MapKept.heap_set (o' := Obj.mapIter (some r) clock (sn.push e.born) clock) hi
  have hnI : ∀ b, I b → b ≠ bi := fun b hI e' => h.dI g b hlive ((hB b).2 e') hI
  have hkp : KeepS I w { w.drewN n with heap := w.heap.setIfInBounds bi (.mapIter (some r) clock (sn.push e.born) clock) } := ⟨by simp, fun b hI _ => hs2 b (hnI b hI)⟩
  refine After.mk' h rfl (TapeOk.le rfl (Nat.le_add_right _ _)) rfl (by simp) (fun b' hb' hno => hs2 b' fun e => hno g ((ht g).2 rfl) hlive ((hB b').2 e)) (VLe.refl _) (fun g' hg' => ⟨rfl, fun hf => h.fr g' hf⟩) (fun g' hg' hl' => ?_) (fun g' b' hg' hl' hb' => ?_) (fun g1 g2 b hg hg' _ _ _ _ => ?_) (fun g' hg' hf => ?_)
  · obtain rfl := (ht g').1 hg'
    refine ⟨_, hV, ?_⟩
    rw [hu]
    refine ⟨bi, rfl, hB, .inr ⟨r, es, clock, sn.push e.born, hs1, hIr, ?_, hent.mono hkp fun _ h => h, fun e' he' => ?_, fun k' x' hc => ?_⟩⟩
    · rw [hs2 r (hnI r hIr)]; exact hb
    · rw [Array.mem_push, hsn e' he']
      constructor
      · rintro (⟨k', h1, h2⟩ | h1)
        · exact ⟨k', by simp [h1], h2⟩
        · have : e' = e := by
            have h1' := find_born e es.toList ((MapKept.stamped_iff _ _).1 hent.st).2.1 he
            have h2' := find_born e' es.toList ((MapKept.stamped_iff _ _).1 hent.st).2.1 he'
            rw [h1] at h2'
            rw [h1'] at h2'
            exact (Option.some.inj h2').symm
          subst this
          exact ⟨k, by simp, hk⟩
      · rintro ⟨k', h1, h2⟩
        rcases List.mem_cons.1 h1 with rfl | h1
        · right
          have hkey : e'.key = e.key := h2.val hk
          have hp := ((MapKept.stamped_iff _ _).1 hent.st).2.2
          obtain ⟨i, hi', rfl⟩ := List.getElem_of_mem he
          obtain ⟨j, hj', rfl⟩ := List.getElem_of_mem he'
          rw [List.pairwise_iff_getElem] at hp
          rcases Nat.lt_trichotomy i j with h5 | h5 | h5
          · exact absurd hkey.symm (hp i j hi' hj' h5)
          · subst h5; rfl
          · exact absurd hkey (hp j i hj' hi' h5)
        · exact .inl ⟨k', h1, h2⟩
    · obtain ⟨rfl, rfl⟩ : k = k' ∧ x = x' := by simpa using hc
      exact ⟨e, he, by simp, hk, hx.mono hkp fun _ h => h⟩
  · obtain rfl := (ht g').1 hg'
    exact .inr ⟨g', hg', hlive, hb'⟩
  · rw [(ht g1).1 hg, (ht g2).1 hg']
  · obtain rfl := (ht g').1 hg'
    rw [hu] at hf; cases hf
theorem next_step {I : Nat → Prop} {V : Nat → Option Value} {B : Nat → Nat → Prop} {a : Act} {w : World} (hr : RepI c I V B s a w) {it : Operand} {g : Nat} {ks : Bool} {m : MF} {seen : List MK} {cur : Option (MK × MV)} (he : getX s.sl (trX it) = .ptr g 0) (hg : s.ob g = .it ks m seen cur) (ty : TypeId) :
    ((∀ k x, m k = some x → k ∈ seen) ∧ (Instr.next (a.eval it) false ty).run P w = .ok (.tuple #[.bool false]) w) ∨
    ∃ k x w' u v, m k = some x ∧ k ∉ seen ∧ (Instr.next (a.eval it) false ty).run P w = .ok (.tuple #[.bool true, u, v]) w' ∧ After w I V B s.ob [(g, .it ks m (k :: seen) (some (k, x)))] w' I V B := by
  have hx := ev_rep hr it
  rw [he] at hx
  obtain ⟨hV, b, h1, hB, h3⟩ := it_at hr hg hx
  rcases h3 with ⟨h3, h4, _⟩ | ⟨r, es, clock, sn, h3, h4, h5, h6, h7, _⟩
  · refine .inl ⟨fun k x hk => (by rw [h4 k] at hk; cases hk), ?_⟩
    rw [h1]
    simp [Instr.next, getObj_it h3 rfl, Result.andThen]
  · rw [h1] at hV ⊢
    rcases run_next_at (P := P) ty h3 h5 h6.st.1 with ⟨g1, g2⟩ | ⟨e, g1, g2, n, g3⟩
    · refine .inl ⟨fun k x hk => ?_, g2⟩
      obtain ⟨e, he1, he2⟩ := h6.all k x hk
      obtain ⟨k', hk1, hk2⟩ := (h7 e he1).1 (g1 e he1)
      rw [he2.inj hk2]; exact hk1
    · obtain ⟨k, x, hk1, _, hk3, hk4⟩ := h6.ent e g1
      refine .inr ⟨k, x, _, e.key, e.val, hk3, fun hs => g2 ((h7 e g1).2 ⟨k, hs, hk1⟩), g3, ?_⟩
      exact After.it_next hr.wf hg hV hB h3 h4 h5 h6 h7 g1 hk1 hk4 n
end
section
variable {P : Program} {c : Ctx} {ops : Array Oper} {s : Fst} {K : Kont} {p : Nat}
theorem eOp_good : ∀ {o : Oper} {so : SOp}, trOp P o = some so → dstOk c.nt o.dst = true → s.ob p = .free → eOp P so s.sl s.ob p K → Good P c o ops s K := by
  intro o so ho hd hp h
  obtain ⟨dst, op, ty, pos, after, guard⟩ := o
  cases op with
  | move x => simp only [trOp, Option.some.injEq] at ho; subst ho; exact sh_move (.inl rfl) hd h
  | assign x => simp only [trOp, Option.some.injEq] at ho; subst ho; exact sh_move (.inr rfl) hd h
  | pick x y z => simp only [trOp, Option.some.injEq] at ho; subst ho; exact sh_pick rfl hd h
  | alloc t =>
    simp only [trOp] at ho
    obtain ⟨z, hz, rfl⟩ := Option.map_eq_some_iff.1 ho
    exact sh_alloc rfl hz hd hp h
  | box t x =>
    simp only [trOp] at ho
    obtain ⟨i, hi, rfl⟩ := Option.map_eq_some_iff.1 ho
    exact sh_box rfl hd hp h
  | build t parts =>
    simp only [trOp] at ho
    split at ho
    · rename_i fs z hu hz
      split at ho
      · cases ho
      · rename_i hall
        obtain ⟨qs, hq, rfl⟩ := Option.map_eq_some_iff.1 ho
        refine sh_build rfl hu hz hq (fun f hf => ?_) hd h
        simp only [Bool.not_eq_true, Bool.not_eq_false', List.all_eq_true] at hall
        exact Option.isSome_iff_exists.1 (hall f hf)
    · cases ho
  | buildSlice t len parts =>
    simp only [trOp] at ho
    split at ho
    · rename_i e hu
      split at ho
      · rename_i i z hi hz
        split at ho
        · rename_i hc
          obtain rfl := Option.some.inj ho
          simp only [Bool.and_eq_true, decide_eq_true_eq, beq_iff_eq, List.all_eq_true] at hc
          exact sh_mkrow rfl hu hi hz hc.1.1.1 hc.1.1.2 hc.1.2 hc.2 hd hp h
        · cases ho
      · cases ho
    · cases ho
  | load t x =>
    simp only [trOp] at ho
    split at ho
    · rename_i g i hg hi
      split at ho
      · rename_i h1
        obtain rfl := Option.some.inj ho
        exact sh_load rfl hg hi h1 hd hp h
      · cases ho
    · cases ho
  | store t x y =>
    simp only [trOp] at ho
    obtain ⟨i, hi, rfl⟩ := Option.map_eq_some_iff.1 ho
    simp only [eOp] at h
    split at h
    · rename_i g off he
      split at h
      · rename_i t0 l vs hob hc
        exact sh_store_box rfl hi hd he hob hc h.1.1 h.1.2 h.2
      · exact h.elim
    · rename_i g sz k off he
      split at h
      · rename_i t0 sz' es vs hob hc
        split at h
        · rename_i ls hls
          obtain ⟨⟨rfl, h1, h2, h3⟩, l, hl, hK⟩ := h
          exact sh_store_row rfl hi hd he hob hc hls h1 h2 h3 hl hK
        · exact h.elim
      · rename_i es hs vs hob hc
        obtain ⟨v, z, rfl, h1, h2, l, hl, ⟨h3, h4⟩, hK⟩ := h
        exact sh_store_tree rfl hi hd he hob hc h1 h2 hl h3 h4 hK
      · exact h.elim
    · exact h.elim
  | nilCheck x => simp only [trOp, Option.some.injEq] at ho; subst ho; exact sh_nil rfl hd h
  | binOp op t x y t' => simp only [trOp, Option.some.injEq] at ho; subst ho; exact sh_bin rfl hd h
  | unOp op t x => simp only [trOp, Option.some.injEq] at ho; subst ho; exact sh_un rfl hd h
  | convert sr ds x =>
    simp only [trOp] at ho
    split at ho
    · rename_i d k h1 h2
      obtain rfl := Option.some.inj ho
      exact sh_conv rfl h1 h2 hd h
    · cases ho
  | makeFunc fn first caps =>
    cases fn <;> simp only [trOp] at ho <;> try (cases ho; done)
    rename_i f
    split at ho
    · rename_i hf
      obtain rfl := Option.some.inj ho
      have : first = #[] := by simpa using hf
      subst this
      exact sh_mkfn rfl hd h
    · cases ho
  | makeSlice t l cp =>
    simp only [trOp] at ho
    split at ho
    · rename_i e hu
      split at ho
      · rename_i i z hi hz
        split at ho
        · rename_i hc
          obtain rfl := Option.some.inj ho
          simp only [Bool.and_eq_true, decide_eq_true_eq, beq_iff_eq] at hc
          exact sh_mkslice rfl hc.1.1 hu hi hz hc.1.2 hc.2 hd hp h
        · cases ho
      · cases ho
    · cases ho
  | slice t x lo hi mx =>
    cases mx <;> simp only [trOp] at ho <;> try (cases ho; done)
    split at ho
    · rename_i hu
      obtain rfl := Option.some.inj ho
      exact sh_slice_str rfl hu hd h
    · rename_i e hu
      obtain ⟨i, hi', rfl⟩ := Option.map_eq_some_iff.1 ho
      exact sh_slice rfl hu hi' hd h
    · cases ho
  | fieldAddr t x k =>
    simp only [trOp] at ho
    split at ho
    · rename_i off n g hf
      split at ho
      · cases ho
      · rename_i hn
        obtain rfl := Option.some.inj ho
        exact sh_faddr rfl hf hn hd h
    · cases ho
  | field t x k =>
    simp only [trOp] at ho
    split at ho
    · rename_i off n g hf
      split at ho
      · rename_i h1
        obtain rfl := Option.some.inj ho
        exact sh_field rfl hf h1 hd h
      · cases ho
    · cases ho
  | indexAddr t x i =>
    simp only [trOp] at ho
    split at ho
    · rename_i e hu
      obtain ⟨j, hj, rfl⟩ := Option.map_eq_some_iff.1 ho
      exact sh_iaddr rfl hu hj hd h
    · cases ho
  | index t x i =>
    simp only [trOp] at ho
    split at ho
    · rename_i hu
      obtain rfl := Option.some.inj ho
      exact sh_idx rfl hu hd h
    · cases ho
  | extract x k => simp only [trOp, Option.some.injEq] at ho; subst ho; exact sh_ext rfl hd h
  | makeMap t hint =>
    simp only [trOp] at ho
    obtain ⟨q, hq, rfl⟩ := Option.map_eq_some_iff.1 ho
    exact sh_mkmap rfl hq hd hp h
  | mapUpdate t m k v =>
    simp only [trOp] at ho
    obtain ⟨q, hq, rfl⟩ := Option.map_eq_some_iff.1 ho
    exact sh_mset (.inl rfl) hq hd h
  | insert t m k v =>
    simp only [trOp] at ho
    obtain ⟨q, hq, rfl⟩ := Option.map_eq_some_iff.1 ho
    exact sh_mset (.inr rfl) hq hd h
  | range t x =>
    simp only [trOp] at ho
    obtain ⟨q, hq, rfl⟩ := Option.map_eq_some_iff.1 ho
    exact sh_mkit rfl hq hd hp h
  | entry x => simp only [trOp, Option.some.injEq] at ho; subst ho; exact sh_mcur rfl hd h
  | lookup t m k ok =>
    simp only [trOp] at ho
    split at ho
    · rename_i ks et hq
      split at ho
      · rename_i z g hz hg
        obtain rfl := Option.some.inj ho
        exact sh_mget rfl hq hz hg hd h
      · cases ho
    · cases ho
  | call cl =>
    obtain ⟨callee, args, ts⟩ := cl
    cases callee with
    | value f =>
      cases f with
      | func g =>
        simp only [trOp] at ho
        split at ho
        · rename_i hg
          obtain rfl := Option.some.inj ho
          exact sh_call rfl hg hd h
        · cases ho
      | tmp k => simp only [trOp, Option.some.injEq] at ho; subst ho; exact sh_callv rfl hd h
      | const v => simp only [trOp, Option.some.injEq] at ho; subst ho; exact sh_callv rfl hd h
      | global k => simp only [trOp, Option.some.injEq] at ho; subst ho; exact sh_callv rfl hd h
    | invoke x m => simp only [trOp] at ho; cases ho
    | builtin b =>
      cases b <;> simp only [trOp] at ho <;> try (cases ho; done)
      case append =>
        split at ho
        · rename_i x y t t' ha ht
          split at ho
          · rename_i e hu
            split at ho
            · rename_i i z hi hz
              split at ho
              · rename_i hc
                obtain rfl := Option.some.inj ho
                simp only [Bool.and_eq_true, decide_eq_true_eq, beq_iff_eq] at hc
                obtain ⟨⟨rfl, hc1⟩, hc2⟩ := hc
                obtain rfl : args = #[x, y] := Array.ext' ha
                obtain rfl : ts = #[t, t] := Array.ext' ht
                exact sh_append rfl hu hi hz hc1 hc2 hd hp h
              · cases ho
            · cases ho
          · cases ho
        · cases ho
      case len =>
        split at ho
        · rename_i x t ha ht
          obtain rfl : args = #[x] := Array.ext' ha
          obtain rfl : ts = #[t] := Array.ext' ht
          split at ho
          · rename_i hu
            obtain rfl := Option.some.inj ho
            exact sh_len rfl (fun _ => hu) (fun e => by cases e) hd h
          · rename_i e hu
            obtain rfl := Option.some.inj ho
            exact sh_len rfl (fun e => by cases e) (fun _ => ⟨e, hu⟩) hd h
          · cases ho
        · cases ho
      case max =>
        split at ho
        · rename_i x y ha
          obtain rfl : args = #[x, y] := Array.ext' ha
          obtain rfl := Option.some.inj ho
          exact sh_minmax (mx := true) rfl hd h
        · cases ho
      case min =>
        split at ho
        · rename_i x y ha
          obtain rfl : args = #[x, y] := Array.ext' ha
          obtain rfl := Option.some.inj ho
          exact sh_minmax (mx := false) rfl hd h
        · cases ho
  | _ => simp only [trOp] at ho; cases ho
end
structure St where
  sl : List SV
  ob : List Ob
def gets : List SV → Nat → SV
  | [], _ => .any
  | x :: _, 0 => x
  | _ :: r, k + 1 => gets r k
def geto : List Ob → Nat → Ob
  | [], _ => .free
  | x :: _, 0 => x
  | _ :: r, k + 1 => geto r k
def sets : List SV → Nat → SV → List SV
  | [], _, _ => []
  | _ :: r, 0, y => y :: r
  | x :: r, k + 1, y => x :: sets r k y
def St.f (s : St) : Fst := ⟨gets s.sl, geto s.ob⟩
def updL (upd : List (Nat × Ob)) : Nat → List Ob → List Ob
  | _, [] => []
  | k, o :: r => (lookO upd k).getD o :: updL upd (k + 1) r
def extL (upd : List (Nat × Ob)) : Nat → Nat → List Ob
  | 0, _ => []
  | n + 1, k => match lookO upd k with
    | some o => o :: extL upd n (k + 1)
    | none => []
def newOb (l : List Ob) (upd : List (Nat × Ob)) : List Ob := updL upd 0 l ++ extL upd upd.length l.length
def putS (l : List SV) (d : Option Tmp) (x : SV) : List SV :=
  match d with
  | some k => sets l k x
  | none => l
def St.app (s : St) (d : Option Tmp) (x : SV) (upd : List (Nat × Ob)) : St := ⟨putS s.sl d x, newOb s.ob upd⟩
def okU (n : Nat) : List (Nat × Ob) → Prop
  | [] => True
  | (g, _) :: r => g < n ∧ okU n r
theorem gets_sets : ∀ (l : List SV) (k j : Nat) (x : SV), k < l.length → gets (sets l k x) j = if k = j then x else gets l j
  | [], k, j, x, h => absurd h (by simp)
  | y :: r, 0, 0, x, _ => by simp [sets, gets]
  | y :: r, 0, j + 1, x, _ => by simp [sets, gets]
  | y :: r, k + 1, 0, x, _ => by simp [sets, gets]
  | y :: r, k + 1, j + 1, x, h => by
    simp only [sets, gets, Nat.add_right_cancel_iff]
    exact gets_sets r k j x (by simpa using h)
theorem sets_len : ∀ (l : List SV) (k : Nat) (x : SV), (sets l k x).length = l.length
  | [], _, _ => rfl
  | _ :: _, 0, _ => rfl
  | _ :: r, k + 1, x => by simp [sets, sets_len r k x]
theorem geto_updL (upd : List (Nat × Ob)) : ∀ (l : List Ob) (k j : Nat), j < l.length → geto (updL upd k l) j = (lookO upd (k + j)).getD (geto l j)
  | [], k, j, h => absurd h (by simp)
  | o :: r, k, 0, _ => by simp [updL, geto]
  | o :: r, k, j + 1, h => by
    simp only [updL, geto]
    rw [geto_updL upd r (k + 1) j (by simpa using h), show k + 1 + j = k + (j + 1) by omega]
theorem updL_len (upd : List (Nat × Ob)) : ∀ (l : List Ob) (k : Nat), (updL upd k l).length = l.length
  | [], _ => rfl
  | o :: r, k => by simp [updL, updL_len upd r (k + 1)]
theorem geto_app : ∀ (l l' : List Ob) (j : Nat), geto (l ++ l') j = if j < l.length then geto l j else geto l' (j - l.length)
  | [], l', j => by simp
  | o :: r, l', 0 => by simp [geto]
  | o :: r, l', j + 1 => by
    simp only [List.cons_append, geto, List.length_cons, Nat.add_lt_add_iff_right, Nat.add_sub_add_right]
    exact geto_app r l' j
theorem geto_ext (upd : List (Nat × Ob)) : ∀ (n k j : Nat), j < (extL upd n k).length → geto (extL upd n k) j = (lookO upd (k + j)).getD .free
  | 0, k, j, h => absurd h (by simp [extL])
  | n + 1, k, j, h => by
    simp only [extL] at h ⊢
    split
    · rename_i o ho
      rw [ho] at h
      cases j with
      | zero => simp [geto, ho]
      | succ j =>
        simp only [geto]
        rw [geto_ext upd n (k + 1) j (by simpa using h), show k + 1 + j = k + (j + 1) by omega]
    · rename_i ho
      rw [ho] at h
      simp at h
theorem geto_big : ∀ (l : List Ob) (j : Nat), l.length ≤ j → geto l j = .free
  | [], j, _ => rfl
  | o :: r, 0, h => by simp at h
  | o :: r, j + 1, h => geto_big r j (by simpa using h)
theorem okU_spec {n : Nat} : ∀ {upd : List (Nat × Ob)}, okU n upd → ∀ g, lookO upd g ≠ none → g < n
  | [], _, g, h => absurd rfl h
  | (k, o) :: r, h, g, hg => by
    simp only [okU] at h
    simp only [lookO] at hg
    split at hg
    · rename_i e; subst e; exact h.1
    · exact okU_spec h.2 g hg
theorem geto_new {l : List Ob} {upd : List (Nat × Ob)} (h : okU (newOb l upd).length upd) (g : Nat) : geto (newOb l upd) g = (lookO upd g).getD (geto l g) := by
  unfold newOb at h ⊢
  rw [geto_app, updL_len]
  by_cases h1 : g < l.length
  · rw [if_pos h1, geto_updL upd l 0 g h1, Nat.zero_add]
  · rw [if_neg h1, geto_big l g (by omega)]
    rcases Nat.lt_or_ge (g - l.length) (extL upd upd.length l.length).length with h2 | h2
    · rw [geto_ext upd _ _ _ h2, show l.length + (g - l.length) = g by omega]
    · rw [geto_big _ _ h2]
      cases hl : lookO upd g with
      | none => rfl
      | some o =>
        have := okU_spec h g (by rw [hl]; simp)
        rw [List.length_append, updL_len] at this
        omega
theorem St.app_f {s : St} {d : Option Tmp} {x : SV} {upd : List (Nat × Ob)} (hd : dstOk s.sl.length d = true) (h : okU (newOb s.ob upd).length upd) : (s.app d x upd).f = s.f.app d x upd := by
  unfold St.app St.f Fst.app Fst.setO Fst.put
  congr 1
  · funext k
    cases d with
    | none => simp [putS]
    | some d =>
      simp only [dstOk, decide_eq_true_eq] at hd
      simp only [putS, Option.some.injEq]
      exact gets_sets _ _ _ _ hd
  · funext g
    exact geto_new h g
structure SOper where
  dst : Option Tmp
  gd : Option (Nat × Bool)
  op : SOp
def eStep (P : Program) (o : SOper) (st : St) (K : Ent → St → Prop) : Prop :=
  match o.gd with
  | none => eOp P o.op (gets st.sl) (geto st.ob) st.ob.length fun x upd rd => okU (newOb st.ob upd).length upd ∧ K ⟨true, x, upd, rd⟩ (st.app o.dst x upd)
  | some (k, want) => match gets st.sl k with
    | .bool b => (b = want → eOp P o.op (gets st.sl) (geto st.ob) st.ob.length fun x upd rd => okU (newOb st.ob upd).length upd ∧ K ⟨true, x, upd, rd⟩ (st.app o.dst x upd)) ∧ (b = !want → K ⟨false, .tup [], [], []⟩ ⟨putS st.sl o.dst (.tup []), st.ob⟩)
    | .tup l => l = [] ∧ K ⟨false, .tup [], [], []⟩ ⟨putS st.sl o.dst (.tup []), st.ob⟩
    | _ => False
def eOps (P : Program) : List SOper → St → (List Ent → St → Prop) → Prop
  | [], st, K => K [] st
  | o :: r, st, K => eStep P o st fun e st' => eOps P r st' fun es st'' => K (e :: es) st''
def eSeq (P : Program) : List SOper → St → (St → Prop) → Prop
  | [], st, K => K st
  | o :: r, st, K => eStep P o st fun _ st' => eSeq P r st' K
def trGd (ops : Array Oper) (o : Oper) : Option (Option (Nat × Bool)) :=
  match o.guard with
  | none => some none
  | some (j, want) => ((ops[j]?).bind (·.dst)).map fun d => some (d, want)
def trOper (P : Program) (ops : Array Oper) (o : Oper) : Option SOper :=
  match trGd ops o, trOp P o with
  | some g, some so => some ⟨o.dst, g, so⟩
  | _, _ => none
section
variable {P : Program} {c : Ctx} {ops : Array Oper}
theorem trGd_spec {o : Oper} {g : Option (Nat × Bool)} (h : trGd ops o = some g) (s : Fst) (b : Bool) (hb : match g with | none => b = true | some (k, want) => s.sl k = .bool (b == want) ∨ (b = false ∧ s.sl k = .tup [])) : GuardIs ops o s b := by
  unfold trGd at h
  unfold GuardIs
  cases hg : o.guard with
  | none => rw [hg] at h; simp only [Option.some.injEq] at h; subst h; exact hb
  | some q =>
    obtain ⟨j, want⟩ := q
    rw [hg] at h
    simp only at h
    obtain ⟨d, hd, rfl⟩ := Option.map_eq_some_iff.1 h
    exact ⟨d, hd, hb⟩
theorem gd_looks {o : Oper} {k : Nat} {want : Bool} (h : trGd ops o = some (some (k, want))) : k ∈ o.looksAt ops := by
  unfold trGd at h
  cases hg : o.guard with
  | none => rw [hg] at h; simp at h
  | some q =>
    obtain ⟨j, w'⟩ := q
    rw [hg] at h
    simp only at h
    obtain ⟨d, hd, h2⟩ := Option.map_eq_some_iff.1 h
    simp only [Option.some.injEq, Prod.mk.injEq] at h2
    obtain ⟨rfl, rfl⟩ := h2
    unfold Oper.looksAt
    refine List.mem_append_right _ ?_
    rw [hg]
    simp only [hd, Option.toList_some, List.mem_singleton]
theorem eStep_sound {o : Oper} {so : SOper} {st : St} {K : Ent → St → Prop} (ho : trOper P ops o = some so) (hlen : st.sl.length = c.nt) (hd : dstOk c.nt o.dst = true) (h : eStep P so st K) :
    ∃ e st', K e st' ∧ ValidS P c ops o e st.f ∧ st'.f = st.f.app o.dst e.x e.upd ∧ st'.sl.length = c.nt := by
  unfold trOper at ho
  split at ho
  · rename_i g op hg hop
    obtain rfl := Option.some.inj ho
    have hp : st.f.ob st.ob.length = .free := geto_big _ _ (Nat.le_refl _)
    have plen : ∀ x, (putS st.sl o.dst x).length = c.nt := fun x => by cases o.dst <;> simp [putS, sets_len, hlen]
    have main : (∀ s' : Fst, (∀ k, k ∈ o.looksAt ops → s'.sl k = st.f.sl k) → GuardIs ops o s' true) → (eOp P op (gets st.sl) (geto st.ob) st.ob.length fun x upd rd => okU (newOb st.ob upd).length upd ∧ K ⟨true, x, upd, rd⟩ (st.app o.dst x upd)) →
        ∃ e st', K e st' ∧ ValidS P c ops o e st.f ∧ st'.f = st.f.app o.dst e.x e.upd ∧ st'.sl.length = c.nt := fun hgd h => by
      obtain ⟨x, upd, rd, ⟨hU, hK⟩, hv⟩ := eOp_good (c := c) (ops := ops) (s := st.f) hop hd hp h
      refine ⟨⟨true, x, upd, rd⟩, st.app o.dst x upd, hK, fun s' h1 h2 h3 => ⟨hgd s' h1, ?_⟩, St.app_f (by rw [hlen]; exact hd) hU, plen x⟩
      rw [if_pos rfl]
      exact hv s' h1 h2 h3
    unfold eStep at h
    cases g with
    | none =>
      simp only at h
      exact main (fun s' _ => trGd_spec hg s' true rfl) h
    | some q =>
      obtain ⟨k, want⟩ := q
      simp only at h
      split at h
      · rename_i b hb
        by_cases hw : b = want
        · exact main (fun s' h1 => trGd_spec hg s' true (by
            simp only
            rw [h1 k (gd_looks hg)]
            left
            show gets st.sl k = _
            rw [hb, hw]; simp)) (h.1 hw)
        · have hbw : b = !want := by cases b <;> cases want <;> simp_all
          refine ⟨⟨false, .tup [], [], []⟩, ⟨putS st.sl o.dst (.tup []), st.ob⟩, h.2 hbw, fun s' h1 _ _ => ⟨trGd_spec hg s' false (by
            simp only
            rw [h1 k (gd_looks hg)]
            left
            show gets st.sl k = _
            rw [hb, hbw]; simp), by rw [if_neg (by simp)]; exact ⟨rfl, rfl⟩⟩, ?_, plen _⟩
          have : newOb st.ob [] = st.ob := by
            have : ∀ (l : List Ob) k, updL [] k l = l := by
              intro l
              induction l with
              | nil => intro k; rfl
              | cons o r ih => intro k; simp [updL, lookO, ih]
            simp [newOb, this, extL]
          have h2 := St.app_f (s := st) (d := o.dst) (x := .tup []) (upd := []) (by rw [hlen]; exact hd) (by simp [okU])
          unfold St.app at h2
          rw [this] at h2
          exact h2
      · rename_i l hb
        refine ⟨⟨false, .tup [], [], []⟩, ⟨putS st.sl o.dst (.tup []), st.ob⟩, h.2, fun s' h1 _ _ => ⟨trGd_spec hg s' false (by
          simp only
          rw [h1 k (gd_looks hg)]
          right
          refine ⟨trivial, ?_⟩
          show gets st.sl k = _
          rw [hb, h.1]), by rw [if_neg (by simp)]; exact ⟨rfl, rfl⟩⟩, ?_, plen _⟩
        have : newOb st.ob [] = st.ob := by
          have : ∀ (l : List Ob) k, updL [] k l = l := by
            intro l
            induction l with
            | nil => intro k; rfl
            | cons o r ih => intro k; simp [updL, lookO, ih]
          simp [newOb, this, extL]
        have h2 := St.app_f (s := st) (d := o.dst) (x := .tup []) (upd := []) (by rw [hlen]; exact hd) (by simp [okU])
        unfold St.app at h2
        rw [this] at h2
        exact h2
      · exact h.elim
  · cases ho
theorem eOps_sound : ∀ {l : List Oper} {sl : List SOper} {st : St} {K : List Ent → St → Prop}, allSome (l.map (trOper P ops)) = some sl → st.sl.length = c.nt → (∀ o ∈ l, dstOk c.nt o.dst = true) → eOps P sl st K →
    ∃ es st', K es st' ∧ TextOk P c ops l es st.f ∧ runE l es st.f = st'.f ∧ st'.sl.length = c.nt
  | [], sl, st, K, hs, hlen, _, h => by
    simp only [List.map_nil, allSome, Option.some.injEq] at hs
    subst hs
    exact ⟨[], st, h, rfl, rfl, hlen⟩
  | o :: l, sl, st, K, hs, hlen, hd, h => by
    simp only [List.map_cons] at hs
    cases ho : trOper P ops o with
    | none => rw [ho] at hs; cases hs
    | some so =>
      rw [ho] at hs
      simp only [allSome] at hs
      obtain ⟨sl', hs', rfl⟩ := Option.map_eq_some_iff.1 hs
      simp only [eOps] at h
      obtain ⟨e, st1, h1, h2, h3, h4⟩ := eStep_sound ho hlen (hd o (by simp)) h
      obtain ⟨es, st2, g1, g2, g3, g4⟩ := eOps_sound hs' h4 (fun o' ho' => hd o' (by simp [ho'])) h1
      refine ⟨e :: es, st2, g1, ?_, ?_, g4⟩
      · simp only [TextOk]
        exact ⟨e, es, rfl, h2, by rw [← h3]; exact g2⟩
      · simp only [runE]
        rw [← h3]; exact g3
theorem eSeq_sound : ∀ {l : List Oper} {sl : List SOper} {st : St} {K : St → Prop}, allSome (l.map (trOper P ops)) = some sl → st.sl.length = c.nt → (∀ o ∈ l, dstOk c.nt o.dst = true) → eSeq P sl st K →
    ∃ es st', K st' ∧ TextOk P c ops l es st.f ∧ runE l es st.f = st'.f ∧ st'.sl.length = c.nt
  | [], sl, st, K, hs, hlen, _, h => by
    simp only [List.map_nil, allSome, Option.some.injEq] at hs
    subst hs
    exact ⟨[], st, h, rfl, rfl, hlen⟩
  | o :: l, sl, st, K, hs, hlen, hd, h => by
    simp only [List.map_cons] at hs
    cases ho : trOper P ops o with
    | none => rw [ho] at hs; cases hs
    | some so =>
      rw [ho] at hs
      simp only [allSome] at hs
      obtain ⟨sl', hs', rfl⟩ := Option.map_eq_some_iff.1 hs
      simp only [eSeq] at h
      obtain ⟨e, st1, h1, h2, h3, h4⟩ := eStep_sound ho hlen (hd o (by simp)) h
      obtain ⟨es, st2, g1, g2, g3, g4⟩ := eSeq_sound hs' h4 (fun o' ho' => hd o' (by simp [ho'])) h1
      refine ⟨e :: es, st2, g1, ?_, ?_, g4⟩
      · simp only [TextOk]
        exact ⟨e, es, rfl, h2, by rw [← h3]; exact g2⟩
      · simp only [runE]
        rw [← h3]; exact g3
end
inductive SC where
  | skip
  | reg (ops : List SOper)
  | dreg (anc : List (List Nat)) (ops : List SOper)
  | seq (a b : SC)
  | cond (c : SX) (a b : SC)
  | block (id : Nat) (b : SC)
  | loop (junk : List Nat) (b : SC)
  | exit (id : Nat)
  | ret
  | next (it : SX) (nx more : Nat)
  | mloop (keep keepO : List Nat) (it : SX) (nx more : Nat) (b : SC)
def wrC : SC → List Nat
  | .reg ops => ops.filterMap (·.dst)
  | .dreg _ ops => ops.filterMap (·.dst)
  | .seq a b => wrC a ++ wrC b
  | .cond _ a b => wrC a ++ wrC b
  | .block _ b => wrC b
  | .loop j _ => j
  | .next _ a b => [a, b]
  | _ => []
def nextOf (nt : Nat) (ops : Array Oper) (draw : Bool) : Option (SX × Nat × Nat) :=
  match ops.toList with
  | [o1, o2] => match o1.op, o1.dst, o1.guard, o2.op, o2.dst, o2.guard with
    | .next x false, some nx, none, .extract (.tmp k) 0, some more, none => if draw = false ∧ k = nx ∧ nx < nt ∧ more < nt ∧ nx ≠ more then some (trX x, nx, more) else none
    | _, _, _, _, _, _ => none
  | _ => none
theorem nextOf_spec {nt : Nat} {ops : Array Oper} {draw : Bool} {q : SX × Nat × Nat} (h : nextOf nt ops draw = some q) : draw = false ∧ ∃ x o1 o2, ops.toList = [o1, o2] ∧ o1.dst = some q.2.1 ∧ o1.op = .next x false ∧ o1.guard = none ∧ o2.dst = some q.2.2 ∧ o2.op = .extract (.tmp q.2.1) 0 ∧ o2.guard = none ∧ q.1 = trX x ∧ q.2.1 < nt ∧ q.2.2 < nt ∧ q.2.1 ≠ q.2.2 := by
  unfold nextOf at h
  split at h
  · rename_i o1 o2 hl
    split at h
    · rename_i x nx k more h1 h2 h3 h4 h5 h6
      split at h
      · rename_i hc
        obtain ⟨rfl, rfl, hc1, hc2, hc3⟩ := hc
        obtain rfl := Option.some.inj h
        exact ⟨rfl, x, o1, o2, hl, h2, h1, h3, h5, h4, h6, rfl, hc1, hc2, hc3⟩
      · cases h
    · cases h
  · cases h
def trC (P : Program) (nt : Nat) : Code → Option SC
  | .skip => some .skip
  | .region _ ops draw => match nextOf nt ops draw with
    | some q => some (.next q.1 q.2.1 q.2.2)
    | none => match allSome (ops.toList.map (trOper P ops)) with
      | some sl => if ops.toList.all (fun o => dstOk nt o.dst && gdOk nt ops o) then
          if draw then
            if slotB ops.toList (ancL ops.toList []) && decide ((ancL ops.toList []).length = ops.toList.length) then some (.dreg (ancL ops.toList []) sl) else none
          else some (.reg sl)
        else none
      | none => none
  | .seq a b => match trC P nt a, trC P nt b with
    | some x, some y => some (.seq x y)
    | _, _ => none
  | .cond c a b => match trC P nt a, trC P nt b with
    | some x, some y => some (.cond (trX c) x y)
    | _, _ => none
  | .block id b => (trC P nt b).map (.block id)
  | .loop b => (trC P nt b).map fun x => .loop (wrC x).eraseDups x
  | .exit id => some (.exit id)
  | .ret => some .ret
  | _ => none
inductive X where
  | normal
  | exit (id : Nat)
  | ret
def X.exit' : X → Exit
  | .normal => .normal
  | .exit id => .exit id
  | .ret => .ret
def Run (P : Program) (c : Ctx) (sc : SC) (K : X → St → Prop) (st : St) : Prop :=
  ∀ (code : Code), trC P c.nt code = some sc → ∀ (a : Act) (w : World) (Q : Exit → Act → World → Prop), st.sl.length = c.nt → Rep c st.f a w →
    (∀ x st' a' w', K x st' → st'.sl.length = c.nt → Rep c st'.f a' w' → Q x.exit' a' w') → code.wp P Q a w
def nextSt (nx more : Nat) (st : St) (b : Bool) (u : List (Nat × Ob)) : St := (st.app (some nx) .any u).app (some more) (.bool b) []
def sw (P : Program) (c : Ctx) : SC → (X → St → Prop) → St → Prop
  | .skip, K, st => K .normal st
  | .reg ops, K, st => eSeq P ops st (K .normal)
  | .dreg anc ops, K, st => eOps P ops st fun es st' => obB anc [] (locs es) 0 = true ∧ K .normal st'
  | .seq a b, K, st => sw P c a (fun x st' => match x with | .normal => sw P c b K st' | x => K x st') st
  | .cond cx a b, K, st => match getX (gets st.sl) cx with
    | .bool t => (t = true → sw P c a K st) ∧ (t = false → sw P c b K st)
    | _ => False
  | .block id b, K, st => sw P c b (fun x st' => match x with | .exit i => if i = id then K .normal st' else K (.exit i) st' | x => K x st') st
  | .loop j b, K, st => Run P c (.loop j b) K st
  | .exit id, K, st => K (.exit id) st
  | .ret, K, st => K .ret st
  | .next it nx more, K, st => match getX (gets st.sl) it with
    | .ptr g o => match geto st.ob g with
      | .it ks m seen cur => o = 0 ∧ ((∀ k x, m k = some x → k ∈ seen) → K .normal (nextSt nx more st false [])) ∧ ∀ k x, m k = some x → k ∉ seen → K .normal (nextSt nx more st true [(g, .it ks m (k :: seen) (some (k, x)))])
      | _ => False
    | _ => False
  | .mloop _ _ _ _ _ _, _, _ => False
section
variable {P : Program} {c : Ctx}
theorem sw_run (hm : P.follows .mixedOrders = true) : ∀ (sc : SC) (K : X → St → Prop) (st : St), sw P c sc K st → Run P c sc K st
  | .skip, K, st, h => by
    intro code hc a w Q hl hr hq
    cases code <;> simp only [trC] at hc <;> (try (cases hc; done)) <;> (try (split at hc <;> (try split at hc) <;> (try split at hc) <;> (try split at hc) <;> (try split at hc) <;> cases hc; done)) <;> (try (obtain ⟨_, _, e⟩ := Option.map_eq_some_iff.1 hc; cases e; done))
    exact wp_skip (hq _ _ _ _ h hl hr)
  | .exit id, K, st, h => by
    intro code hc a w Q hl hr hq
    cases code <;> simp only [trC] at hc <;> (try (cases hc; done)) <;> (try (split at hc <;> (try split at hc) <;> (try split at hc) <;> (try split at hc) <;> (try split at hc) <;> cases hc; done)) <;> (try (obtain ⟨_, _, e⟩ := Option.map_eq_some_iff.1 hc; cases e; done))
    obtain rfl := SC.exit.inj (Option.some.inj hc)
    exact wp_exit (hq _ _ _ _ h hl hr)
  | .ret, K, st, h => by
    intro code hc a w Q hl hr hq
    cases code <;> simp only [trC] at hc <;> (try (cases hc; done)) <;> (try (split at hc <;> (try split at hc) <;> (try split at hc) <;> (try split at hc) <;> (try split at hc) <;> cases hc; done)) <;> (try (obtain ⟨_, _, e⟩ := Option.map_eq_some_iff.1 hc; cases e; done))
    exact wp_ret (hq _ _ _ _ h hl hr)
  | .loop j b, K, st, h => h
  | .mloop _ _ _ _ _ _, K, st, h => h.elim
  | .next it nx more, K, st, h => by
    intro code hc a w Q hl hr hq
    cases code <;> simp only [trC] at hc <;> (try (cases hc; done)) <;> (try (obtain ⟨_, _, e⟩ := Option.map_eq_some_iff.1 hc; cases e; done))
    case seq => split at hc <;> cases hc
    case cond => split at hc <;> cases hc
    case region id ops draw =>
      split at hc
      · rename_i q hn
        obtain ⟨rfl, x, o1, o2, hops, d1, p1, g1, d2, p2, g2, e1, l1, l2, l3⟩ := nextOf_spec hn
        obtain ⟨rfl, rfl, rfl⟩ := SC.next.inj (Option.some.inj hc)
        obtain ⟨I, V, B, hr⟩ := hr
        simp only [sw] at h
        split at h
        · rename_i g o he
          split at h
          · rename_i ks m seen cur hob
            obtain ⟨rfl, hN, hS⟩ := h
            rw [e1] at he
            have hlt : q.2.1 < st.sl.length := by rw [hl]; exact l1
            have hlt2 : q.2.2 < st.sl.length := by rw [hl]; exact l2
            have hgl : g < st.ob.length := by
              rcases Nat.lt_or_ge g st.ob.length with h1 | h1
              · exact h1
              · rw [geto_big _ _ h1] at hob; cases hob
            refine wp_region_list ?_
            rw [hops]
            have fin : ∀ (b : Bool) (u : List (Nat × Ob)) (w' : World) (v : Value), okU (newOb st.ob u).length u → RepI c I V B (st.f.setO u) a w' → (Instr.extract v 0).run P w' = .ok (.bool b) w' → (Instr.next (a.eval x) false o1.type).run P w = .ok v w' → K .normal (nextSt q.2.1 q.2.2 st b u) → wpList P ops Q [o1, o2] a w := fun b u w' v hu hr2 hx hrun hK => by
              have ht : ∀ tm, Region.wanted o1 tm = true := fun tm => by unfold Region.wanted; rw [g1]
              have ht2 : ∀ tm, Region.wanted o2 tm = true := fun tm => by unfold Region.wanted; rw [g2]
              unfold wpList
              rw [ht, if_pos rfl]
              left
              unfold Oper.wp
              have hx1 : (execOp a.eval o1).run P w = .ok (.value v) w' := by simp only [execOp, p1]; exact run_val hrun
              rw [hx1, Oper.upon_value]
              have r1 : RepI c I V B ((st.f.setO u).put (some q.2.1) .any) (a.put (some q.2.1) v) w' := hr2.put (by simpa [dstOk] using l1) (by simp [RepV])
              unfold wpList
              rw [ht2, if_pos rfl]
              left
              unfold Oper.wp
              have hv : (a.put o1.dst v).eval (.tmp q.2.1) = v := by
                rw [d1]
                have : q.2.1 < a.tmps.size := by rw [hr.sz]; exact l1
                simp [Act.eval, Act.put, Array.getD_eq_getD_getElem?, this]
              have hx2 : (execOp (a.put o1.dst v).eval o2).run P w' = .ok (.value (.bool b)) w' := by simp only [execOp, p2]; rw [hv]; exact run_val hx
              rw [hx2, Oper.upon_value, d1, d2]
              have r2 := r1.put (d := some q.2.2) (by simpa [dstOk] using l2) (x := .bool b) (v := .bool b) (by simp [RepV])
              refine hq .normal _ _ _ hK (by simp [nextSt, St.app, putS, sets_len, hl]) ⟨I, V, B, ?_⟩
              have e1 : (st.app (some q.2.1) .any u).f = st.f.app (some q.2.1) .any u := St.app_f (by simpa [dstOk] using hlt) hu
              have e2 : (nextSt q.2.1 q.2.2 st b u).f = (st.app (some q.2.1) .any u).f.app (some q.2.2) (.bool b) [] := St.app_f (by simpa [dstOk, St.app, putS, sets_len] using hlt2) (by simp [okU])
              rw [e2, e1]
              exact r2
            rcases next_step hr (s := st.f) he hob o1.type with ⟨h1, h2⟩ | ⟨k, y, w', u, v, h1, h2, h3, h4⟩
            · refine fin false [] w (.tuple #[.bool false]) (by simp [okU]) ?_ (by simp [Instr.extract]) h2 (hN h1)
              exact hr
            · refine fin true _ w' (.tuple #[.bool true, u, v]) ?_ (hr.after h4) (by simp [Instr.extract]) h3 (hS k y h1 h2)
              simp [okU, newOb, updL_len, hgl]
              omega
          · exact h.elim
        · exact h.elim
      · split at hc <;> (try split at hc) <;> (try split at hc) <;> (try split at hc) <;> cases hc
  | .reg sl, K, st, h => by
    intro code hc a w Q hl hr hq
    cases code <;> simp only [trC] at hc <;> (try (cases hc; done)) <;> (try (obtain ⟨_, _, e⟩ := Option.map_eq_some_iff.1 hc; cases e; done))
    case region id ops draw =>
      split at hc
      · cases hc
      rename_i hnn
      split at hc
      · rename_i sl' hsl
        split at hc
        · rename_i hall
          split at hc
          · split at hc <;> cases hc
          · rename_i hdr
            obtain rfl := SC.reg.inj (Option.some.inj hc)
            have hdr : draw = false := by simpa using hdr
            subst hdr
            have hall : ∀ o ∈ ops.toList, dstOk c.nt o.dst = true ∧ gdOk c.nt ops o = true := fun o ho => by
              have := (List.all_eq_true.1 hall) o ho
              simpa using this
            obtain ⟨es, st', h1, h2, h3, h4⟩ := eSeq_sound (c := c) hsl hl (fun o ho => (hall o ho).1) h
            exact wp_region_list (wpList_text ops.toList es st.f a w hall h2 hr fun a' w' hr' => hq .normal st' a' w' h1 h4 (by rw [← h3]; exact hr'))
        · cases hc
      · cases hc
    case seq => split at hc <;> cases hc
    case cond => split at hc <;> cases hc
  | .dreg anc sl, K, st, h => by
    intro code hc a w Q hl hr hq
    cases code <;> simp only [trC] at hc <;> (try (cases hc; done)) <;> (try (obtain ⟨_, _, e⟩ := Option.map_eq_some_iff.1 hc; cases e; done))
    case region id ops draw =>
      split at hc
      · cases hc
      rename_i hnn
      split at hc
      · rename_i sl' hsl
        split at hc
        · rename_i hall
          split at hc
          · rename_i hdr
            split at hc
            · rename_i hsb
              obtain ⟨rfl, rfl⟩ := SC.dreg.inj (Option.some.inj hc)
              have hdr : draw = true := by simpa using hdr
              subst hdr
              have hall : ∀ o ∈ ops.toList, dstOk c.nt o.dst = true ∧ gdOk c.nt ops o = true := fun o ho => by
                have := (List.all_eq_true.1 hall) o ho
                simpa using this
              rw [Bool.and_eq_true] at hsb
              obtain ⟨es, st', ⟨hob, h1⟩, h2, h3, h4⟩ := eOps_sound (c := c) hsl hl (fun o ho => (hall o ho).1) h
              have := wp_region_conf (P := P) (c := c) (Q := Q) (l := ops.toList) (es := es) (anc := ancL ops.toList []) (id := id) (a := a) (w := w) (s := st.f) hm hsb.1 rfl hsb.2 hob (by simpa using hall) (by simpa using h2) hr (fun a' w' hr' => hq .normal st' a' w' h1 h4 (by rw [← h3]; exact hr'))
              simpa using this
            · cases hc
          · cases hc
        · cases hc
      · cases hc
    case seq => split at hc <;> cases hc
    case cond => split at hc <;> cases hc
  | .seq x y, K, st, h => by
    intro code hc a w Q hl hr hq
    cases code <;> simp only [trC] at hc <;> (try (cases hc; done)) <;> (try (obtain ⟨_, _, e⟩ := Option.map_eq_some_iff.1 hc; cases e; done))
    case region => split at hc <;> (try split at hc) <;> (try split at hc) <;> (try split at hc) <;> (try split at hc) <;> cases hc
    case cond => split at hc <;> cases hc
    case seq u v =>
      split at hc
      · rename_i x' y' hx hy
        obtain ⟨rfl, rfl⟩ := SC.seq.inj (Option.some.inj hc)
        simp only [sw] at h
        refine wp_seq (sw_run hm _ _ st h u hx a w _ hl hr fun e st' a' w' hk hl' hr' => ?_)
        cases e with
        | normal => exact sw_run hm _ _ st' hk v hy a' w' Q hl' hr' hq
        | exit id => exact hq _ _ _ _ hk hl' hr'
        | ret => exact hq _ _ _ _ hk hl' hr'
      · cases hc
  | .cond cx x y, K, st, h => by
    intro code hc a w Q hl hr hq
    cases code <;> simp only [trC] at hc <;> (try (cases hc; done)) <;> (try (obtain ⟨_, _, e⟩ := Option.map_eq_some_iff.1 hc; cases e; done))
    case region => split at hc <;> (try split at hc) <;> (try split at hc) <;> (try split at hc) <;> (try split at hc) <;> cases hc
    case seq => split at hc <;> cases hc
    case cond q u v =>
      split at hc
      · rename_i x' y' hx hy
        obtain ⟨rfl, rfl, rfl⟩ := SC.cond.inj (Option.some.inj hc)
        simp only [sw] at h
        split at h
        · rename_i t ht
          have hv : a.eval q = .bool t := by
            obtain ⟨I, V, B, hr⟩ := hr
            have := ev_rep hr q
            have e : getX st.f.sl (trX q) = .bool t := ht
            rw [e] at this
            simpa only [RepV] using this
          refine wp_cond_split hv (fun e => ?_) (fun e => ?_)
          · exact sw_run hm _ _ st (h.1 e) u hx a w Q hl hr hq
          · exact sw_run hm _ _ st (h.2 e) v hy a w Q hl hr hq
        · exact h.elim
      · cases hc
  | .block id b, K, st, h => by
    intro code hc a w Q hl hr hq
    cases code <;> simp only [trC] at hc <;> (try (cases hc; done))
    case region => split at hc <;> (try split at hc) <;> (try split at hc) <;> (try split at hc) <;> (try split at hc) <;> cases hc
    case seq => split at hc <;> cases hc
    case cond => split at hc <;> cases hc
    case loop => obtain ⟨_, _, e⟩ := Option.map_eq_some_iff.1 hc; cases e
    case block id' u =>
      obtain ⟨x', hx, e⟩ := Option.map_eq_some_iff.1 hc
      obtain ⟨rfl, rfl⟩ := SC.block.inj e
      simp only [sw] at h
      refine wp_block (sw_run hm _ _ st h u hx a w _ hl hr fun e st' a' w' hk hl' hr' => ?_)
      cases e with
      | normal => exact hq .normal st' a' w' hk hl' hr'
      | ret => exact hq .ret st' a' w' hk hl' hr'
      | exit i =>
        simp only at hk
        simp only [X.exit', Exit.inBlock]
        by_cases hi : i = id'
        · rw [if_pos hi] at hk ⊢
          exact hq .normal st' a' w' hk hl' hr'
        · rw [if_neg hi] at hk ⊢
          exact hq (.exit i) st' a' w' hk hl' hr'
def Weak (c : Ctx) (st st' : St) : Prop := st.sl.length = c.nt → st'.sl.length = c.nt ∧ ∀ a w, Rep c st.f a w → Rep c st'.f a w
theorem Weak.trans {a b d : St} (h : Weak c a b) (k : Weak c b d) : Weak c a d := fun hl =>
  have h1 := h hl
  have h2 := k h1.1
  ⟨h2.1, fun x w hr => h2.2 x w (h1.2 x w hr)⟩
theorem Run.weak {sc : SC} {K : X → St → Prop} {st st' : St} (h : Weak c st st') (k : Run P c sc K st') : Run P c sc K st := by
  intro code hc a w Q hl hr hq
  have h1 := h hl
  exact k code hc a w Q h1.1 (h1.2 a w hr) hq
theorem run_loop {α : Type} {junk : List Nat} {b : SC} {K : X → St → Prop} {st : St} (H : α → St) (μ : α → Nat) (x0 : α) (h0 : Weak c st (H x0))
    (round : ∀ x, Run P c b (fun e st' => match e with | .normal => ∃ y, μ y < μ x ∧ Weak c st' (H y) | e => K e st') (H x)) : Run P c (.loop junk b) K st := by
  intro code hc a w Q hl hr hq
  cases code <;> simp only [trC] at hc <;> (try (cases hc; done))
  case region => split at hc <;> (try split at hc) <;> (try split at hc) <;> (try split at hc) <;> (try split at hc) <;> cases hc
  case seq => split at hc <;> cases hc
  case cond => split at hc <;> cases hc
  case block => obtain ⟨_, _, e⟩ := Option.map_eq_some_iff.1 hc; cases e
  case loop u =>
    obtain ⟨x', hx, e⟩ := Option.map_eq_some_iff.1 hc
    obtain ⟨_, rfl⟩ := SC.loop.inj e
    classical
    let I : Act → World → Prop := fun a w => ∃ x, (H x).sl.length = c.nt ∧ Rep c (H x).f a w
    let Mx : Act → World → Nat → Prop := fun a w n => ∃ x, (H x).sl.length = c.nt ∧ Rep c (H x).f a w ∧ μ x ≤ n
    have hex : ∀ a w, I a w → ∃ n, Mx a w n := fun a w ⟨x, h1, h2⟩ => ⟨μ x, x, h1, h2, Nat.le_refl _⟩
    have least : ∀ (p : Nat → Prop), (∃ n, p n) → ∃ n, p n ∧ ∀ m, m < n → ¬ p m := fun p ⟨n, hn⟩ => by
      induction n using Nat.strongRecOn with
      | _ n ih =>
        by_cases h : ∃ m, m < n ∧ p m
        · obtain ⟨m, h1, h2⟩ := h; exact ih m h1 h2
        · exact ⟨n, hn, fun m h1 h2 => h ⟨m, h1, h2⟩⟩
    let ν : Act → World → Nat := fun a w => if h : ∃ n, Mx a w n then Classical.choose (least _ h) else 0
    have hν : ∀ a w, (∃ n, Mx a w n) → Mx a w (ν a w) ∧ ∀ m, m < ν a w → ¬ Mx a w m := fun a w h => by
      have e : ν a w = Classical.choose (least _ h) := dif_pos h
      rw [e]
      exact Classical.choose_spec (least _ h)
    refine wp_loop I ν ?_ ?_
    · exact ⟨x0, (h0 hl).1, (h0 hl).2 a w hr⟩
    · intro a1 w1 hI
      obtain ⟨x, h1, h2, h3⟩ := (hν a1 w1 (hex a1 w1 hI)).1
      refine round x u hx a1 w1 _ h1 h2 fun e st' a' w' hk hl' hr' => ?_
      cases e with
      | normal =>
        obtain ⟨y, hy1, hy2⟩ := hk
        have h4 := hy2 hl'
        have hM : Mx a' w' (μ y) := ⟨y, h4.1, h4.2 a' w' hr', Nat.le_refl _⟩
        refine ⟨⟨y, h4.1, h4.2 a' w' hr'⟩, ?_⟩
        have h5 := (hν a' w' ⟨_, hM⟩).2
        rcases Nat.lt_or_ge (ν a' w') (ν a1 w1) with h6 | h6
        · exact h6
        · exact absurd hM (h5 (μ y) (by omega))
      | exit id => exact hq _ _ _ _ hk hl' hr'
      | ret => exact hq _ _ _ _ hk hl' hr'
end
mutual
def SV.ren (σ : Nat → Nat) : SV → SV
  | .ref g => .ref (σ g)
  | .ptr g o => .ptr (σ g) o
  | .eptr g sz k o => .eptr (σ g) sz k o
  | .agg l => .agg (SV.renL σ l)
  | .tup l => .tup (SV.renL σ l)
  | .fn f l => .fn f (SV.renL σ l)
  | .any => .any
  | .int k n => .int k n
  | .bool b => .bool b
  | .str s => .str s
  | .nil => .nil
  | .arr es => .arr es
  | .vptr es k o => .vptr es k o
  | .mp ks m => .mp ks m
def SV.renL (σ : Nat → Nat) : List SV → List SV
  | [] => []
  | x :: r => SV.ren σ x :: SV.renL σ r
end
def Ob.ren (σ : Nat → Nat) : Ob → Ob
  | .box t l => .box t (SV.renL σ l)
  | .tree es hs => .tree es (hs.map fun h => (h.1, h.2.1, σ h.2.2))
  | o => o
section
variable {w : World} {I : Nat → Prop} {V : Nat → Option Value} {σ : Nat → Nat}
mutual
theorem RepV.ren : ∀ (x : SV) (v : Value), RepV w I V (x.ren σ) v ↔ RepV w I (fun g => V (σ g)) x v
  | .any, v => by simp [SV.ren, RepV]
  | .int k n, v => by simp [SV.ren, RepV]
  | .bool b, v => by simp [SV.ren, RepV]
  | .str s, v => by simp [SV.ren, RepV]
  | .nil, v => by simp [SV.ren, RepV]
  | .arr es, v => by simp [SV.ren, RepV]
  | .vptr es k o, v => by simp [SV.ren, RepV]
  | .mp ks m, v => by simp [SV.ren, RepV]
  | .ref g, v => by simp [SV.ren, RepV]
  | .ptr g o, v => by simp [SV.ren, RepV]
  | .eptr g sz k o, v => by simp [SV.ren, RepV]
  | .agg l, v => by
    simp only [SV.ren, RepV]
    exact ⟨fun ⟨vs, e, h⟩ => ⟨vs, e, (RepVs.ren l vs).1 h⟩, fun ⟨vs, e, h⟩ => ⟨vs, e, (RepVs.ren l vs).2 h⟩⟩
  | .tup l, v => by
    simp only [SV.ren, RepV]
    exact ⟨fun ⟨vs, e, h⟩ => ⟨vs, e, (RepVs.ren l vs).1 h⟩, fun ⟨vs, e, h⟩ => ⟨vs, e, (RepVs.ren l vs).2 h⟩⟩
  | .fn f l, v => by
    simp only [SV.ren, RepV]
    exact ⟨fun ⟨vs, e, h⟩ => ⟨vs, e, (RepVs.ren l vs).1 h⟩, fun ⟨vs, e, h⟩ => ⟨vs, e, (RepVs.ren l vs).2 h⟩⟩
theorem RepVs.ren : ∀ (l : List SV) (vs : List Value), RepVs w I V (SV.renL σ l) vs ↔ RepVs w I (fun g => V (σ g)) l vs
  | [], vs => by simp [SV.renL, RepVs]
  | x :: r, vs => by
    simp only [SV.renL, RepVs]
    exact ⟨fun ⟨v, q, e, h1, h2⟩ => ⟨v, q, e, (RepV.ren x v).1 h1, (RepVs.ren r q).1 h2⟩, fun ⟨v, q, e, h1, h2⟩ => ⟨v, q, e, (RepV.ren x v).2 h1, (RepVs.ren r q).2 h2⟩⟩
end
theorem Ob.live_ren (o : Ob) : (o.ren σ).live ↔ o.live := by cases o <;> simp [Ob.ren, Ob.live]
theorem TreeR.ren {S : Nat → Prop} {val : Value} (es : List (List OT)) (hs : List (Nat × Nat × Nat)) : TreeR w I V S es (hs.map fun h => (h.1, h.2.1, σ h.2.2)) val ↔ TreeR w I (fun g => V (σ g)) S es hs val := by
  constructor
  · rintro ⟨t, sz, h1, h2⟩
    exact ⟨t, sz, h1, fun h hh => h2 (h.1, h.2.1, σ h.2.2) (List.mem_map.2 ⟨h, hh, rfl⟩)⟩
  · rintro ⟨t, sz, h1, h2⟩
    refine ⟨t, sz, h1, fun h hh => ?_⟩
    obtain ⟨q, hq, rfl⟩ := List.mem_map.1 hh
    exact h2 q hq
theorem ObR.ren {S : Nat → Prop} {val : Value} (o : Ob) : ObR w I V S val (o.ren σ) ↔ ObR w I (fun g => V (σ g)) S val o := by
  cases o with
  | free => simp [Ob.ren, ObR]
  | gone => simp [Ob.ren, ObR]
  | row t sz es => simp [Ob.ren, ObR]
  | tree es hs => exact TreeR.ren es hs
  | mp ks m => simp [Ob.ren, ObR]
  | it ks m seen cur => simp [Ob.ren, ObR]
  | box t l =>
    simp only [Ob.ren, ObR]
    exact ⟨fun ⟨b, vs, h1, h2, h3, h4⟩ => ⟨b, vs, h1, h2, h3, (RepVs.ren l vs).1 h4⟩, fun ⟨b, vs, h1, h2, h3, h4⟩ => ⟨b, vs, h1, h2, h3, (RepVs.ren l vs).2 h4⟩⟩
end
def sgp : List Nat → Nat → Nat → Nat
  | [], p, g => p + g
  | x :: _, _, 0 => x
  | _ :: r, p, g + 1 => sgp r p g
theorem sgp_get : ∀ (m : List Nat) (p g : Nat), sgp m p g = match m[g]? with | some x => x | none => p + (g - m.length)
  | [], p, g => by simp [sgp]
  | x :: r, p, 0 => by simp [sgp]
  | x :: r, p, g + 1 => by simp only [sgp, List.getElem?_cons_succ, List.length_cons, Nat.add_sub_add_right]; exact sgp_get r p g
def leV (σ : Nat → Nat) : SV → SV → Prop
  | .any, _ => True
  | x, y => x.ren σ = y
def leL (σ : Nat → Nat) : List SV → List SV → Prop
  | [], [] => True
  | x :: xs, y :: ys => leV σ x y ∧ leL σ xs ys
  | _, _ => False
def leO (σ : Nat → Nat) : Ob → Ob → Prop
  | .gone, _ => True
  | .box t l, .box t' l' => t = t' ∧ leL σ l l'
  | .row t sz es, .row t' sz' es' => t = t' ∧ sz = sz' ∧ es = es'
  | .mp ks m, .mp ks' m' => ks = ks' ∧ m = m'
  | .it ks m seen cur, .it ks' m' seen' cur' => ks = ks' ∧ m = m' ∧ seen = seen' ∧ cur = cur'
  | .tree es hs, o => (Ob.tree es hs).ren σ = o
  | _, _ => False
def leOs (σ : Nat → Nat) (ob : List Ob) : Nat → List Ob → Prop
  | _, [] => True
  | k, o :: r => leO σ o (geto ob (σ k)) ∧ leOs σ ob (k + 1) r
def idTo (σ : Nat → Nat) : Nat → Prop
  | 0 => True
  | n + 1 => σ n = n ∧ idTo σ n
def WeakC (n0 : Nat) (m : List Nat) (st st' : St) : Prop :=
  leL (sgp m st.ob.length) st'.sl st.sl ∧ leOs (sgp m st.ob.length) st.ob 0 st'.ob ∧ (m.length = st'.ob.length ∧ m.Nodup) ∧ idTo (sgp m st.ob.length) n0
section
variable {w : World} {I : Nat → Prop} {V : Nat → Option Value} {B : Nat → Nat → Prop} {σ : Nat → Nat}
theorem leV_rep {x y : SV} {v : Value} (h : leV σ x y) (hy : RepV w I V y v) : RepV w I (fun g => V (σ g)) x v := by
  cases x <;> simp only [leV] at h <;> first | (simp [RepV]; done) | (subst h; exact (RepV.ren _ v).1 hy)
theorem leL_rep : ∀ {xs ys : List SV} {vs : List Value}, leL σ xs ys → RepVs w I V ys vs → RepVs w I (fun g => V (σ g)) xs vs
  | [], [], vs, _, h => by simpa [RepVs] using h
  | x :: xs, y :: ys, vs, h, hy => by
    simp only [leL] at h
    simp only [RepVs] at hy ⊢
    obtain ⟨v, r, e, h1, h2⟩ := hy
    exact ⟨v, r, e, leV_rep h.1 h1, leL_rep h.2 h2⟩
  | [], _ :: _, _, h, _ => h.elim
  | _ :: _, [], _, h, _ => h.elim
theorem leL_len : ∀ {xs ys : List SV}, leL σ xs ys → xs.length = ys.length
  | [], [], _ => rfl
  | x :: xs, y :: ys, h => by simp [leL_len h.2]
  | [], _ :: _, h => h.elim
  | _ :: _, [], h => h.elim
theorem leL_gets : ∀ {xs ys : List SV} (k : Nat), leL σ xs ys → leV σ (gets xs k) (gets ys k)
  | [], [], k, _ => by simp [gets, leV]
  | x :: xs, y :: ys, 0, h => h.1
  | x :: xs, y :: ys, k + 1, h => leL_gets k h.2
  | [], _ :: _, _, h => h.elim
  | _ :: _, [], _, h => h.elim
theorem leO_rep {S : Nat → Prop} {val : Value} {o o' : Ob} (h : leO σ o o') (hl : o.live) (ho : ObR w I V S val o') : ObR w I (fun g => V (σ g)) S val o := by
  by_cases ht : ∃ es hs, o = .tree es hs
  · obtain ⟨es, hs, rfl⟩ := ht
    have h : (Ob.tree es hs).ren σ = o' := by cases o' <;> exact h
    subst h
    exact (ObR.ren _).1 ho
  cases o <;> cases o' <;> (try exact absurd ⟨_, _, rfl⟩ ht) <;> simp only [leO] at h <;> first | exact hl.elim | exact h.elim | skip
  · obtain ⟨rfl, h⟩ := h
    obtain ⟨b, vs, h1, h2, h3, h4⟩ := ho
    exact ⟨b, vs, h1, h2, h3, leL_rep h h4⟩
  · obtain ⟨rfl, rfl, rfl⟩ := h
    exact ho
  · obtain ⟨rfl, rfl⟩ := h
    exact ho
  · obtain ⟨rfl, rfl, rfl, rfl⟩ := h
    exact ho
theorem leO_live {o o' : Ob} (h : leO σ o o') (hl : o.live) : o'.live := by
  by_cases ht : ∃ es hs, o = .tree es hs
  · obtain ⟨es, hs, rfl⟩ := ht
    have h : (Ob.tree es hs).ren σ = o' := by cases o' <;> exact h
    subst h
    trivial
  cases o <;> cases o' <;> (try exact absurd ⟨_, _, rfl⟩ ht) <;> simp only [leO] at h <;> first | exact hl.elim | exact h.elim | trivial
theorem leOs_geto {ob : List Ob} : ∀ {l : List Ob} {k j : Nat}, leOs σ ob k l → j < l.length → leO σ (geto l j) (geto ob (σ (k + j)))
  | [], k, j, _, hj => absurd hj (by simp)
  | o :: r, k, 0, h, _ => h.1
  | o :: r, k, j + 1, h, hj => by
    have := leOs_geto (j := j) h.2 (by simpa using hj)
    rwa [show k + 1 + j = k + (j + 1) by omega] at this
theorem idTo_spec : ∀ {n : Nat}, idTo σ n → ∀ g, g < n → σ g = g
  | 0, _, g, h => by omega
  | n + 1, h, g, hg => by
    by_cases e : g = n
    · subst e; exact h.1
    · exact idTo_spec h.2 g (by omega)
theorem WeakC.wf {n0 : Nat} {m : List Nat} {st st' : St} (h : WeakC n0 m st st') (hw : Wf w I V B (geto st.ob)) : Wf w I (fun g => V (sgp m st.ob.length g)) (fun g => B (sgp m st.ob.length g)) (geto st'.ob) := by
  obtain ⟨_, hO, ⟨hlen, hnd⟩, _⟩ := h
  have hlt : ∀ g, (geto st'.ob g).live → g < st'.ob.length := fun g hl => by
    rcases Nat.lt_or_ge g st'.ob.length with h1 | h1
    · exact h1
    · rw [geto_big _ _ h1] at hl; exact hl.elim
  have hle : ∀ g, (geto st'.ob g).live → leO (sgp m st.ob.length) (geto st'.ob g) (geto st.ob (sgp m st.ob.length g)) := fun g hl => by
    have := leOs_geto (j := g) hO (hlt g hl)
    rwa [Nat.zero_add] at this
  refine ⟨hw.ilt, fun g hl => ?_, fun g b hl hb => ?_, fun g b hl hb => ?_, fun g g' b hl hl' hb hb' => ?_, fun g hf => ?_, hw.gl⟩
  · obtain ⟨val, h1, h2⟩ := hw.obj _ (leO_live (hle g hl) hl)
    exact ⟨val, h1, leO_rep (hle g hl) hl h2⟩
  · exact hw.lt _ b (leO_live (hle g hl) hl) hb
  · exact hw.dI _ b (leO_live (hle g hl) hl) hb
  · have e := hw.dO _ _ b (leO_live (hle g hl) hl) (leO_live (hle g' hl') hl') hb hb'
    have h1 := hlt g hl
    have h2 := hlt g' hl'
    rw [← hlen] at h1 h2
    rw [sgp_get, sgp_get, List.getElem?_eq_getElem h1, List.getElem?_eq_getElem h2] at e
    exact (List.getElem_inj hnd).1 e
  · rcases Nat.lt_or_ge g st'.ob.length with h1 | h1
    · have := leOs_geto (j := g) hO h1
      rw [hf] at this
      cases geto st.ob (sgp m st.ob.length (0 + g)) <;> exact this.elim
    · refine hw.fr _ (geto_big _ _ ?_)
      rw [sgp_get, List.getElem?_eq_none (by omega)]
      simp only; omega
theorem weak_by {c : Ctx} (m : List Nat) {st st' : St} (h : WeakC c.m m st st') : Weak c st st' := by
  intro hl
  have hL := h.1
  refine ⟨(leL_len hL).trans hl, fun a w hr => ?_⟩
  obtain ⟨I, V, B, hr⟩ := hr
  have hwf := h.wf hr.wf
  refine ⟨I, _, _, hr.fr, hr.i0, hr.i1, fun g u hu => ?_, hwf, fun g b hlv hb => ?_, hr.nd, hr.sz, fun k => ?_⟩
  · have hg : g < c.m := by
      rcases Nat.lt_or_ge g c.m with h1 | h1
      · exact h1
      · rw [c.vm g h1] at hu; cases hu
    rw [idTo_spec h.2.2.2 g hg]
    exact hr.v0 g u hu
  · have hlt : g < st'.ob.length := by
      rcases Nat.lt_or_ge g st'.ob.length with h1 | h1
      · exact h1
      · have : geto st'.ob g = .free := geto_big _ _ h1
        have hlv' : (geto st'.ob g).live := hlv
        rw [this] at hlv'; exact hlv'.elim
    have := leOs_geto (j := g) h.2.1 hlt
    rw [Nat.zero_add] at this
    exact hr.bh _ b (leO_live this hlv) hb
  · exact leV_rep (leL_gets k hL) (hr.slots k)
end
mutual
def OT.noSh : OT → Bool
  | .sh _ => false
  | .ow es => OT.noShss es
  | _ => true
def OT.noShs : List OT → Bool
  | [] => true
  | x :: r => OT.noSh x && OT.noShs r
def OT.noShss : List (List OT) → Bool
  | [] => true
  | x :: r => OT.noShs x && OT.noShss r
end
theorem OT.noShs_mem : ∀ {l : List OT}, OT.noShs l = true → ∀ x ∈ l, OT.noSh x = true
  | [], _, x, h => by cases h
  | y :: r, h, x, hx => by
    simp only [OT.noShs, Bool.and_eq_true] at h
    rcases List.mem_cons.1 hx with rfl | hx
    · exact h.1
    · exact OT.noShs_mem h.2 x hx
theorem OT.noShss_mem : ∀ {l : List (List OT)}, OT.noShss l = true → ∀ x ∈ l, OT.noShs x = true
  | [], _, x, h => by cases h
  | y :: r, h, x, hx => by
    simp only [OT.noShss, Bool.and_eq_true] at h
    rcases List.mem_cons.1 hx with rfl | hx
    · exact h.1
    · exact OT.noShss_mem h.2 x hx
theorem ORep.noSh {w : World} {I I' S : Nat → Prop} {o : OT} {v : Value} (h : ORep w I S o v) (hn : o.noSh = true) : ORep w I' S o v := by
  induction h with
  | int S n => exact .int _ n
  | bool S b => exact .bool _ b
  | str S s h => exact .str _ s h
  | sh S es v h => simp [OT.noSh] at hn
  | nil S => exact .nil _
  | hole S v h => exact .hole _ v h
  | row S t sz es b cap cur Sub hs hb h1 h2 h3 h4 h5 h6 h7 ih =>
    refine .row _ t sz es b cap cur Sub hs hb h1 h2 h3 h4 h5 h6 fun i j hi hj => ih i j hi hj ?_
    simp only [OT.noSh] at hn
    exact OT.noShs_mem (OT.noShss_mem hn _ (List.getElem_mem hi)) _ (List.getElem_mem hj)
theorem RowR.noSh {w : World} {I I' S : Nat → Prop} {t : TypeId} {sz : Nat} {es : List (List OT)} {v : Value} (h : RowR w I S t sz es v) (hn : OT.noShss es = true) : RowR w I' S t sz es v := by
  rcases h with h | ⟨b, cap, cur, Sub, rfl, hs, hb, h1, h2, h3, h4, h5, h6, h7⟩
  · exact .inl h
  · exact .inr ⟨b, cap, cur, Sub, rfl, hs, hb, h1, h2, h3, h4, h5, h6, fun i j hi hj => (h7 i j hi hj).noSh (OT.noShs_mem (OT.noShss_mem hn _ (List.getElem_mem hi)) _ (List.getElem_mem hj))⟩
mutual
def SV.noSh : SV → Bool
  | .arr _ => false
  | .vptr _ _ _ => false
  | .mp _ _ => false
  | .agg l => SV.noShL l
  | .tup l => SV.noShL l
  | .fn _ l => SV.noShL l
  | _ => true
def SV.noShL : List SV → Bool
  | [] => true
  | x :: r => SV.noSh x && SV.noShL r
end
def Ob.noSh : Ob → Bool
  | .box _ l => SV.noShL l
  | .row _ _ es => OT.noShss es
  | .tree es _ => OT.noShss es
  | .mp _ _ => false
  | .it _ _ _ _ => false
  | _ => true
section
variable {w : World} {I I' : Nat → Prop} {V : Nat → Option Value}
mutual
theorem RepV.noSh : ∀ (x : SV) (v : Value), x.noSh = true → RepV w I V x v → RepV w I' V x v
  | .any, v, _, _ => by simp [RepV]
  | .int k n, v, _, h => by simpa [RepV] using h
  | .bool b, v, _, h => by simpa [RepV] using h
  | .str s, v, _, h => by simpa [RepV] using h
  | .nil, v, _, h => by simpa [RepV] using h
  | .arr es, v, hn, _ => by simp [SV.noSh] at hn
  | .vptr es k o, v, hn, _ => by simp [SV.noSh] at hn
  | .mp ks m, v, hn, _ => by simp [SV.noSh] at hn
  | .ref g, v, _, h => by simpa [RepV] using h
  | .ptr g o, v, _, h => by simpa [RepV] using h
  | .eptr g sz k o, v, _, h => by simpa [RepV] using h
  | .agg l, v, hn, h => by
    simp only [RepV] at h ⊢
    obtain ⟨vs, e, h⟩ := h
    exact ⟨vs, e, RepVs.noSh l vs (by simpa [SV.noSh] using hn) h⟩
  | .tup l, v, hn, h => by
    simp only [RepV] at h ⊢
    obtain ⟨vs, e, h⟩ := h
    exact ⟨vs, e, RepVs.noSh l vs (by simpa [SV.noSh] using hn) h⟩
  | .fn f l, v, hn, h => by
    simp only [RepV] at h ⊢
    obtain ⟨vs, e, h⟩ := h
    exact ⟨vs, e, RepVs.noSh l vs (by simpa [SV.noSh] using hn) h⟩
theorem RepVs.noSh : ∀ (l : List SV) (vs : List Value), SV.noShL l = true → RepVs w I V l vs → RepVs w I' V l vs
  | [], vs, _, h => by simpa [RepVs] using h
  | x :: r, vs, hn, h => by
    simp only [SV.noShL, Bool.and_eq_true] at hn
    simp only [RepVs] at h ⊢
    obtain ⟨v, q, e, h1, h2⟩ := h
    exact ⟨v, q, e, RepV.noSh x v hn.1 h1, RepVs.noSh r q hn.2 h2⟩
end
theorem ObR.noSh {S : Nat → Prop} {val : Value} {o : Ob} (h : ObR w I V S val o) (hn : o.noSh = true) : ObR w I' V S val o := by
  cases o with
  | free => trivial
  | gone => trivial
  | row t sz es => exact RowR.noSh h hn
  | tree es hs =>
    obtain ⟨t, sz, h1, h2⟩ := h
    exact ⟨t, sz, RowR.noSh h1 hn, h2⟩
  | mp ks m => cases hn
  | it ks m seen cur => cases hn
  | box t l =>
    obtain ⟨b, vs, h1, h2, h3, h4⟩ := h
    exact ⟨b, vs, h1, h2, h3, RepVs.noSh l vs hn h4⟩
end
def HB (B : Nat → Nat → Prop) (ob : List Ob) (b : Nat) : Prop := ∃ g, (geto ob g).live ∧ B g b
structure FunPost (w : World) (I : Nat → Prop) (V : Nat → Option Value) (B : Nat → Nat → Prop) (ob ob' : List Ob) (w' : World) (I' : Nat → Prop) (V' : Nat → Option Value) (B' : Nat → Nat → Prop) : Prop where
  fr : Fr w (HB B ob) w'
  i0 : ∀ b, I b → I' b
  i1 : ∀ b, I' b → I b ∨ w.heap.size ≤ b ∨ HB B ob b
  v : VLe V V'
  wf : Wf w' I' V' B' (geto ob')
  bh : ∀ g b, (geto ob' g).live → B' g b → HB B ob b ∨ w.heap.size ≤ b
def Fun (P : Program) (f : FuncId) (args : List SV) (ob : List Ob) (r : SV) (ob' : List Ob) : Prop :=
  ∀ (w : World) (I : Nat → Prop) (V : Nat → Option Value) (B : Nat → Nat → Prop) (vs : List Value), Wf w I V B (geto ob) → RepVs w I V args vs →
    Calls P f vs.toArray w (fun e w' => ∃ v I' V' B', e = .returned v ∧ RepV w' I' V' r v ∧ FunPost w I V B ob ob' w' I' V' B')
def posN : List Nat → Nat → Option Nat
  | [], _ => none
  | x :: r, g => if x = g then some 0 else (posN r g).map (· + 1)
theorem posN_spec : ∀ {m : List Nat} {g i : Nat}, posN m g = some i → m[i]? = some g
  | [], g, i, h => by cases h
  | x :: r, g, i, h => by
    simp only [posN] at h
    split at h
    · rename_i e; obtain rfl := Option.some.inj h; simp [e]
    · obtain ⟨j, hj, rfl⟩ := Option.map_eq_some_iff.1 h
      simpa using posN_spec hj
mutual
def lendV (ob : Nat → Ob) (sel : List Nat) : SV → SV
  | .ref g => match posN sel g with
    | some i => .ref i
    | none => match ob g with
      | .row _ _ es => bif OT.fullss es then .arr (OT.erss es) else .any
      | .tree es hs => bif OT.fullss es then .arr (OT.erss es) else .any
      | .mp ks m => .mp ks m
      | _ => .any
  | .ptr g o => match posN sel g with
    | some i => .ptr i o
    | none => .any
  | .nil => .arr []
  | .agg l => .agg (lendL ob sel l)
  | .tup l => .tup (lendL ob sel l)
  | .fn f l => .fn f (lendL ob sel l)
  | .eptr _ _ _ _ => .any
  | .any => .any
  | .int k n => .int k n
  | .bool b => .bool b
  | .str s => .str s
  | .arr es => .arr es
  | .vptr es k o => .vptr es k o
  | .mp ks m => .mp ks m
def lendL (ob : Nat → Ob) (sel : List Nat) : List SV → List SV
  | [] => []
  | x :: r => lendV ob sel x :: lendL ob sel r
end
mutual
def lentV (sel : List Nat) : SV → List Nat
  | .ref g => match posN sel g with
    | some _ => []
    | none => [g]
  | .agg l => lentL sel l
  | .tup l => lentL sel l
  | .fn _ l => lentL sel l
  | _ => []
def lentL (sel : List Nat) : List SV → List Nat
  | [] => []
  | x :: r => lentV sel x ++ lentL sel r
end
section
variable {w : World} {I J : Nat → Prop} {V : Nat → Option Value} {B : Nat → Nat → Prop} {ob : Nat → Ob} {sel : List Nat} {p : Nat}
theorem sgp_pos {m : List Nat} {g i : Nat} (h : posN m g = some i) : sgp m p i = g := by rw [sgp_get, posN_spec h]
theorem arr_nil_rep (T : Nat → Prop) : DRep false w T (.arr []) (.slice none 0 0) := .arr _ 0 [] none 0 (fun _ _ => undef) (fun _ _ _ => False) (Nat.le_refl _) (by omega) (.inl rfl) (fun i h => absurd h (by simp)) (fun _ _ _ h => h.elim) (fun e => by cases e) (fun i j h => absurd h (by simp))
variable {Vc : Nat → Option Value}
mutual
theorem lendV_rep (hwf : Wf w I V B ob) (hI : ∀ b, I b → J b) (hVc : ∀ g i, posN sel g = some i → Vc i = V g) : ∀ (x : SV) (v : Value), (∀ g b, g ∈ lentV sel x → (ob g).live → B g b → J b) → RepV w I V x v → RepV w J Vc (lendV ob sel x) v
  | .any, v, _, _ => by simp [lendV, RepV]
  | .eptr _ _ _ _, v, _, _ => by simp [lendV, RepV]
  | .int k n, v, _, h => by simpa [lendV, RepV] using h
  | .bool b, v, _, h => by simpa [lendV, RepV] using h
  | .str s, v, _, h => by simpa [lendV, RepV] using h
  | .nil, v, _, h => by
    simp only [RepV] at h
    subst h
    simp only [lendV, RepV]
    exact arr_nil_rep _
  | .arr es, v, _, h => by
    simp only [lendV, RepV] at h ⊢
    exact h.up hI
  | .mp ks m, v, _, h => by
    simp only [lendV, RepV] at h ⊢
    exact h.mono (KeepS.refl _ _) hI
  | .vptr es k o, v, _, h => by
    simp only [lendV, RepV] at h ⊢
    obtain ⟨b, off, c, h1, h2⟩ := h
    exact ⟨b, off, c, h1.up hI, h2⟩
  | .ref g, v, hU, h => by
    simp only [lendV]
    simp only [lentV] at hU
    split
    · rename_i i hi
      simp only [RepV] at h ⊢
      rw [hVc _ _ hi]; exact h
    · rename_i hi
      split
      · rename_i t sz es hob
        rw [hi] at hU
        cases hf : OT.fullss es with
        | false => simp [RepV]
        | true =>
          obtain ⟨val, h1, h2⟩ := hwf.obj g (by rw [hob]; trivial)
          rw [hob] at h2
          simp only [RepV, cond_true] at h ⊢
          rw [h1] at h
          obtain rfl := Option.some.inj h.1
          exact RowR.er h2 (fun b hb => hU g b (by simp) (by rw [hob]; trivial) hb) hI hf
      · rename_i es hs hob
        rw [hi] at hU
        cases hf : OT.fullss es with
        | false => simp [RepV]
        | true =>
          obtain ⟨val, h1, h2⟩ := hwf.obj g (by rw [hob]; trivial)
          rw [hob] at h2
          simp only [RepV, cond_true] at h ⊢
          rw [h1] at h
          obtain rfl := Option.some.inj h.1
          obtain ⟨t, sz, h3, _⟩ := h2
          exact RowR.er h3 (fun b hb => hU g b (by simp) (by rw [hob]; trivial) hb) hI hf
      · rename_i ks m hob
        rw [hi] at hU
        obtain ⟨val, h1, h2⟩ := hwf.obj g (by rw [hob]; trivial)
        rw [hob] at h2
        simp only [RepV] at h ⊢
        rw [h1] at h
        obtain rfl := Option.some.inj h.1
        exact MapO.give h2 (fun b hb => hU g b (by simp) (by rw [hob]; trivial) hb) hI
      · simp [RepV]
  | .ptr g o, v, _, h => by
    simp only [lendV]
    split
    · rename_i i hi
      simp only [RepV] at h ⊢
      rw [hVc _ _ hi]; exact h
    · simp [RepV]
  | .agg l, v, hU, h => by
    simp only [lendV, RepV] at h ⊢
    obtain ⟨vs, e, h⟩ := h
    exact ⟨vs, e, lendL_rep hwf hI hVc l vs (by simpa only [lentV] using hU) h⟩
  | .tup l, v, hU, h => by
    simp only [lendV, RepV] at h ⊢
    obtain ⟨vs, e, h⟩ := h
    exact ⟨vs, e, lendL_rep hwf hI hVc l vs (by simpa only [lentV] using hU) h⟩
  | .fn f l, v, hU, h => by
    simp only [lendV, RepV] at h ⊢
    obtain ⟨vs, e, h⟩ := h
    exact ⟨vs, e, lendL_rep hwf hI hVc l vs (by simpa only [lentV] using hU) h⟩
theorem lendL_rep (hwf : Wf w I V B ob) (hI : ∀ b, I b → J b) (hVc : ∀ g i, posN sel g = some i → Vc i = V g) : ∀ (l : List SV) (vs : List Value), (∀ g b, g ∈ lentL sel l → (ob g).live → B g b → J b) → RepVs w I V l vs → RepVs w J Vc (lendL ob sel l) vs
  | [], vs, _, h => by simpa [lendL, RepVs] using h
  | x :: r, vs, hU, h => by
    simp only [lendL, RepVs] at h ⊢
    obtain ⟨v, q, e, h1, h2⟩ := h
    exact ⟨v, q, e, lendV_rep hwf hI hVc x v (fun g b hg hl hb => hU g b (by simp only [lentL, List.mem_append]; exact .inl hg) hl hb) h1, lendL_rep hwf hI hVc r q (fun g b hg hl hb => hU g b (by simp only [lentL, List.mem_append]; exact .inr hg) hl hb) h2⟩
end
mutual
theorem lentV_pos : ∀ (x : SV) (g : Nat), g ∈ lentV sel x → posN sel g = none
  | .ref g0, g, h => by
    simp only [lentV] at h
    split at h
    · cases h
    · rename_i hp; rw [List.mem_singleton.1 h]; exact hp
  | .agg l, g, h => lentL_pos l g (by simpa only [lentV] using h)
  | .tup l, g, h => lentL_pos l g (by simpa only [lentV] using h)
  | .fn f l, g, h => lentL_pos l g (by simpa only [lentV] using h)
  | .any, g, h => by simp [lentV] at h
  | .eptr _ _ _ _, g, h => by simp [lentV] at h
  | .int k n, g, h => by simp [lentV] at h
  | .bool b, g, h => by simp [lentV] at h
  | .str s, g, h => by simp [lentV] at h
  | .nil, g, h => by simp [lentV] at h
  | .arr es, g, h => by simp [lentV] at h
  | .vptr es k o, g, h => by simp [lentV] at h
  | .mp ks m, g, h => by simp [lentV] at h
  | .ptr _ _, g, h => by simp [lentV] at h
theorem lentL_pos : ∀ (l : List SV) (g : Nat), g ∈ lentL sel l → posN sel g = none
  | [], g, h => by simp [lentL] at h
  | x :: r, g, h => by
    simp only [lentL, List.mem_append] at h
    rcases h with h | h
    · exact lentV_pos x g h
    · exact lentL_pos r g h
end
mutual
theorem lendV_agree {ob' : Nat → Ob} : ∀ (x : SV), (∀ g, g ∈ lentV sel x → ob' g = ob g) → lendV ob' sel x = lendV ob sel x
  | .any, _ => rfl
  | .eptr _ _ _ _, _ => rfl
  | .int k n, _ => rfl
  | .bool b, _ => rfl
  | .str s, _ => rfl
  | .nil, _ => rfl
  | .arr es, _ => rfl
  | .mp ks m, _ => rfl
  | .vptr es k o, _ => rfl
  | .ptr g o, _ => rfl
  | .ref g, h => by
    simp only [lendV]
    simp only [lentV] at h
    split
    · rfl
    · rename_i hi
      rw [hi] at h
      rw [h g (by simp)]
  | .agg l, h => by simp only [lendV]; rw [lendL_agree l h]
  | .tup l, h => by simp only [lendV]; rw [lendL_agree l h]
  | .fn f l, h => by simp only [lendV]; rw [lendL_agree l h]
theorem lendL_agree {ob' : Nat → Ob} : ∀ (l : List SV), (∀ g, g ∈ lentL sel l → ob' g = ob g) → lendL ob' sel l = lendL ob sel l
  | [], _ => rfl
  | x :: r, h => by
    simp only [lendL]
    rw [lendV_agree x (fun g hg => h g (by simp only [lentL, List.mem_append]; exact .inl hg)), lendL_agree r (fun g hg => h g (by simp only [lentL, List.mem_append]; exact .inr hg))]
end
def SV.isNil : SV → Bool
  | .nil => true
  | .any => false
  | .int _ _ => false
  | .bool _ => false
  | .str _ => false
  | .arr _ => false
  | .agg _ => false
  | .tup _ => false
  | .ref _ => false
  | .ptr _ _ => false
  | .eptr _ _ _ _ => false
  | .vptr _ _ _ => false
  | .fn _ _ => false
  | .mp _ _ => false
def lend1 (b : Bool) (ob : Nat → Ob) (sel : List Nat) (x : SV) : SV := bif b && x.isNil then .nil else lendV ob sel x
def lendN : List Bool → (Nat → Ob) → List Nat → List SV → List SV
  | [], ob, sel, xs => lendL ob sel xs
  | _ :: _, _, _, [] => []
  | b :: h, ob, sel, x :: r => lend1 b ob sel x :: lendN h ob sel r
theorem lend1_rep (hwf : Wf w I V B ob) (hI : ∀ b, I b → J b) (hVc : ∀ g i, posN sel g = some i → Vc i = V g) (b : Bool) (x : SV) (v : Value) (hU : ∀ g b, g ∈ lentV sel x → (ob g).live → B g b → J b) (h : RepV w I V x v) : RepV w J Vc (lend1 b ob sel x) v := by
  unfold lend1
  cases hb : b && x.isNil with
  | false => exact lendV_rep hwf hI hVc x v hU h
  | true =>
    rw [cond_true]
    rw [Bool.and_eq_true] at hb
    cases x with
    | nil => simpa only [RepV] using h
    | _ => cases hb.2
theorem lendN_rep (hwf : Wf w I V B ob) (hI : ∀ b, I b → J b) (hVc : ∀ g i, posN sel g = some i → Vc i = V g) : ∀ (hd : List Bool) (l : List SV) (vs : List Value), (∀ g b, g ∈ lentL sel l → (ob g).live → B g b → J b) → RepVs w I V l vs → RepVs w J Vc (lendN hd ob sel l) vs
  | [], l, vs, hU, h => lendL_rep hwf hI hVc l vs hU h
  | b :: hd, [], vs, _, h => by simpa [lendN, RepVs] using h
  | b :: hd, x :: r, vs, hU, h => by
    simp only [lendN, RepVs] at h ⊢
    obtain ⟨v, q, e, h1, h2⟩ := h
    exact ⟨v, q, e, lend1_rep hwf hI hVc b x v (fun g b hg hl hb => hU g b (by simp only [lentL, List.mem_append]; exact .inl hg) hl hb) h1, lendN_rep hwf hI hVc hd r q (fun g b hg hl hb => hU g b (by simp only [lentL, List.mem_append]; exact .inr hg) hl hb) h2⟩
theorem lendN_agree {ob' : Nat → Ob} : ∀ (hd : List Bool) (l : List SV), (∀ g, g ∈ lentL sel l → ob' g = ob g) → lendN hd ob' sel l = lendN hd ob sel l
  | [], l, h => lendL_agree l h
  | b :: hd, [], _ => rfl
  | b :: hd, x :: r, h => by
    simp only [lendN, lend1]
    rw [lendV_agree x (fun g hg => h g (by simp only [lentL, List.mem_append]; exact .inl hg)), lendN_agree hd r (fun g hg => h g (by simp only [lentL, List.mem_append]; exact .inr hg))]
end
mutual
def SV.idsB (n : Nat) : SV → Bool
  | .ref g => decide (g < n)
  | .ptr g _ => decide (g < n)
  | .eptr g _ _ _ => decide (g < n)
  | .agg l => SV.idsBL n l
  | .tup l => SV.idsBL n l
  | .fn _ l => SV.idsBL n l
  | _ => true
def SV.idsBL (n : Nat) : List SV → Bool
  | [] => true
  | x :: r => SV.idsB n x && SV.idsBL n r
end
def Ob.idsB (n : Nat) : Ob → Bool
  | .box _ l => SV.idsBL n l
  | .tree _ hs => hs.all fun h => decide (h.2.2 < n)
  | _ => true
section
variable {w : World} {I : Nat → Prop} {V V' : Nat → Option Value} {n : Nat}
mutual
theorem RepV.idsB (hV : ∀ g, g < n → V' g = V g) : ∀ (x : SV) (v : Value), x.idsB n = true → RepV w I V x v → RepV w I V' x v
  | .any, v, _, _ => by simp [RepV]
  | .int k m, v, _, h => by simpa [RepV] using h
  | .bool b, v, _, h => by simpa [RepV] using h
  | .str s, v, _, h => by simpa [RepV] using h
  | .nil, v, _, h => by simpa [RepV] using h
  | .arr es, v, _, h => by simpa [RepV] using h
  | .vptr es k o, v, _, h => by simpa [RepV] using h
  | .mp ks m, v, _, h => by simpa [RepV] using h
  | .ref g, v, hn, h => by
    simp only [SV.idsB, decide_eq_true_eq] at hn
    simp only [RepV] at h ⊢
    rw [hV g hn]; exact h
  | .ptr g o, v, hn, h => by
    simp only [SV.idsB, decide_eq_true_eq] at hn
    simp only [RepV] at h ⊢
    rw [hV g hn]; exact h
  | .eptr g sz k o, v, hn, h => by
    simp only [SV.idsB, decide_eq_true_eq] at hn
    simp only [RepV] at h ⊢
    rw [hV g hn]; exact h
  | .agg l, v, hn, h => by
    simp only [RepV] at h ⊢
    obtain ⟨vs, e, h⟩ := h
    exact ⟨vs, e, RepVs.idsB hV l vs (by simpa [SV.idsB] using hn) h⟩
  | .tup l, v, hn, h => by
    simp only [RepV] at h ⊢
    obtain ⟨vs, e, h⟩ := h
    exact ⟨vs, e, RepVs.idsB hV l vs (by simpa [SV.idsB] using hn) h⟩
  | .fn f l, v, hn, h => by
    simp only [RepV] at h ⊢
    obtain ⟨vs, e, h⟩ := h
    exact ⟨vs, e, RepVs.idsB hV l vs (by simpa [SV.idsB] using hn) h⟩
theorem RepVs.idsB (hV : ∀ g, g < n → V' g = V g) : ∀ (l : List SV) (vs : List Value), SV.idsBL n l = true → RepVs w I V l vs → RepVs w I V' l vs
  | [], vs, _, h => by simpa [RepVs] using h
  | x :: r, vs, hn, h => by
    simp only [SV.idsBL, Bool.and_eq_true] at hn
    simp only [RepVs] at h ⊢
    obtain ⟨v, q, e, h1, h2⟩ := h
    exact ⟨v, q, e, RepV.idsB hV x v hn.1 h1, RepVs.idsB hV r q hn.2 h2⟩
end
theorem ObR.idsB {S : Nat → Prop} {val : Value} {o : Ob} (hV : ∀ g, g < n → V' g = V g) (hn : o.idsB n = true) (h : ObR w I V S val o) : ObR w I V' S val o := by
  cases o with
  | free => trivial
  | mp ks m => exact h
  | it ks m seen cur => exact h
  | gone => trivial
  | row t sz es => exact h
  | tree es hs =>
    obtain ⟨t, sz, h1, h2⟩ := h
    refine ⟨t, sz, h1, fun q hq => ?_⟩
    obtain ⟨g1, g2, b, c, v, e, g3, g4, g5⟩ := h2 q hq
    have hb : q.2.2 < n := of_decide_eq_true (List.all_eq_true.1 hn q hq)
    exact ⟨g1, g2, b, c, v, e, g3, by rw [hV _ hb]; exact g4, g5⟩
  | box t l =>
    obtain ⟨b, vs, h1, h2, h3, h4⟩ := h
    exact ⟨b, vs, h1, h2, h3, RepVs.idsB hV l vs hn h4⟩
end
def mkU (σ : Nat → Nat) : Nat → List Ob → List (Nat × Ob)
  | _, [] => []
  | k, o :: r => (σ k, o.ren σ) :: mkU σ (k + 1) r
def selOk (ob : Nat → Ob) (σ : Nat → Nat) : Nat → List Ob → Prop
  | _, [] => True
  | k, o :: r => ob (σ k) = o.ren σ ∧ selOk ob σ (k + 1) r
theorem selOk_geto {ob : Nat → Ob} {σ : Nat → Nat} : ∀ {l : List Ob} {k j : Nat}, selOk ob σ k l → j < l.length → ob (σ (k + j)) = (geto l j).ren σ
  | [], k, j, _, h => absurd h (by simp)
  | o :: r, k, 0, h, _ => h.1
  | o :: r, k, j + 1, h, hj => by
    have := selOk_geto (j := j) h.2 (by simpa using hj)
    rwa [show k + 1 + j = k + (j + 1) by omega] at this
theorem geto_mem : ∀ {l : List Ob} {j : Nat}, j < l.length → geto l j ∈ l
  | [], j, h => absurd h (by simp)
  | o :: r, 0, _ => by simp [geto]
  | o :: r, j + 1, h => by simp only [geto, List.mem_cons]; exact .inr (geto_mem (by simpa using h))
theorem mkU_mem {σ : Nat → Nat} : ∀ {l : List Ob} {k g : Nat}, g ∈ (mkU σ k l).map (·.1) ↔ ∃ j, j < l.length ∧ σ (k + j) = g
  | [], k, g => by simp [mkU]
  | o :: r, k, g => by
    simp only [mkU, List.map_cons, List.mem_cons]
    rw [mkU_mem]
    constructor
    · rintro (h | ⟨j, h1, h2⟩)
      · exact ⟨0, by simp, h.symm⟩
      · exact ⟨j + 1, by simp; omega, by rw [← h2]; congr 1; omega⟩
    · rintro ⟨j, h1, h2⟩
      cases j with
      | zero => exact .inl h2.symm
      | succ j => exact .inr ⟨j, by simp at h1; omega, by rw [← h2]; congr 1; omega⟩
theorem mkU_look {σ : Nat → Nat} : ∀ {l : List Ob} {k j : Nat}, (∀ i i', k ≤ i → i < k + l.length → k ≤ i' → i' < k + l.length → σ i = σ i' → i = i') → j < l.length → lookO (mkU σ k l) (σ (k + j)) = some ((geto l j).ren σ)
  | [], k, j, _, h => absurd h (by simp)
  | o :: r, k, 0, _, _ => by simp [mkU, lookO, geto]
  | o :: r, k, j + 1, hi, hj => by
    simp only [mkU, lookO]
    simp only [List.length_cons] at hi hj
    rw [if_neg (fun e => by have := hi k (k + (j + 1)) (Nat.le_refl _) (by omega) (by omega) (by omega) e; omega)]
    have := mkU_look (l := r) (k := k + 1) (j := j) (fun i i' h1 h2 h3 h4 e => hi i i' (by omega) (by omega) (by omega) (by omega) e) (by omega)
    rwa [show k + 1 + j = k + (j + 1) by omega] at this
def allFresh (ob : Nat → Ob) (p : Nat) : Prop := ∀ g, p ≤ g → ob g = .free
theorem posN_of : ∀ {m : List Nat} {g i : Nat}, m.Nodup → m[i]? = some g → posN m g = some i
  | [], g, i, _, h => by simp at h
  | x :: r, g, i, hn, h => by
    rw [List.nodup_cons] at hn
    simp only [posN]
    cases i with
    | zero => simp only [List.getElem?_cons_zero, Option.some.injEq] at h; rw [if_pos h]
    | succ i =>
      simp only [List.getElem?_cons_succ] at h
      have hne : ¬ x = g := fun e => hn.1 (e ▸ List.mem_of_getElem? h)
      rw [if_neg hne, posN_of hn.2 h]; rfl
theorem CallP.of {P : Program} {f : FuncId} {cas : List SV} {fob : List Ob} {r : SV} {fob' : List Ob} (h : Fun P f cas fob r fob') {xs : List SV} {ob : Nat → Ob} {p : Nat} {K : Kont} (sel : List Nat)
    (hargs : ∃ hd, lendN hd ob sel xs = cas) (hsel : sel.length = fob.length ∧ sel.Nodup) (hlt : ∀ g, g ∈ sel → g < p) (hlen : fob.length ≤ fob'.length) (hob : selOk ob (sgp sel p) 0 fob) (hids : ∀ o, o ∈ fob → o.idsB fob.length = true) (hfree : allFresh ob p)
    (hsh : lentL sel xs = [] ∨ (r.noSh = true ∧ ∀ o, o ∈ fob' → o.noSh = true)) (hK : K (r.ren (sgp sel p)) (mkU (sgp sel p) 0 fob') (lentL sel xs ++ sel)) : CallP P f xs ob p K := by
  refine ⟨_, _, _, hK, fun ob' hrd hup w I V B vs hwf hxs => ?_⟩
  obtain ⟨hsl, hsn⟩ := hsel
  have hs1 : ∀ k, k < fob.length → ∃ g, sel[k]? = some g ∧ sgp sel p k = g ∧ g < p := fun k hk => by
    have : k < sel.length := by omega
    refine ⟨sel[k], List.getElem?_eq_getElem this, by rw [sgp_get, List.getElem?_eq_getElem this], hlt _ (List.getElem_mem this)⟩
  have hs2 : ∀ k, fob.length ≤ k → sgp sel p k = p + (k - fob.length) := fun k hk => by
    rw [sgp_get, List.getElem?_eq_none (by omega), hsl]
  have hinj : ∀ i j, sgp sel p i = sgp sel p j → i = j := fun i j e => by
    rcases Nat.lt_or_ge i fob.length with h1 | h1 <;> rcases Nat.lt_or_ge j fob.length with h2 | h2
    · obtain ⟨g, g1, g2, g3⟩ := hs1 i h1
      obtain ⟨g', g1', g2', g3'⟩ := hs1 j h2
      have e2 : g = g' := by rw [← g2, ← g2', e]
      subst e2
      have a1 := posN_of hsn g1
      have a2 := posN_of hsn g1'
      rw [a1] at a2
      exact Option.some.inj a2
    · obtain ⟨g, g1, g2, g3⟩ := hs1 i h1
      have := hs2 j h2
      omega
    · obtain ⟨g, g1, g2, g3⟩ := hs1 j h2
      have := hs2 i h1
      omega
    · have := hs2 i h1
      have := hs2 j h2
      omega
  have htouch : ∀ g, touches (mkU (sgp sel p) 0 fob') g ↔ ∃ k, k < fob'.length ∧ sgp sel p k = g := fun g => by
    unfold touches
    rw [mkU_mem]
    simp
  have hlook : ∀ k, k < fob'.length → obUpd ob' (mkU (sgp sel p) 0 fob') (sgp sel p k) = (geto fob' k).ren (sgp sel p) := fun k hk => by
    have := mkU_look (σ := sgp sel p) (l := fob') (k := 0) (j := k) (fun i i' _ _ _ _ e => hinj i i' e) hk
    rw [Nat.zero_add] at this
    unfold obUpd
    rw [this]; rfl
  have hobk : ∀ k, k < fob.length → ob' (sgp sel p k) = (geto fob k).ren (sgp sel p) := fun k hk => by
    have := selOk_geto hob hk
    rw [Nat.zero_add] at this
    obtain ⟨g, g1, g2, g3⟩ := hs1 k hk
    rw [← this, g2]
    exact hrd g (List.mem_append_right _ (List.mem_of_getElem? g1))
  have hnew : ∀ k, fob.length ≤ k → k < fob'.length → ob' (sgp sel p k) = .free := fun k h1 h2 => by
    rw [hup _ ((htouch _).2 ⟨k, h2, rfl⟩)]
    exact hfree _ (by rw [hs2 k h1]; omega)
  have hlv : ∀ k, (geto fob k).live → k < fob.length := fun k hl => by
    rcases Nat.lt_or_ge k fob.length with h1 | h1
    · exact h1
    · rw [geto_big _ _ h1] at hl; exact hl.elim
  have hlv' : ∀ k, (geto fob' k).live → k < fob'.length := fun k hl => by
    rcases Nat.lt_or_ge k fob'.length with h1 | h1
    · exact h1
    · rw [geto_big _ _ h1] at hl; exact hl.elim
  have hlvo : ∀ k, (geto fob k).live → (ob' (sgp sel p k)).live := fun k hl => by
    rw [hobk k (hlv k hl)]
    exact (Ob.live_ren _).2 hl
  have hlent : ∀ g, g ∈ lentL sel xs → ob' g = ob g := fun g hg => hrd g (List.mem_append_left _ hg)
  let Vc : Nat → Option Value := fun k => if k < fob.length then V (sgp sel p k) else none
  let Bc : Nat → Nat → Prop := fun k => B (sgp sel p k)
  let J : Nat → Prop := fun b => I b ∨ ∃ g, g ∈ lentL sel xs ∧ (ob' g).live ∧ B g b
  have notsel : ∀ g, g ∈ lentL sel xs → ∀ k, k < fob.length → sgp sel p k ≠ g := by
    intro g hg k hk e
    have h1 := lentL_pos xs g hg
    obtain ⟨g', g1, g2, _⟩ := hs1 k hk
    rw [g2] at e
    subst e
    rw [posN_of hsn g1] at h1
    cases h1
  have hIJ : ∀ b, I b → J b := fun b hb => .inl hb
  have hwfc : Wf w J Vc Bc (geto fob) := by
    refine ⟨fun b hb => ?_, fun k hl => ?_, fun k b hl hb => hwf.lt _ b (hlvo k hl) hb, fun k b hl hb hJ => ?_, fun k k' b hl hl' hb hb' => hinj _ _ (hwf.dO _ _ b (hlvo k hl) (hlvo k' hl') hb hb'), fun k hf => ?_, hwf.gl.keep (KeepS.refl _ _) hIJ⟩
    · rcases hb with hb | ⟨g, _, hl, hb⟩
      · exact hwf.ilt b hb
      · exact hwf.lt g b hl hb
    · have hk := hlv k hl
      obtain ⟨val, h1, h2⟩ := hwf.obj _ (hlvo k hl)
      refine ⟨val, by simp only [Vc, hk, if_true]; exact h1, ?_⟩
      rw [hobk k hk] at h2
      have h3 := (ObR.ren _).1 h2
      have h4 := ObR.idsB (n := fob.length) (V' := Vc) (fun g hg => by simp only [Vc, hg, if_true]) (hids _ (geto_mem hk)) h3
      exact h4.keep ⟨Nat.le_refl _, fun _ _ _ => rfl⟩ hIJ (VLe.refl _) fun _ _ _ => rfl
    · rcases hJ with hJ | ⟨g, hg, hlg, hgb⟩
      · exact hwf.dI _ b (hlvo k hl) hb hJ
      · exact notsel g hg k (hlv k hl) (hwf.dO _ _ b (hlvo k hl) hlg hb hgb)
    · by_cases hk : k < fob.length
      · simp only [Vc, hk, if_true]
        refine hwf.fr _ ?_
        rw [hobk k hk, hf]; rfl
      · simp only [Vc, hk, if_false]
  have hargs' : RepVs w J Vc cas vs := by
    obtain ⟨hd, hargs⟩ := hargs
    rw [← hargs, ← lendN_agree (ob := ob) (ob' := ob') hd xs hlent]
    refine lendN_rep hwf hIJ (fun g i hi => ?_) hd xs vs (fun g b hg hl hb => .inr ⟨g, hg, hl, hb⟩) hxs
    have hlt' : i < fob.length := by rw [← hsl]; exact (List.getElem?_eq_some_iff.1 (posN_spec hi)).1
    simp only [Vc, hlt', if_true, sgp_pos hi]
  refine (h w J Vc Bc vs hwfc hargs').mono ?_
  rintro e w' ⟨v, I', V', B', rfl, hr, hpost⟩
  obtain ⟨hfr, hi0, hi1, hv, hwf', hbh⟩ := hpost
  have hHB : ∀ b, HB Bc fob b → ∃ g, touches (mkU (sgp sel p) 0 fob') g ∧ (ob' g).live ∧ B g b := fun b ⟨k, hl, hb⟩ => ⟨sgp sel p k, (htouch _).2 ⟨k, by have := hlv k hl; omega, rfl⟩, hlvo k hl, hb⟩
  classical
  let V2 : Nat → Option Value := fun g => if hg : ∃ k, k < fob'.length ∧ sgp sel p k = g then V' (Classical.choose hg) else V g
  let B2 : Nat → Nat → Prop := fun g => if hg : ∃ k, k < fob'.length ∧ sgp sel p k = g then B' (Classical.choose hg) else B g
  let I2 : Nat → Prop := fun b => I b ∨ (I' b ∧ ¬ ∃ g, g ∈ lentL sel xs ∧ (ob' g).live ∧ B g b)
  have hV2 : ∀ k, k < fob'.length → V2 (sgp sel p k) = V' k := fun k hk => by
    have hg : ∃ k', k' < fob'.length ∧ sgp sel p k' = sgp sel p k := ⟨k, hk, rfl⟩
    have : V2 (sgp sel p k) = V' (Classical.choose hg) := dif_pos hg
    rw [this, hinj _ _ (Classical.choose_spec hg).2]
  have hB2 : ∀ k, k < fob'.length → B2 (sgp sel p k) = B' k := fun k hk => by
    have hg : ∃ k', k' < fob'.length ∧ sgp sel p k' = sgp sel p k := ⟨k, hk, rfl⟩
    have : B2 (sgp sel p k) = B' (Classical.choose hg) := dif_pos hg
    rw [this, hinj _ _ (Classical.choose_spec hg).2]
  have hV2n : ∀ g, ¬ touches (mkU (sgp sel p) 0 fob') g → V2 g = V g := fun g hg => dif_neg fun h => hg ((htouch g).2 h)
  have hB2n : ∀ g, ¬ touches (mkU (sgp sel p) 0 fob') g → B2 g = B g := fun g hg => dif_neg fun h => hg ((htouch g).2 h)
  have hI2' : ∀ b, I2 b → I' b := fun b hb => by
    rcases hb with hb | hb
    · exact hi0 b (hIJ b hb)
    · exact hb.1
  have hVV : VLe V V2 := fun g u hu => by
    by_cases hg : touches (mkU (sgp sel p) 0 fob') g
    · obtain ⟨k, hk, rfl⟩ := (htouch g).1 hg
      rw [hV2 k hk]
      by_cases h1 : k < fob.length
      · exact hv k u (by simp only [Vc, h1, if_true]; exact hu)
      · rw [hwf.fr _ (hnew k (by omega) hk)] at hu; cases hu
    · rw [hV2n g hg]; exact hu
  have hV'σ : VLe V' (fun k => V2 (sgp sel p k)) := fun k u hu => by
    rcases Nat.lt_or_ge k fob'.length with h1 | h1
    · simp only [hV2 k h1]; exact hu
    · rw [hwf'.fr k (geto_big _ _ h1)] at hu; cases hu
  have kr : KeepS I' w' w' := ⟨Nat.le_refl _, fun _ _ _ => rfl⟩
  have kr2 : KeepS I2 w' w' := ⟨Nat.le_refl _, fun _ _ _ => rfl⟩
  have hmove : ∀ {b}, I' b → lentL sel xs = [] → I2 b := fun {b} hb hn => .inr ⟨hb, fun ⟨g, hg, _⟩ => by rw [hn] at hg; cases hg⟩
  have hres : RepV w' I2 V2 (r.ren (sgp sel p)) v := by
    refine (RepV.ren r v).2 ?_
    rcases hsh with hn | ⟨hn, _⟩
    · exact RepV.mono kr (fun b hb => hmove hb hn) hV'σ _ _ hr
    · exact RepV.mono kr2 (fun _ h => h) hV'σ _ _ (RepV.noSh (I := I') (I' := I2) r v hn hr)
  have hobr : ∀ k, (geto fob' k).live → ∃ val, V2 (sgp sel p k) = some val ∧ ObR w' I2 V2 (B2 (sgp sel p k)) val ((geto fob' k).ren (sgp sel p)) := fun k hl => by
    have hk := hlv' k hl
    obtain ⟨val, h1, h2⟩ := hwf'.obj k hl
    refine ⟨val, by rw [hV2 k hk]; exact h1, (ObR.ren _).2 ?_⟩
    rw [hB2 k hk]
    rcases hsh with hn | ⟨_, hn⟩
    · exact h2.keep kr (fun b hb => hmove hb hn) hV'σ fun _ _ _ => rfl
    · exact (ObR.noSh (I' := I2) h2 (hn _ (geto_mem hk))).keep kr2 (fun _ h => h) hV'σ fun _ _ _ => rfl
  have hi2 : ∀ b, I2 b → I b ∨ w.heap.size ≤ b ∨ ∃ g, touches (mkU (sgp sel p) 0 fob') g ∧ (ob' g).live ∧ B g b := fun b hb => by
    rcases hb with hb | ⟨hb, hno⟩
    · exact .inl hb
    · rcases hi1 b hb with h1 | h1 | h1
      · rcases h1 with h1 | h1
        · exact .inl h1
        · exact (hno h1).elim
      · exact .inr (.inl h1)
      · exact .inr (.inr (hHB b h1))
  have hkeep : ∀ b, b < w.heap.size → (∀ g, touches (mkU (sgp sel p) 0 fob') g → (ob' g).live → ¬ B g b) → w'.heap[b]? = w.heap[b]? := fun b hb hno => hfr.block b hb fun hH => by
    obtain ⟨g, h1, h2, h3⟩ := hHB b hH
    exact hno g h1 h2 h3
  have live2 : ∀ k, k < fob'.length → (obUpd ob' (mkU (sgp sel p) 0 fob') (sgp sel p k)).live → (geto fob' k).live := fun k hk hl => by
    rw [hlook k hk] at hl
    exact (Ob.live_ren _).1 hl
  have hbf : ∀ k b, (geto fob' k).live → B' k b → (w.heap.size ≤ b ∧ b < w'.heap.size) ∨ ∃ g0, touches (mkU (sgp sel p) 0 fob') g0 ∧ (ob' g0).live ∧ B g0 b := fun k b hl hb => by
    rcases hbh k b hl hb with h1 | h1
    · exact .inr (hHB b h1)
    · exact .inl ⟨h1, hwf'.lt k b hl hb⟩
  have hwf2 : Wf w' I2 V2 B2 (obUpd ob' (mkU (sgp sel p) 0 fob')) := by
    refine hwf.upd (touches (mkU (sgp sel p) 0 fob')) hfr.size hkeep (fun b hb => .inl hb) hVV (fun g hg => ⟨obUpd_not hg, hB2n g hg, fun hf => by rw [hV2n g hg]; exact hwf.fr g hf⟩) hi2 (fun b hb => hwf'.ilt b (hI2' b hb)) (fun g hg hl => ?_) (fun g b hg hl hb => ?_) (fun g b hg hl hb hI => ?_) (fun g g' b hg hg' hl hl' hb hb' => ?_) (fun g hg hf => ?_)
    · obtain ⟨k, hk, rfl⟩ := (htouch g).1 hg
      rw [hlook k hk]
      exact hobr k (live2 k hk hl)
    · obtain ⟨k, hk, rfl⟩ := (htouch g).1 hg
      rw [hB2 k hk] at hb
      exact hbf k b (live2 k hk hl) hb
    · obtain ⟨k, hk, rfl⟩ := (htouch g).1 hg
      rw [hB2 k hk] at hb
      exact hwf'.dI k b (live2 k hk hl) hb (hI2' b hI)
    · obtain ⟨k, hk, rfl⟩ := (htouch g).1 hg
      obtain ⟨k', hk', rfl⟩ := (htouch g').1 hg'
      rw [hB2 k hk] at hb
      rw [hB2 k' hk'] at hb'
      rw [hwf'.dO k k' b (live2 k hk hl) (live2 k' hk' hl') hb hb']
    · obtain ⟨k, hk, rfl⟩ := (htouch g).1 hg
      rw [hV2 k hk]
      rw [hlook k hk] at hf
      refine hwf'.fr k ?_
      cases hq : geto fob' k <;> rw [hq] at hf <;> simp [Ob.ren] at hf ⊢
  refine ⟨v, I2, V2, B2, rfl, hres, ⟨hwf2, hfr.os, hfr.tape, hfr.output, hfr.size, hkeep, fun b hb => .inl hb, hi2, hVV, fun g hg => hB2n g hg, fun g b hg hl hb => ?_⟩⟩
  obtain ⟨k, hk, rfl⟩ := (htouch g).1 hg
  rw [hB2 k hk] at hb
  exact (hbf k b (live2 k hk hl) hb).imp (fun h => h.1) id
inductive RX where
  | tmp (t : Nat)
  | cell (a : Nat) (agg : Bool) (n : Nat)
def resX (P : Program) (nt : Nat) : ResultVar → Option RX
  | .tmp t => some (.tmp t)
  | .cell a t => match isAggB P t, P.info? t with
    | some g, some i => if g || i.size == 1 then some (.cell a g i.size) else none
    | _, _ => none
def rxV (st : St) : RX → Option SV
  | .tmp t => some (gets st.sl t)
  | .cell a agg n => match gets st.sl a with
    | .ptr g o => match geto st.ob g with
      | .box _ l => if o + n ≤ l.length then some (if agg then .agg ((l.drop o).take n) else l.getD o .any) else none
      | _ => none
    | _ => none
def rxVs (st : St) : List RX → Option (List SV)
  | [] => some []
  | x :: r => match rxV st x, rxVs st r with
    | some v, some vs => some (v :: vs)
    | _, _ => none
def resV (st : St) (rs : List RX) : Option SV :=
  match rxVs st rs with
  | some [x] => some x
  | some xs => some (.tup xs)
  | none => none
section
variable {P : Program} {c : Ctx}
def resF (tmps : Array Value) : ResultVar → Sem Value
  | .tmp t => pure (tmps.getD t undef)
  | .cell q t => do loadVar t (← asAddr (tmps.getD q undef))
theorem results_eq (fn : Func) (tmps : Array Value) : results fn tmps = (fn.results.mapM (resF tmps) >>= fun vs => pure (if h : vs.size = 1 then vs[0] else .tuple vs)) := by
  unfold results
  congr 1
theorem res_one {a : Act} {w : World} {I : Nat → Prop} {V : Nat → Option Value} {B : Nat → Nat → Prop} {st : St} {rv : ResultVar} {rx : RX} {x : SV} (hr : RepI c I V B st.f a w) (hx : resX P c.nt rv = some rx) (hv : rxV st rx = some x) :
    ∃ v, (resF a.tmps rv).run P w = .ok v w ∧ RepV w I V x v := by
  cases rv with
  | tmp t =>
    simp only [resX, Option.some.injEq] at hx
    subst hx
    simp only [rxV, Option.some.injEq] at hv
    subst hv
    exact ⟨_, rfl, hr.slots t⟩
  | cell q t =>
    simp only [resX] at hx
    split at hx
    · rename_i g i hg hi
      split at hx
      · rename_i h1
        obtain rfl := Option.some.inj hx
        simp only [rxV] at hv
        split at hv
        · rename_i g0 off he
          split at hv
          · rename_i t0 l hob
            split at hv
            · rename_i hn
              obtain rfl := Option.some.inj hv
              have hp := hr.slots q
              have he' : st.f.sl q = .ptr g0 off := he
              rw [he'] at hp
              obtain ⟨b, vs, h2, h3, h4, h5, h6⟩ := box_at hr (show st.f.ob g0 = .box t0 l from hob) hp
              have hlen := h6.len
              have := run_loadVar_at (P := P) (w := w) hg hi h1 b off ((vs.drop off).take i.size) (by simp; omega) (fun j v hj => by
                rw [cell_of_row w b _ _ _ _ h5]
                rw [List.getElem?_take] at hj
                split at hj
                · rw [List.getElem?_drop] at hj; simpa using hj
                · cases hj)
              refine ⟨_, ?_, rep_take h6 hn h1⟩
              simp only [resF, Sem.run_bind, h2, asAddr, Sem.run_pure, Result.andThen_ok]
              exact this
            · cases hv
          · cases hv
        · cases hv
      · cases hx
    · cases hx
theorem res_all {a : Act} {w : World} {I : Nat → Prop} {V : Nat → Option Value} {B : Nat → Nat → Prop} {st : St} (hr : RepI c I V B st.f a w) : ∀ (rvs : List ResultVar) (rxs : List RX) (xs : List SV), allSome (rvs.map (resX P c.nt)) = some rxs → rxVs st rxs = some xs →
    ∃ vs : List Value, (rvs.mapM (resF a.tmps) : Sem (List Value)).run P w = .ok vs w ∧ RepVs w I V xs vs
  | [], rxs, xs, h, hx => by
    simp only [List.map_nil, allSome, Option.some.injEq] at h
    subst h
    simp only [rxVs, Option.some.injEq] at hx
    subst hx
    exact ⟨[], by simp, by simp [RepVs]⟩
  | rv :: rvs, rxs, xs, h, hx => by
    simp only [List.map_cons] at h
    cases h1 : resX P c.nt rv with
    | none => rw [h1] at h; cases h
    | some rx =>
      rw [h1] at h
      simp only [allSome] at h
      obtain ⟨rxs', h2, rfl⟩ := Option.map_eq_some_iff.1 h
      simp only [rxVs] at hx
      split at hx
      · rename_i x xs' h3 h4
        obtain rfl := Option.some.inj hx
        obtain ⟨v, g1, g2⟩ := res_one (P := P) hr h1 h3
        obtain ⟨vs, g3, g4⟩ := res_all hr rvs rxs' xs' h2 h4
        refine ⟨v :: vs, ?_, by simp only [RepVs]; exact ⟨v, vs, rfl, g2, g4⟩⟩
        rw [List.mapM_cons, Sem.run_bind, g1, Result.andThen_ok, Sem.run_bind, g3]
        rfl
      · cases hx
theorem run_results {fn : Func} {a : Act} {w : World} {I : Nat → Prop} {V : Nat → Option Value} {B : Nat → Nat → Prop} {st : St} (hr : RepI c I V B st.f a w) {rxs : List RX} {x : SV} (h : allSome (fn.results.toList.map (resX P c.nt)) = some rxs) (hx : resV st rxs = some x) :
    ∃ v, (results fn a.tmps).run P w = .ok v w ∧ RepV w I V x v := by
  unfold resV at hx
  cases hxs : rxVs st rxs with
  | none => rw [hxs] at hx; cases hx
  | some xs =>
    rw [hxs] at hx
    obtain ⟨vs, h1, h2⟩ := res_all hr _ _ _ h hxs
    have hrun : (results fn a.tmps).run P w = .ok (if h : vs.toArray.size = 1 then vs.toArray[0] else .tuple vs.toArray) w := by
      rw [results_eq, Sem.run_bind, Array.mapM_eq_mapM_toList, Sem.run_map, h1]
      rfl
    refine ⟨_, hrun, ?_⟩
    match xs, vs, h2, hx with
    | [], vs, h2, hx =>
      simp only [Option.some.injEq] at hx
      subst hx
      simp only [RepVs] at h2
      subst h2
      simp only [RepV]
      exact ⟨[], by simp, by simp [RepVs]⟩
    | [y], vs, h2, hx =>
      simp only [Option.some.injEq] at hx
      subst hx
      simp only [RepVs] at h2
      obtain ⟨v, r, rfl, h3, rfl⟩ := h2
      simpa using h3
    | y :: z :: ys, vs, h2, hx =>
      simp only [Option.some.injEq] at hx
      subst hx
      have hlen := h2.len
      simp only [List.length_cons] at hlen
      simp only [RepV]
      refine ⟨vs, ?_, h2⟩
      rw [dif_neg (by rw [List.size_toArray]; omega)]
def anys : Nat → List SV
  | 0 => []
  | n + 1 => .any :: anys n
theorem gets_anys : ∀ (n k : Nat), gets (anys n) k = .any
  | 0, _ => rfl
  | n + 1, 0 => rfl
  | n + 1, k + 1 => gets_anys n k
theorem gets_app : ∀ (l l' : List SV) (k : Nat), gets (l ++ l') k = if k < l.length then gets l k else gets l' (k - l.length)
  | [], l', k => by simp
  | x :: r, l', 0 => by simp [gets]
  | x :: r, l', k + 1 => by
    simp only [List.cons_append, gets, List.length_cons, Nat.add_lt_add_iff_right, Nat.add_sub_add_right]
    exact gets_app r l' k
theorem anys_len : ∀ n, (anys n).length = n
  | 0 => rfl
  | n + 1 => by simp [anys, anys_len n]
theorem RepVs.gets {w : World} {I : Nat → Prop} {V : Nat → Option Value} : ∀ {l : List SV} {vs : List Value} (k : Nat), RepVs w I V l vs → k < l.length → RepV w I V (gets l k) (vs.getD k undef)
  | [], vs, k, _, h => absurd h (by simp)
  | x :: r, vs, 0, h, _ => by
    simp only [RepVs] at h
    obtain ⟨v, q, rfl, h1, _⟩ := h
    simpa [Proofs.YtibdknkacmimgaaGreat.gets] using h1
  | x :: r, vs, k + 1, h, hk => by
    simp only [RepVs] at h
    obtain ⟨v, q, rfl, _, h2⟩ := h
    simpa [Proofs.YtibdknkacmimgaaGreat.gets] using RepVs.gets k h2 (by simpa using hk)
def Fin (rs : List RX) (n0 : Nat) (r : SV) (ob' : List Ob) (e : X) (st : St) : Prop :=
  (e = .ret ∨ e = .normal) ∧ ∃ r0 m, resV st rs = some r0 ∧ WeakC n0 m ⟨[r0], st.ob⟩ ⟨[r], ob'⟩
theorem fun_of {f : FuncId} {fn : Func} {code : Code} {sc : SC} {rs : List RX} {args : List SV} {ob : List Ob} {r : SV} {ob' : List Ob} (hf : P.funcs[f]? = some fn) (hb : fn.body = some code) (ht : trC P fn.ntmps code = some sc) (hrs : allSome (fn.results.toList.map (resX P fn.ntmps)) = some rs) (hn : args.length ≤ fn.ntmps)
    (h : ∀ c : Ctx, c.nt = fn.ntmps → c.m = ob.length → Run P c sc (Fin rs ob.length r ob') ⟨args ++ anys (fn.ntmps - args.length), ob⟩) : Fun P f args ob r ob' := by
  intro w I V B vs hwf hvs
  let c : Ctx := ⟨w, HB B ob, I, V, fn.ntmps, ob.length, fun g hg => hwf.fr g (geto_big _ _ hg)⟩
  have hvl := hvs.len
  have hrep : Rep c (St.f ⟨args ++ anys (fn.ntmps - args.length), ob⟩) { tmps := vs.toArray ++ Array.replicate (fn.ntmps - vs.toArray.size) undef, defers := [] } w := by
    refine ⟨I, V, B, ⟨⟨rfl, TapeOk.mk' rfl rfl, rfl, Nat.le_refl _, fun _ _ _ => rfl⟩, fun _ h => h, fun _ h => .inl h, VLe.refl _, hwf, fun g b hl hb => .inl ⟨g, hl, hb⟩, rfl, ?_, fun k => ?_⟩⟩
    · simp only [Array.size_append, List.size_toArray, Array.size_replicate]
      show vs.length + (fn.ntmps - vs.length) = fn.ntmps
      omega
    · show RepV w I V (gets (args ++ anys (fn.ntmps - args.length)) k) _
      rw [gets_app]
      by_cases hk : k < args.length
      · rw [if_pos hk]
        have := hvs.gets k hk
        have e : (vs.toArray ++ Array.replicate (fn.ntmps - vs.toArray.size) undef).getD k undef = vs.getD k undef := by
          rw [Array.getD_eq_getD_getElem?, Array.getElem?_append_left (by simp; omega)]
          simp [List.getD_eq_getElem?_getD]
        rw [e]; exact this
      · rw [if_neg hk, gets_anys]; simp [RepV]
  refine calls_of_wp hf hb ?_
  refine h c rfl rfl code ht _ w _ ?_ hrep fun x st' a' w' hk hl' hr' => ?_
  · simp only [List.length_append, anys_len]
    show args.length + (fn.ntmps - args.length) = fn.ntmps
    omega
  · obtain ⟨hx, r0, m, hres, hweak⟩ := hk
    obtain ⟨I', V', B', hr'⟩ := hr'
    obtain ⟨v, hrun, hv⟩ := run_results hr' hrs hres
    have hwf' := hweak.wf hr'.wf
    have hv' : RepV w' I' (fun g => V' (sgp m st'.ob.length g)) r v := by
      have h1 := hweak.1
      simp only [leL] at h1
      exact leV_rep h1.1 hv
    have hpost : FunPost w I V B ob ob' w' I' (fun g => V' (sgp m st'.ob.length g)) (fun g => B' (sgp m st'.ob.length g)) := by
      refine ⟨hr'.fr, hr'.i0, fun b hb => hr'.i1 b hb, fun g u hu => ?_, hwf', fun g b hl hb => ?_⟩
      · have hg : g < ob.length := by
          rcases Nat.lt_or_ge g ob.length with h1 | h1
          · exact h1
          · rw [hwf.fr g (geto_big _ _ h1)] at hu; cases hu
        rw [idTo_spec hweak.2.2.2 g hg]
        exact hr'.v0 g u hu
      · have hlt : g < ob'.length := by
          rcases Nat.lt_or_ge g ob'.length with h1 | h1
          · exact h1
          · rw [geto_big _ _ h1] at hl; exact hl.elim
        have h1 := leOs_geto (j := g) hweak.2.1 hlt
        rw [Nat.zero_add] at h1
        exact hr'.bh _ b (leO_live h1 hl) hb
    have hfin : bodyPost P fn (fun e w' => ∃ v I' V' B', e = .returned v ∧ RepV w' I' V' r v ∧ FunPost w I V B ob ob' w' I' V' B') x.exit' a' w' := by
      rcases hx with rfl | rfl
      · exact bodyPost_ret hrun hr'.nd ⟨v, I', _, _, rfl, hv', hpost⟩
      · exact bodyPost_end hrun hr'.nd ⟨v, I', _, _, rfl, hv', hpost⟩
    exact hfin
end
section
variable {P : Program} {c : Ctx} {K : X → St → Prop} {x : SV} {l : List SV} {ob : List Ob}
theorem newOb_nil : newOb ob [] = ob := by
  have : ∀ (l : List Ob) k, updL [] k l = l := by
    intro l
    induction l with
    | nil => intro k; rfl
    | cons o r ih => intro k; simp [updL, lookO, ih]
  simp [newOb, this, extL]
theorem geto_fresh {l : List Ob} {p : Nat} (h : l.length = p) : allFresh (geto l) p := fun g hg => geto_big l g (by omega)
theorem CallP.val {f : FuncId} {cas : List SV} {r : SV} {fob' : List Ob} (h : Fun P f cas [] r fob') {xs : List SV} {l : List Ob} {p : Nat} {K : Kont} (hargs : lendL (geto l) [] xs = cas) (hp : l.length = p) (hsh : lentL [] xs = [] ∨ (r.noSh = true ∧ ∀ o, o ∈ fob' → o.noSh = true))
    (hK : K (r.ren (sgp [] p)) (mkU (sgp [] p) 0 fob') (lentL [] xs ++ [])) : CallP P f xs (geto l) p K :=
  CallP.of h [] ⟨[], hargs⟩ ⟨rfl, List.nodup_nil⟩ (fun g hg => by cases hg) (Nat.zero_le _) trivial (fun o ho => by cases ho) (geto_fresh hp) hsh hK
end
theorem inK_i64 {n : Int} : inK .i64 n ↔ -9223372036854775808 ≤ n ∧ n ≤ 9223372036854775807 := by
  unfold inK
  simp only [IntKind.min, IntKind.max, IntKind.bits, IntKind.signed]
  simp
section
variable {P : Program} {c : Ctx} {K : X → St → Prop}
theorem Weak.refl_ (st : St) : Weak c st st := fun h => ⟨h, fun _ _ hr => hr⟩
end
theorem mixed_ : Tryz.prog.follows .mixedOrders = true := by kernel_rfl
end Go.Proofs.YtibdknkacmimgaaGreat
set_option maxRecDepth 100000
set_option linter.unusedSimpArgs false
set_option linter.unusedVariables false
set_option linter.unusedSectionVars false
namespace Go.Proofs.YtibdknkacmimgaaGreat
open Go.RowKit
noncomputable def dec (p : Prop) : Bool := @decide p (Classical.propDecidable p)
theorem dec_iff {p : Prop} : dec p = true ↔ p := by unfold dec; exact ⟨@of_decide_eq_true p (Classical.propDecidable p), @decide_eq_true p (Classical.propDecidable p)⟩
theorem dec_t {p : Prop} (h : p) : dec p = true := dec_iff.2 h
theorem dec_f {p : Prop} (h : ¬ p) : dec p = false := by
  cases e : dec p with
  | false => rfl
  | true => exact absurd (dec_iff.1 e) h
theorem dec_of {p : Prop} [hp : Decidable p] : dec p = decide p := by
  cases hp with
  | isTrue h => rw [dec_t h]; rfl
  | isFalse h => rw [dec_f h]; rfl
theorem dec_not {p : Prop} : dec p = false ↔ ¬ p := by
  constructor
  · intro h hp
    rw [dec_t hp] at h; cases h
  · exact dec_f
theorem bytes_ext {a b : ByteArray} (h : a.toList = b.toList) : a = b := by
  rw [ByteArray.toList_eq, ByteArray.toList_eq] at h
  exact ByteArray.ext (Array.toList_inj.1 h)
theorem strEq_dec (a b : ByteArray) : strEq a b = dec (a = b) := by
  unfold strEq
  cases e : (a.toList == b.toList) with
  | true => exact (dec_t (bytes_ext (by simpa using e))).symm
  | false =>
    refine (dec_f fun h => ?_).symm
    subst h; simp at e
abbrev R3 := SV × List (Nat × Ob) × List Nat
abbrev CallF := FuncId → List SV → List Ob → Option R3
def memB (x : Nat) : List Nat → Bool
  | [] => false
  | y :: r => (x == y) || memB x r
def nodupB : List Nat → Bool
  | [] => true
  | x :: r => !memB x r && nodupB r
theorem memB_iff {x : Nat} : ∀ {l : List Nat}, memB x l = true ↔ x ∈ l
  | [] => by simp [memB]
  | y :: r => by simp [memB, memB_iff (l := r)]
theorem nodupB_iff : ∀ {l : List Nat}, nodupB l = true ↔ l.Nodup
  | [] => by simp [nodupB]
  | x :: r => by
    have := memB_iff (x := x) (l := r)
    simp only [nodupB, Bool.and_eq_true, Bool.not_eq_true', List.nodup_cons, nodupB_iff (l := r)]
    rw [← this]; simp
noncomputable def fArith (k : IntKind) (r : Int) : Option SV :=
  match k with
  | .u64 => some (.int k (k.wrap r))
  | .u32 => some (.int k (k.wrap r))
  | .u8 => some (.int k (k.wrap r))
  | _ => bif dec (inK k r) then some (.int k r) else some (.int k (k.wrap r))
noncomputable def fBinI (op : BinOp) (k : IntKind) (a b : Int) : Option SV :=
  match op with
  | .add => fArith k (a + b)
  | .sub => fArith k (a - b)
  | .mul => fArith k (a * b)
  | .quo => bif dec (b = 0) then none else fArith k (a.tdiv b)
  | .rem => bif dec (b = 0) then none else some (.int k (a.tmod b))
  | .eql => some (.bool (dec (a = b)))
  | .neq => some (.bool (!dec (a = b)))
  | .lss => some (.bool (dec (a < b)))
  | .leq => some (.bool (dec (a ≤ b)))
  | .gtr => some (.bool (dec (b < a)))
  | .geq => some (.bool (dec (b ≤ a)))
  | .shr => bif dec (b = 1) then some (.int k (a / 2)) else none
  | _ => none
noncomputable def fBinS (op : BinOp) (a b : ByteArray) : Option SV :=
  match op with
  | .add => bif dec (a.size + b.size ≤ 9223372036854775807) then some (.str (a ++ b)) else none
  | .eql => some (.bool (dec (a = b)))
  | .neq => some (.bool (!dec (a = b)))
  | .lss => some (.bool (strLt a b))
  | .leq => some (.bool (strLt a b || dec (a = b)))
  | .gtr => some (.bool (!(strLt a b || dec (a = b))))
  | .geq => some (.bool (!strLt a b))
  | _ => none
def fBinB (op : BinOp) (a b : Bool) : Option SV :=
  match op with
  | .eql => some (.bool (a == b))
  | .neq => some (.bool (!(a == b)))
  | _ => none
def eqK : IntKind → IntKind → Bool := fun a b => decide (a = b)
noncomputable def fBin (op : BinOp) (tb : Bool) (x y : SV) : Option SV :=
  match x, y with
  | .int k a, .int k' b => bif eqK k k' then fBinI op k a b else none
  | .str a, .str b => fBinS op a b
  | .bool a, .bool b => bif tb then fBinB op a b else none
  | _, _ => none
def ret1 (x : SV) : Option R3 := some (x, [], [])
def ret1o : Option SV → Option R3
  | some x => some (x, [], [])
  | none => none
def treeF (g : Nat) (es : List (List OT)) (hs : List (Nat × Nat × Nat)) (k o : Nat) (l : List OT) (p : Nat) : OT → Option R3
  | .ow e2 => some (.ref p, [(p, .tree e2 []), (g, .tree (es.set k (l.set o .hole)) ((k, o, p) :: hs))], [])
  | .hole => none
  | .int n => some (.int .i64 n, [], [g])
  | .bool b => some (.bool b, [], [g])
  | .str s => some (.str s, [], [g])
  | .sh e => some (.arr e, [], [g])
def fGet (ok agg : Bool) (z : List SV) (rd : List Nat) : Option MV → Option R3
  | some x => some (bif ok then .tup [MV.sv x, .bool true] else MV.sv x, [], rd)
  | none => some (bif ok then .tup [bif agg then .agg z else z.getD 0 .any, .bool false] else (bif agg then .agg z else z.getD 0 .any), [], rd)
noncomputable def fOp (P : Program) (C : CallF) (so : SOp) (sl : List SV) (ob : List Ob) : Option R3 :=
  match so with
  | .mv x => ret1 (getX (gets sl) x)
  | .pick c a b => match getX (gets sl) c with
    | .bool t => ret1 (bif t then getX (gets sl) a else getX (gets sl) b)
    | _ => none
  | .alloc t z => some (.ptr ob.length 0, [(ob.length, .box t z)], [])
  | .boxv t n x => match (getX (gets sl) x).cellsN n with
    | some l => some (.ptr ob.length 0, [(ob.length, .box t l)], [])
    | none => none
  | .build z parts => match fillS (getX (gets sl)) z parts with
    | some l => ret1 (.agg l)
    | none => none
  | .mkrow t sz z len parts => match toOTs (geto ob) z with
    | some zl => match eOp.mkEs (getX (gets sl)) (geto ob) sz (List.replicate len zl) parts with
      | some es => bif (gids zl).isEmpty && nodupB (es.map gids).flatten then some (.ref ob.length, (ob.length, .row t sz (es.map fsts)) :: gone1 (es.map gids).flatten, (parts.map fun q => refsC (getX (gets sl) q.2)).flatten) else none
      | none => none
    | none => none
  | .load agg n x => match getX (gets sl) x with
    | .ptr g o => match geto ob g with
      | .box _ l => bif decide (o + n ≤ l.length) then some (bif agg then .agg ((l.drop o).take n) else l.getD o .any, [], [g]) else none
      | _ => none
    | .vptr es k o => match es[k]? with
      | some l => bif decide (o + n ≤ l.length) then ret1 (bif agg then .agg (((l.drop o).take n).map D.sv) else (l.map D.sv).getD o .any) else none
      | none => none
    | .eptr g sz k o => match geto ob g with
      | .row _ sz' es => match es[k]? with
        | some l => bif (sz == sz') && decide (o + n ≤ l.length) then some (bif agg then .agg (((l.drop o).take n).map OT.sv) else (l.map OT.sv).getD o .any, [], [g]) else none
        | none => none
      | .tree es hs => match es[k]? with
        | some l => bif !agg && (n == 1) && (l.length == sz) && decide (o < sz) then match holeAt hs k o with
          | some q => some (.ref q, [], [g])
          | none => match l[o]? with
            | some x => treeF g es hs k o l ob.length x
            | none => none
          else none
        | none => none
      | _ => none
    | _ => none
  | .store n x v => match getX (gets sl) x with
    | .ptr g o => match geto ob g with
      | .box t l => match (getX (gets sl) v).cellsN n with
        | some vs => bif decide (o + n ≤ l.length) && vs.all SV.one then some (.any, [(g, .box t (splice l o vs))], []) else none
        | none => none
      | _ => none
    | .eptr g sz k o => match geto ob g with
      | .row t sz' es => match (getX (gets sl) v).cellsN n with
        | some vs => match toOTs (geto ob) vs with
          | some ls => match es[k]? with
            | some l => bif (sz == sz') && decide (o + n ≤ sz) && !memB g (gids ls) && nodupB (gids ls) then some (.any, (g, .row t sz (es.set k (splice l o (fsts ls)))) :: gone1 (gids ls), refsC (getX (gets sl) v)) else none
            | none => none
          | none => none
        | none => none
      | .tree es hs => match (getX (gets sl) v).cellsN n with
        | some [v] => match scalO v with
          | some x => match holeAt hs k o with
            | some _ => none
            | none => match es[k]? with
              | some l => bif (l.length == sz) && decide (o < sz) then some (.any, [(g, .tree (es.set k (splice l o [x])) hs)], []) else none
              | none => none
          | none => none
        | _ => none
      | _ => none
    | _ => none
  | .nilchk x => match getX (gets sl) x with
    | .ptr g o => ret1 (.ptr g o)
    | .eptr g sz k o => ret1 (.eptr g sz k o)
    | .vptr es k o => ret1 (.vptr es k o)
    | _ => none
  | .bin op tb x y => ret1o (fBin op tb (getX (gets sl) x) (getX (gets sl) y))
  | .un op x => match getX (gets sl) x with
    | .bool b => match op with
      | .not => ret1 (.bool (!b))
      | _ => none
    | .int k n => match op with
      | .neg => bif dec (inK k (0 - n)) then ret1 (.int k (0 - n)) else none
      | _ => none
    | _ => none
  | .conv k x => match getX (gets sl) x with
    | .int _ n => ret1o (fArith k n)
    | _ => none
  | .mkfn f caps => ret1 (.fn f (caps.map (getX (gets sl))))
  | .mkslice t sz bytes z len => match getX (gets sl) len with
    | .int _ n => match toOTs (geto ob) z with
      | some zl => bif dec (0 ≤ n) && dec ((bytes : Int) * n ≤ 140737488355328) && dec (n ≤ 9223372036854775807) && (gids zl).isEmpty then some (.ref ob.length, [(ob.length, .row t sz (List.replicate n.toNat (fsts zl)))], []) else none
      | none => none
    | _ => none
  | .slice str sz x lo hi => match getX (gets sl) x with
    | .str s => match bndLo (getX (gets sl)) lo with
      | some l => match bndHi (getX (gets sl)) s.size hi with
        | some h => bif dec (0 ≤ l) && dec (l ≤ h) && dec (h ≤ s.size) && str then ret1 (.str (s.extract l.toNat h.toNat)) else none
        | none => none
      | none => none
    | .arr es => match bndLo (getX (gets sl)) lo with
      | some l => match bndHi (getX (gets sl)) es.length hi with
        | some h => bif dec (0 ≤ l) && dec (l ≤ h) && dec (h ≤ es.length) && !str && es.all (fun e => (e.length == sz)) then ret1 (.arr ((es.take h.toNat).drop l.toNat)) else none
        | none => none
      | none => none
    | .ref g => match geto ob g with
      | .row _ sz' es => match bndLo (getX (gets sl)) lo with
        | some l => match bndHi (getX (gets sl)) es.length hi with
          | some h => bif dec (0 ≤ l) && dec (l ≤ h) && dec (h ≤ es.length) && !str && (sz' == sz) && OT.fullss es then some (.arr (((OT.erss es).take h.toNat).drop l.toNat), [(g, .gone)], []) else none
          | none => none
        | none => none
      | _ => none
    | _ => none
  | .faddr off x => match getX (gets sl) x with
    | .ptr g o => ret1 (.ptr g (o + off))
    | .vptr es k o => ret1 (.vptr es k (o + off))
    | .eptr g sz k o => ret1 (.eptr g sz k (o + off))
    | _ => none
  | .field agg off n x => match getX (gets sl) x with
    | .agg l => bif decide (off + n ≤ l.length) then ret1 (bif agg then .agg ((l.drop off).take n) else l.getD off .any) else none
    | _ => none
  | .iaddr sz x i => match getX (gets sl) x with
    | .arr es => match getX (gets sl) i with
      | .int _ n => bif dec (0 ≤ n) then match es[n.toNat]? with
        | some l => bif (l.length == sz) then ret1 (.vptr es n.toNat 0) else none
        | none => none
        else none
      | _ => none
    | .ref g => match getX (gets sl) i with
      | .int _ n => match geto ob g with
        | .row _ sz' es => bif (sz == sz') && dec (0 ≤ n) && dec (n.toNat < es.length) then some (.eptr g sz n.toNat 0, [], [g]) else none
        | .tree es _ => bif dec (0 ≤ n) && dec (n.toNat < es.length) then some (.eptr g sz n.toNat 0, [], [g]) else none
        | _ => none
      | _ => none
    | _ => none
  | .idx x i => match getX (gets sl) x with
    | .str s => match getX (gets sl) i with
      | .int _ n => bif dec (0 ≤ n) && dec (n.toNat < s.size) then ret1 (.int .u8 (byteAt s n.toNat)) else none
      | _ => none
    | _ => none
  | .ext x k => match getX (gets sl) x with
    | .tup l => bif decide (k < l.length) then ret1 (l.getD k .any) else none
    | _ => none
  | .call f args => C f (args.map (getX (gets sl))) ob
  | .callv x args => match getX (gets sl) x with
    | .fn f caps => bif goFn P f then C f (args.map (getX (gets sl)) ++ caps) ob else none
    | _ => none
  | .len str x => match getX (gets sl) x with
    | .str s => bif str then ret1 (.int .i64 s.size) else none
    | .arr es => bif str then none else ret1 (.int .i64 es.length)
    | .nil => bif str then none else ret1 (.int .i64 0)
    | .ref g => match geto ob g with
      | .row _ _ es => bif str then none else some (.int .i64 es.length, [], [g])
      | .tree es _ => bif str then none else some (.int .i64 es.length, [], [g])
      | _ => none
    | _ => none
  | .append t sz bytes z x y => match eOp.addS (geto ob) sz (getX (gets sl) y) with
    | some (new, gs) => match getX (gets sl) x with
      | .nil => bif dec ((new.length : Int) * bytes ≤ 140737488355328) && dec (new.length ≤ 9223372036854775807) && (new.all fun l => (l.length == sz)) then some (.ref ob.length, (ob.length, .row t sz new) :: gone1 gs, []) else none
      | .ref g => match geto ob g with
        | .row t' sz' es => bif (t == t') && (sz == sz') && dec (((es.length + new.length : Nat) : Int) * bytes ≤ 140737488355328) && dec (es.length + new.length ≤ 9223372036854775807) && !memB g gs && (new.all fun l => (l.length == sz)) then some (.ref ob.length, (ob.length, .row t sz (es ++ new)) :: gone1 (g :: gs), []) else none
        | _ => none
      | _ => none
    | none => none
  | .minmax mx x y => match getX (gets sl) x with
    | .int k a => match getX (gets sl) y with
      | .int k' b => bif eqK k k' then ret1 (.int k (bif mx then (bif dec (a < b) then b else a) else (bif dec (b < a) then b else a))) else none
      | _ => none
    | _ => none
  | .mkmap ks hint => match hint with
    | none => some (.ref ob.length, [(ob.length, .mp ks nomap)], [])
    | some x => match getX (gets sl) x with
      | .int _ _ => some (.ref ob.length, [(ob.length, .mp ks nomap)], [])
      | _ => none
  | .mset ks m k v => match getX (gets sl) m with
    | .ref g => match geto ob g with
      | .mp ks' f => match svK ks (getX (gets sl) k) with
        | some q => match svM (getX (gets sl) v) with
          | some x => bif (ks' == ks) then some (.any, [(g, .mp ks (mput f q x))], []) else none
          | none => none
        | none => none
      | _ => none
    | _ => none
  | .mkit x => match getX (gets sl) x with
    | .mp ks m => some (.ptr ob.length 0, [(ob.length, .it ks m [] none)], [])
    | _ => none
  | .mcur x => match getX (gets sl) x with
    | .ptr g o => match geto ob g with
      | .it _ _ _ (some (k, v)) => bif (o == 0) then some (.tup [MK.sv k, MV.sv v], [], [g]) else none
      | _ => none
    | _ => none
  | .mget ks ok agg z m k => match mapAt (geto ob) (getX (gets sl) m) with
    | some (ks', f, rd) => match svK ks (getX (gets sl) k) with
      | some q => bif (ks' == ks) then fGet ok agg z rd (f q) else none
      | none => none
    | none => none
theorem bif_some {α : Type} {b : Bool} {x : Option α} {r : α} (h : (bif b then x else none) = some r) : b = true ∧ x = some r := by
  cases b with
  | true => exact ⟨rfl, h⟩
  | false => cases h
theorem bif_some' {α : Type} {b : Bool} {x : Option α} {r : α} (h : (bif b then none else x) = some r) : b = false ∧ x = some r := by
  cases b with
  | false => exact ⟨rfl, h⟩
  | true => cases h
theorem ret1_eq {x y : SV} {u : List (Nat × Ob)} {rd : List Nat} (h : ret1 x = some (y, u, rd)) : x = y ∧ u = [] ∧ rd = [] := by
  unfold ret1 at h
  simp only [Option.some.injEq, Prod.mk.injEq] at h
  exact ⟨h.1, h.2.1.symm, h.2.2.symm⟩
theorem ret1o_eq {x : Option SV} {y : SV} {u : List (Nat × Ob)} {rd : List Nat} (h : ret1o x = some (y, u, rd)) : x = some y ∧ u = [] ∧ rd = [] := by
  cases x with
  | none => cases h
  | some x =>
    have := ret1_eq (x := x) h
    exact ⟨congrArg some this.1, this.2⟩
theorem fArith_e {k : IntKind} {r : Int} {x : SV} {K : Kont} (h : fArith k r = some x) (hK : K x [] []) : arithS k r K := by
  unfold fArith at h
  unfold arithS
  cases k <;> simp only at h ⊢ <;> first
    | (obtain rfl := Option.some.inj h; exact hK)
    | (cases hd : dec (inK _ r) with
       | true => rw [hd] at h; obtain rfl := Option.some.inj h; exact ⟨fun _ => hK, fun hn => absurd (dec_iff.1 hd) hn⟩
       | false => rw [hd] at h; obtain rfl := Option.some.inj h; exact ⟨fun hi => absurd hi (dec_not.1 hd), fun _ => hK⟩)
theorem fBinI_e {op : BinOp} {k : IntKind} {a b : Int} {x : SV} {K : Kont} (h : fBinI op k a b = some x) (hK : K x [] []) : binI op k a b K := by
  cases op <;> simp only [fBinI, binI] at h ⊢ <;> first
    | exact fArith_e h hK
    | (obtain ⟨h1, h2⟩ := bif_some h; obtain rfl := Option.some.inj h2; exact ⟨dec_iff.1 h1, hK⟩)
    | (obtain ⟨h1, h2⟩ := bif_some' h; first | exact ⟨dec_not.1 h1, fArith_e h2 hK⟩ | (obtain rfl := Option.some.inj h2; exact ⟨dec_not.1 h1, hK⟩))
    | (obtain rfl := Option.some.inj h; first | exact hK | (rw [dec_of] at hK; first | exact hK | (simpa [bne, beq_eq_decide] using hK)))
    | cases h
theorem fBinS_e {op : BinOp} {a b : ByteArray} {x : SV} {K : Kont} (h : fBinS op a b = some x) (hK : K x [] []) : binS op a b K := by
  cases op <;> simp only [fBinS, binS, strEq_dec] at h ⊢ <;> first
    | (obtain ⟨h1, h2⟩ := bif_some h; obtain rfl := Option.some.inj h2; exact ⟨dec_iff.1 h1, hK⟩)
    | (obtain rfl := Option.some.inj h; exact hK)
    | cases h
theorem fBin_e {op : BinOp} {tb : Bool} {y z x : SV} {K : Kont} (h : fBin op tb y z = some x) (hK : K x [] []) : binV op tb y z K := by
  unfold fBin at h
  unfold binV
  split at h <;> simp only at h ⊢
  · obtain ⟨h1, h2⟩ := bif_some h
    exact ⟨of_decide_eq_true h1, fBinI_e h2 hK⟩
  · exact fBinS_e h hK
  · obtain ⟨h1, h2⟩ := bif_some h
    refine ⟨h1, ?_⟩
    cases op <;> simp only [fBinB, binB] at h2 ⊢ <;> first | (obtain rfl := Option.some.inj h2; exact hK) | cases h2
  · cases h
theorem mput_int {m : MF} {a b : Int} {x : MV} : mput m (.int a) x (.int b) = bif dec (b = a) then some x else m (.int b) := by
  by_cases h : b = a
  · subst h; rw [mput_same, dec_t rfl]; rfl
  · rw [mput_ne (fun e => h (by injection e)), dec_f h]; rfl
theorem mput_str {m : MF} {a b : ByteArray} {x : MV} : mput m (.str a) x (.str b) = bif dec (b = a) then some x else m (.str b) := by
  by_cases h : b = a
  · subst h; rw [mput_same, dec_t rfl]; rfl
  · rw [mput_ne (fun e => h (by injection e)), dec_f h]; rfl
theorem nomap_eq (k : MK) : nomap k = none := rfl
variable [Flag]
theorem some3 {a x : SV} {b u : List (Nat × Ob)} {c rd : List Nat} (h : (some (a, b, c) : Option R3) = some (x, u, rd)) : a = x ∧ b = u ∧ c = rd := by
  simp only [Option.some.injEq, Prod.mk.injEq] at h; exact h
theorem all_beq {α : Type} {l : List (List α)} {n : Nat} (h : (l.all fun e => (e.length == n)) = true) : (l.all fun e => e.length == n) = true := by
  refine List.all_eq_true.2 fun e he => ?_
  exact beq_iff_eq.2 (eq_of_beq ((List.all_eq_true.1 h) e he))
theorem isEmpty_nil {l : List Nat} (h : l.isEmpty = true) : l = [] := List.isEmpty_iff.1 h
set_option maxHeartbeats 1000000 in
theorem fOp_e {P : Program} {C : CallF} {so : SOp} {sl : List SV} {ob : List Ob} {x : SV} {u : List (Nat × Ob)} {rd : List Nat} {K : Kont} (h : fOp P C so sl ob = some (x, u, rd))
    (hC : ∀ f xs x u rd, C f xs ob = some (x, u, rd) → ∀ K : Kont, K x u rd → CallP P f xs (geto ob) ob.length K) (hK : K x u rd) : eOp P so (gets sl) (geto ob) ob.length K := by
  cases so with
  | mv y =>
    obtain ⟨rfl, rfl, rfl⟩ := ret1_eq h
    exact hK
  | pick a b c =>
    simp only [fOp, eOp] at h ⊢
    split at h
    · obtain ⟨rfl, rfl, rfl⟩ := ret1_eq h
      rename_i t ht
      simp only [ht]
      cases t <;> exact hK
    · cases h
  | alloc t z =>
    obtain ⟨rfl, rfl, rfl⟩ := some3 h
    exact hK
  | boxv t n y =>
    simp only [fOp, eOp] at h ⊢
    split at h
    · rename_i l hl
      obtain ⟨rfl, rfl, rfl⟩ := some3 h
      simp only [hl]; exact hK
    · cases h
  | build z parts =>
    simp only [fOp, eOp] at h ⊢
    split at h
    · rename_i l hl
      obtain ⟨rfl, rfl, rfl⟩ := ret1_eq h
      simp only [hl]; exact hK
    · cases h
  | mkrow t sz z len parts =>
    simp only [fOp, eOp] at h ⊢
    split at h
    · rename_i zl hz
      split at h
      · rename_i es he
        obtain ⟨h1, h2⟩ := bif_some h
        obtain ⟨rfl, rfl, rfl⟩ := some3 h2
        rw [Bool.and_eq_true] at h1
        simp only [hz, he]
        exact ⟨⟨isEmpty_nil h1.1, nodupB_iff.1 h1.2⟩, hK⟩
      · cases h
    · cases h
  | load agg n y =>
    simp only [fOp, eOp] at h ⊢
    split at h
    · rename_i g o hy
      simp only [hy]
      split at h
      · rename_i t l hl
        obtain ⟨h1, h2⟩ := bif_some h
        obtain ⟨rfl, rfl, rfl⟩ := some3 h2
        simp only [hl]
        exact ⟨of_decide_eq_true h1, by cases agg <;> exact hK⟩
      · cases h
    · rename_i es k o hy
      simp only [hy]
      split at h
      · rename_i l hl
        obtain ⟨h1, h2⟩ := bif_some h
        obtain ⟨rfl, rfl, rfl⟩ := ret1_eq h2
        exact ⟨l, hl, of_decide_eq_true h1, by cases agg <;> exact hK⟩
      · cases h
    · rename_i g sz k o hy
      simp only [hy]
      split at h
      · rename_i t sz' es hl
        split at h
        · rename_i l hl'
          obtain ⟨h1, h2⟩ := bif_some h
          obtain ⟨rfl, rfl, rfl⟩ := some3 h2
          rw [Bool.and_eq_true] at h1
          simp only [hl]
          exact ⟨eq_of_beq h1.1, l, hl', of_decide_eq_true h1.2, by cases agg <;> exact hK⟩
        · cases h
      · rename_i es hs hl
        split at h
        · rename_i l hl'
          obtain ⟨h1, h2⟩ := bif_some h
          simp only [Bool.and_eq_true, Bool.not_eq_true', beq_iff_eq, decide_eq_true_eq] at h1
          simp only [hl]
          refine ⟨⟨h1.1.1.1, h1.1.1.2⟩, l, hl', ⟨h1.1.2, h1.2⟩, ?_⟩
          split at h2
          · rename_i q hq
            obtain ⟨rfl, rfl, rfl⟩ := some3 h2
            simp only [hq]; exact hK
          · rename_i hq
            simp only [hq]
            split at h2
            · rename_i z hz
              refine ⟨z, hz, ?_⟩
              cases z <;> simp only [treeF, treeLd] at h2 ⊢ <;> first | (obtain ⟨e1, rfl, rfl⟩ := some3 h2; rw [← e1] at hK; exact hK) | cases h2
            · cases h2
        · cases h
      · cases h
    · cases h
  | store n y v =>
    simp only [fOp, eOp] at h ⊢
    split at h
    · rename_i g o hy
      simp only [hy]
      split at h
      · rename_i t l hl
        split at h
        · rename_i vs hv
          obtain ⟨h1, h2⟩ := bif_some h
          obtain ⟨rfl, rfl, rfl⟩ := some3 h2
          rw [Bool.and_eq_true] at h1
          simp only [hl, hv]
          exact ⟨⟨of_decide_eq_true h1.1, h1.2⟩, hK⟩
        · cases h
      · cases h
    · rename_i g sz k o hy
      simp only [hy]
      split at h
      · rename_i t sz' es hl
        split at h
        · rename_i vs hv
          split at h
          · rename_i ls hls
            split at h
            · rename_i l hl'
              obtain ⟨h1, h2⟩ := bif_some h
              obtain ⟨rfl, rfl, rfl⟩ := some3 h2
              simp only [Bool.and_eq_true, Bool.not_eq_true'] at h1
              simp only [hl, hv, hls]
              refine ⟨⟨eq_of_beq h1.1.1.1, of_decide_eq_true h1.1.1.2, fun hm => ?_, nodupB_iff.1 h1.2⟩, l, hl', hK⟩
              rw [memB_iff.2 hm] at h1
              exact absurd h1.1.2 (by simp)
            · cases h
          · cases h
        · cases h
      · rename_i es hs hl
        split at h
        · rename_i v0 hv
          split at h
          · rename_i z hz
            split at h
            · cases h
            · rename_i hh
              split at h
              · rename_i l hl'
                obtain ⟨h1, h2⟩ := bif_some h
                obtain ⟨rfl, rfl, rfl⟩ := some3 h2
                simp only [Bool.and_eq_true, beq_iff_eq, decide_eq_true_eq] at h1
                simp only [hl, hv]
                exact ⟨v0, z, rfl, hz, hh, l, hl', ⟨h1.1, h1.2⟩, hK⟩
              · cases h
          · cases h
        · cases h
      · cases h
    · cases h
  | nilchk y =>
    simp only [fOp, eOp] at h ⊢
    split at h
    all_goals first | (rename_i hy; simp only [hy]; obtain ⟨e1, rfl, rfl⟩ := ret1_eq h; rw [e1]; exact hK) | cases h
  | bin op tb y z =>
    simp only [fOp, eOp] at h ⊢
    obtain ⟨h1, rfl, rfl⟩ := ret1o_eq h
    exact fBin_e h1 hK
  | un op y =>
    simp only [fOp, eOp] at h ⊢
    split at h
    · rename_i b hy
      split at h
      · obtain ⟨rfl, rfl, rfl⟩ := ret1_eq h
        simp only [hy]; exact hK
      · cases h
    · rename_i k n hy
      split at h
      · obtain ⟨h1, h2⟩ := bif_some h
        obtain ⟨rfl, rfl, rfl⟩ := ret1_eq h2
        simp only [hy]; exact ⟨dec_iff.1 h1, hK⟩
      · cases h
    · cases h
  | conv k y =>
    simp only [fOp, eOp] at h ⊢
    split at h
    · rename_i k' n hy
      obtain ⟨h1, rfl, rfl⟩ := ret1o_eq h
      simp only [hy]
      exact fArith_e h1 hK
    · cases h
  | mkfn f caps =>
    obtain ⟨rfl, rfl, rfl⟩ := ret1_eq h
    exact hK
  | mkslice t sz bytes z len =>
    simp only [fOp, eOp] at h ⊢
    split at h
    · rename_i k n hn
      split at h
      · rename_i zl hz
        obtain ⟨h1, h2⟩ := bif_some h
        obtain ⟨rfl, rfl, rfl⟩ := some3 h2
        simp only [Bool.and_eq_true] at h1
        simp only [hn, hz]
        exact ⟨⟨dec_iff.1 h1.1.1.1, dec_iff.1 h1.1.1.2, dec_iff.1 h1.1.2, isEmpty_nil h1.2⟩, hK⟩
      · cases h
    · cases h
  | slice str sz y lo hi =>
    simp only [fOp, eOp] at h ⊢
    split at h
    · rename_i s hy
      split at h
      · rename_i l hl
        split at h
        · rename_i q hq
          obtain ⟨h1, h2⟩ := bif_some h
          obtain ⟨rfl, rfl, rfl⟩ := ret1_eq h2
          simp only [Bool.and_eq_true] at h1
          simp only [hy, hl, hq]
          exact ⟨⟨dec_iff.1 h1.1.1.1, dec_iff.1 h1.1.1.2, dec_iff.1 h1.1.2⟩, h1.2, hK⟩
        · cases h
      · cases h
    · rename_i es hy
      split at h
      · rename_i l hl
        split at h
        · rename_i q hq
          obtain ⟨h1, h2⟩ := bif_some h
          obtain ⟨rfl, rfl, rfl⟩ := ret1_eq h2
          simp only [Bool.and_eq_true, Bool.not_eq_true'] at h1
          simp only [hy, hl, hq]
          refine ⟨⟨dec_iff.1 h1.1.1.1.1, dec_iff.1 h1.1.1.1.2, dec_iff.1 h1.1.1.2⟩, h1.1.2, fun e he => ?_, hK⟩
          exact eq_of_beq ((List.all_eq_true.1 h1.2) e he)
        · cases h
      · cases h
    · rename_i g hy
      split at h
      · rename_i t0 sz' es hg
        split at h
        · rename_i l hl
          split at h
          · rename_i q hq
            obtain ⟨h1, h2⟩ := bif_some h
            simp only [Option.some.injEq, Prod.mk.injEq] at h2
            obtain ⟨rfl, rfl, rfl⟩ := h2
            simp only [Bool.and_eq_true, Bool.not_eq_true'] at h1
            simp only [hy, hg, hl, hq]
            exact ⟨⟨dec_iff.1 h1.1.1.1.1.1, dec_iff.1 h1.1.1.1.1.2, dec_iff.1 h1.1.1.1.2⟩, h1.1.1.2, ⟨eq_of_beq h1.1.2, h1.2⟩, hK⟩
          · cases h
        · cases h
      · cases h
    · cases h
  | faddr off y =>
    simp only [fOp, eOp] at h ⊢
    split at h
    all_goals first | (rename_i hy; simp only [hy]; obtain ⟨e1, rfl, rfl⟩ := ret1_eq h; rw [e1]; exact hK) | cases h
  | field agg off n y =>
    simp only [fOp, eOp] at h ⊢
    split at h
    · rename_i l hy
      obtain ⟨h1, h2⟩ := bif_some h
      obtain ⟨rfl, rfl, rfl⟩ := ret1_eq h2
      simp only [hy]
      exact ⟨of_decide_eq_true h1, by cases agg <;> exact hK⟩
    · cases h
  | iaddr sz y i =>
    simp only [fOp, eOp] at h ⊢
    split at h
    · rename_i es hy
      split at h
      · rename_i k n hn
        obtain ⟨h1, h2⟩ := bif_some h
        split at h2
        · rename_i l hl
          obtain ⟨h3, h4⟩ := bif_some h2
          obtain ⟨rfl, rfl, rfl⟩ := ret1_eq h4
          simp only [hy, hn]
          exact ⟨dec_iff.1 h1, l, hl, eq_of_beq h3, hK⟩
        · cases h2
      · cases h
    · rename_i g hy
      split at h
      · rename_i k n hn
        split at h
        · rename_i t sz' es hl
          obtain ⟨h1, h2⟩ := bif_some h
          obtain ⟨rfl, rfl, rfl⟩ := some3 h2
          simp only [Bool.and_eq_true] at h1
          simp only [hy, hn, hl]
          exact ⟨⟨eq_of_beq h1.1.1, dec_iff.1 h1.1.2, dec_iff.1 h1.2⟩, hK⟩
        · rename_i es hs hl
          obtain ⟨h1, h2⟩ := bif_some h
          obtain ⟨rfl, rfl, rfl⟩ := some3 h2
          simp only [Bool.and_eq_true] at h1
          simp only [hy, hn, hl]
          exact ⟨⟨dec_iff.1 h1.1, dec_iff.1 h1.2⟩, hK⟩
        · cases h
      · cases h
    · cases h
  | idx y i =>
    simp only [fOp, eOp] at h ⊢
    split at h
    · rename_i s hy
      split at h
      · rename_i k n hn
        obtain ⟨h1, h2⟩ := bif_some h
        obtain ⟨rfl, rfl, rfl⟩ := ret1_eq h2
        simp only [Bool.and_eq_true] at h1
        simp only [hy, hn]
        exact ⟨⟨dec_iff.1 h1.1, dec_iff.1 h1.2⟩, hK⟩
      · cases h
    · cases h
  | ext y k =>
    simp only [fOp, eOp] at h ⊢
    split at h
    · rename_i l hy
      obtain ⟨h1, h2⟩ := bif_some h
      obtain ⟨rfl, rfl, rfl⟩ := ret1_eq h2
      simp only [hy]
      exact ⟨of_decide_eq_true h1, hK⟩
    · cases h
  | call f args => exact hC f _ x u rd h K hK
  | callv y args =>
    simp only [fOp, eOp] at h ⊢
    split at h
    · rename_i f caps hy
      obtain ⟨h1, h2⟩ := bif_some h
      simp only [hy]
      exact ⟨h1, hC f _ x u rd h2 K hK⟩
    · cases h
  | len str y =>
    simp only [fOp, eOp] at h ⊢
    split at h
    · rename_i s hy
      obtain ⟨h1, h2⟩ := bif_some h
      obtain ⟨rfl, rfl, rfl⟩ := ret1_eq h2
      simp only [hy]; exact ⟨h1, hK⟩
    · rename_i es hy
      obtain ⟨h1, h2⟩ := bif_some' h
      obtain ⟨rfl, rfl, rfl⟩ := ret1_eq h2
      simp only [hy]; exact ⟨h1, hK⟩
    · rename_i hy
      obtain ⟨h1, h2⟩ := bif_some' h
      obtain ⟨rfl, rfl, rfl⟩ := ret1_eq h2
      simp only [hy]; exact ⟨h1, hK⟩
    · rename_i g hy
      split at h
      · rename_i t sz es hl
        obtain ⟨h1, h2⟩ := bif_some' h
        obtain ⟨rfl, rfl, rfl⟩ := some3 h2
        simp only [hy, hl]; exact ⟨h1, hK⟩
      · rename_i es hs hl
        obtain ⟨h1, h2⟩ := bif_some' h
        obtain ⟨rfl, rfl, rfl⟩ := some3 h2
        simp only [hy, hl]; exact ⟨h1, hK⟩
      · cases h
    · cases h
  | append t sz bytes z y w =>
    simp only [fOp, eOp] at h ⊢
    split at h
    · rename_i new gs ha
      simp only [ha]
      split at h
      · rename_i hy
        obtain ⟨h1, h2⟩ := bif_some h
        obtain ⟨rfl, rfl, rfl⟩ := some3 h2
        simp only [Bool.and_eq_true] at h1
        simp only [hy]
        exact ⟨⟨dec_iff.1 h1.1.1, dec_iff.1 h1.1.2, all_beq h1.2⟩, hK⟩
      · rename_i g hy
        split at h
        · rename_i t' sz' es hl
          obtain ⟨h1, h2⟩ := bif_some h
          obtain ⟨rfl, rfl, rfl⟩ := some3 h2
          simp only [Bool.and_eq_true, Bool.not_eq_true'] at h1
          simp only [hy, hl]
          refine ⟨⟨eq_of_beq h1.1.1.1.1.1, eq_of_beq h1.1.1.1.1.2, dec_iff.1 h1.1.1.1.2, dec_iff.1 h1.1.1.2, fun hm => ?_, all_beq h1.2⟩, hK⟩
          rw [memB_iff.2 hm] at h1
          exact absurd h1.1.2 (by simp)
        · cases h
      · cases h
    · cases h
  | minmax mx y z =>
    simp only [fOp, eOp] at h ⊢
    split at h
    · rename_i k a hy
      split at h
      · rename_i k' b hz
        obtain ⟨h1, h2⟩ := bif_some h
        obtain ⟨rfl, rfl, rfl⟩ := ret1_eq h2
        simp only [hy, hz]
        refine ⟨of_decide_eq_true h1, ?_⟩
        cases mx
        · by_cases q : b < a
          · rw [dec_t q] at hK; simpa [q] using hK
          · rw [dec_f q] at hK; simpa [q] using hK
        · by_cases q : a < b
          · rw [dec_t q] at hK; simpa [q] using hK
          · rw [dec_f q] at hK; simpa [q] using hK
      · cases h
    · cases h
  | mkmap ks hint =>
    simp only [fOp, eOp] at h ⊢
    cases hint with
    | none =>
      obtain ⟨rfl, rfl, rfl⟩ := some3 h
      exact ⟨trivial, hK⟩
    | some y =>
      simp only at h ⊢
      split at h
      · rename_i k n hy
        obtain ⟨rfl, rfl, rfl⟩ := some3 h
        rw [hy]
        exact ⟨rfl, hK⟩
      · cases h
  | mset ks m k v =>
    simp only [fOp, eOp] at h ⊢
    split at h
    · rename_i g hm
      simp only [hm]
      split at h
      · rename_i ks' f hg
        simp only [hg]
        split at h
        · rename_i q hq
          split at h
          · rename_i y hy
            obtain ⟨h1, h2⟩ := bif_some h
            obtain ⟨rfl, rfl, rfl⟩ := some3 h2
            exact ⟨eq_of_beq h1, q, y, hq, hy, hK⟩
          · cases h
        · cases h
      · cases h
    · cases h
  | mkit y =>
    simp only [fOp, eOp] at h ⊢
    split at h
    · rename_i ks m hy
      obtain ⟨rfl, rfl, rfl⟩ := some3 h
      simp only [hy]; exact hK
    · cases h
  | mcur y =>
    simp only [fOp, eOp] at h ⊢
    split at h
    · rename_i g o hy
      simp only [hy]
      split at h
      · rename_i hg
        obtain ⟨h1, h2⟩ := bif_some h
        obtain ⟨rfl, rfl, rfl⟩ := some3 h2
        simp only [hg]
        exact ⟨by simpa using h1, hK⟩
      · cases h
    · cases h
  | mget ks ok agg z m k =>
    simp only [fOp, eOp] at h ⊢
    split at h
    · rename_i ks' f rd' hm
      split at h
      · rename_i q hq
        obtain ⟨h1, h2⟩ := bif_some h
        obtain rfl := eq_of_beq h1
        refine ⟨f, rd', q, hm, hq, ?_⟩
        cases hf : f q with
        | none =>
          rw [hf] at h2
          obtain ⟨rfl, rfl, rfl⟩ := some3 h2
          cases ok <;> cases agg <;> exact hK
        | some y =>
          rw [hf] at h2
          obtain ⟨rfl, rfl, rfl⟩ := some3 h2
          cases ok <;> exact hK
      · cases h
    · cases h
def okUB (n : Nat) : List (Nat × Ob) → Bool
  | [] => true
  | (g, _) :: r => decide (g < n) && okUB n r
theorem okUB_iff {n : Nat} : ∀ {u : List (Nat × Ob)}, okUB n u = true → okU n u
  | [], _ => trivial
  | (g, o) :: r, h => by
    simp only [okUB, Bool.and_eq_true] at h
    exact ⟨of_decide_eq_true h.1, okUB_iff h.2⟩
def appF (d : Option Tmp) (st : St) : Option R3 → Option (Ent × St)
  | some (x, [], rd) => some (⟨true, x, [], rd⟩, ⟨putS st.sl d x, st.ob⟩)
  | some (x, u, rd) => bif okUB (newOb st.ob u).length u then some (⟨true, x, u, rd⟩, ⟨putS st.sl d x, newOb st.ob u⟩) else none
  | none => none
def eqBo : Bool → Bool → Bool
  | true, b => b
  | false, true => false
  | false, false => true
noncomputable def fStep (P : Program) (C : CallF) (o : SOper) (st : St) : Option (Ent × St) :=
  match o.gd with
  | none => appF o.dst st (fOp P C o.op st.sl st.ob)
  | some (k, want) => match gets st.sl k with
    | .bool b => bif eqBo b want then appF o.dst st (fOp P C o.op st.sl st.ob) else some (⟨false, .tup [], [], []⟩, ⟨putS st.sl o.dst (.tup []), st.ob⟩)
    | .tup [] => some (⟨false, .tup [], [], []⟩, ⟨putS st.sl o.dst (.tup []), st.ob⟩)
    | _ => none
noncomputable def fSeq (P : Program) (C : CallF) : List SOper → St → Option St
  | [], st => some st
  | o :: r, st => match fStep P C o st with
    | some (_, st') => fSeq P C r st'
    | none => none
noncomputable def fOps (P : Program) (C : CallF) : List SOper → List Ent → St → Option (List Ent × St)
  | [], acc, st => some (acc, st)
  | o :: r, acc, st => match fStep P C o st with
    | some (e, st') => fOps P C r (acc ++ [e]) st'
    | none => none
def CallsTold (P : Program) (C : CallF) : Prop := ∀ ob f xs x u rd, C f xs ob = some (x, u, rd) → ∀ K : Kont, K x u rd → CallP P f xs (geto ob) ob.length K
section
variable {P : Program} {C : CallF}
theorem appF_e {d : Option Tmp} {st st' : St} {r : Option R3} {e : Ent} (h : appF d st r = some (e, st')) : ∃ x u rd, r = some (x, u, rd) ∧ okU (newOb st.ob u).length u ∧ e = ⟨true, x, u, rd⟩ ∧ st' = st.app d x u := by
  unfold appF at h
  split at h
  · rename_i x rd
    simp only [Option.some.injEq, Prod.mk.injEq] at h
    refine ⟨x, [], rd, rfl, trivial, h.1.symm, ?_⟩
    rw [← h.2]
    simp only [St.app, newOb_nil]
  · rename_i x u rd _
    obtain ⟨h1, h2⟩ := bif_some h
    simp only [Option.some.injEq, Prod.mk.injEq] at h2
    exact ⟨x, u, rd, rfl, okUB_iff h1, h2.1.symm, h2.2.symm⟩
  · cases h
theorem fStep_e (hC : CallsTold P C) {o : SOper} {st st' : St} {e : Ent} {K : Ent → St → Prop} (h : fStep P C o st = some (e, st')) (hK : K e st') : eStep P o st K := by
  have run : ∀ {e : Ent} {st' : St}, appF o.dst st (fOp P C o.op st.sl st.ob) = some (e, st') → K e st' → eOp P o.op (gets st.sl) (geto st.ob) st.ob.length fun x upd rd => okU (newOb st.ob upd).length upd ∧ K ⟨true, x, upd, rd⟩ (st.app o.dst x upd) := fun h hK => by
    obtain ⟨x, u, rd, h1, h2, rfl, rfl⟩ := appF_e h
    exact fOp_e h1 (fun f xs x u rd => hC st.ob f xs x u rd) ⟨h2, hK⟩
  unfold fStep at h
  unfold eStep
  split at h
  · rename_i hg
    try simp only [hg]
    exact run h hK
  · rename_i k want hg
    try simp only [hg]
    split at h
    · rename_i b hb
      simp only [hb]
      cases hw : eqBo b want with
      | true =>
        rw [hw] at h
        have e : b = want := by cases b <;> cases want <;> simp [eqBo] at hw ⊢
        exact ⟨fun _ => run h hK, fun e' => by subst e; cases b <;> cases e'⟩
      | false =>
        rw [hw] at h
        have e : ¬ b = want := by cases b <;> cases want <;> simp [eqBo] at hw ⊢
        simp only [cond_false, Option.some.injEq, Prod.mk.injEq] at h
        obtain ⟨rfl, rfl⟩ := h
        exact ⟨fun e' => absurd e' e, fun _ => hK⟩
    · rename_i ht
      simp only [ht, Option.some.injEq, Prod.mk.injEq] at h ⊢
      obtain ⟨rfl, rfl⟩ := h
      exact ⟨trivial, hK⟩
    · cases h
theorem fSeq_e (hC : CallsTold P C) : ∀ {l : List SOper} {st st' : St} {K : St → Prop}, fSeq P C l st = some st' → K st' → eSeq P l st K
  | [], st, st', K, h, hK => by
    obtain rfl := Option.some.inj h
    exact hK
  | o :: r, st, st', K, h, hK => by
    simp only [fSeq] at h
    split at h
    · rename_i e st1 h1
      exact fStep_e hC h1 (fSeq_e hC h hK)
    · cases h
theorem fOps_acc : ∀ {l : List SOper} {acc : List Ent} {st : St} {out : List Ent × St}, fOps P C l acc st = some out → ∃ es, out.1 = acc ++ es ∧ fOps P C l [] st = some (es, out.2)
  | [], acc, st, out, h => by
    obtain rfl := Option.some.inj h
    exact ⟨[], by simp, rfl⟩
  | o :: r, acc, st, out, h => by
    simp only [fOps] at h ⊢
    split at h
    · rename_i e st1 h1
      obtain ⟨es, e1, e2⟩ := fOps_acc h
      have : ∃ es', e :: es = es' ∧ fOps P C r ([] ++ [e]) st1 = some (es', out.2) := by
        have key : ∀ (l : List SOper) (a b : List Ent) (s : St) (es : List Ent) (s' : St), fOps P C l a s = some (es, s') → fOps P C l (b ++ a) s = some (b ++ es, s') := by
          intro l
          induction l with
          | nil => intro a b s es s' h; simp only [fOps, Option.some.injEq, Prod.mk.injEq] at h ⊢; exact ⟨by rw [h.1], h.2⟩
          | cons o r ih =>
            intro a b s es s' h
            simp only [fOps] at h ⊢
            split at h
            · rename_i e s1 h1
              rw [List.append_assoc]
              exact ih _ _ _ _ _ h
            · cases h
        refine ⟨_, rfl, ?_⟩
        have := key r [] [e] st1 es out.2 e2
        simpa using this
      obtain ⟨es', rfl, h3⟩ := this
      exact ⟨e :: es, by rw [e1]; simp, h3⟩
    · cases h
theorem fOps_e (hC : CallsTold P C) : ∀ {l : List SOper} {st st' : St} {es : List Ent} {K : List Ent → St → Prop}, fOps P C l [] st = some (es, st') → K es st' → eOps P l st K
  | [], st, st', es, K, h, hK => by
    simp only [fOps, Option.some.injEq, Prod.mk.injEq] at h
    obtain ⟨rfl, rfl⟩ := h
    exact hK
  | o :: r, st, st', es, K, h, hK => by
    simp only [fOps] at h
    split at h
    · rename_i e st1 h1
      obtain ⟨es', e1, e2⟩ := fOps_acc h
      simp only at e1
      subst e1
      exact fStep_e hC h1 (fOps_e hC e2 (by simpa using hK))
    · cases h
end
mutual
def SV.back (m : List Nat) : SV → Option SV
  | .ref g => match posN m g with
    | some i => some (.ref i)
    | none => none
  | .ptr g o => match posN m g with
    | some i => some (.ptr i o)
    | none => none
  | .eptr g sz k o => match posN m g with
    | some i => some (.eptr i sz k o)
    | none => none
  | .agg l => match SV.backL m l with
    | some l' => some (.agg l')
    | none => none
  | .tup l => match SV.backL m l with
    | some l' => some (.tup l')
    | none => none
  | .fn f l => match SV.backL m l with
    | some l' => some (.fn f l')
    | none => none
  | .any => some .any
  | .int k n => some (.int k n)
  | .bool b => some (.bool b)
  | .str s => some (.str s)
  | .nil => some .nil
  | .arr es => some (.arr es)
  | .vptr es k o => some (.vptr es k o)
  | .mp ks m => some (.mp ks m)
def SV.backL (m : List Nat) : List SV → Option (List SV)
  | [] => some []
  | x :: r => match SV.back m x with
    | some y => match SV.backL m r with
      | some r' => some (y :: r')
      | none => none
    | none => none
end
mutual
theorem SV.back_ren {m : List Nat} {p : Nat} : ∀ {x y : SV}, x.back m = some y → y.ren (sgp m p) = x
  | .ref g, y, h => by
    simp only [SV.back] at h
    split at h
    · rename_i i hi
      obtain rfl := Option.some.inj h
      simp only [SV.ren, sgp_pos hi]
    · cases h
  | .ptr g o, y, h => by
    simp only [SV.back] at h
    split at h
    · rename_i i hi
      obtain rfl := Option.some.inj h
      simp only [SV.ren, sgp_pos hi]
    · cases h
  | .eptr g sz k o, y, h => by
    simp only [SV.back] at h
    split at h
    · rename_i i hi
      obtain rfl := Option.some.inj h
      simp only [SV.ren, sgp_pos hi]
    · cases h
  | .agg l, y, h => by
    simp only [SV.back] at h
    split at h
    · rename_i l' hl
      obtain rfl := Option.some.inj h
      simp only [SV.ren, SV.backL_ren hl]
    · cases h
  | .tup l, y, h => by
    simp only [SV.back] at h
    split at h
    · rename_i l' hl
      obtain rfl := Option.some.inj h
      simp only [SV.ren, SV.backL_ren hl]
    · cases h
  | .fn f l, y, h => by
    simp only [SV.back] at h
    split at h
    · rename_i l' hl
      obtain rfl := Option.some.inj h
      simp only [SV.ren, SV.backL_ren hl]
    · cases h
  | .any, y, h => by obtain rfl := Option.some.inj h; rfl
  | .int k n, y, h => by obtain rfl := Option.some.inj h; rfl
  | .bool b, y, h => by obtain rfl := Option.some.inj h; rfl
  | .str s, y, h => by obtain rfl := Option.some.inj h; rfl
  | .nil, y, h => by obtain rfl := Option.some.inj h; rfl
  | .arr es, y, h => by obtain rfl := Option.some.inj h; rfl
  | .vptr es k o, y, h => by obtain rfl := Option.some.inj h; rfl
  | .mp ks m, y, h => by obtain rfl := Option.some.inj h; rfl
theorem SV.backL_ren {m : List Nat} {p : Nat} : ∀ {x y : List SV}, SV.backL m x = some y → SV.renL (sgp m p) y = x
  | [], y, h => by obtain rfl := Option.some.inj h; rfl
  | x :: r, y, h => by
    simp only [SV.backL] at h
    split at h
    · rename_i y1 h1
      split at h
      · rename_i r' h2
        obtain rfl := Option.some.inj h
        simp only [SV.renL, SV.back_ren h1, SV.backL_ren h2]
      · cases h
    · cases h
end
def holesBack (m : List Nat) : List (Nat × Nat × Nat) → Option (List (Nat × Nat × Nat))
  | [] => some []
  | (k, o, q) :: r => match posN m q with
    | some i => match holesBack m r with
      | some r' => some ((k, o, i) :: r')
      | none => none
    | none => none
theorem holesBack_ren {m : List Nat} {p : Nat} : ∀ {hs hs' : List (Nat × Nat × Nat)}, holesBack m hs = some hs' → hs'.map (fun h => (h.1, h.2.1, sgp m p h.2.2)) = hs
  | [], hs', h => by obtain rfl := Option.some.inj h; rfl
  | (k, o, q) :: r, hs', h => by
    simp only [holesBack] at h
    split at h
    · rename_i i hi
      split at h
      · rename_i r' hr
        obtain rfl := Option.some.inj h
        simp only [List.map_cons, sgp_pos hi, holesBack_ren hr]
      · cases h
    · cases h
def Ob.back (m : List Nat) : Ob → Option Ob
  | .box t l => match SV.backL m l with
    | some l' => some (.box t l')
    | none => none
  | .row t sz es => some (.row t sz es)
  | .tree es hs => match holesBack m hs with
    | some hs' => some (.tree es hs')
    | none => none
  | .gone => some .gone
  | .mp ks m => some (.mp ks m)
  | .it ks m seen cur => some (.it ks m seen cur)
  | .free => none
theorem Ob.back_ren {m : List Nat} {p : Nat} {x y : Ob} (h : x.back m = some y) : y.ren (sgp m p) = x := by
  cases x with
  | box t l =>
    simp only [Ob.back] at h
    split at h
    · rename_i l' hl
      obtain rfl := Option.some.inj h
      simp only [Ob.ren, SV.backL_ren hl]
    · cases h
  | row t sz es => obtain rfl := Option.some.inj h; rfl
  | tree es hs =>
    simp only [Ob.back] at h
    split at h
    · rename_i hs' hl
      obtain rfl := Option.some.inj h
      simp only [Ob.ren, holesBack_ren hl]
    · cases h
  | gone => obtain rfl := Option.some.inj h; rfl
  | mp ks m => obtain rfl := Option.some.inj h; rfl
  | it ks m seen cur => obtain rfl := Option.some.inj h; rfl
  | free => cases h
def backObs (m : List Nat) (ob : List Ob) : List Nat → Option (List Ob)
  | [] => some []
  | g :: r => match (geto ob g).back m with
    | some o => match backObs m ob r with
      | some l => some (o :: l)
      | none => none
    | none => none
theorem backObs_len {m : List Nat} {ob : List Ob} : ∀ {l : List Nat} {r : List Ob}, backObs m ob l = some r → r.length = l.length
  | [], r, h => by obtain rfl := Option.some.inj h; rfl
  | g :: l, r, h => by
    simp only [backObs] at h
    split at h
    · split at h
      · rename_i l' hl
        obtain rfl := Option.some.inj h
        simp [backObs_len hl]
      · cases h
    · cases h
theorem backObs_sel {m : List Nat} {ob : List Ob} {p : Nat} : ∀ (l : List Nat) (r : List Ob) (k : Nat), backObs m ob l = some r → (∀ j, j < l.length → sgp m p (k + j) = l.getD j 0) → selOk (geto ob) (sgp m p) k r
  | [], r, k, h, _ => by obtain rfl := Option.some.inj h; trivial
  | a :: l, r, k, h, hs => by
    simp only [backObs] at h
    split at h
    · rename_i o ho
      split at h
      · rename_i l' hl
        obtain rfl := Option.some.inj h
        have h0 := hs 0 (by simp)
        simp only [Nat.add_zero, List.getD_cons_zero] at h0
        refine ⟨by rw [h0, Ob.back_ren ho], backObs_sel l l' (k + 1) hl fun j hj => ?_⟩
        have := hs (j + 1) (by simpa using hj)
        simpa [Nat.add_assoc, Nat.add_comm 1 j] using this
      · cases h
    · cases h
mutual
def SV.refs : SV → List Nat
  | .ref g => [g]
  | .ptr g _ => [g]
  | .eptr g _ _ _ => [g]
  | .agg l => SV.refsS l
  | .tup l => SV.refsS l
  | .fn _ l => SV.refsS l
  | _ => []
def SV.refsS : List SV → List Nat
  | [] => []
  | x :: r => x.refs ++ SV.refsS r
end
def Ob.refs : Ob → List Nat
  | .box _ l => SV.refsS l
  | .tree _ hs => hs.map (·.2.2)
  | _ => []
def Ob.liveB : Ob → Bool
  | .free => false
  | .gone => false
  | _ => true
def reach (ob : List Ob) : Nat → List Nat → List Nat → List Nat
  | 0, _, acc => acc
  | _ + 1, [], acc => acc
  | n + 1, g :: r, acc => bif memB g acc || !(geto ob g).liveB then reach ob n r acc else reach ob n (r ++ (geto ob g).refs) (acc ++ [g])
mutual
def SV.ptrs : SV → List Nat
  | .ptr g _ => [g]
  | .eptr g _ _ _ => [g]
  | .agg l => SV.ptrsS l
  | .tup l => SV.ptrsS l
  | .fn _ l => SV.ptrsS l
  | _ => []
def SV.ptrsS : List SV → List Nat
  | [] => []
  | x :: r => x.ptrs ++ SV.ptrsS r
end
inductive RM where
  | asis
  | frz
  | late
  | own (l : List (Option (Nat × Nat)))
  | tr (l : List (Option (Nat × Nat)))
  | frl (l : List Nat)
structure FM where
  hand : List Bool
  res : RM
  ext : Option (List SV → List Ob → Option (SV × List Ob))
  tree : Bool
def handRefs : List Bool → List SV → List Nat
  | [], xs => SV.ptrsS xs
  | _, [] => []
  | b :: bs, x :: xs => (bif b then x.refs else x.ptrs) ++ handRefs bs xs
abbrev FEnv := FuncId → List SV → List Ob → Option (SV × List Ob)
def noShB (r : SV) (fob : List Ob) : Bool := r.noSh && fob.all Ob.noSh
def allLtB (n : Nat) : List Nat → Bool
  | [] => true
  | g :: r => decide (g < n) && allLtB n r
def allIdsB (n : Nat) : List Ob → Bool
  | [] => true
  | o :: r => o.idsB n && allIdsB n r
def callRes (sel lent : List Nat) (p : Nat) (r : SV) (fob' : List Ob) : R3 :=
  bif lent.isEmpty || noShB r fob' then (r.ren (sgp sel p), mkU (sgp sel p) 0 fob', lent ++ sel)
  else (r.ren (sgp sel p), mkU (sgp sel p) 0 fob' ++ gone1 lent, lent ++ sel)
def callWith (hd : List Bool) (E : FEnv) (f : FuncId) (xs : List SV) (ob : List Ob) (sel : List Nat) : Option R3 :=
  match backObs sel ob sel with
  | some fob => bif nodupB sel && allLtB ob.length sel && allIdsB fob.length fob then
      match E f (lendN hd (geto ob) sel xs) fob with
      | some (r, fob') => bif decide (fob.length ≤ fob'.length) then some (callRes sel (lentL sel xs) ob.length r fob') else none
      | none => none
      else none
  | none => none
def goneIn (gs : List Nat) : List (Nat × Ob) → List (Nat × Ob)
  | [] => []
  | (g, o) :: r => (g, bif memB g gs then .gone else o) :: goneIn gs r
def keysB (u : List (Nat × Ob)) : List Nat → Bool
  | [] => true
  | g :: r => memB g (u.map (·.1)) && keysB u r
def seen (u : List (Nat × Ob)) (g : Nat) : Ob := (lookO u g).getD .gone
def lateC : R3 → Option R3
  | (x, u, rd) => bif keysB u (lentV [] x) then some (lendV (seen u) [] x, goneIn (lentV [] x) u, rd) else none
def lateF : RM → Option R3 → Option R3
  | .late, some r => lateC r
  | .late, none => none
  | _, r => r
def fCall (M : FuncId → FM) (E : FEnv) : CallF := fun f xs ob => lateF (M f).res (callWith (M f).hand E f xs ob (reach ob 64 (handRefs (M f).hand xs) []))
theorem allLtB_iff {n : Nat} : ∀ {l : List Nat}, allLtB n l = true → ∀ g ∈ l, g < n
  | [], _, g, hg => by cases hg
  | x :: r, h, g, hg => by
    simp only [allLtB, Bool.and_eq_true] at h
    rcases List.mem_cons.1 hg with rfl | hg
    · exact of_decide_eq_true h.1
    · exact allLtB_iff h.2 g hg
theorem allIdsB_iff {n : Nat} : ∀ {l : List Ob}, allIdsB n l = true → ∀ o ∈ l, o.idsB n = true
  | [], _, g, hg => by cases hg
  | x :: r, h, g, hg => by
    simp only [allIdsB, Bool.and_eq_true] at h
    rcases List.mem_cons.1 hg with rfl | hg
    · exact h.1
    · exact allIdsB_iff h.2 g hg
theorem look_gone {l : List (Nat × Ob)} {gs : List Nat} {g : Nat} : lookO (l ++ gone1 gs) g = match lookO l g with | some o => some o | none => if g ∈ gs then some .gone else none := by
  induction l with
  | nil =>
    simp only [List.nil_append, lookO]
    induction gs with
    | nil => simp [gone1, lookO]
    | cons a r ih =>
      simp only [gone1, List.map_cons, lookO] at ih ⊢
      by_cases h : a = g
      · subst h; simp
      · have h' : ¬ g = a := fun e => h e.symm
        simp [h, h', ih]
  | cons x l ih =>
    obtain ⟨a, o⟩ := x
    simp only [List.cons_append, lookO]
    by_cases h : a = g
    · simp [h]
    · simp [h, ih]
theorem CallP.given {P : Program} {f : FuncId} {cas : List SV} {fob : List Ob} {r : SV} {fob' : List Ob} (h : Fun P f cas fob r fob') {xs : List SV} {ob : Nat → Ob} {p : Nat} {K : Kont} (sel : List Nat)
    (hargs : ∃ hd, lendN hd ob sel xs = cas) (hsel : sel.length = fob.length ∧ sel.Nodup) (hlt : ∀ g, g ∈ sel → g < p) (hlen : fob.length ≤ fob'.length) (hob : selOk ob (sgp sel p) 0 fob) (hids : ∀ o, o ∈ fob → o.idsB fob.length = true) (hfree : allFresh ob p)
    (hK : K (r.ren (sgp sel p)) (mkU (sgp sel p) 0 fob' ++ gone1 (lentL sel xs)) (lentL sel xs ++ sel)) : CallP P f xs ob p K := by
  refine ⟨_, _, _, hK, fun ob' hrd hup w I V B vs hwf hxs => ?_⟩
  obtain ⟨hsl, hsn⟩ := hsel
  have hs1 : ∀ k, k < fob.length → ∃ g, sel[k]? = some g ∧ sgp sel p k = g ∧ g < p := fun k hk => by
    have : k < sel.length := by omega
    refine ⟨sel[k], List.getElem?_eq_getElem this, by rw [sgp_get, List.getElem?_eq_getElem this], hlt _ (List.getElem_mem this)⟩
  have hs2 : ∀ k, fob.length ≤ k → sgp sel p k = p + (k - fob.length) := fun k hk => by
    rw [sgp_get, List.getElem?_eq_none (by omega), hsl]
  have hinj : ∀ i j, sgp sel p i = sgp sel p j → i = j := fun i j e => by
    rcases Nat.lt_or_ge i fob.length with h1 | h1 <;> rcases Nat.lt_or_ge j fob.length with h2 | h2
    · obtain ⟨g, g1, g2, g3⟩ := hs1 i h1
      obtain ⟨g', g1', g2', g3'⟩ := hs1 j h2
      have e2 : g = g' := by rw [← g2, ← g2', e]
      subst e2
      have a1 := posN_of hsn g1
      have a2 := posN_of hsn g1'
      rw [a1] at a2
      exact Option.some.inj a2
    · obtain ⟨g, g1, g2, g3⟩ := hs1 i h1
      have := hs2 j h2
      omega
    · obtain ⟨g, g1, g2, g3⟩ := hs1 j h2
      have := hs2 i h1
      omega
    · have := hs2 i h1
      have := hs2 j h2
      omega
  have htm : ∀ g, g ∈ (mkU (sgp sel p) 0 fob').map (·.1) ↔ ∃ k, k < fob'.length ∧ sgp sel p k = g := fun g => by
    rw [mkU_mem]
    simp
  have htouch : ∀ g, touches (mkU (sgp sel p) 0 fob' ++ gone1 (lentL sel xs)) g ↔ (∃ k, k < fob'.length ∧ sgp sel p k = g) ∨ g ∈ lentL sel xs := fun g => by
    unfold touches
    rw [List.map_append, List.mem_append, htm]
    simp [gone1]
  have hlook : ∀ k, k < fob'.length → obUpd ob' (mkU (sgp sel p) 0 fob' ++ gone1 (lentL sel xs)) (sgp sel p k) = (geto fob' k).ren (sgp sel p) := fun k hk => by
    have := mkU_look (σ := sgp sel p) (l := fob') (k := 0) (j := k) (fun i i' _ _ _ _ e => hinj i i' e) hk
    rw [Nat.zero_add] at this
    unfold obUpd
    rw [look_gone, this]; rfl
  have hlookg : ∀ g, g ∈ lentL sel xs → ¬ (obUpd ob' (mkU (sgp sel p) 0 fob' ++ gone1 (lentL sel xs)) g).live ∨ ∃ k, k < fob'.length ∧ sgp sel p k = g := fun g hg => by
    by_cases h1 : ∃ k, k < fob'.length ∧ sgp sel p k = g
    · exact .inr h1
    · left
      have h2 : lookO (mkU (sgp sel p) 0 fob') g = none := lookO_not (upd := mkU (sgp sel p) 0 fob') fun h => h1 ((htm g).1 h)
      unfold obUpd
      rw [look_gone, h2]
      simp only [hg, if_true, Option.getD_some]
      exact fun h => h
  have hobk : ∀ k, k < fob.length → ob' (sgp sel p k) = (geto fob k).ren (sgp sel p) := fun k hk => by
    have := selOk_geto hob hk
    rw [Nat.zero_add] at this
    obtain ⟨g, g1, g2, g3⟩ := hs1 k hk
    rw [← this, g2]
    exact hrd g (List.mem_append_right _ (List.mem_of_getElem? g1))
  have hnew : ∀ k, fob.length ≤ k → k < fob'.length → ob' (sgp sel p k) = .free := fun k h1 h2 => by
    rw [hup _ ((htouch _).2 (.inl ⟨k, h2, rfl⟩))]
    exact hfree _ (by rw [hs2 k h1]; omega)
  have hlv : ∀ k, (geto fob k).live → k < fob.length := fun k hl => by
    rcases Nat.lt_or_ge k fob.length with h1 | h1
    · exact h1
    · rw [geto_big _ _ h1] at hl; exact hl.elim
  have hlv' : ∀ k, (geto fob' k).live → k < fob'.length := fun k hl => by
    rcases Nat.lt_or_ge k fob'.length with h1 | h1
    · exact h1
    · rw [geto_big _ _ h1] at hl; exact hl.elim
  have hlvo : ∀ k, (geto fob k).live → (ob' (sgp sel p k)).live := fun k hl => by
    rw [hobk k (hlv k hl)]
    exact (Ob.live_ren _).2 hl
  have hlent : ∀ g, g ∈ lentL sel xs → ob' g = ob g := fun g hg => hrd g (List.mem_append_left _ hg)
  let Vc : Nat → Option Value := fun k => if k < fob.length then V (sgp sel p k) else none
  let Bc : Nat → Nat → Prop := fun k => B (sgp sel p k)
  let J : Nat → Prop := fun b => I b ∨ ∃ g, g ∈ lentL sel xs ∧ (ob' g).live ∧ B g b
  have notsel : ∀ g, g ∈ lentL sel xs → ∀ k, k < fob.length → sgp sel p k ≠ g := by
    intro g hg k hk e
    have h1 := lentL_pos xs g hg
    obtain ⟨g', g1, g2, _⟩ := hs1 k hk
    rw [g2] at e
    subst e
    rw [posN_of hsn g1] at h1
    cases h1
  have hIJ : ∀ b, I b → J b := fun b hb => .inl hb
  have hwfc : Wf w J Vc Bc (geto fob) := by
    refine ⟨fun b hb => ?_, fun k hl => ?_, fun k b hl hb => hwf.lt _ b (hlvo k hl) hb, fun k b hl hb hJ => ?_, fun k k' b hl hl' hb hb' => hinj _ _ (hwf.dO _ _ b (hlvo k hl) (hlvo k' hl') hb hb'), fun k hf => ?_, hwf.gl.keep (KeepS.refl _ _) hIJ⟩
    · rcases hb with hb | ⟨g, _, hl, hb⟩
      · exact hwf.ilt b hb
      · exact hwf.lt g b hl hb
    · have hk := hlv k hl
      obtain ⟨val, h1, h2⟩ := hwf.obj _ (hlvo k hl)
      refine ⟨val, by simp only [Vc, hk, if_true]; exact h1, ?_⟩
      rw [hobk k hk] at h2
      have h3 := (ObR.ren _).1 h2
      have h4 := ObR.idsB (n := fob.length) (V' := Vc) (fun g hg => by simp only [Vc, hg, if_true]) (hids _ (geto_mem hk)) h3
      exact h4.keep ⟨Nat.le_refl _, fun _ _ _ => rfl⟩ hIJ (VLe.refl _) fun _ _ _ => rfl
    · rcases hJ with hJ | ⟨g, hg, hlg, hgb⟩
      · exact hwf.dI _ b (hlvo k hl) hb hJ
      · exact notsel g hg k (hlv k hl) (hwf.dO _ _ b (hlvo k hl) hlg hb hgb)
    · by_cases hk : k < fob.length
      · simp only [Vc, hk, if_true]
        refine hwf.fr _ ?_
        rw [hobk k hk, hf]; rfl
      · simp only [Vc, hk, if_false]
  have hargs' : RepVs w J Vc cas vs := by
    obtain ⟨hd, hargs⟩ := hargs
    rw [← hargs, ← lendN_agree (ob := ob) (ob' := ob') hd xs hlent]
    refine lendN_rep hwf hIJ (fun g i hi => ?_) hd xs vs (fun g b hg hl hb => .inr ⟨g, hg, hl, hb⟩) hxs
    have hlt' : i < fob.length := by rw [← hsl]; exact (List.getElem?_eq_some_iff.1 (posN_spec hi)).1
    simp only [Vc, hlt', if_true, sgp_pos hi]
  refine (h w J Vc Bc vs hwfc hargs').mono ?_
  rintro e w' ⟨v, I', V', B', rfl, hr, hpost⟩
  obtain ⟨hfr, hi0, hi1, hv, hwf', hbh⟩ := hpost
  have hHB : ∀ b, HB Bc fob b → ∃ g, touches (mkU (sgp sel p) 0 fob' ++ gone1 (lentL sel xs)) g ∧ (ob' g).live ∧ B g b := fun b ⟨k, hl, hb⟩ => ⟨sgp sel p k, (htouch _).2 (.inl ⟨k, by have := hlv k hl; omega, rfl⟩), hlvo k hl, hb⟩
  classical
  let V2 : Nat → Option Value := fun g => if hg : ∃ k, k < fob'.length ∧ sgp sel p k = g then V' (Classical.choose hg) else V g
  let B2 : Nat → Nat → Prop := fun g => if hg : ∃ k, k < fob'.length ∧ sgp sel p k = g then B' (Classical.choose hg) else B g
  have hV2 : ∀ k, k < fob'.length → V2 (sgp sel p k) = V' k := fun k hk => by
    have hg : ∃ k', k' < fob'.length ∧ sgp sel p k' = sgp sel p k := ⟨k, hk, rfl⟩
    have : V2 (sgp sel p k) = V' (Classical.choose hg) := dif_pos hg
    rw [this, hinj _ _ (Classical.choose_spec hg).2]
  have hB2 : ∀ k, k < fob'.length → B2 (sgp sel p k) = B' k := fun k hk => by
    have hg : ∃ k', k' < fob'.length ∧ sgp sel p k' = sgp sel p k := ⟨k, hk, rfl⟩
    have : B2 (sgp sel p k) = B' (Classical.choose hg) := dif_pos hg
    rw [this, hinj _ _ (Classical.choose_spec hg).2]
  have hV2n : ∀ g, ¬ (∃ k, k < fob'.length ∧ sgp sel p k = g) → V2 g = V g := fun g hg => dif_neg hg
  have hB2n : ∀ g, ¬ (∃ k, k < fob'.length ∧ sgp sel p k = g) → B2 g = B g := fun g hg => dif_neg hg
  have hVV : VLe V V2 := fun g u hu => by
    by_cases hg : ∃ k, k < fob'.length ∧ sgp sel p k = g
    · obtain ⟨k, hk, rfl⟩ := hg
      rw [hV2 k hk]
      by_cases h1 : k < fob.length
      · exact hv k u (by simp only [Vc, h1, if_true]; exact hu)
      · rw [hwf.fr _ (hnew k (by omega) hk)] at hu; cases hu
    · rw [hV2n g hg]; exact hu
  have hV'σ : VLe V' (fun k => V2 (sgp sel p k)) := fun k u hu => by
    rcases Nat.lt_or_ge k fob'.length with h1 | h1
    · simp only [hV2 k h1]; exact hu
    · rw [hwf'.fr k (geto_big _ _ h1)] at hu; cases hu
  have kr : KeepS I' w' w' := ⟨Nat.le_refl _, fun _ _ _ => rfl⟩
  have hres : RepV w' I' V2 (r.ren (sgp sel p)) v := (RepV.ren r v).2 (RepV.mono kr (fun b hb => hb) hV'σ _ _ hr)
  have hobr : ∀ k, (geto fob' k).live → ∃ val, V2 (sgp sel p k) = some val ∧ ObR w' I' V2 (B2 (sgp sel p k)) val ((geto fob' k).ren (sgp sel p)) := fun k hl => by
    have hk := hlv' k hl
    obtain ⟨val, h1, h2⟩ := hwf'.obj k hl
    refine ⟨val, by rw [hV2 k hk]; exact h1, (ObR.ren _).2 ?_⟩
    rw [hB2 k hk]
    exact h2.keep kr (fun b hb => hb) hV'σ fun _ _ _ => rfl
  let T : Nat → Prop := touches (mkU (sgp sel p) 0 fob' ++ gone1 (lentL sel xs))
  have hi2 : ∀ b, I' b → I b ∨ w.heap.size ≤ b ∨ ∃ g, T g ∧ (ob' g).live ∧ B g b := fun b hb => by
    rcases hi1 b hb with h1 | h1 | h1
    · rcases h1 with h1 | ⟨g, h1, h2, h3⟩
      · exact .inl h1
      · exact .inr (.inr ⟨g, (htouch g).2 (.inr h1), h2, h3⟩)
    · exact .inr (.inl h1)
    · exact .inr (.inr (hHB b h1))
  have hkeep : ∀ b, b < w.heap.size → (∀ g, T g → (ob' g).live → ¬ B g b) → w'.heap[b]? = w.heap[b]? := fun b hb hno => hfr.block b hb fun hH => by
    obtain ⟨g, h1, h2, h3⟩ := hHB b hH
    exact hno g h1 h2 h3
  have live2 : ∀ k, k < fob'.length → (obUpd ob' (mkU (sgp sel p) 0 fob' ++ gone1 (lentL sel xs)) (sgp sel p k)).live → (geto fob' k).live := fun k hk hl => by
    rw [hlook k hk] at hl
    exact (Ob.live_ren _).1 hl
  have liveT : ∀ g, T g → (obUpd ob' (mkU (sgp sel p) 0 fob' ++ gone1 (lentL sel xs)) g).live → ∃ k, k < fob'.length ∧ sgp sel p k = g := fun g hg hl => by
    rcases (htouch g).1 hg with h1 | h1
    · exact h1
    · rcases hlookg g h1 with h2 | h2
      · exact absurd hl h2
      · exact h2
  have hbf : ∀ k b, (geto fob' k).live → B' k b → (w.heap.size ≤ b ∧ b < w'.heap.size) ∨ ∃ g0, T g0 ∧ (ob' g0).live ∧ B g0 b := fun k b hl hb => by
    rcases hbh k b hl hb with h1 | h1
    · exact .inr (hHB b h1)
    · exact .inl ⟨h1, hwf'.lt k b hl hb⟩
  have hwf2 : Wf w' I' V2 B2 (obUpd ob' (mkU (sgp sel p) 0 fob' ++ gone1 (lentL sel xs))) := by
    refine hwf.upd T hfr.size hkeep (fun b hb => hi0 b (hIJ b hb)) hVV (fun g hg => ⟨obUpd_not hg, hB2n g (fun h => hg ((htouch g).2 (.inl h))), fun hf => by rw [hV2n g (fun h => hg ((htouch g).2 (.inl h)))]; exact hwf.fr g hf⟩) hi2 (fun b hb => hwf'.ilt b hb) (fun g hg hl => ?_) (fun g b hg hl hb => ?_) (fun g b hg hl hb hI => ?_) (fun g g' b hg hg' hl hl' hb hb' => ?_) (fun g hg hf => ?_)
    · obtain ⟨k, hk, rfl⟩ := liveT g hg hl
      rw [hlook k hk]
      exact hobr k (live2 k hk hl)
    · obtain ⟨k, hk, rfl⟩ := liveT g hg hl
      rw [hB2 k hk] at hb
      exact hbf k b (live2 k hk hl) hb
    · obtain ⟨k, hk, rfl⟩ := liveT g hg hl
      rw [hB2 k hk] at hb
      exact hwf'.dI k b (live2 k hk hl) hb hI
    · obtain ⟨k, hk, rfl⟩ := liveT g hg hl
      obtain ⟨k', hk', rfl⟩ := liveT g' hg' hl'
      rw [hB2 k hk] at hb
      rw [hB2 k' hk'] at hb'
      rw [hwf'.dO k k' b (live2 k hk hl) (live2 k' hk' hl') hb hb']
    · by_cases h1 : ∃ k, k < fob'.length ∧ sgp sel p k = g
      · obtain ⟨k, hk, rfl⟩ := h1
        rw [hV2 k hk]
        rw [hlook k hk] at hf
        refine hwf'.fr k ?_
        cases hq : geto fob' k <;> rw [hq] at hf <;> simp [Ob.ren] at hf ⊢
      · exfalso
        rcases (htouch g).1 hg with h2 | h2
        · exact h1 h2
        · have h3 : lookO (mkU (sgp sel p) 0 fob') g = none := lookO_not (upd := mkU (sgp sel p) 0 fob') fun h => h1 ((htm g).1 h)
          unfold obUpd at hf
          rw [look_gone, h3] at hf
          simp only [h2, if_true, Option.getD_some] at hf
          cases hf
  refine ⟨v, I', V2, B2, rfl, hres, ⟨hwf2, hfr.os, hfr.tape, hfr.output, hfr.size, hkeep, fun b hb => hi0 b (hIJ b hb), hi2, hVV, fun g hg => hB2n g fun h => hg ((htouch g).2 (.inl h)), fun g b hg hl hb => ?_⟩⟩
  obtain ⟨k, hk, rfl⟩ := liveT g hg hl
  rw [hB2 k hk] at hb
  exact (hbf k b (live2 k hk hl) hb).imp (fun h => h.1) id
theorem noShB_iff {r : SV} {l : List Ob} (h : noShB r l = true) : r.noSh = true ∧ ∀ o, o ∈ l → o.noSh = true := by
  unfold noShB at h
  rw [Bool.and_eq_true] at h
  exact ⟨h.1, List.all_eq_true.1 h.2⟩
def EnvTold (P : Program) (E : FEnv) : Prop := ∀ f xs ob r ob', E f xs ob = some (r, ob') → Fun P f xs ob r ob'
theorem callWith_told {P : Program} {E : FEnv} (hE : EnvTold P E) {hd : List Bool} {f : FuncId} {xs : List SV} {ob : List Ob} {sel : List Nat} {x : SV} {u : List (Nat × Ob)} {rd : List Nat} (h : callWith hd E f xs ob sel = some (x, u, rd)) (K : Kont) (hK : K x u rd) : CallP P f xs (geto ob) ob.length K := by
  unfold callWith at h
  split at h
  · rename_i fob hfob
    obtain ⟨h1, h2⟩ := bif_some h
    split at h2
    · rename_i r fob' hr
      obtain ⟨h3, h4⟩ := bif_some h2
      simp only [Bool.and_eq_true] at h1
      have hlen := backObs_len hfob
      have hsel : selOk (geto ob) (sgp sel ob.length) 0 fob := backObs_sel sel fob 0 hfob fun j hj => by
        rw [Nat.zero_add, sgp_get, List.getElem?_eq_getElem hj]
        simp [List.getD_eq_getElem?_getD, List.getElem?_eq_getElem hj]
      have h4 : callRes sel (lentL sel xs) ob.length r fob' = (x, u, rd) := Option.some.inj h4
      unfold callRes at h4
      cases hb : ((lentL sel xs).isEmpty || noShB r fob') with
      | true =>
        rw [hb] at h4
        simp only [cond_true, Prod.mk.injEq] at h4
        obtain ⟨rfl, rfl, rfl⟩ := h4
        refine CallP.of (hE f _ _ _ _ hr) sel ⟨hd, rfl⟩ ⟨hlen.symm, nodupB_iff.1 h1.1.1⟩ (allLtB_iff h1.1.2) (of_decide_eq_true h3) hsel (allIdsB_iff h1.2) (geto_fresh rfl) ?_ hK
        rw [Bool.or_eq_true] at hb
        exact hb.imp isEmpty_nil noShB_iff
      | false =>
        rw [hb] at h4
        simp only [cond_false, Prod.mk.injEq] at h4
        obtain ⟨rfl, rfl, rfl⟩ := h4
        exact CallP.given (hE f _ _ _ _ hr) sel ⟨hd, rfl⟩ ⟨hlen.symm, nodupB_iff.1 h1.1.1⟩ (allLtB_iff h1.1.2) (of_decide_eq_true h3) hsel (allIdsB_iff h1.2) (geto_fresh rfl) hK
    · cases h2
  · cases h
theorem goneIn_look {gs : List Nat} {g : Nat} : ∀ {u : List (Nat × Ob)}, lookO (goneIn gs u) g = if g ∈ gs then (lookO u g).map (fun _ => .gone) else lookO u g
  | [] => by simp [goneIn, lookO]
  | (a, o) :: u => by
    rw [goneIn, lookO, lookO]
    by_cases h : a = g
    · subst h
      rw [if_pos rfl, if_pos rfl]
      by_cases hm : a ∈ gs
      · rw [if_pos hm, memB_iff.2 hm]; rfl
      · have : memB a gs = false := by
          cases e : memB a gs with
          | false => rfl
          | true => exact absurd (memB_iff.1 e) hm
        rw [if_neg hm, this]; rfl
    · rw [if_neg h, if_neg h, goneIn_look]
theorem goneIn_keys {gs : List Nat} : ∀ {u : List (Nat × Ob)}, (goneIn gs u).map (·.1) = u.map (·.1)
  | [] => rfl
  | (a, o) :: u => by rw [goneIn, List.map_cons, List.map_cons, goneIn_keys]
theorem keysB_iff {u : List (Nat × Ob)} : ∀ {l : List Nat}, keysB u l = true → ∀ g ∈ l, g ∈ u.map (·.1)
  | [], _, g, hg => by cases hg
  | x :: r, h, g, hg => by
    simp only [keysB, Bool.and_eq_true] at h
    rcases List.mem_cons.1 hg with rfl | hg
    · exact memB_iff.1 h.1
    · exact keysB_iff h.2 g hg
theorem look_key {u : List (Nat × Ob)} {g : Nat} (h : g ∈ u.map (·.1)) : ∃ o, lookO u g = some o := by
  induction u with
  | nil => cases h
  | cons q r ih =>
    obtain ⟨a, o⟩ := q
    rw [lookO]
    by_cases e : a = g
    · exact ⟨o, if_pos e⟩
    · rw [if_neg e]
      simp only [List.map_cons, List.mem_cons] at h
      exact ih (h.resolve_left fun h => e h.symm)
theorem Wf.less {w : World} {I : Nat → Prop} {V : Nat → Option Value} {B : Nat → Nat → Prop} {ob ob2 : Nat → Ob} (h : Wf w I V B ob) (hl : ∀ g, ob2 g = ob g ∨ ob2 g = .gone) : Wf w I V B ob2 := by
  have live : ∀ g, (ob2 g).live → ob2 g = ob g := fun g hg => (hl g).resolve_right fun e => by rw [e] at hg; exact hg.elim
  refine ⟨h.ilt, fun g hg => ?_, fun g b hg => ?_, fun g b hg => ?_, fun g g' b hg hg' => ?_, fun g hg => ?_, h.gl⟩
  · have e := live g hg
    rw [e] at hg ⊢; exact h.obj g hg
  · rw [live g hg] at hg; exact h.lt g b hg
  · rw [live g hg] at hg; exact h.dI g b hg
  · rw [live g hg] at hg; rw [live g' hg'] at hg'; exact h.dO g g' b hg hg'
  · rcases hl g with e | e
    · rw [e] at hg; exact h.fr g hg
    · rw [e] at hg; cases hg
theorem CallOK.late {P : Program} {f : FuncId} {xs : List SV} {ob : Nat → Ob} {x : SV} {u : List (Nat × Ob)} (h : CallOK P f xs ob x u) (hk : ∀ g ∈ lentV [] x, g ∈ u.map (·.1)) : CallOK P f xs ob (lendV (seen u) [] x) (goneIn (lentV [] x) u) := by
  intro w I V B vs hwf hvs
  refine (h w I V B vs hwf hvs).mono ?_
  rintro e w' ⟨v, I', V', B', rfl, hr, ha⟩
  have hwf' := ha.wf
  have hseen : ∀ g, seen u g = obUpd ob u g ∨ seen u g = .gone := fun g => by
    unfold seen obUpd
    cases lookO u g with
    | none => exact .inr rfl
    | some o => exact .inl rfl
  have hseenk : ∀ g, g ∈ u.map (·.1) → seen u g = obUpd ob u g := fun g hg => by
    obtain ⟨o, ho⟩ := look_key hg
    unfold seen obUpd
    rw [ho]; rfl
  have hnew : ∀ g, obUpd ob (goneIn (lentV [] x) u) g = if g ∈ lentV [] x then .gone else obUpd ob u g := fun g => by
    unfold obUpd
    rw [goneIn_look]
    by_cases hm : g ∈ lentV [] x
    · obtain ⟨o, ho⟩ := look_key (hk g hm)
      rw [if_pos hm, if_pos hm, ho]; rfl
    · rw [if_neg hm, if_neg hm]
  have hlive : ∀ g, (obUpd ob (goneIn (lentV [] x) u) g).live → (obUpd ob u g).live ∧ g ∉ lentV [] x := fun g hl => by
    rw [hnew g] at hl
    by_cases hm : g ∈ lentV [] x
    · rw [if_pos hm] at hl; exact hl.elim
    · rw [if_neg hm] at hl; exact ⟨hl, hm⟩
  have htch : ∀ g, touches (goneIn (lentV [] x) u) g ↔ touches u g := fun g => by unfold touches; rw [goneIn_keys]
  let J : Nat → Prop := fun b => I' b ∨ ∃ g, g ∈ lentV [] x ∧ (obUpd ob u g).live ∧ B' g b
  refine ⟨v, J, V', B', rfl, ?_, ⟨⟨fun b hb => ?_, fun g hg => ?_, fun g b hg hb => hwf'.lt g b (hlive g hg).1 hb, fun g b hg hb hJ => ?_, fun g g' b hg hg' hb hb' => hwf'.dO g g' b (hlive g hg).1 (hlive g' hg').1 hb hb', fun g hg => ?_, hwf'.gl.keep (KeepS.refl _ _) fun _ h => .inl h⟩, ha.os, ha.tape, ha.output, ha.size, fun b hb hno => ha.block b hb fun g hg => hno g ((htch g).2 hg), fun b hb => .inl (ha.i0 b hb), fun b hb => ?_, ha.v, fun g hg => ha.out g fun h => hg ((htch g).2 h), fun g b hg hl hb => ?_⟩⟩
  · exact lendV_rep (hwf'.less hseen) (fun b hb => .inl hb) (fun g i hi => by cases hi) x v (fun g b hm hl hb => .inr ⟨g, hm, by rw [← hseenk g (hk g hm)]; exact hl, hb⟩) hr
  · rcases hb with hb | ⟨g, _, hl, hb⟩
    · exact hwf'.ilt b hb
    · exact hwf'.lt g b hl hb
  · obtain ⟨h1, h2⟩ := hlive g hg
    rw [hnew g, if_neg h2]
    obtain ⟨val, h3, h4⟩ := hwf'.obj g h1
    exact ⟨val, h3, h4.keep (KeepS.refl _ _) (fun _ h => .inl h) (VLe.refl _) fun _ _ _ => rfl⟩
  · obtain ⟨h1, h2⟩ := hlive g hg
    rcases hJ with hJ | ⟨g', hm, hl, hb'⟩
    · exact hwf'.dI g b h1 hb hJ
    · rw [hwf'.dO g g' b h1 hl hb hb'] at h2
      exact h2 hm
  · rw [hnew g] at hg
    by_cases hm : g ∈ lentV [] x
    · rw [if_pos hm] at hg; cases hg
    · rw [if_neg hm] at hg; exact hwf'.fr g hg
  · rcases hb with hb | ⟨g, hm, hl, hb⟩
    · rcases ha.i1 b hb with h1 | h1 | ⟨g, h1, h2⟩
      · exact .inl h1
      · exact .inr (.inl h1)
      · exact .inr (.inr ⟨g, (htch g).2 h1, h2⟩)
    · rcases ha.b1 g b (hk g hm) hl hb with h1 | ⟨g0, h1, h2⟩
      · exact .inr (.inl h1)
      · exact .inr (.inr ⟨g0, (htch g0).2 h1, h2⟩)
  · rcases ha.b1 g b ((htch g).1 hg) (hlive g hl).1 hb with h1 | ⟨g0, h1, h2⟩
    · exact .inl h1
    · exact .inr ⟨g0, (htch g0).2 h1, h2⟩
theorem fCall_told {P : Program} {M : FuncId → FM} {E : FEnv} (hE : EnvTold P E) : CallsTold P (fCall M E) := fun ob f xs x u rd h K hK => by
  unfold fCall at h
  cases hm : (M f).res with
  | asis => rw [hm] at h; exact callWith_told hE h K hK
  | frz => rw [hm] at h; exact callWith_told hE h K hK
  | own l => rw [hm] at h; exact callWith_told hE h K hK
  | tr l => rw [hm] at h; exact callWith_told hE h K hK
  | frl l => rw [hm] at h; exact callWith_told hE h K hK
  | late =>
    rw [hm] at h
    cases hq : callWith (M f).hand E f xs ob (reach ob 64 (handRefs (M f).hand xs) []) with
    | none => rw [hq] at h; cases h
    | some q =>
      obtain ⟨x0, u0, rd0⟩ := q
      rw [hq] at h
      have h : lateC (x0, u0, rd0) = some (x, u, rd) := h
      unfold lateC at h
      obtain ⟨h1, h2⟩ := bif_some h
      simp only [Option.some.injEq, Prod.mk.injEq] at h2
      obtain ⟨rfl, rfl, rfl⟩ := h2
      obtain ⟨x1, u1, rd1, ⟨rfl, rfl, rfl⟩, hall⟩ := callWith_told hE hq (fun a b c => a = x0 ∧ b = u0 ∧ c = rd0) ⟨rfl, rfl, rfl⟩
      exact ⟨_, _, _, hK, fun ob' h3 h4 => (hall ob' h3 fun g hg => h4 g (by rw [goneIn_keys]; exact hg)).late (keysB_iff h1)⟩
end Go.Proofs.YtibdknkacmimgaaGreat
