/-
  This text says how trees of integers, booleans, strings and slices lie in memory, with and without memory that is shared. No condition.
-/
import Derived.Test.YtpbakldlhjdipaaReps
set_option maxRecDepth 100000
set_option linter.unusedSimpArgs false
set_option linter.unusedVariables false
namespace Go.Proofs.Ytpbakldlhjdipaa
open Go.RowKit

/-- Data: a slice's elements are lists of leaves (a struct is its leaves, one behind the other). -/
inductive D where
  | int (n : Int)
  | bool (b : Bool)
  | str (s : ByteArray)
  | arr (es : List (List D))

/-- What lies in blocks of S is as it was. -/
structure KeepS (S : Nat → Prop) (w w' : World) : Prop where
  size : w.heap.size ≤ w'.heap.size
  block : ∀ b, S b → b < w.heap.size → w'.heap[b]? = w.heap[b]?
theorem KeepS.refl (S : Nat → Prop) (w : World) : KeepS S w w := ⟨Nat.le_refl _, fun _ _ _ => rfl⟩
theorem KeepS.trans {S : Nat → Prop} {a b c : World} (h : KeepS S a b) (k : KeepS S b c) : KeepS S a c :=
  ⟨Nat.le_trans h.size k.size, fun i h1 h2 => (k.block i h1 (Nat.lt_of_lt_of_le h2 h.size)).trans (h.block i h1 h2)⟩
theorem KeepS.sub {S S' : Nat → Prop} {a b : World} (h : KeepS S a b) (hs : ∀ x, S' x → S x) : KeepS S' a b := ⟨h.size, fun i h1 h2 => h.block i (hs i h1) h2⟩
theorem KeepS.of {w w' : World} (h : Below w.heap.size w w') (S : Nat → Prop) : KeepS S w w' := ⟨h.size, fun i _ h2 => h.block i h2⟩
theorem KeepS.via {S : Nat → Prop} {B : Nat} {a b c : World} (h : KeepS S a b) (k : Below B b c) (hB : b.heap.size ≤ B) : KeepS S a c := h.trans ⟨k.size, fun i _ h2 => k.block i (Nat.lt_of_lt_of_le h2 hB)⟩
theorem KeepS.setCell {S : Nat → Prop} {a w : World} (h : KeepS S a w) {p : Addr} (hp : ¬ S p.block) (u : Value) : KeepS S a (w.setCell p u) :=
  h.trans ⟨by simp [World.setCell], fun i h1 _ => Below.heap_setCell _ _ _ _ (fun e => hp (e ▸ h1))⟩
theorem KeepS.alloc {S : Nat → Prop} {a w : World} (h : KeepS S a w) (o : Obj) : KeepS S a (w.alloc o) := h.trans ⟨by simp, fun i _ h2 => Below.heap_alloc _ _ _ h2⟩
theorem KeepS.drewN' {S : Nat → Prop} {a w : World} (h : KeepS S a w) (n : Nat) : KeepS S a (w.drewN n) := h.trans ⟨Nat.le_refl _, fun _ _ _ => rfl⟩
theorem KeepS.cell {S : Nat → Prop} {w w' : World} (h : KeepS S w w') {b o : Nat} (hb : S b) (hl : b < w.heap.size) : w'.cell? ⟨b, o, none⟩ = w.cell? ⟨b, o, none⟩ :=
  World.cell?_of_block (w := w) (w' := w') (a := ⟨b, o, none⟩) (h.block b hb hl)
theorem KeepS.frozen {S : Nat → Prop} {w w' : World} (h : KeepS S w w') {b o : Nat} (hb : S b) (hl : b < w.heap.size) : w'.frozen? ⟨b, o, none⟩ = w.frozen? ⟨b, o, none⟩ :=
  World.frozen?_of_block (w := w) (w' := w') (a := ⟨b, o, none⟩) (h.block b hb hl)

/-- A slice's row in a block of S; where it is owned, the block is none of the elements' and may be written. -/
def RowS (own : Bool) (w : World) (S : Nat → Prop) (sz n : Nat) (f : Nat → Nat → Value) (Sub : Nat → Nat → Nat → Prop) (a : Option Addr) : Prop :=
  n = 0 ∨ ∃ b off, a = some ⟨b, off, none⟩ ∧ S b ∧ b < w.heap.size ∧ (∀ i j, i < n → j < sz → w.cell? ⟨b, off + i * sz + j, none⟩ = some (f i j)) ∧
    (own = true → (∀ i j, ¬ Sub i j b) ∧ ∀ o, w.frozen? ⟨b, o, none⟩ = false)

/-- The value reads as the data, in blocks of S; owned: no block is met twice. -/
inductive DRep (own : Bool) (w : World) : (Nat → Prop) → D → Value → Prop
  | int (S : Nat → Prop) (n : Int) : DRep own w S (.int n) (.int .i64 n)
  | bool (S : Nat → Prop) (b : Bool) : DRep own w S (.bool b) (.bool b)
  | str (S : Nat → Prop) (s : ByteArray) (h : s.size ≤ 9223372036854775807) : DRep own w S (.str s) (.string s)
  | arr (S : Nat → Prop) (sz : Nat) (es : List (List D)) (a : Option Addr) (cap : Nat) (f : Nat → Nat → Value) (Sub : Nat → Nat → Nat → Prop)
      (h1 : es.length ≤ cap) (h2 : cap ≤ 9223372036854775807) (h3 : RowS own w S sz es.length f Sub a) (h4 : ∀ i (h : i < es.length), es[i].length = sz)
      (h5 : ∀ i j x, Sub i j x → S x) (h6 : own = true → ∀ i j i' j' x, Sub i j x → Sub i' j' x → i = i' ∧ j = j')
      (h7 : ∀ i j (h : i < es.length) (h' : j < es[i].length), DRep own w (Sub i j) (es[i][j]) (f i j)) : DRep own w S (.arr es) (.slice a es.length cap)

section
variable {own : Bool} {w w' : World} {S S' : Nat → Prop} {d : D} {v : Value} {sz n : Nat} {f : Nat → Nat → Value} {Sub : Nat → Nat → Nat → Prop} {a : Option Addr}

theorem RowS.keep (h : RowS own w S sz n f Sub a) (hb : KeepS S w w') : RowS own w' S sz n f Sub a := by
  rcases h with h | ⟨b, off, ha, hS, hl, hc, ho⟩
  · exact .inl h
  · refine .inr ⟨b, off, ha, hS, Nat.lt_of_lt_of_le hl hb.size, fun i j hi hj => ?_, fun h => ⟨(ho h).1, fun o => ?_⟩⟩
    · rw [hb.cell hS hl]; exact hc i j hi hj
    · rw [hb.frozen hS hl]; exact (ho h).2 o
theorem DRep.keep (h : DRep own w S d v) (hb : KeepS S w w') : DRep own w' S d v := by
  induction h with
  | int S n => exact .int S n
  | bool S b => exact .bool S b
  | str S s h => exact .str S s h
  | arr S sz es a cap f Sub h1 h2 h3 h4 h5 h6 h7 ih =>
    exact .arr S sz es a cap f Sub h1 h2 (h3.keep hb) h4 h5 h6 fun i j hi hj => ih i j hi hj (hb.sub fun x hx => h5 i j x hx)
theorem DRep.keepB (h : DRep own w S d v) (hb : Below w.heap.size w w') : DRep own w' S d v := h.keep (KeepS.of hb S)
theorem DRep.up (h : DRep own w S d v) (hs : ∀ x, S x → S' x) : DRep own w S' d v := by
  cases h with
  | int S n => exact .int S' n
  | bool S b => exact .bool S' b
  | str S s h => exact .str S' s h
  | arr S sz es a cap f Sub h1 h2 h3 h4 h5 h6 h7 =>
    refine .arr S' sz es a cap f Sub h1 h2 ?_ h4 (fun i j x hx => hs x (h5 i j x hx)) h6 h7
    rcases h3 with h | ⟨b, off, ha, hS, hl, hc, ho⟩
    · exact .inl h
    · exact .inr ⟨b, off, ha, hs b hS, hl, hc, ho⟩
theorem DRep.weak (h : DRep true w S d v) : DRep false w S d v := by
  induction h with
  | int S n => exact .int S n
  | bool S b => exact .bool S b
  | str S s h => exact .str S s h
  | arr S sz es a cap f Sub h1 h2 h3 h4 h5 h6 h7 ih =>
    refine .arr S sz es a cap f Sub h1 h2 ?_ h4 h5 (fun h => by cases h) ih
    rcases h3 with h | ⟨b, off, ha, hS, hl, hc, ho⟩
    · exact .inl h
    · exact .inr ⟨b, off, ha, hS, hl, hc, fun h => by cases h⟩
/-- Read only: any blocks. -/
theorem DRep.any_ (h : DRep own w S d v) : DRep false w (fun _ => True) d v := by
  cases own
  · exact h.up fun _ _ => trivial
  · exact h.weak.up fun _ _ => trivial
end

/-- As read: any blocks, sharing allowed. -/
def DAt (w : World) (d : D) (v : Value) : Prop := DRep false w (fun _ => True) d v
/-- As owned: blocks from lo on, nothing shared. -/
def DOwn (w : World) (lo : Nat) (d : D) (v : Value) : Prop := DRep true w (fun b => lo ≤ b ∧ b < w.heap.size) d v
section
variable {w w' : World} {d : D} {v : Value} {lo lo' : Nat}
theorem DAt.keep (h : DAt w d v) (hb : Below w.heap.size w w') : DAt w' d v := DRep.keepB h hb
theorem DOwn.at_ (h : DOwn w lo d v) : DAt w d v := DRep.any_ h
theorem DOwn.keep (h : DOwn w lo d v) (hb : Below w.heap.size w w') : DOwn w' lo d v := (DRep.keepB h hb).up fun x hx => ⟨hx.1, Nat.lt_of_lt_of_le hx.2 hb.size⟩
theorem DOwn.low (h : DOwn w lo d v) (hl : lo' ≤ lo) : DOwn w lo' d v := DRep.up h fun x hx => ⟨Nat.le_trans hl hx.1, hx.2⟩
theorem DAt.int_inv {n : Int} (h : DAt w (.int n) v) : v = .int .i64 n := by unfold DAt at h; cases h; rfl
theorem DAt.bool_inv {b : Bool} (h : DAt w (.bool b) v) : v = .bool b := by unfold DAt at h; cases h; rfl
theorem DAt.str_inv {s : ByteArray} (h : DAt w (.str s) v) : v = .string s ∧ s.size ≤ 9223372036854775807 := by
  unfold DAt at h; cases h with | str _ _ h => exact ⟨rfl, h⟩
theorem DAt.arr_inv {es : List (List D)} (h : DAt w (.arr es) v) : ∃ sz a cap f, v = .slice a es.length cap ∧ es.length ≤ cap ∧ cap ≤ 9223372036854775807 ∧ SlA w 0 sz es.length f a ∧ (∀ i (h : i < es.length), es[i].length = sz) ∧ ∀ i j (h : i < es.length) (h' : j < es[i].length), DAt w (es[i][j]) (f i j) := by
  unfold DAt at h
  cases h with
  | arr S sz es a cap f Sub h1 h2 h3 h4 h5 h6 h7 =>
    refine ⟨sz, a, cap, f, rfl, h1, h2, ?_, h4, fun i j hi hj => (h7 i j hi hj).any_⟩
    rcases h3 with h | ⟨b, off, ha, hS, hl, hc, ho⟩
    · exact .inl h
    · exact .inr ⟨b, off, ha, Nat.zero_le _, hl, hc⟩
theorem DAt.arr_mk {es : List (List D)} {sz cap : Nat} {a : Option Addr} {f : Nat → Nat → Value} (h1 : es.length ≤ cap) (h2 : cap ≤ 9223372036854775807) {lo : Nat} (h3 : SlA w lo sz es.length f a) (h4 : ∀ i (h : i < es.length), es[i].length = sz)
    (h7 : ∀ i j (h : i < es.length) (h' : j < es[i].length), DAt w (es[i][j]) (f i j)) : DAt w (.arr es) (.slice a es.length cap) := by
  refine DRep.arr _ sz es a cap f (fun _ _ _ => True) h1 h2 ?_ h4 (fun _ _ _ _ => trivial) (fun h => by cases h) h7
  rcases h3 with h | ⟨b, off, ha, hlo, hl, hc⟩
  · exact .inl h
  · exact .inr ⟨b, off, ha, trivial, hl, hc, fun h => by cases h⟩
end

/-! Leaves that own one interval of blocks behind the other. -/
inductive Leaves (w : World) : Nat → Nat → List D → List Value → Prop
  | nil (lo hi : Nat) (h : lo ≤ hi) : Leaves w lo hi [] []
  | cons (lo mid hi : Nat) (d : D) (v : Value) (ds : List D) (vs : List Value) (h : lo ≤ mid) (h1 : DRep true w (fun b => lo ≤ b ∧ b < mid) d v) (h2 : Leaves w mid hi ds vs) : Leaves w lo hi (d :: ds) (v :: vs)

section
variable {w w' : World} {lo mid hi lo' hi' : Nat} {d : D} {v : Value} {ds ds' : List D} {vs vs' : List Value}
theorem Leaves.le (h : Leaves w lo hi ds vs) : lo ≤ hi := by
  induction h with
  | nil lo hi h => exact h
  | cons lo mid hi d v ds vs h h1 h2 ih => omega
theorem Leaves.len (h : Leaves w lo hi ds vs) : ds.length = vs.length := by
  induction h with
  | nil lo hi h => rfl
  | cons lo mid hi d v ds vs h h1 h2 ih => simp [ih]
theorem Leaves.keep (h : Leaves w lo hi ds vs) (hb : KeepS (fun b => lo ≤ b ∧ b < hi) w w') : Leaves w' lo hi ds vs := by
  induction h with
  | nil lo hi h => exact .nil lo hi h
  | cons lo mid hi d v ds vs h h1 h2 ih =>
    have := h2.le
    exact .cons lo mid hi d v ds vs h (h1.keep (hb.sub fun x hx => ⟨hx.1, by omega⟩)) (ih (hb.sub fun x hx => ⟨by omega, hx.2⟩))
theorem Leaves.wide (h : Leaves w lo hi ds vs) (h' : hi ≤ hi') : Leaves w lo hi' ds vs := by
  induction h with
  | nil lo hi h => exact .nil lo hi' (by omega)
  | cons lo mid hi d v ds vs h h1 h2 ih => exact .cons lo mid hi' d v ds vs h h1 (ih h')
theorem Leaves.low (h : Leaves w lo hi ds vs) (h' : lo' ≤ lo) : Leaves w lo' hi ds vs := by
  cases h with
  | nil _ _ h => exact .nil lo' hi (by omega)
  | cons _ mid _ d v ds vs h h1 h2 => exact .cons lo' mid hi d v ds vs (by omega) (h1.up fun x hx => ⟨by omega, hx.2⟩) h2
theorem Leaves.append (h : Leaves w lo mid ds vs) (k : Leaves w mid hi ds' vs') : Leaves w lo hi (ds ++ ds') (vs ++ vs') := by
  induction h with
  | nil lo mid h => exact k.low h
  | cons lo m mid d v ds vs h h1 h2 ih => exact .cons lo m hi d v _ _ h h1 (ih k)
theorem Leaves.one (h : DRep true w (fun b => lo ≤ b ∧ b < hi) d v) (hl : lo ≤ hi) : Leaves w lo hi [d] [v] := .cons lo hi hi d v [] [] hl h (.nil hi hi (Nat.le_refl _))
/-- Each leaf has its interval, one behind the other. -/
theorem Leaves.get (h : Leaves w lo hi ds vs) : ∃ A B : Nat → Nat, (∀ q, lo ≤ A q ∧ B q ≤ hi) ∧ (∀ q q', q < q' → B q ≤ A q') ∧ ∀ q (hq : q < ds.length) (hq' : q < vs.length), DRep true w (fun b => A q ≤ b ∧ b < B q) ds[q] vs[q] := by
  induction h with
  | nil lo hi h => exact ⟨fun _ => hi, fun _ => lo, fun _ => ⟨h, h⟩, fun _ _ _ => h, fun q hq => absurd hq (by simp)⟩
  | cons lo mid hi d v ds vs h h1 h2 ih =>
    obtain ⟨A, B, g1, g2, g3⟩ := ih
    have hle := h2.le
    refine ⟨fun q => match q with | 0 => lo | q + 1 => A q, fun q => match q with | 0 => mid | q + 1 => B q, ?_, ?_, ?_⟩
    · intro q
      cases q with
      | zero => exact ⟨Nat.le_refl _, hle⟩
      | succ q => have := g1 q; exact ⟨by simp only; omega, this.2⟩
    · intro q q' hq
      cases q with
      | zero =>
        cases q' with
        | zero => omega
        | succ q' => exact (g1 q').1
      | succ q =>
        cases q' with
        | zero => omega
        | succ q' => exact g2 q q' (by omega)
    · intro q hq hq'
      cases q with
      | zero => exact h1
      | succ q => exact g3 q (by simpa using hq) (by simpa using hq')

theorem flat_len {α : Type} {es : List (List α)} {m : Nat} (h : ∀ e ∈ es, e.length = m) : es.flatten.length = es.length * m := by
  induction es with
  | nil => simp
  | cons e es ih =>
    rw [List.flatten_cons, List.length_append, h e (by simp), ih (fun x hx => h x (by simp [hx])), List.length_cons, Nat.add_mul, Nat.one_mul, Nat.add_comm]
theorem flat_get {α : Type} {es : List (List α)} {m : Nat} (h : ∀ e ∈ es, e.length = m) (i j : Nat) (hi : i < es.length) (hj : j < es[i].length) : es.flatten[i * m + j]? = some es[i][j] := by
  induction es generalizing i with
  | nil => simp at hi
  | cons e es ih =>
    rw [List.flatten_cons]
    have he := h e (by simp)
    cases i with
    | zero =>
      rw [Nat.zero_mul, Nat.zero_add, List.getElem?_append_left (by simpa using hj)]
      simp at hj ⊢
    | succ i =>
      rw [List.getElem?_append_right (by rw [he, Nat.add_mul]; omega), he, Nat.add_mul, Nat.one_mul, show i * m + m + j - m = i * m + j by omega]
      simpa using ih (fun x hx => h x (by simp [hx])) i (by simpa using hi) (by simpa using hj)

/-- A row of the call's own whose cells are leaves that own their blocks: an owned slice. -/
theorem DOwn.of_leaves {es : List (List D)} {m B : Nat} {t : TypeId} {h : Nat → Value} (hm : ∀ e ∈ es, e.length = m) (hr : w.rowIs B t (es.length * m) h) (hb : B < lo) (hle : lo ≤ hi) (hhi : hi ≤ w.heap.size)
    (hl : Leaves w lo hi es.flatten ((List.range (es.length * m)).map h)) (hmax : es.length ≤ 9223372036854775807) : DOwn w B (.arr es) (.slice (some ⟨B, 0, none⟩) es.length es.length) := by
  obtain ⟨A, Bq, g1, g2, g3⟩ := hl.get
  have hfl := flat_len hm
  have hlen : ∀ i (hi : i < es.length), es[i].length = m := fun i hi => hm _ (List.getElem_mem hi)
  refine DRep.arr _ m es (some ⟨B, 0, none⟩) es.length (fun i j => h (i * m + j)) (fun i j x => j < m ∧ A (i * m + j) ≤ x ∧ x < Bq (i * m + j)) (Nat.le_refl _) hmax ?_ hlen ?_ ?_ ?_
  · refine .inr ⟨B, 0, rfl, ⟨Nat.le_refl _, hr.lt⟩, hr.lt, fun i j hi hj => ?_, fun _ => ⟨fun i j hx => ?_, fun o => hr.frozen o⟩⟩
    · rw [Nat.zero_add, hr.cell (mul_lt hi hj)]
    · have := g1 (i * m + j); omega
  · intro i j x hx
    have := g1 (i * m + j)
    exact ⟨by omega, by omega⟩
  · intro _ i j i' j' x hx hx'
    have hq : i * m + j = i' * m + j' := by
      rcases Nat.lt_trichotomy (i * m + j) (i' * m + j') with h | h | h
      · have := g2 _ _ h; omega
      · exact h
      · have := g2 _ _ h; omega
    have hj := hx.1
    have hj' := hx'.1
    have hm0 : 0 < m := by omega
    have e1 : i = i' := by
      have a1 : (i * m + j) / m = i := by rw [Nat.add_comm, Nat.add_mul_div_right _ _ hm0, Nat.div_eq_of_lt hj, Nat.zero_add]
      have a2 : (i' * m + j') / m = i' := by rw [Nat.add_comm, Nat.add_mul_div_right _ _ hm0, Nat.div_eq_of_lt hj', Nat.zero_add]
      rw [← a1, ← a2, hq]
    subst e1
    exact ⟨rfl, by omega⟩
  · intro i j hi hj
    have hjm : j < m := by rw [hlen i hi] at hj; exact hj
    have hq : i * m + j < es.flatten.length := by rw [hfl]; exact mul_lt hi hjm
    have hk := g3 (i * m + j) hq (by simp; exact mul_lt hi hjm)
    have e1 : es.flatten[i * m + j] = es[i][j] := by
      have := flat_get hm i j hi hj
      rw [List.getElem?_eq_getElem hq] at this
      exact Option.some.inj this
    rw [e1] at hk
    have e2 : ((List.range (es.length * m)).map h)[i * m + j]'(by simp; exact mul_lt hi hjm) = h (i * m + j) := by simp
    rw [e2] at hk
    exact hk.up fun x hx => ⟨hjm, hx.1, hx.2⟩
end

theorem sz_setCell (w : World) (a : Addr) (v : Value) : (w.setCell a v).heap.size = w.heap.size := by simp [World.setCell]
theorem sz_alloc (w : World) (o : Obj) : (w.alloc o).heap.size = w.heap.size + 1 := by simp
theorem sz_drewN (w : World) (n : Nat) : (w.drewN n).heap.size = w.heap.size := rfl
/-- A box of the call's own: what its cells hold. -/
def Box (w : World) (b : Nat) (l : List Value) : Prop := b < w.heap.size ∧ ∀ o (h : o < l.length), w.cell? ⟨b, o, none⟩ = some l[o]
theorem Box.keep {w w' : World} {b : Nat} {l : List Value} (h : Box w b l) (hb : Below w.heap.size w w') : Box w' b l :=
  ⟨Nat.lt_of_lt_of_le h.1 hb.size, fun o ho => by rw [hb.cell (p := ⟨b, o, none⟩) h.1]; exact h.2 o ho⟩
theorem Box.c0 {w : World} {b : Nat} {l : List Value} {v : Value} (h : Box w b (v :: l)) : w.cell? ⟨b, 0, none⟩ = some v := h.2 0 (by simp)
theorem Box.c1 {w : World} {b : Nat} {l : List Value} {u v : Value} (h : Box w b (u :: v :: l)) : w.cell? ⟨b, 1, none⟩ = some v := h.2 1 (by simp)
theorem Box.c2 {w : World} {b : Nat} {l : List Value} {u u' v : Value} (h : Box w b (u :: u' :: v :: l)) : w.cell? ⟨b, 2, none⟩ = some v := h.2 2 (by simp)
theorem Box.c3 {w : World} {b : Nat} {l : List Value} {u u' u'' v : Value} (h : Box w b (u :: u' :: u'' :: v :: l)) : w.cell? ⟨b, 3, none⟩ = some v := h.2 3 (by simp)
theorem Box.c4 {w : World} {b : Nat} {l : List Value} {u u' u'' u3 v : Value} (h : Box w b (u :: u' :: u'' :: u3 :: v :: l)) : w.cell? ⟨b, 4, none⟩ = some v := h.2 4 (by simp)
theorem Box.new {w : World} {vs : Array Value} {t : TypeId} : Box (w.alloc (.cells vs t)) w.heap.size vs.toList := ⟨by simp, fun o ho => by
  have h : o < vs.size := by simpa using ho
  simp only [World.cell?, heap_alloc_new]; simp [h]⟩
/-! Lists of strings. -/
abbrev StrsAt (w : World) (xs : List ByteArray) (v : Value) : Prop := DAt w (.arr (xs.map fun s => [.str s])) v
def strB : List ByteArray → Nat
  | [] => 0
  | s :: r => s.size + strB r

/-! The laws' measures: what is left, or -1. -/
def SzR (w : World) (left : Int) (n : Nat) (e : Ending) (w' : World) : Prop := ∃ z : Int, e = .returned (.int .i64 z) ∧ Below w.heap.size w w' ∧ (z = -1 ∨ (0 ≤ z ∧ z + n = left))
theorem SzR.stop {w w' : World} {left : Int} {n : Nat} (hb : Below w.heap.size w w') : SzR w left n (.returned (.int .i64 (-1))) w' := ⟨-1, rfl, hb, .inl rfl⟩
theorem SzR.fine {w w' : World} {left z : Int} {n : Nat} (hb : Below w.heap.size w w') (h0 : 0 ≤ z) (h : z + n = left) : SzR w left n (.returned (.int .i64 z)) w' := ⟨z, rfl, hb, .inr ⟨h0, h⟩⟩
theorem DAt.form {w : World} {es : List (List D)} {v : Value} (h : DAt w (.arr es) v) : ∃ (a : Option Addr) (n cap : Nat), v = .slice a n cap := by
  obtain ⟨sz, a, cap, f, h1, h2, h3, _⟩ := h.arr_inv
  exact ⟨a, _, cap, h1⟩
theorem DOwn.form {w : World} {lo : Nat} {es : List (List D)} {v : Value} (h : DOwn w lo (.arr es) v) : ∃ (a : Option Addr) (n cap : Nat), v = .slice a n cap := h.at_.form
/-- Two leaves behind one another in memory. -/
theorem Leaves.cons_own {w W : World} {lo lo' mid : Nat} {d : D} {v : Value} {ds : List D} {vs : List Value} {hi : Nat} (h : DOwn w lo' d v) (hk : KeepS (fun b => lo' ≤ b ∧ b < w.heap.size) w W) (h1 : lo ≤ lo') (h2 : lo' ≤ mid) (hm : w.heap.size ≤ mid) (h3 : Leaves W mid hi ds vs) : Leaves W lo hi (d :: ds) (v :: vs) :=
  .cons lo mid hi d v ds vs (by omega) ((DRep.keep h hk).up fun x hx => ⟨by omega, by omega⟩) h3
theorem Leaves.cons_int {W : World} {lo hi : Nat} {n : Int} {ds : List D} {vs : List Value} (h3 : Leaves W lo hi ds vs) : Leaves W lo hi (.int n :: ds) (.int .i64 n :: vs) := .cons lo lo hi _ _ ds vs (Nat.le_refl _) (.int _ n) h3
theorem Leaves.cons_bool {W : World} {lo hi : Nat} {b : Bool} {ds : List D} {vs : List Value} (h3 : Leaves W lo hi ds vs) : Leaves W lo hi (.bool b :: ds) (.bool b :: vs) := .cons lo lo hi _ _ ds vs (Nat.le_refl _) (.bool _ b) h3
theorem Leaves.cons_str {W : World} {lo hi : Nat} {s : ByteArray} {ds : List D} {vs : List Value} (h : s.size ≤ 9223372036854775807) (h3 : Leaves W lo hi ds vs) : Leaves W lo hi (.str s :: ds) (.string s :: vs) := .cons lo lo hi _ _ ds vs (Nat.le_refl _) (.str _ s h) h3
theorem Leaves.app_own {w W : World} {lo lo' hi' mid hi : Nat} {ds ds' : List D} {vs vs' : List Value} (h : Leaves w lo' hi' ds vs) (hk : KeepS (fun b => lo' ≤ b ∧ b < hi') w W) (h1 : lo ≤ lo') (hm : hi' ≤ mid) (h3 : Leaves W mid hi ds' vs') : Leaves W lo hi (ds ++ ds') (vs ++ vs') :=
  Leaves.append (((h.keep hk).low h1).wide hm) h3
theorem Leaves.cast_ {W : World} {lo hi : Nat} {ds ds' : List D} {vs vs' : List Value} (h : Leaves W lo hi ds vs) (e : ds = ds') (e' : vs = vs') : Leaves W lo hi ds' vs' := e ▸ e' ▸ h
theorem take_flat {α : Type} {xs : List α} {k : Nat} (g : α → List D) (h : k < xs.length) : ((xs.take (k + 1)).map g).flatten = ((xs.take k).map g).flatten ++ g xs[k] := by
  rw [← List.take_append_getElem h, List.map_append, List.flatten_append]; simp
theorem range_snoc {k m : Nat} {h : Nat → Value} : (List.range ((k + 1) * m)).map h = (List.range (k * m)).map h ++ (List.range m).map (fun j => h (k * m + j)) := by
  rw [Nat.add_mul, Nat.one_mul, List.range_add, List.map_append, List.map_map]; rfl
theorem range_agree {n : Nat} {h h' : Nat → Value} (e : ∀ q, q < n → h q = h' q) : (List.range n).map h = (List.range n).map h' := List.map_congr_left fun q hq => e q (List.mem_range.1 hq)
theorem SlA.at5 {w : World} {lo n : Nat} {f : Nat → Nat → Value} {a : Option Addr} (h : SlA w lo 5 n f a) {k : Nat} (hk : k < n) : ∃ b off, a = some ⟨b, off, none⟩ ∧ b < w.heap.size ∧ w.cell? ⟨b, off + k * 5, none⟩ = some (f k 0) ∧ w.cell? ⟨b, off + k * 5 + 1, none⟩ = some (f k 1) ∧ w.cell? ⟨b, off + k * 5 + 2, none⟩ = some (f k 2) ∧ w.cell? ⟨b, off + k * 5 + 3, none⟩ = some (f k 3) ∧ w.cell? ⟨b, off + k * 5 + 4, none⟩ = some (f k 4) := by
  rcases h with h | ⟨b, off, ha, hlo, hlt, hc⟩
  · omega
  · exact ⟨b, off, ha, hlt, by simpa using hc k 0 hk (by omega), hc k 1 hk (by omega), hc k 2 hk (by omega), hc k 3 hk (by omega), hc k 4 hk (by omega)⟩
theorem SlA.at6 {w : World} {lo n : Nat} {f : Nat → Nat → Value} {a : Option Addr} (h : SlA w lo 6 n f a) {k : Nat} (hk : k < n) : ∃ b off, a = some ⟨b, off, none⟩ ∧ b < w.heap.size ∧ w.cell? ⟨b, off + k * 6, none⟩ = some (f k 0) ∧ w.cell? ⟨b, off + k * 6 + 1, none⟩ = some (f k 1) ∧ w.cell? ⟨b, off + k * 6 + 2, none⟩ = some (f k 2) ∧ w.cell? ⟨b, off + k * 6 + 3, none⟩ = some (f k 3) ∧ w.cell? ⟨b, off + k * 6 + 4, none⟩ = some (f k 4) ∧ w.cell? ⟨b, off + k * 6 + 5, none⟩ = some (f k 5) := by
  rcases h with h | ⟨b, off, ha, hlo, hlt, hc⟩
  · omega
  · exact ⟨b, off, ha, hlt, by simpa using hc k 0 hk (by omega), hc k 1 hk (by omega), hc k 2 hk (by omega), hc k 3 hk (by omega), hc k 4 hk (by omega), hc k 5 hk (by omega)⟩
theorem SlA.at7 {w : World} {lo n : Nat} {f : Nat → Nat → Value} {a : Option Addr} (h : SlA w lo 7 n f a) {k : Nat} (hk : k < n) : ∃ b off, a = some ⟨b, off, none⟩ ∧ b < w.heap.size ∧ w.cell? ⟨b, off + k * 7, none⟩ = some (f k 0) ∧ w.cell? ⟨b, off + k * 7 + 1, none⟩ = some (f k 1) ∧ w.cell? ⟨b, off + k * 7 + 2, none⟩ = some (f k 2) ∧ w.cell? ⟨b, off + k * 7 + 3, none⟩ = some (f k 3) ∧ w.cell? ⟨b, off + k * 7 + 4, none⟩ = some (f k 4) ∧ w.cell? ⟨b, off + k * 7 + 5, none⟩ = some (f k 5) ∧ w.cell? ⟨b, off + k * 7 + 6, none⟩ = some (f k 6) := by
  rcases h with h | ⟨b, off, ha, hlo, hlt, hc⟩
  · omega
  · exact ⟨b, off, ha, hlt, by simpa using hc k 0 hk (by omega), hc k 1 hk (by omega), hc k 2 hk (by omega), hc k 3 hk (by omega), hc k 4 hk (by omega), hc k 5 hk (by omega), hc k 6 hk (by omega)⟩
end Go.Proofs.Ytpbakldlhjdipaa
