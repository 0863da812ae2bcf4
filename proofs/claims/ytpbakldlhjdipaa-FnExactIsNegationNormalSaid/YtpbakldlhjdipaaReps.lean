/-
  This text says how lists of cells lie in memory and how that is kept. No condition.
-/
import Derived.Test.YtpbakldlhjdipaaBase
import Derived.Deep.OwnRows
set_option maxRecDepth 100000
set_option linter.unusedSimpArgs false
set_option linter.unusedVariables false
namespace Go.Proofs.Ytpbakldlhjdipaa
open Go.RowKit

/-- From block lo on, what was there is as it was. -/
structure Keeps (lo : Nat) (w w' : World) : Prop where
  size : w.heap.size ≤ w'.heap.size
  block : ∀ b, lo ≤ b → b < w.heap.size → w'.heap[b]? = w.heap[b]?
theorem Keeps.refl (lo : Nat) (w : World) : Keeps lo w w := ⟨Nat.le_refl _, fun _ _ _ => rfl⟩
theorem Keeps.trans {lo : Nat} {a b c : World} (h : Keeps lo a b) (k : Keeps lo b c) : Keeps lo a c :=
  ⟨Nat.le_trans h.size k.size, fun i h1 h2 => (k.block i h1 (Nat.lt_of_lt_of_le h2 h.size)).trans (h.block i h1 h2)⟩
theorem Keeps.via {lo B : Nat} {a b c : World} (h : Keeps lo a b) (k : Below B b c) (hB : b.heap.size ≤ B) : Keeps lo a c := h.trans ⟨k.size, fun i _ h2 => k.block i (Nat.lt_of_lt_of_le h2 hB)⟩
theorem Keeps.drewN' {lo : Nat} {a w : World} (h : Keeps lo a w) (n : Nat) : Keeps lo a (w.drewN n) := h.trans ⟨Nat.le_refl _, fun _ _ _ => rfl⟩
theorem Keeps.mono {lo lo' : Nat} {a b : World} (h : Keeps lo a b) (hl : lo ≤ lo') : Keeps lo' a b := ⟨h.size, fun i h1 h2 => h.block i (Nat.le_trans hl h1) h2⟩
theorem Keeps.of_below {w w' : World} (h : Below w.heap.size w w') (lo : Nat) : Keeps lo w w' := ⟨h.size, fun i _ h2 => h.block i h2⟩
theorem Keeps.setCell {lo : Nat} {a w : World} (h : Keeps lo a w) {p : Addr} (hp : p.block < lo) (u : Value) : Keeps lo a (w.setCell p u) :=
  h.trans ⟨by simp [World.setCell], fun i h1 _ => Below.heap_setCell _ _ _ _ (by omega)⟩
theorem Keeps.alloc {lo : Nat} {a w : World} (h : Keeps lo a w) (o : Obj) : Keeps lo a (w.alloc o) := h.trans ⟨by simp, fun i _ h2 => Below.heap_alloc _ _ _ h2⟩
theorem Keeps.grown {lo : Nat} {a w w' : World} (h : Keeps lo a w) {row : Option Nat} (hg : w.grownBy w' row) (hr : ∀ k, row = some k → k < lo) : Keeps lo a w' :=
  h.trans ⟨hg.size, fun i h1 h2 => hg.block i h2 (fun e => by have := hr i e.symm; omega)⟩

/-- v is a slice of n elements of sz cells each; cell j of element i is f i j; its row lies in a block from lo on that is there. -/
def SlA (w : World) (lo sz n : Nat) (f : Nat → Nat → Value) (a : Option Addr) : Prop :=
  n = 0 ∨ ∃ b off, a = some ⟨b, off, none⟩ ∧ lo ≤ b ∧ b < w.heap.size ∧ ∀ i j, i < n → j < sz → w.cell? ⟨b, off + i * sz + j, none⟩ = some (f i j)
def Sl (w : World) (lo sz n : Nat) (f : Nat → Nat → Value) (v : Value) : Prop :=
  ∃ (a : Option Addr) (cap : Nat), v = .slice a n cap ∧ n ≤ cap ∧ cap ≤ 9223372036854775807 ∧ SlA w lo sz n f a

section
variable {w w' : World} {lo lo' sz n : Nat} {f g : Nat → Nat → Value} {v : Value} {a : Option Addr}
theorem Sl.open_ (h : Sl w lo sz n f v) : ∃ a cap, v = .slice a n cap ∧ n ≤ cap ∧ cap ≤ 9223372036854775807 ∧ SlA w lo sz n f a := h
theorem Sl.mk {cap : Nat} (h1 : n ≤ cap) (h2 : cap ≤ 9223372036854775807) (h : SlA w lo sz n f a) : Sl w lo sz n f (.slice a n cap) := ⟨a, cap, rfl, h1, h2, h⟩
theorem SlA.keep (h : SlA w lo sz n f a) (hb : Keeps lo w w') : SlA w' lo sz n f a := by
  rcases h with h | ⟨b, off, rfl, hlo, hlt, hc⟩
  · exact .inl h
  · refine .inr ⟨b, off, rfl, hlo, Nat.lt_of_lt_of_le hlt hb.size, fun i j hi hj => ?_⟩
    rw [World.cell?_of_block (w := w) (w' := w') (a := ⟨b, off + i * sz + j, none⟩) (hb.block b hlo hlt)]
    exact hc i j hi hj
theorem Sl.keep (h : Sl w lo sz n f v) (hb : Keeps lo w w') : Sl w' lo sz n f v := by
  obtain ⟨a, cap, h1, h2, h3, h4⟩ := h
  exact ⟨a, cap, h1, h2, h3, SlA.keep h4 hb⟩
theorem SlA.low (h : SlA w lo sz n f a) (hl : lo' ≤ lo) : SlA w lo' sz n f a := by
  rcases h with h | ⟨b, off, ha, hlo, hlt, hc⟩
  · exact .inl h
  · exact .inr ⟨b, off, ha, Nat.le_trans hl hlo, hlt, hc⟩
theorem Sl.low (h : Sl w lo sz n f v) (hl : lo' ≤ lo) : Sl w lo' sz n f v := by
  obtain ⟨a, cap, h1, h2, h3, h4⟩ := h
  exact ⟨a, cap, h1, h2, h3, h4.low hl⟩
theorem SlA.congr (h : SlA w lo sz n f a) (e : ∀ i j, i < n → j < sz → f i j = g i j) : SlA w lo sz n g a := by
  rcases h with h | ⟨b, off, ha, hlo, hlt, hc⟩
  · exact .inl h
  · exact .inr ⟨b, off, ha, hlo, hlt, fun i j hi hj => by rw [hc i j hi hj, e i j hi hj]⟩
theorem SlA.at1 (h : SlA w lo 1 n f a) {k : Nat} (hk : k < n) : ∃ b off, a = some ⟨b, off, none⟩ ∧ b < w.heap.size ∧ w.cell? ⟨b, off + k, none⟩ = some (f k 0) := by
  rcases h with h | ⟨b, off, ha, hlo, hlt, hc⟩
  · omega
  · exact ⟨b, off, ha, hlt, by simpa using hc k 0 hk (by omega)⟩
theorem SlA.at2 (h : SlA w lo 2 n f a) {k : Nat} (hk : k < n) : ∃ b off, a = some ⟨b, off, none⟩ ∧ b < w.heap.size ∧ w.cell? ⟨b, off + k * 2, none⟩ = some (f k 0) ∧ w.cell? ⟨b, off + k * 2 + 1, none⟩ = some (f k 1) := by
  rcases h with h | ⟨b, off, ha, hlo, hlt, hc⟩
  · omega
  · exact ⟨b, off, ha, hlt, by simpa using hc k 0 hk (by omega), hc k 1 hk (by omega)⟩
theorem SlA.at3 (h : SlA w lo 3 n f a) {k : Nat} (hk : k < n) : ∃ b off, a = some ⟨b, off, none⟩ ∧ b < w.heap.size ∧ w.cell? ⟨b, off + k * 3, none⟩ = some (f k 0) ∧ w.cell? ⟨b, off + k * 3 + 1, none⟩ = some (f k 1) ∧ w.cell? ⟨b, off + k * 3 + 2, none⟩ = some (f k 2) := by
  rcases h with h | ⟨b, off, ha, hlo, hlt, hc⟩
  · omega
  · exact ⟨b, off, ha, hlt, by simpa using hc k 0 hk (by omega), hc k 1 hk (by omega), hc k 2 hk (by omega)⟩
theorem SlA.at4 (h : SlA w lo 4 n f a) {k : Nat} (hk : k < n) : ∃ b off, a = some ⟨b, off, none⟩ ∧ b < w.heap.size ∧ w.cell? ⟨b, off + k * 4, none⟩ = some (f k 0) ∧ w.cell? ⟨b, off + k * 4 + 1, none⟩ = some (f k 1) ∧ w.cell? ⟨b, off + k * 4 + 2, none⟩ = some (f k 2) ∧ w.cell? ⟨b, off + k * 4 + 3, none⟩ = some (f k 3) := by
  rcases h with h | ⟨b, off, ha, hlo, hlt, hc⟩
  · omega
  · exact ⟨b, off, ha, hlt, by simpa using hc k 0 hk (by omega), hc k 1 hk (by omega), hc k 2 hk (by omega), hc k 3 hk (by omega)⟩
theorem SlA.at4s {b off : Nat} (h : SlA w lo 4 n f (some ⟨b, off, none⟩)) {k : Nat} (hk : k < n) : b < w.heap.size ∧ w.cell? ⟨b, off + k * 4, none⟩ = some (f k 0) ∧ w.cell? ⟨b, off + k * 4 + 1, none⟩ = some (f k 1) ∧ w.cell? ⟨b, off + k * 4 + 2, none⟩ = some (f k 2) ∧ w.cell? ⟨b, off + k * 4 + 3, none⟩ = some (f k 3) := by
  obtain ⟨b', off', e, h⟩ := h.at4 hk
  injection e with e; injection e with e1 e2; subst e1 e2; exact h
theorem SlA.at2s {b off : Nat} (h : SlA w lo 2 n f (some ⟨b, off, none⟩)) {k : Nat} (hk : k < n) : b < w.heap.size ∧ w.cell? ⟨b, off + k * 2, none⟩ = some (f k 0) ∧ w.cell? ⟨b, off + k * 2 + 1, none⟩ = some (f k 1) := by
  obtain ⟨b', off', e, h⟩ := h.at2 hk
  injection e with e; injection e with e1 e2; subst e1 e2; exact h
theorem SlA.at1s {b off : Nat} (h : SlA w lo 1 n f (some ⟨b, off, none⟩)) {k : Nat} (hk : k < n) : b < w.heap.size ∧ w.cell? ⟨b, off + k, none⟩ = some (f k 0) := by
  obtain ⟨b', off', e, h⟩ := h.at1 hk
  injection e with e; injection e with e1 e2; subst e1 e2; exact h
theorem mul_lt {i j n sz : Nat} (hi : i < n) (hj : j < sz) : i * sz + j < n * sz := by
  have h1 : (i + 1) * sz ≤ n * sz := Nat.mul_le_mul_right _ hi
  rw [Nat.add_mul] at h1; omega
/-- A row of the call's own, full: as a slice. -/
theorem SlA.of_row {b : Nat} {t : TypeId} {h : Nat → Value} (hr : w.rowIs b t (n * sz) h) (hlo : lo ≤ b) (e : ∀ i j, i < n → j < sz → h (i * sz + j) = f i j) : SlA w lo sz n f (some ⟨b, 0, none⟩) := by
  refine .inr ⟨b, 0, rfl, hlo, hr.lt, fun i j hi hj => ?_⟩
  rw [Nat.zero_add, hr.cell (mul_lt hi hj), e i j hi hj]
end

/-- A row that is kept. -/
theorem row_keep {w w' : World} {b lo : Nat} {t : TypeId} {n : Nat} {h : Nat → Value} (hr : w.rowIs b t n h) (hb : Keeps lo w w') (hl : lo ≤ b) : w'.rowIs b t n h := hr.of_block (hb.block b hl hr.lt)

/-- What make lays, elements of sz cells. -/
theorem run_make_k {P : Program} (t e : TypeId) (z : Value) (sz bytes : Nat) (ht : P.underlying t = some (.slice e)) (hinfo : (P.info? e).map (fun i => (i.zero, i.size, i.bytes)) = some (some z, sz, bytes))
    (kl kc : IntKind) (n : Nat) (hbytes : bytes * n ≤ 281474976710656) (h63 : n ≤ 9223372036854775807) (w : World) :
    (Instr.makeSlice t (.int kl (n : Int)) (.int kc (n : Int))).run P w = .ok (.slice (some ⟨w.heap.size, 0, none⟩) n n) (w.alloc (.cells (madeCells z.cells (n * sz)) e)) := by
  obtain ⟨i, hi, hzz⟩ := Option.map_eq_some_iff.1 hinfo
  simp only [Prod.mk.injEq] at hzz
  obtain ⟨hz, hs, hb⟩ := hzz
  have hb' : (i.bytes : Int) * (n : Int) ≤ 281474976710656 := by
    have h : ((i.bytes * n : Nat) : Int) ≤ 281474976710656 := by rw [hb]; omega
    rwa [Int.natCast_mul] at h
  have hr := run_make (P := P) w t e i z ht hi hz kl kc n n (by omega) (Int.le_refl _) hb' (by omega)
  simp only [Int.toNat_natCast, hs] at hr
  exact hr
theorem rowIs_made_k (w : World) (zc : Array Value) (m : Nat) (t : TypeId) : (w.alloc (.cells (madeCells zc m) t)).rowIs w.heap.size t m (fun o => zc[o % zc.size]!) :=
  ⟨madeCells zc m, heap_alloc_new w _, size_madeCells _ _, fun i hi => by simp [madeCells, hi]⟩

/-! Lists by index: what is left. -/
theorem drop_at {α : Type} {l : List α} {k : Nat} (h : k < l.length) : l.drop k = l[k] :: l.drop (k + 1) := by rw [List.drop_eq_getElem_cons h]

def atZ (xs : List Int) (k : Nat) : Int := xs.getD k 0
theorem atZ_get {xs : List Int} {k : Nat} (h : k < xs.length) : atZ xs k = xs[k] := by unfold atZ; rw [List.getD_eq_getElem?_getD, List.getElem?_eq_getElem h]; rfl
def IntsAt (w : World) (lo : Nat) (v : Value) (xs : List Int) : Prop := Sl w lo 1 xs.length (fun i _ => .int .i64 (atZ xs i)) v
theorem IntsAt.keep {w w' : World} {lo : Nat} {v : Value} {xs : List Int} (h : IntsAt w lo v xs) (hb : Keeps lo w w') : IntsAt w' lo v xs := Sl.keep h hb
theorem IntsAt.low {w : World} {lo lo' : Nat} {v : Value} {xs : List Int} (h : IntsAt w lo v xs) (hl : lo' ≤ lo) : IntsAt w lo' v xs := Sl.low h hl
/-- The call returns a value of which a fact holds, and leaves what was there alone. -/
def Tell (w : World) (R : World → Value → Prop) (e : Ending) (w' : World) : Prop := ∃ v, e = .returned v ∧ Below w.heap.size w w' ∧ R w' v
theorem Tell.mk' {w w' : World} {R : World → Value → Prop} {v : Value} (hb : Below w.heap.size w w') (h : R w' v) : Tell w R (.returned v) w' := ⟨v, rfl, hb, h⟩

/-- For a flow's call: its result is told. -/
theorem flow_told {P : Program} {o : Oper} {a : Act} {W : World} {R : World → Value → Prop} {f : FuncId} {args : Array Value} (hr : (execOp a.eval o).run P W = .ok (.enter f args) W) (h : Calls P f args W (Tell W R)) : Flow.relAt P o a (fun v w => R w v) W :=
  flow_tell hr (h.mono fun _ _ ⟨v, h1, h2, h3⟩ => ⟨v, h1, h2, h3⟩)
def Stable (ks : List (Nat × Flow.Kind)) : Prop := ∀ r v (w w' : World), Flow.factOf ks r v w → Below w.heap.size w w' → Flow.factOf ks r v w'
theorem Stable.nil : Stable [] := fun _ _ _ _ h _ => h
theorem Stable.told {k : Nat} {F : Value → World → Prop} {ks : List (Nat × Flow.Kind)} (hF : ∀ v w w', F v w → Below w.heap.size w w' → F v w') (h : Stable ks) : Stable ((k, .told F) :: ks) := by
  intro r v w w' hf hb
  unfold Flow.factOf Flow.kindOf at hf ⊢
  by_cases hk : k = r
  · rw [if_pos hk] at hf ⊢; exact hF v w w' hf hb
  · rw [if_neg hk] at hf ⊢; exact h r v w w' hf hb
theorem Stable.fixed {k : Nat} {u : Value} {ks : List (Nat × Flow.Kind)} (h : Stable ks) : Stable ((k, .fixed u) :: ks) := by
  intro r v w w' hf hb
  unfold Flow.factOf Flow.kindOf at hf ⊢
  by_cases hk : k = r
  · rw [if_pos hk] at hf ⊢; trivial
  · rw [if_neg hk] at hf ⊢; exact h r v w w' hf hb
end Go.Proofs.Ytpbakldlhjdipaa
