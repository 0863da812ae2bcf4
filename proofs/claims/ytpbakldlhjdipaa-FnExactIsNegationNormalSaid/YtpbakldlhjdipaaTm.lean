/-
  This text says how the records of the laws lie in memory. No condition.
-/
import Derived.Test.YtpbakldlhjdipaaData
import Derived.Test.YtpbakldlhjdipaaTabs
set_option maxRecDepth 100000
set_option linter.unusedSimpArgs false
set_option linter.unusedVariables false
namespace Go.Proofs.Ytpbakldlhjdipaa
open Go.RowKit

inductive Tm where
  | mk (name : ByteArray) (args : List Tm)
def Tm.name : Tm → ByteArray
  | .mk a _ => a
def Tm.args : Tm → List Tm
  | .mk _ a => a
mutual
def Tm.d : Tm → List D
  | .mk name args => [.str name, .arr (Tm.ds args)]
def Tm.ds : List Tm → List (List D)
  | [] => []
  | x :: xs => Tm.d x :: Tm.ds xs
end
theorem Tm.ds_eq : ∀ xs : List Tm, Tm.ds xs = xs.map Tm.d
  | [] => rfl
  | x :: xs => by rw [Tm.ds, Tm.ds_eq xs]; rfl
theorem Tm.d_eq (x : Tm) : Tm.d x = [.str x.name, .arr (x.args.map Tm.d)] := by
  obtain ⟨name, args⟩ := x
  rw [Tm.d, Tm.ds_eq]; rfl
mutual
def Tm.bulk : Tm → Nat
  | .mk name args => name.size + (args.length + Tm.sumB args)
def Tm.sumB : List Tm → Nat
  | [] => 0
  | x :: xs => Tm.bulk x + Tm.sumB xs
end
theorem Tm.bulk_eq (x : Tm) : x.bulk = x.name.size + (x.args.length + Tm.sumB x.args) := by
  obtain ⟨name, args⟩ := x
  rw [Tm.bulk]; rfl
theorem Tm.lt_of_mem {x y : Tm} (h : y ∈ x.args) : SizeOf.sizeOf y < SizeOf.sizeOf x := by
  obtain ⟨name, args⟩ := x
  have := List.sizeOf_lt_of_mem h
  simp only [Tm.args] at this
  simp only [Tm.mk.sizeOf_spec]
  omega
def Tm.zero : Tm := .mk ⟨#[]⟩ []
theorem Tm.bulk_le : ∀ (xs : List Tm) (k : Nat) (h : k < xs.length), xs[k].bulk ≤ Tm.sumB xs
  | [], k, h => absurd h (by simp)
  | x :: xs, 0, _ => by rw [Tm.sumB]; simp
  | x :: xs, k + 1, h => by
    have := Tm.bulk_le xs k (by simpa using h)
    rw [Tm.sumB]; simp only [List.getElem_cons_succ]; omega
def Tm.c (x : Tm) (s0 : Value) (j : Nat) : Value := match j with | 0 => .string x.name | _ => s0
abbrev TmsAt (w : World) (xs : List Tm) (v : Value) : Prop := DAt w (.arr (xs.map Tm.d)) v
def Tm.At (w : World) (x : Tm) (s0 : Value) : Prop := x.name.size ≤ 9223372036854775807 ∧ TmsAt w x.args s0
theorem Tm.At.keep {w w' : World} {x : Tm} {s0 : Value} (h : Tm.At w x s0) (hb : Below w.heap.size w w') : Tm.At w' x s0 := ⟨h.1, DAt.keep h.2 hb⟩
theorem TmsAt.open_ {w : World} {xs : List Tm} {v : Value} (h : TmsAt w xs v) : ∃ (a : Option Addr) (cap : Nat) (S0 : Nat → Value), v = .slice a xs.length cap ∧ xs.length ≤ cap ∧ cap ≤ 9223372036854775807 ∧ SlA w 0 2 xs.length (fun i j => Tm.c (xs.getD i Tm.zero) (S0 i) j) a ∧ ∀ i (h : i < xs.length), Tm.At w xs[i] (S0 i) := by
  obtain ⟨sz, a, cap, f, e, h1, h2, h3, h4, h5⟩ := h.arr_inv
  simp only [List.length_map] at e h1 h3 h4 h5
  have hl : ∀ i, i < xs.length → sz = 2 := fun i hi => by
    have := h4 i hi
    rw [List.getElem_map, Tm.d_eq] at this
    exact this.symm
  have hk : ∀ i (hi : i < xs.length) j (d : D), (Tm.d xs[i])[j]? = some d → DAt w d (f i j) := by
    intro i hi j d hd
    have hj : j < (Tm.d xs[i]).length := (List.getElem?_eq_some_iff.1 hd).1
    have := h5 i j hi (by rw [List.getElem_map]; exact hj)
    simp only [List.getElem_map] at this
    rw [List.getElem?_eq_getElem hj] at hd
    rw [Option.some.inj hd] at this
    exact this
  refine ⟨a, cap, fun i => f i 1, e, h1, h2, ?_, fun i hi => ?_⟩
  · rcases Nat.eq_zero_or_pos xs.length with h0 | h0
    · exact .inl h0
    · rw [hl 0 h0] at h3
      refine h3.congr fun i j hi hj => ?_
      rw [getD_at _ hi]
      match j, hj with
      | 0, _ => exact (hk i hi 0 _ (by rw [Tm.d_eq]; rfl)).str_inv.1
      | 1, _ => rfl
  · exact ⟨(hk i hi 0 _ (by rw [Tm.d_eq]; rfl)).str_inv.2, hk i hi 1 _ (by rw [Tm.d_eq]; rfl)⟩
theorem TmsAt.keep {w w' : World} {xs : List Tm} {v : Value} (h : TmsAt w xs v) (hb : Below w.heap.size w w') : TmsAt w' xs v := DAt.keep h hb
theorem TmsAt.elem {w : World} {xs : List Tm} {a : Option Addr} {n cap : Nat} (h : TmsAt w xs (.slice a n cap)) {k : Nat} (hk : k < xs.length) : ∃ (b off : Nat) (y0 : Option Addr) (n0 c0 : Nat), a = some ⟨b, off, none⟩ ∧ b < w.heap.size ∧ w.cell? ⟨b, off + k * 2, none⟩ = some (.string xs[k].name) ∧ w.cell? ⟨b, off + k * 2 + 1, none⟩ = some (.slice y0 n0 c0) ∧ Tm.At w xs[k] (.slice y0 n0 c0) := by
  obtain ⟨a', cap', S0, e, h1, h2, h3, h4⟩ := h.open_
  injection e with e1 e2 e3
  subst e1
  obtain ⟨b, off, rfl, hb, c0, c1⟩ := h3.at2 hk
  have hF := h4 k hk
  obtain ⟨y0, n0, cc0, e0⟩ := DAt.form hF.2
  simp only [getD_at _ hk, Tm.c] at c0 c1
  rw [e0] at c1
  refine ⟨b, off, y0, n0, cc0, rfl, hb, c0, c1, ?_⟩
  rw [e0] at hF
  exact hF
theorem TmsAt.elemS {w : World} {xs : List Tm} {b off : Nat} {n cap : Nat} (h : TmsAt w xs (.slice (some ⟨b, off, none⟩) n cap)) {k : Nat} (hk : k < xs.length) : ∃ (y0 : Option Addr) (n0 c0 : Nat), b < w.heap.size ∧ w.cell? ⟨b, off + k * 2, none⟩ = some (.string xs[k].name) ∧ w.cell? ⟨b, off + k * 2 + 1, none⟩ = some (.slice y0 n0 c0) ∧ Tm.At w xs[k] (.slice y0 n0 c0) := by
  obtain ⟨b', off', y0, n0, c0, e, h⟩ := h.elem hk
  injection e with e; injection e with e1 e2; subst e1 e2
  exact ⟨y0, n0, c0, h⟩
theorem TmsAt.form_ {w : World} {xs : List Tm} {v : Value} (h : TmsAt w xs v) : ∃ (a : Option Addr) (cap : Nat), v = .slice a xs.length cap ∧ xs.length ≤ cap ∧ cap ≤ 9223372036854775807 := by
  obtain ⟨a, cap, _, e, h1, h2, _⟩ := h.open_
  exact ⟨a, cap, e, h1, h2⟩

inductive Fm where
  | mk (op : Int) (atom : Tm) (var : ByteArray) (parts : List Fm)
def Fm.op : Fm → Int
  | .mk a _ _ _ => a
def Fm.atom : Fm → Tm
  | .mk _ a _ _ => a
def Fm.var : Fm → ByteArray
  | .mk _ _ a _ => a
def Fm.parts : Fm → List Fm
  | .mk _ _ _ a => a
mutual
def Fm.d : Fm → List D
  | .mk op atom var parts => [.int op, .str atom.name, .arr (atom.args.map Tm.d), .str var, .arr (Fm.ds parts)]
def Fm.ds : List Fm → List (List D)
  | [] => []
  | x :: xs => Fm.d x :: Fm.ds xs
end
theorem Fm.ds_eq : ∀ xs : List Fm, Fm.ds xs = xs.map Fm.d
  | [] => rfl
  | x :: xs => by rw [Fm.ds, Fm.ds_eq xs]; rfl
theorem Fm.d_eq (x : Fm) : Fm.d x = [.int x.op, .str x.atom.name, .arr (x.atom.args.map Tm.d), .str x.var, .arr (x.parts.map Fm.d)] := by
  obtain ⟨op, atom, var, parts⟩ := x
  rw [Fm.d, Fm.ds_eq]; rfl
mutual
def Fm.bulk : Fm → Nat
  | .mk _ atom var parts => Tm.bulk atom + var.size + (parts.length + Fm.sumB parts)
def Fm.sumB : List Fm → Nat
  | [] => 0
  | x :: xs => Fm.bulk x + Fm.sumB xs
end
theorem Fm.bulk_eq (x : Fm) : x.bulk = x.atom.bulk + x.var.size + (x.parts.length + Fm.sumB x.parts) := by
  obtain ⟨op, atom, var, parts⟩ := x
  rw [Fm.bulk]; rfl
theorem Fm.lt_of_mem {x y : Fm} (h : y ∈ x.parts) : SizeOf.sizeOf y < SizeOf.sizeOf x := by
  obtain ⟨op, atom, var, parts⟩ := x
  have := List.sizeOf_lt_of_mem h
  simp only [Fm.parts] at this
  simp only [Fm.mk.sizeOf_spec]
  omega
def Fm.zero : Fm := .mk 0 Tm.zero ⟨#[]⟩ []
theorem Fm.bulk_le : ∀ (xs : List Fm) (k : Nat) (h : k < xs.length), xs[k].bulk ≤ Fm.sumB xs
  | [], k, h => absurd h (by simp)
  | x :: xs, 0, _ => by rw [Fm.sumB]; simp
  | x :: xs, k + 1, h => by
    have := Fm.bulk_le xs k (by simpa using h)
    rw [Fm.sumB]; simp only [List.getElem_cons_succ]; omega
def Fm.c (x : Fm) (s0 : Value) (s1 : Value) (j : Nat) : Value := match j with | 0 => .int .i64 x.op | 1 => .string x.atom.name | 2 => s0 | 3 => .string x.var | _ => s1
abbrev FmsAt (w : World) (xs : List Fm) (v : Value) : Prop := DAt w (.arr (xs.map Fm.d)) v
def Fm.At (w : World) (x : Fm) (s0 : Value) (s1 : Value) : Prop := x.atom.name.size ≤ 9223372036854775807 ∧ TmsAt w x.atom.args s0 ∧ x.var.size ≤ 9223372036854775807 ∧ FmsAt w x.parts s1
theorem Fm.At.keep {w w' : World} {x : Fm} {s0 : Value} {s1 : Value} (h : Fm.At w x s0 s1) (hb : Below w.heap.size w w') : Fm.At w' x s0 s1 := ⟨h.1, DAt.keep h.2.1 hb, h.2.2.1, DAt.keep h.2.2.2 hb⟩
theorem FmsAt.open_ {w : World} {xs : List Fm} {v : Value} (h : FmsAt w xs v) : ∃ (a : Option Addr) (cap : Nat) (S0 : Nat → Value) (S1 : Nat → Value), v = .slice a xs.length cap ∧ xs.length ≤ cap ∧ cap ≤ 9223372036854775807 ∧ SlA w 0 5 xs.length (fun i j => Fm.c (xs.getD i Fm.zero) (S0 i) (S1 i) j) a ∧ ∀ i (h : i < xs.length), Fm.At w xs[i] (S0 i) (S1 i) := by
  obtain ⟨sz, a, cap, f, e, h1, h2, h3, h4, h5⟩ := h.arr_inv
  simp only [List.length_map] at e h1 h3 h4 h5
  have hl : ∀ i, i < xs.length → sz = 5 := fun i hi => by
    have := h4 i hi
    rw [List.getElem_map, Fm.d_eq] at this
    exact this.symm
  have hk : ∀ i (hi : i < xs.length) j (d : D), (Fm.d xs[i])[j]? = some d → DAt w d (f i j) := by
    intro i hi j d hd
    have hj : j < (Fm.d xs[i]).length := (List.getElem?_eq_some_iff.1 hd).1
    have := h5 i j hi (by rw [List.getElem_map]; exact hj)
    simp only [List.getElem_map] at this
    rw [List.getElem?_eq_getElem hj] at hd
    rw [Option.some.inj hd] at this
    exact this
  refine ⟨a, cap, fun i => f i 2, fun i => f i 4, e, h1, h2, ?_, fun i hi => ?_⟩
  · rcases Nat.eq_zero_or_pos xs.length with h0 | h0
    · exact .inl h0
    · rw [hl 0 h0] at h3
      refine h3.congr fun i j hi hj => ?_
      rw [getD_at _ hi]
      match j, hj with
      | 0, _ => exact (hk i hi 0 _ (by rw [Fm.d_eq]; rfl)).int_inv
      | 1, _ => exact (hk i hi 1 _ (by rw [Fm.d_eq]; rfl)).str_inv.1
      | 2, _ => rfl
      | 3, _ => exact (hk i hi 3 _ (by rw [Fm.d_eq]; rfl)).str_inv.1
      | 4, _ => rfl
  · exact ⟨(hk i hi 1 _ (by rw [Fm.d_eq]; rfl)).str_inv.2, hk i hi 2 _ (by rw [Fm.d_eq]; rfl), (hk i hi 3 _ (by rw [Fm.d_eq]; rfl)).str_inv.2, hk i hi 4 _ (by rw [Fm.d_eq]; rfl)⟩
theorem FmsAt.keep {w w' : World} {xs : List Fm} {v : Value} (h : FmsAt w xs v) (hb : Below w.heap.size w w') : FmsAt w' xs v := DAt.keep h hb
theorem FmsAt.elem {w : World} {xs : List Fm} {a : Option Addr} {n cap : Nat} (h : FmsAt w xs (.slice a n cap)) {k : Nat} (hk : k < xs.length) : ∃ (b off : Nat) (y0 : Option Addr) (n0 c0 : Nat) (y1 : Option Addr) (n1 c1 : Nat), a = some ⟨b, off, none⟩ ∧ b < w.heap.size ∧ w.cell? ⟨b, off + k * 5, none⟩ = some (.int .i64 xs[k].op) ∧ w.cell? ⟨b, off + k * 5 + 1, none⟩ = some (.string xs[k].atom.name) ∧ w.cell? ⟨b, off + k * 5 + 2, none⟩ = some (.slice y0 n0 c0) ∧ w.cell? ⟨b, off + k * 5 + 3, none⟩ = some (.string xs[k].var) ∧ w.cell? ⟨b, off + k * 5 + 4, none⟩ = some (.slice y1 n1 c1) ∧ Fm.At w xs[k] (.slice y0 n0 c0) (.slice y1 n1 c1) := by
  obtain ⟨a', cap', S0, S1, e, h1, h2, h3, h4⟩ := h.open_
  injection e with e1 e2 e3
  subst e1
  obtain ⟨b, off, rfl, hb, c0, c1, c2, c3, c4⟩ := h3.at5 hk
  have hF := h4 k hk
  obtain ⟨y0, n0, cc0, e0⟩ := DAt.form hF.2.1
  obtain ⟨y1, n1, cc1, e1⟩ := DAt.form hF.2.2.2
  simp only [getD_at _ hk, Fm.c] at c0 c1 c2 c3 c4
  rw [e0] at c2
  rw [e1] at c4
  refine ⟨b, off, y0, n0, cc0, y1, n1, cc1, rfl, hb, c0, c1, c2, c3, c4, ?_⟩
  rw [e0, e1] at hF
  exact hF
theorem FmsAt.elemS {w : World} {xs : List Fm} {b off : Nat} {n cap : Nat} (h : FmsAt w xs (.slice (some ⟨b, off, none⟩) n cap)) {k : Nat} (hk : k < xs.length) : ∃ (y0 : Option Addr) (n0 c0 : Nat) (y1 : Option Addr) (n1 c1 : Nat), b < w.heap.size ∧ w.cell? ⟨b, off + k * 5, none⟩ = some (.int .i64 xs[k].op) ∧ w.cell? ⟨b, off + k * 5 + 1, none⟩ = some (.string xs[k].atom.name) ∧ w.cell? ⟨b, off + k * 5 + 2, none⟩ = some (.slice y0 n0 c0) ∧ w.cell? ⟨b, off + k * 5 + 3, none⟩ = some (.string xs[k].var) ∧ w.cell? ⟨b, off + k * 5 + 4, none⟩ = some (.slice y1 n1 c1) ∧ Fm.At w xs[k] (.slice y0 n0 c0) (.slice y1 n1 c1) := by
  obtain ⟨b', off', y0, n0, c0, y1, n1, c1, e, h⟩ := h.elem hk
  injection e with e; injection e with e1 e2; subst e1 e2
  exact ⟨y0, n0, c0, y1, n1, c1, h⟩
theorem FmsAt.form_ {w : World} {xs : List Fm} {v : Value} (h : FmsAt w xs v) : ∃ (a : Option Addr) (cap : Nat), v = .slice a xs.length cap ∧ xs.length ≤ cap ∧ cap ≤ 9223372036854775807 := by
  obtain ⟨a, cap, _, _, e, h1, h2, _⟩ := h.open_
  exact ⟨a, cap, e, h1, h2⟩

structure Lt where
  pos : Bool
  atom : Tm
def Lt.d (x : Lt) : List D := [.bool x.pos, .str x.atom.name, .arr (x.atom.args.map Tm.d)]
theorem Lt.d_eq (x : Lt) : Lt.d x = [.bool x.pos, .str x.atom.name, .arr (x.atom.args.map Tm.d)] := rfl
def Lt.bulk (x : Lt) : Nat := x.atom.bulk
theorem Lt.bulk_eq (x : Lt) : x.bulk = x.atom.bulk := rfl
def Lt.sumB : List Lt → Nat
  | [] => 0
  | x :: xs => x.bulk + Lt.sumB xs
def Lt.zero : Lt := ⟨false, Tm.zero⟩
theorem Lt.bulk_le : ∀ (xs : List Lt) (k : Nat) (h : k < xs.length), xs[k].bulk ≤ Lt.sumB xs
  | [], k, h => absurd h (by simp)
  | x :: xs, 0, _ => by rw [Lt.sumB]; simp
  | x :: xs, k + 1, h => by
    have := Lt.bulk_le xs k (by simpa using h)
    rw [Lt.sumB]; simp only [List.getElem_cons_succ]; omega
def Lt.c (x : Lt) (s0 : Value) (j : Nat) : Value := match j with | 0 => .bool x.pos | 1 => .string x.atom.name | _ => s0
abbrev LtsAt (w : World) (xs : List Lt) (v : Value) : Prop := DAt w (.arr (xs.map Lt.d)) v
def Lt.At (w : World) (x : Lt) (s0 : Value) : Prop := x.atom.name.size ≤ 9223372036854775807 ∧ TmsAt w x.atom.args s0
theorem Lt.At.keep {w w' : World} {x : Lt} {s0 : Value} (h : Lt.At w x s0) (hb : Below w.heap.size w w') : Lt.At w' x s0 := ⟨h.1, DAt.keep h.2 hb⟩
theorem LtsAt.open_ {w : World} {xs : List Lt} {v : Value} (h : LtsAt w xs v) : ∃ (a : Option Addr) (cap : Nat) (S0 : Nat → Value), v = .slice a xs.length cap ∧ xs.length ≤ cap ∧ cap ≤ 9223372036854775807 ∧ SlA w 0 3 xs.length (fun i j => Lt.c (xs.getD i Lt.zero) (S0 i) j) a ∧ ∀ i (h : i < xs.length), Lt.At w xs[i] (S0 i) := by
  obtain ⟨sz, a, cap, f, e, h1, h2, h3, h4, h5⟩ := h.arr_inv
  simp only [List.length_map] at e h1 h3 h4 h5
  have hl : ∀ i, i < xs.length → sz = 3 := fun i hi => by
    have := h4 i hi
    rw [List.getElem_map, Lt.d_eq] at this
    exact this.symm
  have hk : ∀ i (hi : i < xs.length) j (d : D), (Lt.d xs[i])[j]? = some d → DAt w d (f i j) := by
    intro i hi j d hd
    have hj : j < (Lt.d xs[i]).length := (List.getElem?_eq_some_iff.1 hd).1
    have := h5 i j hi (by rw [List.getElem_map]; exact hj)
    simp only [List.getElem_map] at this
    rw [List.getElem?_eq_getElem hj] at hd
    rw [Option.some.inj hd] at this
    exact this
  refine ⟨a, cap, fun i => f i 2, e, h1, h2, ?_, fun i hi => ?_⟩
  · rcases Nat.eq_zero_or_pos xs.length with h0 | h0
    · exact .inl h0
    · rw [hl 0 h0] at h3
      refine h3.congr fun i j hi hj => ?_
      rw [getD_at _ hi]
      match j, hj with
      | 0, _ => exact (hk i hi 0 _ (by rw [Lt.d_eq]; rfl)).bool_inv
      | 1, _ => exact (hk i hi 1 _ (by rw [Lt.d_eq]; rfl)).str_inv.1
      | 2, _ => rfl
  · exact ⟨(hk i hi 1 _ (by rw [Lt.d_eq]; rfl)).str_inv.2, hk i hi 2 _ (by rw [Lt.d_eq]; rfl)⟩
theorem LtsAt.keep {w w' : World} {xs : List Lt} {v : Value} (h : LtsAt w xs v) (hb : Below w.heap.size w w') : LtsAt w' xs v := DAt.keep h hb
theorem LtsAt.elem {w : World} {xs : List Lt} {a : Option Addr} {n cap : Nat} (h : LtsAt w xs (.slice a n cap)) {k : Nat} (hk : k < xs.length) : ∃ (b off : Nat) (y0 : Option Addr) (n0 c0 : Nat), a = some ⟨b, off, none⟩ ∧ b < w.heap.size ∧ w.cell? ⟨b, off + k * 3, none⟩ = some (.bool xs[k].pos) ∧ w.cell? ⟨b, off + k * 3 + 1, none⟩ = some (.string xs[k].atom.name) ∧ w.cell? ⟨b, off + k * 3 + 2, none⟩ = some (.slice y0 n0 c0) ∧ Lt.At w xs[k] (.slice y0 n0 c0) := by
  obtain ⟨a', cap', S0, e, h1, h2, h3, h4⟩ := h.open_
  injection e with e1 e2 e3
  subst e1
  obtain ⟨b, off, rfl, hb, c0, c1, c2⟩ := h3.at3 hk
  have hF := h4 k hk
  obtain ⟨y0, n0, cc0, e0⟩ := DAt.form hF.2
  simp only [getD_at _ hk, Lt.c] at c0 c1 c2
  rw [e0] at c2
  refine ⟨b, off, y0, n0, cc0, rfl, hb, c0, c1, c2, ?_⟩
  rw [e0] at hF
  exact hF
theorem LtsAt.elemS {w : World} {xs : List Lt} {b off : Nat} {n cap : Nat} (h : LtsAt w xs (.slice (some ⟨b, off, none⟩) n cap)) {k : Nat} (hk : k < xs.length) : ∃ (y0 : Option Addr) (n0 c0 : Nat), b < w.heap.size ∧ w.cell? ⟨b, off + k * 3, none⟩ = some (.bool xs[k].pos) ∧ w.cell? ⟨b, off + k * 3 + 1, none⟩ = some (.string xs[k].atom.name) ∧ w.cell? ⟨b, off + k * 3 + 2, none⟩ = some (.slice y0 n0 c0) ∧ Lt.At w xs[k] (.slice y0 n0 c0) := by
  obtain ⟨b', off', y0, n0, c0, e, h⟩ := h.elem hk
  injection e with e; injection e with e1 e2; subst e1 e2
  exact ⟨y0, n0, c0, h⟩
theorem LtsAt.form_ {w : World} {xs : List Lt} {v : Value} (h : LtsAt w xs v) : ∃ (a : Option Addr) (cap : Nat), v = .slice a xs.length cap ∧ xs.length ≤ cap ∧ cap ≤ 9223372036854775807 := by
  obtain ⟨a, cap, _, e, h1, h2, _⟩ := h.open_
  exact ⟨a, cap, e, h1, h2⟩

structure Cl where
  lits : List Lt
def Cl.d (x : Cl) : List D := [.arr (x.lits.map Lt.d)]
theorem Cl.d_eq (x : Cl) : Cl.d x = [.arr (x.lits.map Lt.d)] := rfl
def Cl.bulk (x : Cl) : Nat := (x.lits.length + Lt.sumB x.lits)
theorem Cl.bulk_eq (x : Cl) : x.bulk = (x.lits.length + Lt.sumB x.lits) := rfl
def Cl.sumB : List Cl → Nat
  | [] => 0
  | x :: xs => x.bulk + Cl.sumB xs
def Cl.zero : Cl := ⟨[]⟩
theorem Cl.bulk_le : ∀ (xs : List Cl) (k : Nat) (h : k < xs.length), xs[k].bulk ≤ Cl.sumB xs
  | [], k, h => absurd h (by simp)
  | x :: xs, 0, _ => by rw [Cl.sumB]; simp
  | x :: xs, k + 1, h => by
    have := Cl.bulk_le xs k (by simpa using h)
    rw [Cl.sumB]; simp only [List.getElem_cons_succ]; omega
def Cl.c (x : Cl) (s0 : Value) (j : Nat) : Value := match j with | _ => s0
abbrev ClsAt (w : World) (xs : List Cl) (v : Value) : Prop := DAt w (.arr (xs.map Cl.d)) v
def Cl.At (w : World) (x : Cl) (s0 : Value) : Prop := LtsAt w x.lits s0
theorem Cl.At.keep {w w' : World} {x : Cl} {s0 : Value} (h : Cl.At w x s0) (hb : Below w.heap.size w w') : Cl.At w' x s0 := DAt.keep h hb
theorem ClsAt.open_ {w : World} {xs : List Cl} {v : Value} (h : ClsAt w xs v) : ∃ (a : Option Addr) (cap : Nat) (S0 : Nat → Value), v = .slice a xs.length cap ∧ xs.length ≤ cap ∧ cap ≤ 9223372036854775807 ∧ SlA w 0 1 xs.length (fun i j => Cl.c (xs.getD i Cl.zero) (S0 i) j) a ∧ ∀ i (h : i < xs.length), Cl.At w xs[i] (S0 i) := by
  obtain ⟨sz, a, cap, f, e, h1, h2, h3, h4, h5⟩ := h.arr_inv
  simp only [List.length_map] at e h1 h3 h4 h5
  have hl : ∀ i, i < xs.length → sz = 1 := fun i hi => by
    have := h4 i hi
    rw [List.getElem_map, Cl.d_eq] at this
    exact this.symm
  have hk : ∀ i (hi : i < xs.length) j (d : D), (Cl.d xs[i])[j]? = some d → DAt w d (f i j) := by
    intro i hi j d hd
    have hj : j < (Cl.d xs[i]).length := (List.getElem?_eq_some_iff.1 hd).1
    have := h5 i j hi (by rw [List.getElem_map]; exact hj)
    simp only [List.getElem_map] at this
    rw [List.getElem?_eq_getElem hj] at hd
    rw [Option.some.inj hd] at this
    exact this
  refine ⟨a, cap, fun i => f i 0, e, h1, h2, ?_, fun i hi => ?_⟩
  · rcases Nat.eq_zero_or_pos xs.length with h0 | h0
    · exact .inl h0
    · rw [hl 0 h0] at h3
      refine h3.congr fun i j hi hj => ?_
      rw [getD_at _ hi]
      match j, hj with
      | 0, _ => rfl
  · exact hk i hi 0 _ (by rw [Cl.d_eq]; rfl)
theorem ClsAt.keep {w w' : World} {xs : List Cl} {v : Value} (h : ClsAt w xs v) (hb : Below w.heap.size w w') : ClsAt w' xs v := DAt.keep h hb
theorem ClsAt.elem {w : World} {xs : List Cl} {a : Option Addr} {n cap : Nat} (h : ClsAt w xs (.slice a n cap)) {k : Nat} (hk : k < xs.length) : ∃ (b off : Nat) (y0 : Option Addr) (n0 c0 : Nat), a = some ⟨b, off, none⟩ ∧ b < w.heap.size ∧ w.cell? ⟨b, off + k, none⟩ = some (.slice y0 n0 c0) ∧ Cl.At w xs[k] (.slice y0 n0 c0) := by
  obtain ⟨a', cap', S0, e, h1, h2, h3, h4⟩ := h.open_
  injection e with e1 e2 e3
  subst e1
  obtain ⟨b, off, rfl, hb, c0⟩ := h3.at1 hk
  have hF := h4 k hk
  obtain ⟨y0, n0, cc0, e0⟩ := DAt.form hF
  simp only [getD_at _ hk, Cl.c] at c0
  rw [e0] at c0
  refine ⟨b, off, y0, n0, cc0, rfl, hb, c0, ?_⟩
  rw [e0] at hF
  exact hF
theorem ClsAt.elemS {w : World} {xs : List Cl} {b off : Nat} {n cap : Nat} (h : ClsAt w xs (.slice (some ⟨b, off, none⟩) n cap)) {k : Nat} (hk : k < xs.length) : ∃ (y0 : Option Addr) (n0 c0 : Nat), b < w.heap.size ∧ w.cell? ⟨b, off + k, none⟩ = some (.slice y0 n0 c0) ∧ Cl.At w xs[k] (.slice y0 n0 c0) := by
  obtain ⟨b', off', y0, n0, c0, e, h⟩ := h.elem hk
  injection e with e; injection e with e1 e2; subst e1 e2
  exact ⟨y0, n0, c0, h⟩
theorem ClsAt.form_ {w : World} {xs : List Cl} {v : Value} (h : ClsAt w xs v) : ∃ (a : Option Addr) (cap : Nat), v = .slice a xs.length cap ∧ xs.length ≤ cap ∧ cap ≤ 9223372036854775807 := by
  obtain ⟨a, cap, _, e, h1, h2, _⟩ := h.open_
  exact ⟨a, cap, e, h1, h2⟩

structure Ag where
  var : ByteArray
  elem : Int
def Ag.d (x : Ag) : List D := [.str x.var, .int x.elem]
theorem Ag.d_eq (x : Ag) : Ag.d x = [.str x.var, .int x.elem] := rfl
def Ag.bulk (x : Ag) : Nat := x.var.size
theorem Ag.bulk_eq (x : Ag) : x.bulk = x.var.size := rfl
def Ag.sumB : List Ag → Nat
  | [] => 0
  | x :: xs => x.bulk + Ag.sumB xs
def Ag.zero : Ag := ⟨⟨#[]⟩, 0⟩
theorem Ag.bulk_le : ∀ (xs : List Ag) (k : Nat) (h : k < xs.length), xs[k].bulk ≤ Ag.sumB xs
  | [], k, h => absurd h (by simp)
  | x :: xs, 0, _ => by rw [Ag.sumB]; simp
  | x :: xs, k + 1, h => by
    have := Ag.bulk_le xs k (by simpa using h)
    rw [Ag.sumB]; simp only [List.getElem_cons_succ]; omega
def Ag.c (x : Ag) (j : Nat) : Value := match j with | 0 => .string x.var | _ => .int .i64 x.elem
abbrev AgsAt (w : World) (xs : List Ag) (v : Value) : Prop := DAt w (.arr (xs.map Ag.d)) v
def Ag.At (w : World) (x : Ag) : Prop := x.var.size ≤ 9223372036854775807
theorem Ag.At.keep {w w' : World} {x : Ag} (h : Ag.At w x) (hb : Below w.heap.size w w') : Ag.At w' x := h
theorem AgsAt.open_ {w : World} {xs : List Ag} {v : Value} (h : AgsAt w xs v) : ∃ (a : Option Addr) (cap : Nat), v = .slice a xs.length cap ∧ xs.length ≤ cap ∧ cap ≤ 9223372036854775807 ∧ SlA w 0 2 xs.length (fun i j => Ag.c (xs.getD i Ag.zero) j) a ∧ ∀ i (h : i < xs.length), Ag.At w xs[i] := by
  obtain ⟨sz, a, cap, f, e, h1, h2, h3, h4, h5⟩ := h.arr_inv
  simp only [List.length_map] at e h1 h3 h4 h5
  have hl : ∀ i, i < xs.length → sz = 2 := fun i hi => by
    have := h4 i hi
    rw [List.getElem_map, Ag.d_eq] at this
    exact this.symm
  have hk : ∀ i (hi : i < xs.length) j (d : D), (Ag.d xs[i])[j]? = some d → DAt w d (f i j) := by
    intro i hi j d hd
    have hj : j < (Ag.d xs[i]).length := (List.getElem?_eq_some_iff.1 hd).1
    have := h5 i j hi (by rw [List.getElem_map]; exact hj)
    simp only [List.getElem_map] at this
    rw [List.getElem?_eq_getElem hj] at hd
    rw [Option.some.inj hd] at this
    exact this
  refine ⟨a, cap, e, h1, h2, ?_, fun i hi => ?_⟩
  · rcases Nat.eq_zero_or_pos xs.length with h0 | h0
    · exact .inl h0
    · rw [hl 0 h0] at h3
      refine h3.congr fun i j hi hj => ?_
      rw [getD_at _ hi]
      match j, hj with
      | 0, _ => exact (hk i hi 0 _ (by rw [Ag.d_eq]; rfl)).str_inv.1
      | 1, _ => exact (hk i hi 1 _ (by rw [Ag.d_eq]; rfl)).int_inv
  · exact (hk i hi 0 _ (by rw [Ag.d_eq]; rfl)).str_inv.2
theorem AgsAt.keep {w w' : World} {xs : List Ag} {v : Value} (h : AgsAt w xs v) (hb : Below w.heap.size w w') : AgsAt w' xs v := DAt.keep h hb
theorem AgsAt.elem {w : World} {xs : List Ag} {a : Option Addr} {n cap : Nat} (h : AgsAt w xs (.slice a n cap)) {k : Nat} (hk : k < xs.length) : ∃ (b off : Nat), a = some ⟨b, off, none⟩ ∧ b < w.heap.size ∧ w.cell? ⟨b, off + k * 2, none⟩ = some (.string xs[k].var) ∧ w.cell? ⟨b, off + k * 2 + 1, none⟩ = some (.int .i64 xs[k].elem) ∧ Ag.At w xs[k] := by
  obtain ⟨a', cap', e, h1, h2, h3, h4⟩ := h.open_
  injection e with e1 e2 e3
  subst e1
  obtain ⟨b, off, rfl, hb, c0, c1⟩ := h3.at2 hk
  have hF := h4 k hk
  simp only [getD_at _ hk, Ag.c] at c0 c1
  exact ⟨b, off, rfl, hb, c0, c1, hF⟩
theorem AgsAt.elemS {w : World} {xs : List Ag} {b off : Nat} {n cap : Nat} (h : AgsAt w xs (.slice (some ⟨b, off, none⟩) n cap)) {k : Nat} (hk : k < xs.length) : b < w.heap.size ∧ w.cell? ⟨b, off + k * 2, none⟩ = some (.string xs[k].var) ∧ w.cell? ⟨b, off + k * 2 + 1, none⟩ = some (.int .i64 xs[k].elem) ∧ Ag.At w xs[k] := by
  obtain ⟨b', off', e, h⟩ := h.elem hk
  injection e with e; injection e with e1 e2; subst e1 e2
  exact h
theorem AgsAt.form_ {w : World} {xs : List Ag} {v : Value} (h : AgsAt w xs v) : ∃ (a : Option Addr) (cap : Nat), v = .slice a xs.length cap ∧ xs.length ≤ cap ∧ cap ≤ 9223372036854775807 := by
  obtain ⟨a, cap, e, h1, h2, _⟩ := h.open_
  exact ⟨a, cap, e, h1, h2⟩

structure Bd where
  var : ByteArray
  term : Tm
def Bd.d (x : Bd) : List D := [.str x.var, .str x.term.name, .arr (x.term.args.map Tm.d)]
theorem Bd.d_eq (x : Bd) : Bd.d x = [.str x.var, .str x.term.name, .arr (x.term.args.map Tm.d)] := rfl
def Bd.bulk (x : Bd) : Nat := x.var.size + x.term.bulk
theorem Bd.bulk_eq (x : Bd) : x.bulk = x.var.size + x.term.bulk := rfl
def Bd.sumB : List Bd → Nat
  | [] => 0
  | x :: xs => x.bulk + Bd.sumB xs
def Bd.zero : Bd := ⟨⟨#[]⟩, Tm.zero⟩
theorem Bd.bulk_le : ∀ (xs : List Bd) (k : Nat) (h : k < xs.length), xs[k].bulk ≤ Bd.sumB xs
  | [], k, h => absurd h (by simp)
  | x :: xs, 0, _ => by rw [Bd.sumB]; simp
  | x :: xs, k + 1, h => by
    have := Bd.bulk_le xs k (by simpa using h)
    rw [Bd.sumB]; simp only [List.getElem_cons_succ]; omega
def Bd.c (x : Bd) (s0 : Value) (j : Nat) : Value := match j with | 0 => .string x.var | 1 => .string x.term.name | _ => s0
abbrev BdsAt (w : World) (xs : List Bd) (v : Value) : Prop := DAt w (.arr (xs.map Bd.d)) v
def Bd.At (w : World) (x : Bd) (s0 : Value) : Prop := x.var.size ≤ 9223372036854775807 ∧ x.term.name.size ≤ 9223372036854775807 ∧ TmsAt w x.term.args s0
theorem Bd.At.keep {w w' : World} {x : Bd} {s0 : Value} (h : Bd.At w x s0) (hb : Below w.heap.size w w') : Bd.At w' x s0 := ⟨h.1, h.2.1, DAt.keep h.2.2 hb⟩
theorem BdsAt.open_ {w : World} {xs : List Bd} {v : Value} (h : BdsAt w xs v) : ∃ (a : Option Addr) (cap : Nat) (S0 : Nat → Value), v = .slice a xs.length cap ∧ xs.length ≤ cap ∧ cap ≤ 9223372036854775807 ∧ SlA w 0 3 xs.length (fun i j => Bd.c (xs.getD i Bd.zero) (S0 i) j) a ∧ ∀ i (h : i < xs.length), Bd.At w xs[i] (S0 i) := by
  obtain ⟨sz, a, cap, f, e, h1, h2, h3, h4, h5⟩ := h.arr_inv
  simp only [List.length_map] at e h1 h3 h4 h5
  have hl : ∀ i, i < xs.length → sz = 3 := fun i hi => by
    have := h4 i hi
    rw [List.getElem_map, Bd.d_eq] at this
    exact this.symm
  have hk : ∀ i (hi : i < xs.length) j (d : D), (Bd.d xs[i])[j]? = some d → DAt w d (f i j) := by
    intro i hi j d hd
    have hj : j < (Bd.d xs[i]).length := (List.getElem?_eq_some_iff.1 hd).1
    have := h5 i j hi (by rw [List.getElem_map]; exact hj)
    simp only [List.getElem_map] at this
    rw [List.getElem?_eq_getElem hj] at hd
    rw [Option.some.inj hd] at this
    exact this
  refine ⟨a, cap, fun i => f i 2, e, h1, h2, ?_, fun i hi => ?_⟩
  · rcases Nat.eq_zero_or_pos xs.length with h0 | h0
    · exact .inl h0
    · rw [hl 0 h0] at h3
      refine h3.congr fun i j hi hj => ?_
      rw [getD_at _ hi]
      match j, hj with
      | 0, _ => exact (hk i hi 0 _ (by rw [Bd.d_eq]; rfl)).str_inv.1
      | 1, _ => exact (hk i hi 1 _ (by rw [Bd.d_eq]; rfl)).str_inv.1
      | 2, _ => rfl
  · exact ⟨(hk i hi 0 _ (by rw [Bd.d_eq]; rfl)).str_inv.2, (hk i hi 1 _ (by rw [Bd.d_eq]; rfl)).str_inv.2, hk i hi 2 _ (by rw [Bd.d_eq]; rfl)⟩
theorem BdsAt.keep {w w' : World} {xs : List Bd} {v : Value} (h : BdsAt w xs v) (hb : Below w.heap.size w w') : BdsAt w' xs v := DAt.keep h hb
theorem BdsAt.elem {w : World} {xs : List Bd} {a : Option Addr} {n cap : Nat} (h : BdsAt w xs (.slice a n cap)) {k : Nat} (hk : k < xs.length) : ∃ (b off : Nat) (y0 : Option Addr) (n0 c0 : Nat), a = some ⟨b, off, none⟩ ∧ b < w.heap.size ∧ w.cell? ⟨b, off + k * 3, none⟩ = some (.string xs[k].var) ∧ w.cell? ⟨b, off + k * 3 + 1, none⟩ = some (.string xs[k].term.name) ∧ w.cell? ⟨b, off + k * 3 + 2, none⟩ = some (.slice y0 n0 c0) ∧ Bd.At w xs[k] (.slice y0 n0 c0) := by
  obtain ⟨a', cap', S0, e, h1, h2, h3, h4⟩ := h.open_
  injection e with e1 e2 e3
  subst e1
  obtain ⟨b, off, rfl, hb, c0, c1, c2⟩ := h3.at3 hk
  have hF := h4 k hk
  obtain ⟨y0, n0, cc0, e0⟩ := DAt.form hF.2.2
  simp only [getD_at _ hk, Bd.c] at c0 c1 c2
  rw [e0] at c2
  refine ⟨b, off, y0, n0, cc0, rfl, hb, c0, c1, c2, ?_⟩
  rw [e0] at hF
  exact hF
theorem BdsAt.elemS {w : World} {xs : List Bd} {b off : Nat} {n cap : Nat} (h : BdsAt w xs (.slice (some ⟨b, off, none⟩) n cap)) {k : Nat} (hk : k < xs.length) : ∃ (y0 : Option Addr) (n0 c0 : Nat), b < w.heap.size ∧ w.cell? ⟨b, off + k * 3, none⟩ = some (.string xs[k].var) ∧ w.cell? ⟨b, off + k * 3 + 1, none⟩ = some (.string xs[k].term.name) ∧ w.cell? ⟨b, off + k * 3 + 2, none⟩ = some (.slice y0 n0 c0) ∧ Bd.At w xs[k] (.slice y0 n0 c0) := by
  obtain ⟨b', off', y0, n0, c0, e, h⟩ := h.elem hk
  injection e with e; injection e with e1 e2; subst e1 e2
  exact ⟨y0, n0, c0, h⟩
theorem BdsAt.form_ {w : World} {xs : List Bd} {v : Value} (h : BdsAt w xs v) : ∃ (a : Option Addr) (cap : Nat), v = .slice a xs.length cap ∧ xs.length ≤ cap ∧ cap ≤ 9223372036854775807 := by
  obtain ⟨a, cap, _, e, h1, h2, _⟩ := h.open_
  exact ⟨a, cap, e, h1, h2⟩

structure Sb where
  binds : List Bd
def Sb.d (x : Sb) : List D := [.arr (x.binds.map Bd.d)]
theorem Sb.d_eq (x : Sb) : Sb.d x = [.arr (x.binds.map Bd.d)] := rfl
def Sb.bulk (x : Sb) : Nat := (x.binds.length + Bd.sumB x.binds)
theorem Sb.bulk_eq (x : Sb) : x.bulk = (x.binds.length + Bd.sumB x.binds) := rfl
def Sb.sumB : List Sb → Nat
  | [] => 0
  | x :: xs => x.bulk + Sb.sumB xs
def Sb.zero : Sb := ⟨[]⟩
theorem Sb.bulk_le : ∀ (xs : List Sb) (k : Nat) (h : k < xs.length), xs[k].bulk ≤ Sb.sumB xs
  | [], k, h => absurd h (by simp)
  | x :: xs, 0, _ => by rw [Sb.sumB]; simp
  | x :: xs, k + 1, h => by
    have := Sb.bulk_le xs k (by simpa using h)
    rw [Sb.sumB]; simp only [List.getElem_cons_succ]; omega
def Sb.c (x : Sb) (s0 : Value) (j : Nat) : Value := match j with | _ => s0
abbrev SbsAt (w : World) (xs : List Sb) (v : Value) : Prop := DAt w (.arr (xs.map Sb.d)) v
def Sb.At (w : World) (x : Sb) (s0 : Value) : Prop := BdsAt w x.binds s0
theorem Sb.At.keep {w w' : World} {x : Sb} {s0 : Value} (h : Sb.At w x s0) (hb : Below w.heap.size w w') : Sb.At w' x s0 := DAt.keep h hb
theorem SbsAt.open_ {w : World} {xs : List Sb} {v : Value} (h : SbsAt w xs v) : ∃ (a : Option Addr) (cap : Nat) (S0 : Nat → Value), v = .slice a xs.length cap ∧ xs.length ≤ cap ∧ cap ≤ 9223372036854775807 ∧ SlA w 0 1 xs.length (fun i j => Sb.c (xs.getD i Sb.zero) (S0 i) j) a ∧ ∀ i (h : i < xs.length), Sb.At w xs[i] (S0 i) := by
  obtain ⟨sz, a, cap, f, e, h1, h2, h3, h4, h5⟩ := h.arr_inv
  simp only [List.length_map] at e h1 h3 h4 h5
  have hl : ∀ i, i < xs.length → sz = 1 := fun i hi => by
    have := h4 i hi
    rw [List.getElem_map, Sb.d_eq] at this
    exact this.symm
  have hk : ∀ i (hi : i < xs.length) j (d : D), (Sb.d xs[i])[j]? = some d → DAt w d (f i j) := by
    intro i hi j d hd
    have hj : j < (Sb.d xs[i]).length := (List.getElem?_eq_some_iff.1 hd).1
    have := h5 i j hi (by rw [List.getElem_map]; exact hj)
    simp only [List.getElem_map] at this
    rw [List.getElem?_eq_getElem hj] at hd
    rw [Option.some.inj hd] at this
    exact this
  refine ⟨a, cap, fun i => f i 0, e, h1, h2, ?_, fun i hi => ?_⟩
  · rcases Nat.eq_zero_or_pos xs.length with h0 | h0
    · exact .inl h0
    · rw [hl 0 h0] at h3
      refine h3.congr fun i j hi hj => ?_
      rw [getD_at _ hi]
      match j, hj with
      | 0, _ => rfl
  · exact hk i hi 0 _ (by rw [Sb.d_eq]; rfl)
theorem SbsAt.keep {w w' : World} {xs : List Sb} {v : Value} (h : SbsAt w xs v) (hb : Below w.heap.size w w') : SbsAt w' xs v := DAt.keep h hb
theorem SbsAt.elem {w : World} {xs : List Sb} {a : Option Addr} {n cap : Nat} (h : SbsAt w xs (.slice a n cap)) {k : Nat} (hk : k < xs.length) : ∃ (b off : Nat) (y0 : Option Addr) (n0 c0 : Nat), a = some ⟨b, off, none⟩ ∧ b < w.heap.size ∧ w.cell? ⟨b, off + k, none⟩ = some (.slice y0 n0 c0) ∧ Sb.At w xs[k] (.slice y0 n0 c0) := by
  obtain ⟨a', cap', S0, e, h1, h2, h3, h4⟩ := h.open_
  injection e with e1 e2 e3
  subst e1
  obtain ⟨b, off, rfl, hb, c0⟩ := h3.at1 hk
  have hF := h4 k hk
  obtain ⟨y0, n0, cc0, e0⟩ := DAt.form hF
  simp only [getD_at _ hk, Sb.c] at c0
  rw [e0] at c0
  refine ⟨b, off, y0, n0, cc0, rfl, hb, c0, ?_⟩
  rw [e0] at hF
  exact hF
theorem SbsAt.elemS {w : World} {xs : List Sb} {b off : Nat} {n cap : Nat} (h : SbsAt w xs (.slice (some ⟨b, off, none⟩) n cap)) {k : Nat} (hk : k < xs.length) : ∃ (y0 : Option Addr) (n0 c0 : Nat), b < w.heap.size ∧ w.cell? ⟨b, off + k, none⟩ = some (.slice y0 n0 c0) ∧ Sb.At w xs[k] (.slice y0 n0 c0) := by
  obtain ⟨b', off', y0, n0, c0, e, h⟩ := h.elem hk
  injection e with e; injection e with e1 e2; subst e1 e2
  exact ⟨y0, n0, c0, h⟩
theorem SbsAt.form_ {w : World} {xs : List Sb} {v : Value} (h : SbsAt w xs v) : ∃ (a : Option Addr) (cap : Nat), v = .slice a xs.length cap ∧ xs.length ≤ cap ∧ cap ≤ 9223372036854775807 := by
  obtain ⟨a, cap, _, e, h1, h2, _⟩ := h.open_
  exact ⟨a, cap, e, h1, h2⟩

structure Df where
  name : ByteArray
  vars : List ByteArray
  form : Fm
def Df.d (x : Df) : List D := [.str x.name, .arr (x.vars.map fun s => [.str s]), .int x.form.op, .str x.form.atom.name, .arr (x.form.atom.args.map Tm.d), .str x.form.var, .arr (x.form.parts.map Fm.d)]
theorem Df.d_eq (x : Df) : Df.d x = [.str x.name, .arr (x.vars.map fun s => [.str s]), .int x.form.op, .str x.form.atom.name, .arr (x.form.atom.args.map Tm.d), .str x.form.var, .arr (x.form.parts.map Fm.d)] := rfl
def Df.bulk (x : Df) : Nat := x.name.size + (x.vars.length + strB x.vars) + x.form.bulk
theorem Df.bulk_eq (x : Df) : x.bulk = x.name.size + (x.vars.length + strB x.vars) + x.form.bulk := rfl
def Df.sumB : List Df → Nat
  | [] => 0
  | x :: xs => x.bulk + Df.sumB xs
def Df.zero : Df := ⟨⟨#[]⟩, [], Fm.zero⟩
theorem Df.bulk_le : ∀ (xs : List Df) (k : Nat) (h : k < xs.length), xs[k].bulk ≤ Df.sumB xs
  | [], k, h => absurd h (by simp)
  | x :: xs, 0, _ => by rw [Df.sumB]; simp
  | x :: xs, k + 1, h => by
    have := Df.bulk_le xs k (by simpa using h)
    rw [Df.sumB]; simp only [List.getElem_cons_succ]; omega
def Df.c (x : Df) (s0 : Value) (s1 : Value) (s2 : Value) (j : Nat) : Value := match j with | 0 => .string x.name | 1 => s0 | 2 => .int .i64 x.form.op | 3 => .string x.form.atom.name | 4 => s1 | 5 => .string x.form.var | _ => s2
abbrev DfsAt (w : World) (xs : List Df) (v : Value) : Prop := DAt w (.arr (xs.map Df.d)) v
def Df.At (w : World) (x : Df) (s0 : Value) (s1 : Value) (s2 : Value) : Prop := x.name.size ≤ 9223372036854775807 ∧ StrsAt w x.vars s0 ∧ x.form.atom.name.size ≤ 9223372036854775807 ∧ TmsAt w x.form.atom.args s1 ∧ x.form.var.size ≤ 9223372036854775807 ∧ FmsAt w x.form.parts s2
theorem Df.At.keep {w w' : World} {x : Df} {s0 : Value} {s1 : Value} {s2 : Value} (h : Df.At w x s0 s1 s2) (hb : Below w.heap.size w w') : Df.At w' x s0 s1 s2 := ⟨h.1, DAt.keep h.2.1 hb, h.2.2.1, DAt.keep h.2.2.2.1 hb, h.2.2.2.2.1, DAt.keep h.2.2.2.2.2 hb⟩
theorem DfsAt.open_ {w : World} {xs : List Df} {v : Value} (h : DfsAt w xs v) : ∃ (a : Option Addr) (cap : Nat) (S0 : Nat → Value) (S1 : Nat → Value) (S2 : Nat → Value), v = .slice a xs.length cap ∧ xs.length ≤ cap ∧ cap ≤ 9223372036854775807 ∧ SlA w 0 7 xs.length (fun i j => Df.c (xs.getD i Df.zero) (S0 i) (S1 i) (S2 i) j) a ∧ ∀ i (h : i < xs.length), Df.At w xs[i] (S0 i) (S1 i) (S2 i) := by
  obtain ⟨sz, a, cap, f, e, h1, h2, h3, h4, h5⟩ := h.arr_inv
  simp only [List.length_map] at e h1 h3 h4 h5
  have hl : ∀ i, i < xs.length → sz = 7 := fun i hi => by
    have := h4 i hi
    rw [List.getElem_map, Df.d_eq] at this
    exact this.symm
  have hk : ∀ i (hi : i < xs.length) j (d : D), (Df.d xs[i])[j]? = some d → DAt w d (f i j) := by
    intro i hi j d hd
    have hj : j < (Df.d xs[i]).length := (List.getElem?_eq_some_iff.1 hd).1
    have := h5 i j hi (by rw [List.getElem_map]; exact hj)
    simp only [List.getElem_map] at this
    rw [List.getElem?_eq_getElem hj] at hd
    rw [Option.some.inj hd] at this
    exact this
  refine ⟨a, cap, fun i => f i 1, fun i => f i 4, fun i => f i 6, e, h1, h2, ?_, fun i hi => ?_⟩
  · rcases Nat.eq_zero_or_pos xs.length with h0 | h0
    · exact .inl h0
    · rw [hl 0 h0] at h3
      refine h3.congr fun i j hi hj => ?_
      rw [getD_at _ hi]
      match j, hj with
      | 0, _ => exact (hk i hi 0 _ (by rw [Df.d_eq]; rfl)).str_inv.1
      | 1, _ => rfl
      | 2, _ => exact (hk i hi 2 _ (by rw [Df.d_eq]; rfl)).int_inv
      | 3, _ => exact (hk i hi 3 _ (by rw [Df.d_eq]; rfl)).str_inv.1
      | 4, _ => rfl
      | 5, _ => exact (hk i hi 5 _ (by rw [Df.d_eq]; rfl)).str_inv.1
      | 6, _ => rfl
  · exact ⟨(hk i hi 0 _ (by rw [Df.d_eq]; rfl)).str_inv.2, hk i hi 1 _ (by rw [Df.d_eq]; rfl), (hk i hi 3 _ (by rw [Df.d_eq]; rfl)).str_inv.2, hk i hi 4 _ (by rw [Df.d_eq]; rfl), (hk i hi 5 _ (by rw [Df.d_eq]; rfl)).str_inv.2, hk i hi 6 _ (by rw [Df.d_eq]; rfl)⟩
theorem DfsAt.keep {w w' : World} {xs : List Df} {v : Value} (h : DfsAt w xs v) (hb : Below w.heap.size w w') : DfsAt w' xs v := DAt.keep h hb
theorem DfsAt.elem {w : World} {xs : List Df} {a : Option Addr} {n cap : Nat} (h : DfsAt w xs (.slice a n cap)) {k : Nat} (hk : k < xs.length) : ∃ (b off : Nat) (y0 : Option Addr) (n0 c0 : Nat) (y1 : Option Addr) (n1 c1 : Nat) (y2 : Option Addr) (n2 c2 : Nat), a = some ⟨b, off, none⟩ ∧ b < w.heap.size ∧ w.cell? ⟨b, off + k * 7, none⟩ = some (.string xs[k].name) ∧ w.cell? ⟨b, off + k * 7 + 1, none⟩ = some (.slice y0 n0 c0) ∧ w.cell? ⟨b, off + k * 7 + 2, none⟩ = some (.int .i64 xs[k].form.op) ∧ w.cell? ⟨b, off + k * 7 + 3, none⟩ = some (.string xs[k].form.atom.name) ∧ w.cell? ⟨b, off + k * 7 + 4, none⟩ = some (.slice y1 n1 c1) ∧ w.cell? ⟨b, off + k * 7 + 5, none⟩ = some (.string xs[k].form.var) ∧ w.cell? ⟨b, off + k * 7 + 6, none⟩ = some (.slice y2 n2 c2) ∧ Df.At w xs[k] (.slice y0 n0 c0) (.slice y1 n1 c1) (.slice y2 n2 c2) := by
  obtain ⟨a', cap', S0, S1, S2, e, h1, h2, h3, h4⟩ := h.open_
  injection e with e1 e2 e3
  subst e1
  obtain ⟨b, off, rfl, hb, c0, c1, c2, c3, c4, c5, c6⟩ := h3.at7 hk
  have hF := h4 k hk
  obtain ⟨y0, n0, cc0, e0⟩ := DAt.form hF.2.1
  obtain ⟨y1, n1, cc1, e1⟩ := DAt.form hF.2.2.2.1
  obtain ⟨y2, n2, cc2, e2⟩ := DAt.form hF.2.2.2.2.2
  simp only [getD_at _ hk, Df.c] at c0 c1 c2 c3 c4 c5 c6
  rw [e0] at c1
  rw [e1] at c4
  rw [e2] at c6
  refine ⟨b, off, y0, n0, cc0, y1, n1, cc1, y2, n2, cc2, rfl, hb, c0, c1, c2, c3, c4, c5, c6, ?_⟩
  rw [e0, e1, e2] at hF
  exact hF
theorem DfsAt.elemS {w : World} {xs : List Df} {b off : Nat} {n cap : Nat} (h : DfsAt w xs (.slice (some ⟨b, off, none⟩) n cap)) {k : Nat} (hk : k < xs.length) : ∃ (y0 : Option Addr) (n0 c0 : Nat) (y1 : Option Addr) (n1 c1 : Nat) (y2 : Option Addr) (n2 c2 : Nat), b < w.heap.size ∧ w.cell? ⟨b, off + k * 7, none⟩ = some (.string xs[k].name) ∧ w.cell? ⟨b, off + k * 7 + 1, none⟩ = some (.slice y0 n0 c0) ∧ w.cell? ⟨b, off + k * 7 + 2, none⟩ = some (.int .i64 xs[k].form.op) ∧ w.cell? ⟨b, off + k * 7 + 3, none⟩ = some (.string xs[k].form.atom.name) ∧ w.cell? ⟨b, off + k * 7 + 4, none⟩ = some (.slice y1 n1 c1) ∧ w.cell? ⟨b, off + k * 7 + 5, none⟩ = some (.string xs[k].form.var) ∧ w.cell? ⟨b, off + k * 7 + 6, none⟩ = some (.slice y2 n2 c2) ∧ Df.At w xs[k] (.slice y0 n0 c0) (.slice y1 n1 c1) (.slice y2 n2 c2) := by
  obtain ⟨b', off', y0, n0, c0, y1, n1, c1, y2, n2, c2, e, h⟩ := h.elem hk
  injection e with e; injection e with e1 e2; subst e1 e2
  exact ⟨y0, n0, c0, y1, n1, c1, y2, n2, c2, h⟩
theorem DfsAt.form_ {w : World} {xs : List Df} {v : Value} (h : DfsAt w xs v) : ∃ (a : Option Addr) (cap : Nat), v = .slice a xs.length cap ∧ xs.length ≤ cap ∧ cap ≤ 9223372036854775807 := by
  obtain ⟨a, cap, _, _, _, e, h1, h2, _⟩ := h.open_
  exact ⟨a, cap, e, h1, h2⟩

end Go.Proofs.Ytpbakldlhjdipaa
