/-
  This text proves what the forms of formulas are in the reference, one formula without its parts. Condition: less than 2^40 in all.
-/
import Derived.Test.YtpbakldlhjdipaaFrm1
import Derived.Test.YtpbakldlhjdipaaTrm6
set_option maxRecDepth 100000
set_option linter.unusedSimpArgs false
set_option linter.unusedVariables false
namespace Go.Proofs.Ytpbakldlhjdipaa
open Go.RowKit

theorem Tm.nodeS_le_bulk : ∀ xs : List Tm, (∀ y ∈ xs, y.nodes ≤ y.bulk + 1) → Tm.nodeS xs ≤ xs.length + Tm.sumB xs
  | [], _ => by simp [Tm.nodeS]
  | x :: xs, h => by
    have h1 := h x (by simp)
    have h2 := Tm.nodeS_le_bulk xs fun y hy => h y (by simp [hy])
    rw [Tm.nodeS, Tm.sumB, List.length_cons]; omega
theorem Tm.nodes_le_bulk (x : Tm) : x.nodes ≤ x.bulk + 1 := by
  rw [Tm.nodes_eq, Tm.bulk_eq]
  have := Tm.nodeS_le_bulk x.args fun y hy => Tm.nodes_le_bulk y
  omega
termination_by SizeOf.sizeOf x
decreasing_by exact Tm.lt_of_mem hy
theorem Fm.nodeS_le_bulk : ∀ xs : List Fm, (∀ y ∈ xs, y.nodes ≤ y.bulk + 1) → Fm.nodeS xs ≤ xs.length + Fm.sumB xs
  | [], _ => by simp [Fm.nodeS]
  | x :: xs, h => by
    have h1 := h x (by simp)
    have h2 := Fm.nodeS_le_bulk xs fun y hy => h y (by simp [hy])
    rw [Fm.nodeS, Fm.sumB, List.length_cons]; omega
theorem Fm.nodes_le_bulk (x : Fm) : x.nodes ≤ x.bulk + 1 := by
  rw [Fm.nodes_eq, Fm.bulk_eq]
  have := Fm.nodeS_le_bulk x.parts fun y hy => Fm.nodes_le_bulk y
  omega
termination_by SizeOf.sizeOf x
decreasing_by exact Fm.lt_of_mem hy

theorem natBeq0 (n : Nat) : ((n : Int) == 0) = (n == 0) := by rw [Bool.eq_iff_iff]; simp
def Tm.none (x : Tm) : Bool := x.name.toList == [] && x.args.length == 0
theorem l8None_any (x : Tm) : ∀ (s0 : Value) (w : World), Tm.At w x s0 → Calls Try.prog 165 #[.agg #[.string x.name, s0]] w (Ret w (.bool x.none)) := by
  intro s0 w hx
  obtain ⟨y, cap, rfl, hnc, hcap⟩ := TmsAt.form_ hx.2
  clear hx
  by_cases hn : x.name.toList = []
  all_goals
    have HN := Lib.hid hn
    go_enter Try.func165, Try.ntmps165
    go_wp2_with fail
    go_ret
    exact Ret.bel (by unfold Tm.none; have := HN.out; simp [this, natBeq0]) (by (repeat' first | (with_reducible exact Below.refl _ _) | (with_reducible refine Below.setCell ?_ ?_ _) | (with_reducible refine Below.alloc ?_ ?_ _) | (with_reducible refine Below.drewN' ?_ _) | (with_reducible refine Below.via ?_ (by assumption) ?_) | (with_reducible exact Nat.le_refl _) | (simp; done) | (simp; omega) | omega))
theorem isZeroTerm_any (x : Tm) : ∀ (s0 : Value) (w : World), Tm.At w x s0 → Calls Try.prog 157 #[.agg #[.string x.name, s0]] w (Ret w (.bool x.none)) := by
  intro s0 w hx
  obtain ⟨y, cap, rfl, hnc, hcap⟩ := TmsAt.form_ hx.2
  clear hx
  by_cases hn : x.name.toList = []
  all_goals
    have HN := Lib.hid hn
    go_enter Try.func157, Try.ntmps157
    go_wp2_with fail
    go_ret
    exact Ret.bel (by unfold Tm.none; have := HN.out; simp [this, natBeq0]) (by (repeat' first | (with_reducible exact Below.refl _ _) | (with_reducible refine Below.setCell ?_ ?_ _) | (with_reducible refine Below.alloc ?_ ?_ _) | (with_reducible refine Below.drewN' ?_ _) | (with_reducible refine Below.via ?_ (by assumption) ?_) | (with_reducible exact Nat.le_refl _) | (simp; done) | (simp; omega) | omega))

/-- The form of one formula without its parts. -/
def Fm.form (x : Fm) : Bool :=
  if x.op = 1 ∨ x.op = 2 then x.parts.length == 0 && x.atom.none && x.var.toList == []
  else if x.op = 3 then x.parts.length == 0 && x.atom.atom && x.var.toList == []
  else if x.op = 4 then x.parts.length == 1 && x.atom.none && x.var.toList == []
  else if x.op = 5 ∨ x.op = 6 ∨ x.op = 7 then x.parts.length == 2 && x.atom.none && x.var.toList == []
  else if x.op = 8 ∨ x.op = 9 then x.parts.length == 1 && x.atom.none && varB x.var
  else false
def BoolF (f : FuncId) (x : Fm) (b : Bool) : Prop := ∀ (s0 s1 : Value) (w : World), x.bulk ≤ 1099511627775 → Fm.At w x s0 s1 → Calls Try.prog f #[.agg #[.int .i64 x.op, .string x.atom.name, s0, .string x.var, s1]] w (Ret w (.bool b))
theorem op_cases (n : Int) : n = 1 ∨ n = 2 ∨ n = 3 ∨ n = 4 ∨ n = 5 ∨ n = 6 ∨ n = 7 ∨ n = 8 ∨ n = 9 ∨ (n ≠ 1 ∧ n ≠ 2 ∧ n ≠ 3 ∧ n ≠ 4 ∧ n ≠ 5 ∧ n ≠ 6 ∧ n ≠ 7 ∧ n ≠ 8 ∧ n ≠ 9) := by omega
set_option maxHeartbeats 2000000 in
theorem l8Form_1 (x : Fm) (ho : x.op = 1) : BoolF 154 x x.form := by
  intro s0 s1 w hbk hx
  obtain ⟨ba, ga, bv, gs⟩ := hx
  have HA : Hid (Tm.At w x.atom s0) := Lib.hid ⟨ba, ga⟩
  have HU := Lib.hid hbk
  obtain ⟨a0, n0, cap0, rfl⟩ := DAt.form ga
  obtain ⟨a, cap, rfl, hnc, hcap⟩ := FmsAt.form_ gs
  clear ga gs hbk
  have HF : Hid (x.form = (x.parts.length == 0 && x.atom.none && x.var.toList == [])) := Lib.hid (by unfold Fm.form; simp [ho])
  rw [ho]
  by_cases hl : x.parts.length = 0
  · have hl2 : (x.parts.length : Int) = 0 := by omega
    have HL := Lib.hid hl
    clear hl
    cases hs : x.atom.none
    · have H1 := Lib.hid hs
      clear hs
      go_enter Try.func154, Try.ntmps154
      go_wp2_with fail
      refine (Ret.mono (l8None_any x.atom _ _ (HA.out.keep (by (repeat' first | (with_reducible exact Below.refl _ _) | (with_reducible refine Below.setCell ?_ ?_ _) | (with_reducible refine Below.alloc ?_ ?_ _) | (with_reducible refine Below.drewN' ?_ _) | (with_reducible refine Below.via ?_ (by assumption) ?_) | (with_reducible exact Nat.le_refl _) | (simp; done) | (simp; omega) | omega)))) (by rw [H1.out])).mono ?_
      rintro e w1 ⟨rfl, hb1⟩
      have hz1 := hb1.size
      (try simp at hz1)
      obtain ⟨hc1, hf1⟩ := bcell hb1
      (try simp only [sz_setCell, sz_alloc, sz_drewN] at hc1 hf1)
      (try have hu1_0 : w.heap.size < w1.heap.size := by omega)
      (try have hu1_1 : w.heap.size + 1 < w1.heap.size := by omega)
      (try have hu1_2 : w.heap.size + 1 + 1 < w1.heap.size := by omega)
      (try have hx1_0 : b < w1.heap.size := by omega)
      (try have hx1_1 : b' < w1.heap.size := by omega)
      (try have hx1_2 : b2 < w1.heap.size := by omega)
      go_wp2_with fail
      go_ret
      exact Ret.bel (by rw [HF.out, H1.out]; simp) (by (repeat' first | (with_reducible exact Below.refl _ _) | (with_reducible refine Below.setCell ?_ ?_ _) | (with_reducible refine Below.alloc ?_ ?_ _) | (with_reducible refine Below.drewN' ?_ _) | (with_reducible refine Below.via ?_ (by assumption) ?_) | (with_reducible exact Nat.le_refl _) | (simp; done) | (simp; omega) | omega))
    · have H1 := Lib.hid hs
      clear hs
      go_enter Try.func154, Try.ntmps154
      go_wp2_with fail
      refine (Ret.mono (l8None_any x.atom _ _ (HA.out.keep (by (repeat' first | (with_reducible exact Below.refl _ _) | (with_reducible refine Below.setCell ?_ ?_ _) | (with_reducible refine Below.alloc ?_ ?_ _) | (with_reducible refine Below.drewN' ?_ _) | (with_reducible refine Below.via ?_ (by assumption) ?_) | (with_reducible exact Nat.le_refl _) | (simp; done) | (simp; omega) | omega)))) (by rw [H1.out])).mono ?_
      rintro e w1 ⟨rfl, hb1⟩
      have hz1 := hb1.size
      (try simp at hz1)
      obtain ⟨hc1, hf1⟩ := bcell hb1
      (try simp only [sz_setCell, sz_alloc, sz_drewN] at hc1 hf1)
      (try have hu1_0 : w.heap.size < w1.heap.size := by omega)
      (try have hu1_1 : w.heap.size + 1 < w1.heap.size := by omega)
      (try have hu1_2 : w.heap.size + 1 + 1 < w1.heap.size := by omega)
      (try have hx1_0 : b < w1.heap.size := by omega)
      (try have hx1_1 : b' < w1.heap.size := by omega)
      (try have hx1_2 : b2 < w1.heap.size := by omega)
      go_wp2_with fail
      go_ret
      exact Ret.bel (by rw [HF.out, H1.out]; simp [HL.out]) (by (repeat' first | (with_reducible exact Below.refl _ _) | (with_reducible refine Below.setCell ?_ ?_ _) | (with_reducible refine Below.alloc ?_ ?_ _) | (with_reducible refine Below.drewN' ?_ _) | (with_reducible refine Below.via ?_ (by assumption) ?_) | (with_reducible exact Nat.le_refl _) | (simp; done) | (simp; omega) | omega))
  · have hl2 : ¬ (x.parts.length : Int) = 0 := by omega
    go_enter Try.func154, Try.ntmps154
    go_wp2_with fail
    go_ret
    exact Ret.bel (by rw [HF.out]; simp [hl]) (by (repeat' first | (with_reducible exact Below.refl _ _) | (with_reducible refine Below.setCell ?_ ?_ _) | (with_reducible refine Below.alloc ?_ ?_ _) | (with_reducible refine Below.drewN' ?_ _) | (with_reducible refine Below.via ?_ (by assumption) ?_) | (with_reducible exact Nat.le_refl _) | (simp; done) | (simp; omega) | omega))
set_option maxHeartbeats 2000000 in
theorem l8Form_2 (x : Fm) (ho : x.op = 2) : BoolF 154 x x.form := by
  intro s0 s1 w hbk hx
  obtain ⟨ba, ga, bv, gs⟩ := hx
  have HA : Hid (Tm.At w x.atom s0) := Lib.hid ⟨ba, ga⟩
  have HU := Lib.hid hbk
  obtain ⟨a0, n0, cap0, rfl⟩ := DAt.form ga
  obtain ⟨a, cap, rfl, hnc, hcap⟩ := FmsAt.form_ gs
  clear ga gs hbk
  have HF : Hid (x.form = (x.parts.length == 0 && x.atom.none && x.var.toList == [])) := Lib.hid (by unfold Fm.form; simp [ho])
  rw [ho]
  by_cases hl : x.parts.length = 0
  · have hl2 : (x.parts.length : Int) = 0 := by omega
    have HL := Lib.hid hl
    clear hl
    cases hs : x.atom.none
    · have H1 := Lib.hid hs
      clear hs
      go_enter Try.func154, Try.ntmps154
      go_wp2_with fail
      refine (Ret.mono (l8None_any x.atom _ _ (HA.out.keep (by (repeat' first | (with_reducible exact Below.refl _ _) | (with_reducible refine Below.setCell ?_ ?_ _) | (with_reducible refine Below.alloc ?_ ?_ _) | (with_reducible refine Below.drewN' ?_ _) | (with_reducible refine Below.via ?_ (by assumption) ?_) | (with_reducible exact Nat.le_refl _) | (simp; done) | (simp; omega) | omega)))) (by rw [H1.out])).mono ?_
      rintro e w1 ⟨rfl, hb1⟩
      have hz1 := hb1.size
      (try simp at hz1)
      obtain ⟨hc1, hf1⟩ := bcell hb1
      (try simp only [sz_setCell, sz_alloc, sz_drewN] at hc1 hf1)
      (try have hu1_0 : w.heap.size < w1.heap.size := by omega)
      (try have hu1_1 : w.heap.size + 1 < w1.heap.size := by omega)
      (try have hu1_2 : w.heap.size + 1 + 1 < w1.heap.size := by omega)
      (try have hx1_0 : b < w1.heap.size := by omega)
      (try have hx1_1 : b' < w1.heap.size := by omega)
      (try have hx1_2 : b2 < w1.heap.size := by omega)
      go_wp2_with fail
      go_ret
      exact Ret.bel (by rw [HF.out, H1.out]; simp) (by (repeat' first | (with_reducible exact Below.refl _ _) | (with_reducible refine Below.setCell ?_ ?_ _) | (with_reducible refine Below.alloc ?_ ?_ _) | (with_reducible refine Below.drewN' ?_ _) | (with_reducible refine Below.via ?_ (by assumption) ?_) | (with_reducible exact Nat.le_refl _) | (simp; done) | (simp; omega) | omega))
    · have H1 := Lib.hid hs
      clear hs
      go_enter Try.func154, Try.ntmps154
      go_wp2_with fail
      refine (Ret.mono (l8None_any x.atom _ _ (HA.out.keep (by (repeat' first | (with_reducible exact Below.refl _ _) | (with_reducible refine Below.setCell ?_ ?_ _) | (with_reducible refine Below.alloc ?_ ?_ _) | (with_reducible refine Below.drewN' ?_ _) | (with_reducible refine Below.via ?_ (by assumption) ?_) | (with_reducible exact Nat.le_refl _) | (simp; done) | (simp; omega) | omega)))) (by rw [H1.out])).mono ?_
      rintro e w1 ⟨rfl, hb1⟩
      have hz1 := hb1.size
      (try simp at hz1)
      obtain ⟨hc1, hf1⟩ := bcell hb1
      (try simp only [sz_setCell, sz_alloc, sz_drewN] at hc1 hf1)
      (try have hu1_0 : w.heap.size < w1.heap.size := by omega)
      (try have hu1_1 : w.heap.size + 1 < w1.heap.size := by omega)
      (try have hu1_2 : w.heap.size + 1 + 1 < w1.heap.size := by omega)
      (try have hx1_0 : b < w1.heap.size := by omega)
      (try have hx1_1 : b' < w1.heap.size := by omega)
      (try have hx1_2 : b2 < w1.heap.size := by omega)
      go_wp2_with fail
      go_ret
      exact Ret.bel (by rw [HF.out, H1.out]; simp [HL.out]) (by (repeat' first | (with_reducible exact Below.refl _ _) | (with_reducible refine Below.setCell ?_ ?_ _) | (with_reducible refine Below.alloc ?_ ?_ _) | (with_reducible refine Below.drewN' ?_ _) | (with_reducible refine Below.via ?_ (by assumption) ?_) | (with_reducible exact Nat.le_refl _) | (simp; done) | (simp; omega) | omega))
  · have hl2 : ¬ (x.parts.length : Int) = 0 := by omega
    go_enter Try.func154, Try.ntmps154
    go_wp2_with fail
    go_ret
    exact Ret.bel (by rw [HF.out]; simp [hl]) (by (repeat' first | (with_reducible exact Below.refl _ _) | (with_reducible refine Below.setCell ?_ ?_ _) | (with_reducible refine Below.alloc ?_ ?_ _) | (with_reducible refine Below.drewN' ?_ _) | (with_reducible refine Below.via ?_ (by assumption) ?_) | (with_reducible exact Nat.le_refl _) | (simp; done) | (simp; omega) | omega))
set_option maxHeartbeats 2000000 in
theorem l8Form_3 (x : Fm) (ho : x.op = 3) : BoolF 154 x x.form := by
  intro s0 s1 w hbk hx
  obtain ⟨ba, ga, bv, gs⟩ := hx
  have HA : Hid (Tm.At w x.atom s0) := Lib.hid ⟨ba, ga⟩
  have HU := Lib.hid hbk
  obtain ⟨a0, n0, cap0, rfl⟩ := DAt.form ga
  obtain ⟨a, cap, rfl, hnc, hcap⟩ := FmsAt.form_ gs
  clear ga gs hbk
  have HF : Hid (x.form = (x.parts.length == 0 && x.atom.atom && x.var.toList == [])) := Lib.hid (by unfold Fm.form; simp [ho])
  rw [ho]
  by_cases hl : x.parts.length = 0
  · have hl2 : (x.parts.length : Int) = 0 := by omega
    have HL := Lib.hid hl
    clear hl
    cases hs : x.atom.atom
    · have H1 := Lib.hid hs
      clear hs
      go_enter Try.func154, Try.ntmps154
      go_wp2_with fail
      refine (Ret.mono (l2Atom_any x.atom _ _ (by have := Tm.nodes_le_bulk x.atom; have := HU.out; have := Fm.bulk_eq x; omega) (HA.out.keep (by (repeat' first | (with_reducible exact Below.refl _ _) | (with_reducible refine Below.setCell ?_ ?_ _) | (with_reducible refine Below.alloc ?_ ?_ _) | (with_reducible refine Below.drewN' ?_ _) | (with_reducible refine Below.via ?_ (by assumption) ?_) | (with_reducible exact Nat.le_refl _) | (simp; done) | (simp; omega) | omega)))) (by rw [H1.out])).mono ?_
      rintro e w1 ⟨rfl, hb1⟩
      have hz1 := hb1.size
      (try simp at hz1)
      obtain ⟨hc1, hf1⟩ := bcell hb1
      (try simp only [sz_setCell, sz_alloc, sz_drewN] at hc1 hf1)
      (try have hu1_0 : w.heap.size < w1.heap.size := by omega)
      (try have hu1_1 : w.heap.size + 1 < w1.heap.size := by omega)
      (try have hu1_2 : w.heap.size + 1 + 1 < w1.heap.size := by omega)
      (try have hx1_0 : b < w1.heap.size := by omega)
      (try have hx1_1 : b' < w1.heap.size := by omega)
      (try have hx1_2 : b2 < w1.heap.size := by omega)
      go_wp2_with fail
      go_ret
      exact Ret.bel (by rw [HF.out, H1.out]; simp) (by (repeat' first | (with_reducible exact Below.refl _ _) | (with_reducible refine Below.setCell ?_ ?_ _) | (with_reducible refine Below.alloc ?_ ?_ _) | (with_reducible refine Below.drewN' ?_ _) | (with_reducible refine Below.via ?_ (by assumption) ?_) | (with_reducible exact Nat.le_refl _) | (simp; done) | (simp; omega) | omega))
    · have H1 := Lib.hid hs
      clear hs
      go_enter Try.func154, Try.ntmps154
      go_wp2_with fail
      refine (Ret.mono (l2Atom_any x.atom _ _ (by have := Tm.nodes_le_bulk x.atom; have := HU.out; have := Fm.bulk_eq x; omega) (HA.out.keep (by (repeat' first | (with_reducible exact Below.refl _ _) | (with_reducible refine Below.setCell ?_ ?_ _) | (with_reducible refine Below.alloc ?_ ?_ _) | (with_reducible refine Below.drewN' ?_ _) | (with_reducible refine Below.via ?_ (by assumption) ?_) | (with_reducible exact Nat.le_refl _) | (simp; done) | (simp; omega) | omega)))) (by rw [H1.out])).mono ?_
      rintro e w1 ⟨rfl, hb1⟩
      have hz1 := hb1.size
      (try simp at hz1)
      obtain ⟨hc1, hf1⟩ := bcell hb1
      (try simp only [sz_setCell, sz_alloc, sz_drewN] at hc1 hf1)
      (try have hu1_0 : w.heap.size < w1.heap.size := by omega)
      (try have hu1_1 : w.heap.size + 1 < w1.heap.size := by omega)
      (try have hu1_2 : w.heap.size + 1 + 1 < w1.heap.size := by omega)
      (try have hx1_0 : b < w1.heap.size := by omega)
      (try have hx1_1 : b' < w1.heap.size := by omega)
      (try have hx1_2 : b2 < w1.heap.size := by omega)
      go_wp2_with fail
      go_ret
      exact Ret.bel (by rw [HF.out, H1.out]; simp [HL.out]) (by (repeat' first | (with_reducible exact Below.refl _ _) | (with_reducible refine Below.setCell ?_ ?_ _) | (with_reducible refine Below.alloc ?_ ?_ _) | (with_reducible refine Below.drewN' ?_ _) | (with_reducible refine Below.via ?_ (by assumption) ?_) | (with_reducible exact Nat.le_refl _) | (simp; done) | (simp; omega) | omega))
  · have hl2 : ¬ (x.parts.length : Int) = 0 := by omega
    go_enter Try.func154, Try.ntmps154
    go_wp2_with fail
    go_ret
    exact Ret.bel (by rw [HF.out]; simp [hl]) (by (repeat' first | (with_reducible exact Below.refl _ _) | (with_reducible refine Below.setCell ?_ ?_ _) | (with_reducible refine Below.alloc ?_ ?_ _) | (with_reducible refine Below.drewN' ?_ _) | (with_reducible refine Below.via ?_ (by assumption) ?_) | (with_reducible exact Nat.le_refl _) | (simp; done) | (simp; omega) | omega))
set_option maxHeartbeats 2000000 in
theorem l8Form_4 (x : Fm) (ho : x.op = 4) : BoolF 154 x x.form := by
  intro s0 s1 w hbk hx
  obtain ⟨ba, ga, bv, gs⟩ := hx
  have HA : Hid (Tm.At w x.atom s0) := Lib.hid ⟨ba, ga⟩
  have HU := Lib.hid hbk
  obtain ⟨a0, n0, cap0, rfl⟩ := DAt.form ga
  obtain ⟨a, cap, rfl, hnc, hcap⟩ := FmsAt.form_ gs
  clear ga gs hbk
  have HF : Hid (x.form = (x.parts.length == 1 && x.atom.none && x.var.toList == [])) := Lib.hid (by unfold Fm.form; simp [ho])
  rw [ho]
  by_cases hl : x.parts.length = 1
  · have hl2 : (x.parts.length : Int) = 1 := by omega
    have HL := Lib.hid hl
    clear hl
    cases hs : x.atom.none
    · have H1 := Lib.hid hs
      clear hs
      go_enter Try.func154, Try.ntmps154
      go_wp2_with fail
      refine (Ret.mono (l8None_any x.atom _ _ (HA.out.keep (by (repeat' first | (with_reducible exact Below.refl _ _) | (with_reducible refine Below.setCell ?_ ?_ _) | (with_reducible refine Below.alloc ?_ ?_ _) | (with_reducible refine Below.drewN' ?_ _) | (with_reducible refine Below.via ?_ (by assumption) ?_) | (with_reducible exact Nat.le_refl _) | (simp; done) | (simp; omega) | omega)))) (by rw [H1.out])).mono ?_
      rintro e w1 ⟨rfl, hb1⟩
      have hz1 := hb1.size
      (try simp at hz1)
      obtain ⟨hc1, hf1⟩ := bcell hb1
      (try simp only [sz_setCell, sz_alloc, sz_drewN] at hc1 hf1)
      (try have hu1_0 : w.heap.size < w1.heap.size := by omega)
      (try have hu1_1 : w.heap.size + 1 < w1.heap.size := by omega)
      (try have hu1_2 : w.heap.size + 1 + 1 < w1.heap.size := by omega)
      (try have hx1_0 : b < w1.heap.size := by omega)
      (try have hx1_1 : b' < w1.heap.size := by omega)
      (try have hx1_2 : b2 < w1.heap.size := by omega)
      go_wp2_with fail
      go_ret
      exact Ret.bel (by rw [HF.out, H1.out]; simp) (by (repeat' first | (with_reducible exact Below.refl _ _) | (with_reducible refine Below.setCell ?_ ?_ _) | (with_reducible refine Below.alloc ?_ ?_ _) | (with_reducible refine Below.drewN' ?_ _) | (with_reducible refine Below.via ?_ (by assumption) ?_) | (with_reducible exact Nat.le_refl _) | (simp; done) | (simp; omega) | omega))
    · have H1 := Lib.hid hs
      clear hs
      go_enter Try.func154, Try.ntmps154
      go_wp2_with fail
      refine (Ret.mono (l8None_any x.atom _ _ (HA.out.keep (by (repeat' first | (with_reducible exact Below.refl _ _) | (with_reducible refine Below.setCell ?_ ?_ _) | (with_reducible refine Below.alloc ?_ ?_ _) | (with_reducible refine Below.drewN' ?_ _) | (with_reducible refine Below.via ?_ (by assumption) ?_) | (with_reducible exact Nat.le_refl _) | (simp; done) | (simp; omega) | omega)))) (by rw [H1.out])).mono ?_
      rintro e w1 ⟨rfl, hb1⟩
      have hz1 := hb1.size
      (try simp at hz1)
      obtain ⟨hc1, hf1⟩ := bcell hb1
      (try simp only [sz_setCell, sz_alloc, sz_drewN] at hc1 hf1)
      (try have hu1_0 : w.heap.size < w1.heap.size := by omega)
      (try have hu1_1 : w.heap.size + 1 < w1.heap.size := by omega)
      (try have hu1_2 : w.heap.size + 1 + 1 < w1.heap.size := by omega)
      (try have hx1_0 : b < w1.heap.size := by omega)
      (try have hx1_1 : b' < w1.heap.size := by omega)
      (try have hx1_2 : b2 < w1.heap.size := by omega)
      go_wp2_with fail
      go_ret
      exact Ret.bel (by rw [HF.out, H1.out]; simp [HL.out]) (by (repeat' first | (with_reducible exact Below.refl _ _) | (with_reducible refine Below.setCell ?_ ?_ _) | (with_reducible refine Below.alloc ?_ ?_ _) | (with_reducible refine Below.drewN' ?_ _) | (with_reducible refine Below.via ?_ (by assumption) ?_) | (with_reducible exact Nat.le_refl _) | (simp; done) | (simp; omega) | omega))
  · have hl2 : ¬ (x.parts.length : Int) = 1 := by omega
    go_enter Try.func154, Try.ntmps154
    go_wp2_with fail
    go_ret
    exact Ret.bel (by rw [HF.out]; simp [hl]) (by (repeat' first | (with_reducible exact Below.refl _ _) | (with_reducible refine Below.setCell ?_ ?_ _) | (with_reducible refine Below.alloc ?_ ?_ _) | (with_reducible refine Below.drewN' ?_ _) | (with_reducible refine Below.via ?_ (by assumption) ?_) | (with_reducible exact Nat.le_refl _) | (simp; done) | (simp; omega) | omega))
set_option maxHeartbeats 2000000 in
theorem l8Form_5 (x : Fm) (ho : x.op = 5) : BoolF 154 x x.form := by
  intro s0 s1 w hbk hx
  obtain ⟨ba, ga, bv, gs⟩ := hx
  have HA : Hid (Tm.At w x.atom s0) := Lib.hid ⟨ba, ga⟩
  have HU := Lib.hid hbk
  obtain ⟨a0, n0, cap0, rfl⟩ := DAt.form ga
  obtain ⟨a, cap, rfl, hnc, hcap⟩ := FmsAt.form_ gs
  clear ga gs hbk
  have HF : Hid (x.form = (x.parts.length == 2 && x.atom.none && x.var.toList == [])) := Lib.hid (by unfold Fm.form; simp [ho])
  rw [ho]
  by_cases hl : x.parts.length = 2
  · have hl2 : (x.parts.length : Int) = 2 := by omega
    have HL := Lib.hid hl
    clear hl
    cases hs : x.atom.none
    · have H1 := Lib.hid hs
      clear hs
      go_enter Try.func154, Try.ntmps154
      go_wp2_with fail
      refine (Ret.mono (l8None_any x.atom _ _ (HA.out.keep (by (repeat' first | (with_reducible exact Below.refl _ _) | (with_reducible refine Below.setCell ?_ ?_ _) | (with_reducible refine Below.alloc ?_ ?_ _) | (with_reducible refine Below.drewN' ?_ _) | (with_reducible refine Below.via ?_ (by assumption) ?_) | (with_reducible exact Nat.le_refl _) | (simp; done) | (simp; omega) | omega)))) (by rw [H1.out])).mono ?_
      rintro e w1 ⟨rfl, hb1⟩
      have hz1 := hb1.size
      (try simp at hz1)
      obtain ⟨hc1, hf1⟩ := bcell hb1
      (try simp only [sz_setCell, sz_alloc, sz_drewN] at hc1 hf1)
      (try have hu1_0 : w.heap.size < w1.heap.size := by omega)
      (try have hu1_1 : w.heap.size + 1 < w1.heap.size := by omega)
      (try have hu1_2 : w.heap.size + 1 + 1 < w1.heap.size := by omega)
      (try have hx1_0 : b < w1.heap.size := by omega)
      (try have hx1_1 : b' < w1.heap.size := by omega)
      (try have hx1_2 : b2 < w1.heap.size := by omega)
      go_wp2_with fail
      go_ret
      exact Ret.bel (by rw [HF.out, H1.out]; simp) (by (repeat' first | (with_reducible exact Below.refl _ _) | (with_reducible refine Below.setCell ?_ ?_ _) | (with_reducible refine Below.alloc ?_ ?_ _) | (with_reducible refine Below.drewN' ?_ _) | (with_reducible refine Below.via ?_ (by assumption) ?_) | (with_reducible exact Nat.le_refl _) | (simp; done) | (simp; omega) | omega))
    · have H1 := Lib.hid hs
      clear hs
      go_enter Try.func154, Try.ntmps154
      go_wp2_with fail
      refine (Ret.mono (l8None_any x.atom _ _ (HA.out.keep (by (repeat' first | (with_reducible exact Below.refl _ _) | (with_reducible refine Below.setCell ?_ ?_ _) | (with_reducible refine Below.alloc ?_ ?_ _) | (with_reducible refine Below.drewN' ?_ _) | (with_reducible refine Below.via ?_ (by assumption) ?_) | (with_reducible exact Nat.le_refl _) | (simp; done) | (simp; omega) | omega)))) (by rw [H1.out])).mono ?_
      rintro e w1 ⟨rfl, hb1⟩
      have hz1 := hb1.size
      (try simp at hz1)
      obtain ⟨hc1, hf1⟩ := bcell hb1
      (try simp only [sz_setCell, sz_alloc, sz_drewN] at hc1 hf1)
      (try have hu1_0 : w.heap.size < w1.heap.size := by omega)
      (try have hu1_1 : w.heap.size + 1 < w1.heap.size := by omega)
      (try have hu1_2 : w.heap.size + 1 + 1 < w1.heap.size := by omega)
      (try have hx1_0 : b < w1.heap.size := by omega)
      (try have hx1_1 : b' < w1.heap.size := by omega)
      (try have hx1_2 : b2 < w1.heap.size := by omega)
      go_wp2_with fail
      go_ret
      exact Ret.bel (by rw [HF.out, H1.out]; simp [HL.out]) (by (repeat' first | (with_reducible exact Below.refl _ _) | (with_reducible refine Below.setCell ?_ ?_ _) | (with_reducible refine Below.alloc ?_ ?_ _) | (with_reducible refine Below.drewN' ?_ _) | (with_reducible refine Below.via ?_ (by assumption) ?_) | (with_reducible exact Nat.le_refl _) | (simp; done) | (simp; omega) | omega))
  · have hl2 : ¬ (x.parts.length : Int) = 2 := by omega
    go_enter Try.func154, Try.ntmps154
    go_wp2_with fail
    go_ret
    exact Ret.bel (by rw [HF.out]; simp [hl]) (by (repeat' first | (with_reducible exact Below.refl _ _) | (with_reducible refine Below.setCell ?_ ?_ _) | (with_reducible refine Below.alloc ?_ ?_ _) | (with_reducible refine Below.drewN' ?_ _) | (with_reducible refine Below.via ?_ (by assumption) ?_) | (with_reducible exact Nat.le_refl _) | (simp; done) | (simp; omega) | omega))
set_option maxHeartbeats 2000000 in
theorem l8Form_6 (x : Fm) (ho : x.op = 6) : BoolF 154 x x.form := by
  intro s0 s1 w hbk hx
  obtain ⟨ba, ga, bv, gs⟩ := hx
  have HA : Hid (Tm.At w x.atom s0) := Lib.hid ⟨ba, ga⟩
  have HU := Lib.hid hbk
  obtain ⟨a0, n0, cap0, rfl⟩ := DAt.form ga
  obtain ⟨a, cap, rfl, hnc, hcap⟩ := FmsAt.form_ gs
  clear ga gs hbk
  have HF : Hid (x.form = (x.parts.length == 2 && x.atom.none && x.var.toList == [])) := Lib.hid (by unfold Fm.form; simp [ho])
  rw [ho]
  by_cases hl : x.parts.length = 2
  · have hl2 : (x.parts.length : Int) = 2 := by omega
    have HL := Lib.hid hl
    clear hl
    cases hs : x.atom.none
    · have H1 := Lib.hid hs
      clear hs
      go_enter Try.func154, Try.ntmps154
      go_wp2_with fail
      refine (Ret.mono (l8None_any x.atom _ _ (HA.out.keep (by (repeat' first | (with_reducible exact Below.refl _ _) | (with_reducible refine Below.setCell ?_ ?_ _) | (with_reducible refine Below.alloc ?_ ?_ _) | (with_reducible refine Below.drewN' ?_ _) | (with_reducible refine Below.via ?_ (by assumption) ?_) | (with_reducible exact Nat.le_refl _) | (simp; done) | (simp; omega) | omega)))) (by rw [H1.out])).mono ?_
      rintro e w1 ⟨rfl, hb1⟩
      have hz1 := hb1.size
      (try simp at hz1)
      obtain ⟨hc1, hf1⟩ := bcell hb1
      (try simp only [sz_setCell, sz_alloc, sz_drewN] at hc1 hf1)
      (try have hu1_0 : w.heap.size < w1.heap.size := by omega)
      (try have hu1_1 : w.heap.size + 1 < w1.heap.size := by omega)
      (try have hu1_2 : w.heap.size + 1 + 1 < w1.heap.size := by omega)
      (try have hx1_0 : b < w1.heap.size := by omega)
      (try have hx1_1 : b' < w1.heap.size := by omega)
      (try have hx1_2 : b2 < w1.heap.size := by omega)
      go_wp2_with fail
      go_ret
      exact Ret.bel (by rw [HF.out, H1.out]; simp) (by (repeat' first | (with_reducible exact Below.refl _ _) | (with_reducible refine Below.setCell ?_ ?_ _) | (with_reducible refine Below.alloc ?_ ?_ _) | (with_reducible refine Below.drewN' ?_ _) | (with_reducible refine Below.via ?_ (by assumption) ?_) | (with_reducible exact Nat.le_refl _) | (simp; done) | (simp; omega) | omega))
    · have H1 := Lib.hid hs
      clear hs
      go_enter Try.func154, Try.ntmps154
      go_wp2_with fail
      refine (Ret.mono (l8None_any x.atom _ _ (HA.out.keep (by (repeat' first | (with_reducible exact Below.refl _ _) | (with_reducible refine Below.setCell ?_ ?_ _) | (with_reducible refine Below.alloc ?_ ?_ _) | (with_reducible refine Below.drewN' ?_ _) | (with_reducible refine Below.via ?_ (by assumption) ?_) | (with_reducible exact Nat.le_refl _) | (simp; done) | (simp; omega) | omega)))) (by rw [H1.out])).mono ?_
      rintro e w1 ⟨rfl, hb1⟩
      have hz1 := hb1.size
      (try simp at hz1)
      obtain ⟨hc1, hf1⟩ := bcell hb1
      (try simp only [sz_setCell, sz_alloc, sz_drewN] at hc1 hf1)
      (try have hu1_0 : w.heap.size < w1.heap.size := by omega)
      (try have hu1_1 : w.heap.size + 1 < w1.heap.size := by omega)
      (try have hu1_2 : w.heap.size + 1 + 1 < w1.heap.size := by omega)
      (try have hx1_0 : b < w1.heap.size := by omega)
      (try have hx1_1 : b' < w1.heap.size := by omega)
      (try have hx1_2 : b2 < w1.heap.size := by omega)
      go_wp2_with fail
      go_ret
      exact Ret.bel (by rw [HF.out, H1.out]; simp [HL.out]) (by (repeat' first | (with_reducible exact Below.refl _ _) | (with_reducible refine Below.setCell ?_ ?_ _) | (with_reducible refine Below.alloc ?_ ?_ _) | (with_reducible refine Below.drewN' ?_ _) | (with_reducible refine Below.via ?_ (by assumption) ?_) | (with_reducible exact Nat.le_refl _) | (simp; done) | (simp; omega) | omega))
  · have hl2 : ¬ (x.parts.length : Int) = 2 := by omega
    go_enter Try.func154, Try.ntmps154
    go_wp2_with fail
    go_ret
    exact Ret.bel (by rw [HF.out]; simp [hl]) (by (repeat' first | (with_reducible exact Below.refl _ _) | (with_reducible refine Below.setCell ?_ ?_ _) | (with_reducible refine Below.alloc ?_ ?_ _) | (with_reducible refine Below.drewN' ?_ _) | (with_reducible refine Below.via ?_ (by assumption) ?_) | (with_reducible exact Nat.le_refl _) | (simp; done) | (simp; omega) | omega))
set_option maxHeartbeats 2000000 in
theorem l8Form_7 (x : Fm) (ho : x.op = 7) : BoolF 154 x x.form := by
  intro s0 s1 w hbk hx
  obtain ⟨ba, ga, bv, gs⟩ := hx
  have HA : Hid (Tm.At w x.atom s0) := Lib.hid ⟨ba, ga⟩
  have HU := Lib.hid hbk
  obtain ⟨a0, n0, cap0, rfl⟩ := DAt.form ga
  obtain ⟨a, cap, rfl, hnc, hcap⟩ := FmsAt.form_ gs
  clear ga gs hbk
  have HF : Hid (x.form = (x.parts.length == 2 && x.atom.none && x.var.toList == [])) := Lib.hid (by unfold Fm.form; simp [ho])
  rw [ho]
  by_cases hl : x.parts.length = 2
  · have hl2 : (x.parts.length : Int) = 2 := by omega
    have HL := Lib.hid hl
    clear hl
    cases hs : x.atom.none
    · have H1 := Lib.hid hs
      clear hs
      go_enter Try.func154, Try.ntmps154
      go_wp2_with fail
      refine (Ret.mono (l8None_any x.atom _ _ (HA.out.keep (by (repeat' first | (with_reducible exact Below.refl _ _) | (with_reducible refine Below.setCell ?_ ?_ _) | (with_reducible refine Below.alloc ?_ ?_ _) | (with_reducible refine Below.drewN' ?_ _) | (with_reducible refine Below.via ?_ (by assumption) ?_) | (with_reducible exact Nat.le_refl _) | (simp; done) | (simp; omega) | omega)))) (by rw [H1.out])).mono ?_
      rintro e w1 ⟨rfl, hb1⟩
      have hz1 := hb1.size
      (try simp at hz1)
      obtain ⟨hc1, hf1⟩ := bcell hb1
      (try simp only [sz_setCell, sz_alloc, sz_drewN] at hc1 hf1)
      (try have hu1_0 : w.heap.size < w1.heap.size := by omega)
      (try have hu1_1 : w.heap.size + 1 < w1.heap.size := by omega)
      (try have hu1_2 : w.heap.size + 1 + 1 < w1.heap.size := by omega)
      (try have hx1_0 : b < w1.heap.size := by omega)
      (try have hx1_1 : b' < w1.heap.size := by omega)
      (try have hx1_2 : b2 < w1.heap.size := by omega)
      go_wp2_with fail
      go_ret
      exact Ret.bel (by rw [HF.out, H1.out]; simp) (by (repeat' first | (with_reducible exact Below.refl _ _) | (with_reducible refine Below.setCell ?_ ?_ _) | (with_reducible refine Below.alloc ?_ ?_ _) | (with_reducible refine Below.drewN' ?_ _) | (with_reducible refine Below.via ?_ (by assumption) ?_) | (with_reducible exact Nat.le_refl _) | (simp; done) | (simp; omega) | omega))
    · have H1 := Lib.hid hs
      clear hs
      go_enter Try.func154, Try.ntmps154
      go_wp2_with fail
      refine (Ret.mono (l8None_any x.atom _ _ (HA.out.keep (by (repeat' first | (with_reducible exact Below.refl _ _) | (with_reducible refine Below.setCell ?_ ?_ _) | (with_reducible refine Below.alloc ?_ ?_ _) | (with_reducible refine Below.drewN' ?_ _) | (with_reducible refine Below.via ?_ (by assumption) ?_) | (with_reducible exact Nat.le_refl _) | (simp; done) | (simp; omega) | omega)))) (by rw [H1.out])).mono ?_
      rintro e w1 ⟨rfl, hb1⟩
      have hz1 := hb1.size
      (try simp at hz1)
      obtain ⟨hc1, hf1⟩ := bcell hb1
      (try simp only [sz_setCell, sz_alloc, sz_drewN] at hc1 hf1)
      (try have hu1_0 : w.heap.size < w1.heap.size := by omega)
      (try have hu1_1 : w.heap.size + 1 < w1.heap.size := by omega)
      (try have hu1_2 : w.heap.size + 1 + 1 < w1.heap.size := by omega)
      (try have hx1_0 : b < w1.heap.size := by omega)
      (try have hx1_1 : b' < w1.heap.size := by omega)
      (try have hx1_2 : b2 < w1.heap.size := by omega)
      go_wp2_with fail
      go_ret
      exact Ret.bel (by rw [HF.out, H1.out]; simp [HL.out]) (by (repeat' first | (with_reducible exact Below.refl _ _) | (with_reducible refine Below.setCell ?_ ?_ _) | (with_reducible refine Below.alloc ?_ ?_ _) | (with_reducible refine Below.drewN' ?_ _) | (with_reducible refine Below.via ?_ (by assumption) ?_) | (with_reducible exact Nat.le_refl _) | (simp; done) | (simp; omega) | omega))
  · have hl2 : ¬ (x.parts.length : Int) = 2 := by omega
    go_enter Try.func154, Try.ntmps154
    go_wp2_with fail
    go_ret
    exact Ret.bel (by rw [HF.out]; simp [hl]) (by (repeat' first | (with_reducible exact Below.refl _ _) | (with_reducible refine Below.setCell ?_ ?_ _) | (with_reducible refine Below.alloc ?_ ?_ _) | (with_reducible refine Below.drewN' ?_ _) | (with_reducible refine Below.via ?_ (by assumption) ?_) | (with_reducible exact Nat.le_refl _) | (simp; done) | (simp; omega) | omega))
set_option maxHeartbeats 2000000 in
theorem l8Form_8 (x : Fm) (ho : x.op = 8) : BoolF 154 x x.form := by
  intro s0 s1 w hbk hx
  obtain ⟨ba, ga, bv, gs⟩ := hx
  have HA : Hid (Tm.At w x.atom s0) := Lib.hid ⟨ba, ga⟩
  have HU := Lib.hid hbk
  obtain ⟨a0, n0, cap0, rfl⟩ := DAt.form ga
  obtain ⟨a, cap, rfl, hnc, hcap⟩ := FmsAt.form_ gs
  clear ga gs hbk
  have HF : Hid (x.form = (x.parts.length == 1 && x.atom.none && varB x.var)) := Lib.hid (by unfold Fm.form; simp [ho])
  rw [ho]
  by_cases hl : x.parts.length = 1
  · have hl2 : (x.parts.length : Int) = 1 := by omega
    have HL := Lib.hid hl
    clear hl
    cases hs : x.atom.none
    · have H1 := Lib.hid hs
      clear hs
      go_enter Try.func154, Try.ntmps154
      go_wp2_with fail
      refine (Ret.mono (l8None_any x.atom _ _ (HA.out.keep (by (repeat' first | (with_reducible exact Below.refl _ _) | (with_reducible refine Below.setCell ?_ ?_ _) | (with_reducible refine Below.alloc ?_ ?_ _) | (with_reducible refine Below.drewN' ?_ _) | (with_reducible refine Below.via ?_ (by assumption) ?_) | (with_reducible exact Nat.le_refl _) | (simp; done) | (simp; omega) | omega)))) (by rw [H1.out])).mono ?_
      rintro e w1 ⟨rfl, hb1⟩
      have hz1 := hb1.size
      (try simp at hz1)
      obtain ⟨hc1, hf1⟩ := bcell hb1
      (try simp only [sz_setCell, sz_alloc, sz_drewN] at hc1 hf1)
      (try have hu1_0 : w.heap.size < w1.heap.size := by omega)
      (try have hu1_1 : w.heap.size + 1 < w1.heap.size := by omega)
      (try have hu1_2 : w.heap.size + 1 + 1 < w1.heap.size := by omega)
      (try have hx1_0 : b < w1.heap.size := by omega)
      (try have hx1_1 : b' < w1.heap.size := by omega)
      (try have hx1_2 : b2 < w1.heap.size := by omega)
      go_wp2_with fail
      go_ret
      exact Ret.bel (by rw [HF.out, H1.out]; simp) (by (repeat' first | (with_reducible exact Below.refl _ _) | (with_reducible refine Below.setCell ?_ ?_ _) | (with_reducible refine Below.alloc ?_ ?_ _) | (with_reducible refine Below.drewN' ?_ _) | (with_reducible refine Below.via ?_ (by assumption) ?_) | (with_reducible exact Nat.le_refl _) | (simp; done) | (simp; omega) | omega))
    · have H1 := Lib.hid hs
      clear hs
      go_enter Try.func154, Try.ntmps154
      go_wp2_with fail
      refine (Ret.mono (l8None_any x.atom _ _ (HA.out.keep (by (repeat' first | (with_reducible exact Below.refl _ _) | (with_reducible refine Below.setCell ?_ ?_ _) | (with_reducible refine Below.alloc ?_ ?_ _) | (with_reducible refine Below.drewN' ?_ _) | (with_reducible refine Below.via ?_ (by assumption) ?_) | (with_reducible exact Nat.le_refl _) | (simp; done) | (simp; omega) | omega)))) (by rw [H1.out])).mono ?_
      rintro e w1 ⟨rfl, hb1⟩
      have hz1 := hb1.size
      (try simp at hz1)
      obtain ⟨hc1, hf1⟩ := bcell hb1
      (try simp only [sz_setCell, sz_alloc, sz_drewN] at hc1 hf1)
      (try have hu1_0 : w.heap.size < w1.heap.size := by omega)
      (try have hu1_1 : w.heap.size + 1 < w1.heap.size := by omega)
      (try have hu1_2 : w.heap.size + 1 + 1 < w1.heap.size := by omega)
      (try have hx1_0 : b < w1.heap.size := by omega)
      (try have hx1_1 : b' < w1.heap.size := by omega)
      (try have hx1_2 : b2 < w1.heap.size := by omega)
      go_wp2_with fail
      refine (Same.ret (l2Var_any x.var _ bv)).mono ?_
      rintro e w2 ⟨rfl, hb2⟩
      have hz2 := hb2.size
      (try simp at hz2)
      obtain ⟨hc2, hf2⟩ := bcell hb2
      (try simp only [sz_setCell, sz_alloc, sz_drewN] at hc2 hf2)
      (try have hu2_0 : w.heap.size < w2.heap.size := by omega)
      (try have hu2_1 : w.heap.size + 1 < w2.heap.size := by omega)
      (try have hu2_2 : w.heap.size + 1 + 1 < w2.heap.size := by omega)
      (try have hx2_0 : b < w2.heap.size := by omega)
      (try have hx2_1 : b' < w2.heap.size := by omega)
      (try have hx2_2 : b2 < w2.heap.size := by omega)
      go_wp2_with fail
      go_ret
      exact Ret.bel (by rw [HF.out, H1.out]; simp [HL.out]) (by (repeat' first | (with_reducible exact Below.refl _ _) | (with_reducible refine Below.setCell ?_ ?_ _) | (with_reducible refine Below.alloc ?_ ?_ _) | (with_reducible refine Below.drewN' ?_ _) | (with_reducible refine Below.via ?_ (by assumption) ?_) | (with_reducible exact Nat.le_refl _) | (simp; done) | (simp; omega) | omega))
  · have hl2 : ¬ (x.parts.length : Int) = 1 := by omega
    go_enter Try.func154, Try.ntmps154
    go_wp2_with fail
    go_ret
    exact Ret.bel (by rw [HF.out]; simp [hl]) (by (repeat' first | (with_reducible exact Below.refl _ _) | (with_reducible refine Below.setCell ?_ ?_ _) | (with_reducible refine Below.alloc ?_ ?_ _) | (with_reducible refine Below.drewN' ?_ _) | (with_reducible refine Below.via ?_ (by assumption) ?_) | (with_reducible exact Nat.le_refl _) | (simp; done) | (simp; omega) | omega))
set_option maxHeartbeats 2000000 in
theorem l8Form_9 (x : Fm) (ho : x.op = 9) : BoolF 154 x x.form := by
  intro s0 s1 w hbk hx
  obtain ⟨ba, ga, bv, gs⟩ := hx
  have HA : Hid (Tm.At w x.atom s0) := Lib.hid ⟨ba, ga⟩
  have HU := Lib.hid hbk
  obtain ⟨a0, n0, cap0, rfl⟩ := DAt.form ga
  obtain ⟨a, cap, rfl, hnc, hcap⟩ := FmsAt.form_ gs
  clear ga gs hbk
  have HF : Hid (x.form = (x.parts.length == 1 && x.atom.none && varB x.var)) := Lib.hid (by unfold Fm.form; simp [ho])
  rw [ho]
  by_cases hl : x.parts.length = 1
  · have hl2 : (x.parts.length : Int) = 1 := by omega
    have HL := Lib.hid hl
    clear hl
    cases hs : x.atom.none
    · have H1 := Lib.hid hs
      clear hs
      go_enter Try.func154, Try.ntmps154
      go_wp2_with fail
      refine (Ret.mono (l8None_any x.atom _ _ (HA.out.keep (by (repeat' first | (with_reducible exact Below.refl _ _) | (with_reducible refine Below.setCell ?_ ?_ _) | (with_reducible refine Below.alloc ?_ ?_ _) | (with_reducible refine Below.drewN' ?_ _) | (with_reducible refine Below.via ?_ (by assumption) ?_) | (with_reducible exact Nat.le_refl _) | (simp; done) | (simp; omega) | omega)))) (by rw [H1.out])).mono ?_
      rintro e w1 ⟨rfl, hb1⟩
      have hz1 := hb1.size
      (try simp at hz1)
      obtain ⟨hc1, hf1⟩ := bcell hb1
      (try simp only [sz_setCell, sz_alloc, sz_drewN] at hc1 hf1)
      (try have hu1_0 : w.heap.size < w1.heap.size := by omega)
      (try have hu1_1 : w.heap.size + 1 < w1.heap.size := by omega)
      (try have hu1_2 : w.heap.size + 1 + 1 < w1.heap.size := by omega)
      (try have hx1_0 : b < w1.heap.size := by omega)
      (try have hx1_1 : b' < w1.heap.size := by omega)
      (try have hx1_2 : b2 < w1.heap.size := by omega)
      go_wp2_with fail
      go_ret
      exact Ret.bel (by rw [HF.out, H1.out]; simp) (by (repeat' first | (with_reducible exact Below.refl _ _) | (with_reducible refine Below.setCell ?_ ?_ _) | (with_reducible refine Below.alloc ?_ ?_ _) | (with_reducible refine Below.drewN' ?_ _) | (with_reducible refine Below.via ?_ (by assumption) ?_) | (with_reducible exact Nat.le_refl _) | (simp; done) | (simp; omega) | omega))
    · have H1 := Lib.hid hs
      clear hs
      go_enter Try.func154, Try.ntmps154
      go_wp2_with fail
      refine (Ret.mono (l8None_any x.atom _ _ (HA.out.keep (by (repeat' first | (with_reducible exact Below.refl _ _) | (with_reducible refine Below.setCell ?_ ?_ _) | (with_reducible refine Below.alloc ?_ ?_ _) | (with_reducible refine Below.drewN' ?_ _) | (with_reducible refine Below.via ?_ (by assumption) ?_) | (with_reducible exact Nat.le_refl _) | (simp; done) | (simp; omega) | omega)))) (by rw [H1.out])).mono ?_
      rintro e w1 ⟨rfl, hb1⟩
      have hz1 := hb1.size
      (try simp at hz1)
      obtain ⟨hc1, hf1⟩ := bcell hb1
      (try simp only [sz_setCell, sz_alloc, sz_drewN] at hc1 hf1)
      (try have hu1_0 : w.heap.size < w1.heap.size := by omega)
      (try have hu1_1 : w.heap.size + 1 < w1.heap.size := by omega)
      (try have hu1_2 : w.heap.size + 1 + 1 < w1.heap.size := by omega)
      (try have hx1_0 : b < w1.heap.size := by omega)
      (try have hx1_1 : b' < w1.heap.size := by omega)
      (try have hx1_2 : b2 < w1.heap.size := by omega)
      go_wp2_with fail
      refine (Same.ret (l2Var_any x.var _ bv)).mono ?_
      rintro e w2 ⟨rfl, hb2⟩
      have hz2 := hb2.size
      (try simp at hz2)
      obtain ⟨hc2, hf2⟩ := bcell hb2
      (try simp only [sz_setCell, sz_alloc, sz_drewN] at hc2 hf2)
      (try have hu2_0 : w.heap.size < w2.heap.size := by omega)
      (try have hu2_1 : w.heap.size + 1 < w2.heap.size := by omega)
      (try have hu2_2 : w.heap.size + 1 + 1 < w2.heap.size := by omega)
      (try have hx2_0 : b < w2.heap.size := by omega)
      (try have hx2_1 : b' < w2.heap.size := by omega)
      (try have hx2_2 : b2 < w2.heap.size := by omega)
      go_wp2_with fail
      go_ret
      exact Ret.bel (by rw [HF.out, H1.out]; simp [HL.out]) (by (repeat' first | (with_reducible exact Below.refl _ _) | (with_reducible refine Below.setCell ?_ ?_ _) | (with_reducible refine Below.alloc ?_ ?_ _) | (with_reducible refine Below.drewN' ?_ _) | (with_reducible refine Below.via ?_ (by assumption) ?_) | (with_reducible exact Nat.le_refl _) | (simp; done) | (simp; omega) | omega))
  · have hl2 : ¬ (x.parts.length : Int) = 1 := by omega
    go_enter Try.func154, Try.ntmps154
    go_wp2_with fail
    go_ret
    exact Ret.bel (by rw [HF.out]; simp [hl]) (by (repeat' first | (with_reducible exact Below.refl _ _) | (with_reducible refine Below.setCell ?_ ?_ _) | (with_reducible refine Below.alloc ?_ ?_ _) | (with_reducible refine Below.drewN' ?_ _) | (with_reducible refine Below.via ?_ (by assumption) ?_) | (with_reducible exact Nat.le_refl _) | (simp; done) | (simp; omega) | omega))
set_option maxHeartbeats 2000000 in
theorem l8Form_any (x : Fm) : BoolF 154 x x.form := by
  rcases op_cases x.op with h | h | h | h | h | h | h | h | h | h
  · exact l8Form_1 x h
  · exact l8Form_2 x h
  · exact l8Form_3 x h
  · exact l8Form_4 x h
  · exact l8Form_5 x h
  · exact l8Form_6 x h
  · exact l8Form_7 x h
  · exact l8Form_8 x h
  · exact l8Form_9 x h
  · intro s0 s1 w hbk hx
    obtain ⟨ba, ga, bv, gs⟩ := hx
    obtain ⟨a0, n0, cap0, rfl⟩ := DAt.form ga
    obtain ⟨a, cap, rfl, hnc, hcap⟩ := FmsAt.form_ gs
    clear ga gs hbk
    obtain ⟨h1, h2, h3, h4, h5, h6, h7, h8, h9⟩ := h
    have HF : Hid (x.form = false) := Lib.hid (by unfold Fm.form; simp [h1, h2, h3, h4, h5, h6, h7, h8, h9])
    go_enter Try.func154, Try.ntmps154
    go_wp2_with fail
    go_ret
    exact Ret.bel (by rw [HF.out]; rfl) (by (repeat' first | (with_reducible exact Below.refl _ _) | (with_reducible refine Below.setCell ?_ ?_ _) | (with_reducible refine Below.alloc ?_ ?_ _) | (with_reducible refine Below.drewN' ?_ _) | (with_reducible refine Below.via ?_ (by assumption) ?_) | (with_reducible exact Nat.le_refl _) | (simp; done) | (simp; omega) | omega))
end Go.Proofs.Ytpbakldlhjdipaa
