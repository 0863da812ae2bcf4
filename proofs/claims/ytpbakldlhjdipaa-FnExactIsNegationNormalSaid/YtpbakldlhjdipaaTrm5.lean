/-
  This text proves what valid terms and atoms are, in both packages. Condition: fewer than 2^40 nodes.
-/
import Derived.Test.YtpbakldlhjdipaaTrm4
set_option maxRecDepth 100000
set_option linter.unusedSimpArgs false
set_option linter.unusedVariables false
namespace Go.Proofs.Ytpbakldlhjdipaa
open Go.RowKit

def Tm.small (x : Tm) : Bool := decide (x.nodes ≤ 30) && decide (x.deep ≤ 8)
def Tm.valid (x : Tm) : Bool := x.small && x.names
def BoolC (f : FuncId) (x : Tm) (b : Bool) : Prop := ∀ (s0 : Value) (w : World), x.nodes ≤ 1099511627776 → Tm.At w x s0 → Calls Try.prog f #[.agg #[.string x.name, s0]] w (Ret w (.bool b))

set_option maxHeartbeats 1000000 in
theorem isSmall_any (x : Tm) : BoolC 67 x x.small := by
  intro s0 w hn hx
  obtain ⟨y, n, c, rfl⟩ := DAt.form hx.2
  have HX := Lib.hid hx
  have HN := Lib.hid hn
  clear hx
  go_enter Try.func67, Try.ntmps67
  go_wp2_with fail
  refine (size_all x _ _ hn (HX.out.keep (by (repeat' first | (with_reducible exact Below.refl _ _) | (with_reducible refine Below.setCell ?_ ?_ _) | (with_reducible refine Below.alloc ?_ ?_ _) | (with_reducible refine Below.drewN' ?_ _) | (with_reducible refine Below.via ?_ (by assumption) ?_) | (with_reducible exact Nat.le_refl _) | (simp; done) | (simp; omega) | omega)))).mono ?_
  rintro e w1 ⟨z, rfl, hb1, z1, z2, z3⟩
  have hz1 := hb1.size
  (try simp at hz1)
  obtain ⟨hc1, hf1⟩ := bcell hb1
  have hu1 : w.heap.size < w1.heap.size := by omega
  by_cases h30 : x.nodes ≤ 30
  · have e1 : z = x.nodes := z3 (by omega)
    have hz30 : z ≤ 30 := by omega
    clear z3 e1
    go_wp2_with fail
    refine (depth_all x _ _ hn (HX.out.keep (by (repeat' first | (with_reducible exact Below.refl _ _) | (with_reducible refine Below.setCell ?_ ?_ _) | (with_reducible refine Below.alloc ?_ ?_ _) | (with_reducible refine Below.drewN' ?_ _) | (with_reducible refine Below.via ?_ (by assumption) ?_) | (with_reducible exact Nat.le_refl _) | (simp; done) | (simp; omega) | omega)))).mono ?_
    rintro e w2 ⟨rfl, hb2⟩
    have hz2 := hb2.size
    obtain ⟨hc2, hf2⟩ := bcell hb2
    go_wp2_with fail
    go_ret
    exact Ret.bel (by unfold Tm.small; simp [h30]; omega) (by (repeat' first | (with_reducible exact Below.refl _ _) | (with_reducible refine Below.setCell ?_ ?_ _) | (with_reducible refine Below.alloc ?_ ?_ _) | (with_reducible refine Below.drewN' ?_ _) | (with_reducible refine Below.via ?_ (by assumption) ?_) | (with_reducible exact Nat.le_refl _) | (simp; done) | (simp; omega) | omega))
  · have hz30 : ¬ z ≤ 30 := by intro h; have := z3 h; omega
    clear z3
    go_wp2_with fail
    go_ret
    exact Ret.bel (by unfold Tm.small; simp [h30]) (by (repeat' first | (with_reducible exact Below.refl _ _) | (with_reducible refine Below.setCell ?_ ?_ _) | (with_reducible refine Below.alloc ?_ ?_ _) | (with_reducible refine Below.drewN' ?_ _) | (with_reducible refine Below.via ?_ (by assumption) ?_) | (with_reducible exact Nat.le_refl _) | (simp; done) | (simp; omega) | omega))

set_option maxHeartbeats 1000000 in
theorem l2Fits_any (x : Tm) : BoolC 103 x x.small := by
  intro s0 w hn hx
  obtain ⟨y, n, c, rfl⟩ := DAt.form hx.2
  have HX := Lib.hid hx
  have HN := Lib.hid hn
  clear hx
  go_enter Try.func103, Try.ntmps103
  go_wp2_with fail
  refine (many_all x _ 30 _ (by omega) (by omega) hn (HX.out.keep (by (repeat' first | (with_reducible exact Below.refl _ _) | (with_reducible refine Below.setCell ?_ ?_ _) | (with_reducible refine Below.alloc ?_ ?_ _) | (with_reducible refine Below.drewN' ?_ _) | (with_reducible refine Below.via ?_ (by assumption) ?_) | (with_reducible exact Nat.le_refl _) | (simp; done) | (simp; omega) | omega)))).mono ?_
  rintro e w1 ⟨z, rfl, hb1, z1, z2, z3⟩
  have hz1 := hb1.size
  (try simp at hz1)
  obtain ⟨hc1, hf1⟩ := bcell hb1
  have hu1 : w.heap.size < w1.heap.size := by omega
  by_cases h30 : x.nodes ≤ 30
  · have e1 : z = x.nodes := z3 (by omega)
    have hz30 : z ≤ 30 := by omega
    clear z3 e1
    go_wp2_with fail
    refine (ldepth_all x _ _ hn (HX.out.keep (by (repeat' first | (with_reducible exact Below.refl _ _) | (with_reducible refine Below.setCell ?_ ?_ _) | (with_reducible refine Below.alloc ?_ ?_ _) | (with_reducible refine Below.drewN' ?_ _) | (with_reducible refine Below.via ?_ (by assumption) ?_) | (with_reducible exact Nat.le_refl _) | (simp; done) | (simp; omega) | omega)))).mono ?_
    rintro e w2 ⟨rfl, hb2⟩
    have hz2 := hb2.size
    obtain ⟨hc2, hf2⟩ := bcell hb2
    go_wp2_with fail
    go_ret
    exact Ret.bel (by unfold Tm.small; simp [h30]; omega) (by (repeat' first | (with_reducible exact Below.refl _ _) | (with_reducible refine Below.setCell ?_ ?_ _) | (with_reducible refine Below.alloc ?_ ?_ _) | (with_reducible refine Below.drewN' ?_ _) | (with_reducible refine Below.via ?_ (by assumption) ?_) | (with_reducible exact Nat.le_refl _) | (simp; done) | (simp; omega) | omega))
  · have hz30 : ¬ z ≤ 30 := by intro h; have := z3 h; omega
    clear z3
    go_wp2_with fail
    go_ret
    exact Ret.bel (by unfold Tm.small; simp [h30]) (by (repeat' first | (with_reducible exact Below.refl _ _) | (with_reducible refine Below.setCell ?_ ?_ _) | (with_reducible refine Below.alloc ?_ ?_ _) | (with_reducible refine Below.drewN' ?_ _) | (with_reducible refine Below.via ?_ (by assumption) ?_) | (with_reducible exact Nat.le_refl _) | (simp; done) | (simp; omega) | omega))

set_option maxHeartbeats 1000000 in
theorem isValidTerm_any (x : Tm) : BoolC 26 x x.valid := by
  intro s0 w hn hx
  obtain ⟨y, n, c, rfl⟩ := DAt.form hx.2
  have HX := Lib.hid hx
  clear hx
  cases hs : x.small
  · have H1 := Lib.hid hs
    clear hs
    go_enter Try.func26, Try.ntmps26
    go_wp2_with fail
    refine (Ret.mono (isSmall_any x _ _ hn (HX.out.keep (by (repeat' first | (with_reducible exact Below.refl _ _) | (with_reducible refine Below.setCell ?_ ?_ _) | (with_reducible refine Below.alloc ?_ ?_ _) | (with_reducible refine Below.drewN' ?_ _) | (with_reducible refine Below.via ?_ (by assumption) ?_) | (with_reducible exact Nat.le_refl _) | (simp; done) | (simp; omega) | omega)))) (by rw [H1.out])).mono ?_
    rintro e w1 ⟨rfl, hb1⟩
    have hz1 := hb1.size
    (try simp at hz1)
    obtain ⟨hc1, hf1⟩ := bcell hb1
    (try simp only [sz_setCell, sz_alloc, sz_drewN] at hc1 hf1)
    (try have hu1_0 : w.heap.size < w1.heap.size := by omega)
    (try have hu1_1 : w.heap.size + 1 < w1.heap.size := by omega)
    (try have hu1_2 : w.heap.size + 1 + 1 < w1.heap.size := by omega)
    go_wp2_with fail
    go_ret
    exact Ret.bel (by unfold Tm.valid; rw [H1.out]; rfl) (by (repeat' first | (with_reducible exact Below.refl _ _) | (with_reducible refine Below.setCell ?_ ?_ _) | (with_reducible refine Below.alloc ?_ ?_ _) | (with_reducible refine Below.drewN' ?_ _) | (with_reducible refine Below.via ?_ (by assumption) ?_) | (with_reducible exact Nat.le_refl _) | (simp; done) | (simp; omega) | omega))
  · have H1 := Lib.hid hs
    clear hs
    go_enter Try.func26, Try.ntmps26
    go_wp2_with fail
    refine (Ret.mono (isSmall_any x _ _ hn (HX.out.keep (by (repeat' first | (with_reducible exact Below.refl _ _) | (with_reducible refine Below.setCell ?_ ?_ _) | (with_reducible refine Below.alloc ?_ ?_ _) | (with_reducible refine Below.drewN' ?_ _) | (with_reducible refine Below.via ?_ (by assumption) ?_) | (with_reducible exact Nat.le_refl _) | (simp; done) | (simp; omega) | omega)))) (by rw [H1.out])).mono ?_
    rintro e w1 ⟨rfl, hb1⟩
    have hz1 := hb1.size
    (try simp at hz1)
    obtain ⟨hc1, hf1⟩ := bcell hb1
    (try simp only [sz_setCell, sz_alloc, sz_drewN] at hc1 hf1)
    (try have hu1_0 : w.heap.size < w1.heap.size := by omega)
    (try have hu1_1 : w.heap.size + 1 < w1.heap.size := by omega)
    (try have hu1_2 : w.heap.size + 1 + 1 < w1.heap.size := by omega)
    go_wp2_with fail
    refine (names_all x _ _ (HX.out.keep (by (repeat' first | (with_reducible exact Below.refl _ _) | (with_reducible refine Below.setCell ?_ ?_ _) | (with_reducible refine Below.alloc ?_ ?_ _) | (with_reducible refine Below.drewN' ?_ _) | (with_reducible refine Below.via ?_ (by assumption) ?_) | (with_reducible exact Nat.le_refl _) | (simp; done) | (simp; omega) | omega)))).mono ?_
    rintro e w2 ⟨rfl, hb2⟩
    have hz2 := hb2.size
    (try simp at hz2)
    obtain ⟨hc2, hf2⟩ := bcell hb2
    (try simp only [sz_setCell, sz_alloc, sz_drewN] at hc2 hf2)
    (try have hu2_0 : w.heap.size < w2.heap.size := by omega)
    (try have hu2_1 : w.heap.size + 1 < w2.heap.size := by omega)
    (try have hu2_2 : w.heap.size + 1 + 1 < w2.heap.size := by omega)
    go_wp2_with fail
    go_ret
    exact Ret.bel (by unfold Tm.valid; rw [H1.out]; simp) (by (repeat' first | (with_reducible exact Below.refl _ _) | (with_reducible refine Below.setCell ?_ ?_ _) | (with_reducible refine Below.alloc ?_ ?_ _) | (with_reducible refine Below.drewN' ?_ _) | (with_reducible refine Below.via ?_ (by assumption) ?_) | (with_reducible exact Nat.le_refl _) | (simp; done) | (simp; omega) | omega))

set_option maxHeartbeats 1000000 in
theorem l2Good_any (x : Tm) : BoolC 63 x x.valid := by
  intro s0 w hn hx
  obtain ⟨y, n, c, rfl⟩ := DAt.form hx.2
  have HX := Lib.hid hx
  clear hx
  cases hs : x.small
  · have H1 := Lib.hid hs
    clear hs
    go_enter Try.func63, Try.ntmps63
    go_wp2_with fail
    refine (Ret.mono (l2Fits_any x _ _ hn (HX.out.keep (by (repeat' first | (with_reducible exact Below.refl _ _) | (with_reducible refine Below.setCell ?_ ?_ _) | (with_reducible refine Below.alloc ?_ ?_ _) | (with_reducible refine Below.drewN' ?_ _) | (with_reducible refine Below.via ?_ (by assumption) ?_) | (with_reducible exact Nat.le_refl _) | (simp; done) | (simp; omega) | omega)))) (by rw [H1.out])).mono ?_
    rintro e w1 ⟨rfl, hb1⟩
    have hz1 := hb1.size
    (try simp at hz1)
    obtain ⟨hc1, hf1⟩ := bcell hb1
    (try simp only [sz_setCell, sz_alloc, sz_drewN] at hc1 hf1)
    (try have hu1_0 : w.heap.size < w1.heap.size := by omega)
    (try have hu1_1 : w.heap.size + 1 < w1.heap.size := by omega)
    (try have hu1_2 : w.heap.size + 1 + 1 < w1.heap.size := by omega)
    go_wp2_with fail
    go_ret
    exact Ret.bel (by unfold Tm.valid; rw [H1.out]; rfl) (by (repeat' first | (with_reducible exact Below.refl _ _) | (with_reducible refine Below.setCell ?_ ?_ _) | (with_reducible refine Below.alloc ?_ ?_ _) | (with_reducible refine Below.drewN' ?_ _) | (with_reducible refine Below.via ?_ (by assumption) ?_) | (with_reducible exact Nat.le_refl _) | (simp; done) | (simp; omega) | omega))
  · have H1 := Lib.hid hs
    clear hs
    go_enter Try.func63, Try.ntmps63
    go_wp2_with fail
    refine (Ret.mono (l2Fits_any x _ _ hn (HX.out.keep (by (repeat' first | (with_reducible exact Below.refl _ _) | (with_reducible refine Below.setCell ?_ ?_ _) | (with_reducible refine Below.alloc ?_ ?_ _) | (with_reducible refine Below.drewN' ?_ _) | (with_reducible refine Below.via ?_ (by assumption) ?_) | (with_reducible exact Nat.le_refl _) | (simp; done) | (simp; omega) | omega)))) (by rw [H1.out])).mono ?_
    rintro e w1 ⟨rfl, hb1⟩
    have hz1 := hb1.size
    (try simp at hz1)
    obtain ⟨hc1, hf1⟩ := bcell hb1
    (try simp only [sz_setCell, sz_alloc, sz_drewN] at hc1 hf1)
    (try have hu1_0 : w.heap.size < w1.heap.size := by omega)
    (try have hu1_1 : w.heap.size + 1 < w1.heap.size := by omega)
    (try have hu1_2 : w.heap.size + 1 + 1 < w1.heap.size := by omega)
    go_wp2_with fail
    refine (nodes_all x _ _ (HX.out.keep (by (repeat' first | (with_reducible exact Below.refl _ _) | (with_reducible refine Below.setCell ?_ ?_ _) | (with_reducible refine Below.alloc ?_ ?_ _) | (with_reducible refine Below.drewN' ?_ _) | (with_reducible refine Below.via ?_ (by assumption) ?_) | (with_reducible exact Nat.le_refl _) | (simp; done) | (simp; omega) | omega)))).mono ?_
    rintro e w2 ⟨rfl, hb2⟩
    have hz2 := hb2.size
    (try simp at hz2)
    obtain ⟨hc2, hf2⟩ := bcell hb2
    (try simp only [sz_setCell, sz_alloc, sz_drewN] at hc2 hf2)
    (try have hu2_0 : w.heap.size < w2.heap.size := by omega)
    (try have hu2_1 : w.heap.size + 1 < w2.heap.size := by omega)
    (try have hu2_2 : w.heap.size + 1 + 1 < w2.heap.size := by omega)
    go_wp2_with fail
    go_ret
    exact Ret.bel (by unfold Tm.valid; rw [H1.out]; simp) (by (repeat' first | (with_reducible exact Below.refl _ _) | (with_reducible refine Below.setCell ?_ ?_ _) | (with_reducible refine Below.alloc ?_ ?_ _) | (with_reducible refine Below.drewN' ?_ _) | (with_reducible refine Below.via ?_ (by assumption) ?_) | (with_reducible exact Nat.le_refl _) | (simp; done) | (simp; omega) | omega))

def Tm.eqn (x : Tm) : Bool := x.name.toList == [61]
theorem isEquality_any (x : Tm) : BoolC 101 x x.eqn := by
  intro s0 w hn hx
  obtain ⟨y, n, c, rfl⟩ := DAt.form hx.2
  clear hx
  go_enter Try.func101, Try.ntmps101
  go_wp2_with fail
  go_ret
  exact Ret.bel (by unfold Tm.eqn; rfl) (by (repeat' first | (with_reducible exact Below.refl _ _) | (with_reducible refine Below.setCell ?_ ?_ _) | (with_reducible refine Below.alloc ?_ ?_ _) | (with_reducible refine Below.drewN' ?_ _) | (with_reducible refine Below.via ?_ (by assumption) ?_) | (with_reducible exact Nat.le_refl _) | (simp; done) | (simp; omega) | omega))
end Go.Proofs.Ytpbakldlhjdipaa
