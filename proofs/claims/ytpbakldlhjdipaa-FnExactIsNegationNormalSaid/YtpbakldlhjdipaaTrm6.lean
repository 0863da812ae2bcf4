/-
  This text proves what valid atoms are, in both packages. Condition: fewer than 2^40 nodes.
-/
import Derived.Test.YtpbakldlhjdipaaTrm5
set_option maxRecDepth 100000
set_option linter.unusedSimpArgs false
set_option linter.unusedVariables false
namespace Go.Proofs.Ytpbakldlhjdipaa
open Go.RowKit

def Tm.atom (x : Tm) : Bool := if x.eqn then x.args.length == 2 && x.small && Tm.nameS x.args else symB x.name && x.valid
theorem nameS_two {xs : List Tm} (h : xs.length = 2) : Tm.nameS xs = ((xs[0]'(by omega)).names && (xs[1]'(by omega)).names) := by
  match xs, h with
  | [a, b], _ => simp [Tm.nameS]

set_option maxHeartbeats 2000000 in
theorem isValidAtom_any (x : Tm) : BoolC 102 x x.atom := by
  intro s0 w hn hx
  have bn := hx.1
  obtain ⟨y, cap, rfl, hnc, hcap⟩ := TmsAt.form_ hx.2
  have HX := Lib.hid hx
  clear hx
  cases he : x.eqn
  · have HE := Lib.hid he
    cases hs : symB x.name
    · have H1 := Lib.hid hs
      clear hs
      clear he
      go_enter Try.func102, Try.ntmps102
      go_wp2_with fail
      refine (Ret.mono (isEquality_any x _ _ hn (HX.out.keep (by (repeat' first | (with_reducible exact Below.refl _ _) | (with_reducible refine Below.setCell ?_ ?_ _) | (with_reducible refine Below.alloc ?_ ?_ _) | (with_reducible refine Below.drewN' ?_ _) | (with_reducible refine Below.via ?_ (by assumption) ?_) | (with_reducible exact Nat.le_refl _) | (simp; done) | (simp; omega) | omega)))) (by rw [HE.out])).mono ?_
      rintro e w1 ⟨rfl, hb1⟩
      have hz1 := hb1.size
      (try simp at hz1)
      obtain ⟨hc1, hf1⟩ := bcell hb1
      (try simp only [sz_setCell, sz_alloc, sz_drewN] at hc1 hf1)
      (try have hu1_0 : w.heap.size < w1.heap.size := by omega)
      (try have hu1_1 : w.heap.size + 1 < w1.heap.size := by omega)
      (try have hu1_2 : w.heap.size + 1 + 1 < w1.heap.size := by omega)
      (try have hx1_0 : b < w1.heap.size := by omega)
      (try have hx1_1 : b' < w1.heap.size := by omega)
      (try have hx1_2 : b2 < w1.heap.size := by omega)
      go_wp2_with fail
      refine (Ret.mono (isSymbol_any x.name _ bn) (by rw [H1.out])).mono ?_
      rintro e w2 ⟨rfl, hb2⟩
      have hz2 := hb2.size
      (try simp at hz2)
      obtain ⟨hc2, hf2⟩ := bcell hb2
      (try simp only [sz_setCell, sz_alloc, sz_drewN] at hc2 hf2)
      (try have hu2_0 : w.heap.size < w2.heap.size := by omega)
      (try have hu2_1 : w.heap.size + 1 < w2.heap.size := by omega)
      (try have hu2_2 : w.heap.size + 1 + 1 < w2.heap.size := by omega)
      (try have hx2_0 : b < w2.heap.size := by omega)
      (try have hx2_1 : b' < w2.heap.size := by omega)
      (try have hx2_2 : b2 < w2.heap.size := by omega)
      go_wp2_with fail
      go_ret
      exact Ret.bel (by unfold Tm.atom; rw [HE.out, H1.out]; rfl) (by (repeat' first | (with_reducible exact Below.refl _ _) | (with_reducible refine Below.setCell ?_ ?_ _) | (with_reducible refine Below.alloc ?_ ?_ _) | (with_reducible refine Below.drewN' ?_ _) | (with_reducible refine Below.via ?_ (by assumption) ?_) | (with_reducible exact Nat.le_refl _) | (simp; done) | (simp; omega) | omega))
    · have H1 := Lib.hid hs
      clear hs
      clear he
      go_enter Try.func102, Try.ntmps102
      go_wp2_with fail
      refine (Ret.mono (isEquality_any x _ _ hn (HX.out.keep (by (repeat' first | (with_reducible exact Below.refl _ _) | (with_reducible refine Below.setCell ?_ ?_ _) | (with_reducible refine Below.alloc ?_ ?_ _) | (with_reducible refine Below.drewN' ?_ _) | (with_reducible refine Below.via ?_ (by assumption) ?_) | (with_reducible exact Nat.le_refl _) | (simp; done) | (simp; omega) | omega)))) (by rw [HE.out])).mono ?_
      rintro e w1 ⟨rfl, hb1⟩
      have hz1 := hb1.size
      (try simp at hz1)
      obtain ⟨hc1, hf1⟩ := bcell hb1
      (try simp only [sz_setCell, sz_alloc, sz_drewN] at hc1 hf1)
      (try have hu1_0 : w.heap.size < w1.heap.size := by omega)
      (try have hu1_1 : w.heap.size + 1 < w1.heap.size := by omega)
      (try have hu1_2 : w.heap.size + 1 + 1 < w1.heap.size := by omega)
      (try have hx1_0 : b < w1.heap.size := by omega)
      (try have hx1_1 : b' < w1.heap.size := by omega)
      (try have hx1_2 : b2 < w1.heap.size := by omega)
      go_wp2_with fail
      refine (Ret.mono (isSymbol_any x.name _ bn) (by rw [H1.out])).mono ?_
      rintro e w2 ⟨rfl, hb2⟩
      have hz2 := hb2.size
      (try simp at hz2)
      obtain ⟨hc2, hf2⟩ := bcell hb2
      (try simp only [sz_setCell, sz_alloc, sz_drewN] at hc2 hf2)
      (try have hu2_0 : w.heap.size < w2.heap.size := by omega)
      (try have hu2_1 : w.heap.size + 1 < w2.heap.size := by omega)
      (try have hu2_2 : w.heap.size + 1 + 1 < w2.heap.size := by omega)
      (try have hx2_0 : b < w2.heap.size := by omega)
      (try have hx2_1 : b' < w2.heap.size := by omega)
      (try have hx2_2 : b2 < w2.heap.size := by omega)
      go_wp2_with fail
      refine (isValidTerm_any x _ _ hn (HX.out.keep (by (repeat' first | (with_reducible exact Below.refl _ _) | (with_reducible refine Below.setCell ?_ ?_ _) | (with_reducible refine Below.alloc ?_ ?_ _) | (with_reducible refine Below.drewN' ?_ _) | (with_reducible refine Below.via ?_ (by assumption) ?_) | (with_reducible exact Nat.le_refl _) | (simp; done) | (simp; omega) | omega)))).mono ?_
      rintro e w3 ⟨rfl, hb3⟩
      have hz3 := hb3.size
      (try simp at hz3)
      obtain ⟨hc3, hf3⟩ := bcell hb3
      (try simp only [sz_setCell, sz_alloc, sz_drewN] at hc3 hf3)
      (try have hu3_0 : w.heap.size < w3.heap.size := by omega)
      (try have hu3_1 : w.heap.size + 1 < w3.heap.size := by omega)
      (try have hu3_2 : w.heap.size + 1 + 1 < w3.heap.size := by omega)
      (try have hx3_0 : b < w3.heap.size := by omega)
      (try have hx3_1 : b' < w3.heap.size := by omega)
      (try have hx3_2 : b2 < w3.heap.size := by omega)
      go_wp2_with fail
      go_ret
      exact Ret.bel (by unfold Tm.atom; rw [HE.out, H1.out]; simp) (by (repeat' first | (with_reducible exact Below.refl _ _) | (with_reducible refine Below.setCell ?_ ?_ _) | (with_reducible refine Below.alloc ?_ ?_ _) | (with_reducible refine Below.drewN' ?_ _) | (with_reducible refine Below.via ?_ (by assumption) ?_) | (with_reducible exact Nat.le_refl _) | (simp; done) | (simp; omega) | omega))
  · have HE := Lib.hid he
    by_cases hl : x.args.length = 2
    · have hl2 : (x.args.length : Int) = 2 := by omega
      have HL := Lib.hid hl
      clear hl
      cases hs : x.small
      · have H1 := Lib.hid hs
        clear hs
        clear he
        go_enter Try.func102, Try.ntmps102
        go_wp2_with fail
        refine (Ret.mono (isEquality_any x _ _ hn (HX.out.keep (by (repeat' first | (with_reducible exact Below.refl _ _) | (with_reducible refine Below.setCell ?_ ?_ _) | (with_reducible refine Below.alloc ?_ ?_ _) | (with_reducible refine Below.drewN' ?_ _) | (with_reducible refine Below.via ?_ (by assumption) ?_) | (with_reducible exact Nat.le_refl _) | (simp; done) | (simp; omega) | omega)))) (by rw [HE.out])).mono ?_
        rintro e w1 ⟨rfl, hb1⟩
        have hz1 := hb1.size
        (try simp at hz1)
        obtain ⟨hc1, hf1⟩ := bcell hb1
        (try simp only [sz_setCell, sz_alloc, sz_drewN] at hc1 hf1)
        (try have hu1_0 : w.heap.size < w1.heap.size := by omega)
        (try have hu1_1 : w.heap.size + 1 < w1.heap.size := by omega)
        (try have hu1_2 : w.heap.size + 1 + 1 < w1.heap.size := by omega)
        (try have hx1_0 : b < w1.heap.size := by omega)
        (try have hx1_1 : b' < w1.heap.size := by omega)
        (try have hx1_2 : b2 < w1.heap.size := by omega)
        go_wp2_with fail
        refine (Ret.mono (isSmall_any x _ _ hn (HX.out.keep (by (repeat' first | (with_reducible exact Below.refl _ _) | (with_reducible refine Below.setCell ?_ ?_ _) | (with_reducible refine Below.alloc ?_ ?_ _) | (with_reducible refine Below.drewN' ?_ _) | (with_reducible refine Below.via ?_ (by assumption) ?_) | (with_reducible exact Nat.le_refl _) | (simp; done) | (simp; omega) | omega)))) (by rw [H1.out])).mono ?_
        rintro e w2 ⟨rfl, hb2⟩
        have hz2 := hb2.size
        (try simp at hz2)
        obtain ⟨hc2, hf2⟩ := bcell hb2
        (try simp only [sz_setCell, sz_alloc, sz_drewN] at hc2 hf2)
        (try have hu2_0 : w.heap.size < w2.heap.size := by omega)
        (try have hu2_1 : w.heap.size + 1 < w2.heap.size := by omega)
        (try have hu2_2 : w.heap.size + 1 + 1 < w2.heap.size := by omega)
        (try have hx2_0 : b < w2.heap.size := by omega)
        (try have hx2_1 : b' < w2.heap.size := by omega)
        (try have hx2_2 : b2 < w2.heap.size := by omega)
        go_wp2_with fail
        go_ret
        exact Ret.bel (by unfold Tm.atom; rw [HE.out, H1.out]; simp) (by (repeat' first | (with_reducible exact Below.refl _ _) | (with_reducible refine Below.setCell ?_ ?_ _) | (with_reducible refine Below.alloc ?_ ?_ _) | (with_reducible refine Below.drewN' ?_ _) | (with_reducible refine Below.via ?_ (by assumption) ?_) | (with_reducible exact Nat.le_refl _) | (simp; done) | (simp; omega) | omega))
      · have H1 := Lib.hid hs
        clear hs
        clear he
        obtain ⟨b, off, y0, ny0, cy0, rfl, hbl, c0, c1, hE0⟩ := (TmsAt.elem HX.out.2 (k := 0) (by have := HL.out; omega))
        obtain ⟨y1, ny1, cy1, hbl1, d0, d1, hE1⟩ := (TmsAt.elemS HX.out.2 (k := 1) (by have := HL.out; omega))
        have HE0 := Lib.hid hE0
        have HE1 := Lib.hid hE1
        have HN := Lib.hid (nameS_two HL.out)
        clear hE0 hE1
        simp only [Nat.zero_mul, Nat.add_zero, Nat.one_mul] at c0 c1 d0 d1
        cases hp : (x.args[0]'(by have := HL.out; omega)).names
        · have H2 := Lib.hid hp
          clear hp
          go_enter Try.func102, Try.ntmps102
          go_wp2_with fail
          refine (Ret.mono (isEquality_any x _ _ hn (HX.out.keep (by (repeat' first | (with_reducible exact Below.refl _ _) | (with_reducible refine Below.setCell ?_ ?_ _) | (with_reducible refine Below.alloc ?_ ?_ _) | (with_reducible refine Below.drewN' ?_ _) | (with_reducible refine Below.via ?_ (by assumption) ?_) | (with_reducible exact Nat.le_refl _) | (simp; done) | (simp; omega) | omega)))) (by rw [HE.out])).mono ?_
          rintro e w1 ⟨rfl, hb1⟩
          have hz1 := hb1.size
          (try simp at hz1)
          obtain ⟨hc1, hf1⟩ := bcell hb1
          (try simp only [sz_setCell, sz_alloc, sz_drewN] at hc1 hf1)
          (try have hu1_0 : w.heap.size < w1.heap.size := by omega)
          (try have hu1_1 : w.heap.size + 1 < w1.heap.size := by omega)
          (try have hu1_2 : w.heap.size + 1 + 1 < w1.heap.size := by omega)
          (try have hx1_0 : b < w1.heap.size := by omega)
          (try have hx1_1 : b' < w1.heap.size := by omega)
          (try have hx1_2 : b2 < w1.heap.size := by omega)
          go_wp2_with fail
          refine (Ret.mono (isSmall_any x _ _ hn (HX.out.keep (by (repeat' first | (with_reducible exact Below.refl _ _) | (with_reducible refine Below.setCell ?_ ?_ _) | (with_reducible refine Below.alloc ?_ ?_ _) | (with_reducible refine Below.drewN' ?_ _) | (with_reducible refine Below.via ?_ (by assumption) ?_) | (with_reducible exact Nat.le_refl _) | (simp; done) | (simp; omega) | omega)))) (by rw [H1.out])).mono ?_
          rintro e w2 ⟨rfl, hb2⟩
          have hz2 := hb2.size
          (try simp at hz2)
          obtain ⟨hc2, hf2⟩ := bcell hb2
          (try simp only [sz_setCell, sz_alloc, sz_drewN] at hc2 hf2)
          (try have hu2_0 : w.heap.size < w2.heap.size := by omega)
          (try have hu2_1 : w.heap.size + 1 < w2.heap.size := by omega)
          (try have hu2_2 : w.heap.size + 1 + 1 < w2.heap.size := by omega)
          (try have hx2_0 : b < w2.heap.size := by omega)
          (try have hx2_1 : b' < w2.heap.size := by omega)
          (try have hx2_2 : b2 < w2.heap.size := by omega)
          go_wp2_with fail
          refine (Ret.mono (names_all _ _ _ (HE0.out.keep (by (repeat' first | (with_reducible exact Below.refl _ _) | (with_reducible refine Below.setCell ?_ ?_ _) | (with_reducible refine Below.alloc ?_ ?_ _) | (with_reducible refine Below.drewN' ?_ _) | (with_reducible refine Below.via ?_ (by assumption) ?_) | (with_reducible exact Nat.le_refl _) | (simp; done) | (simp; omega) | omega)))) (by rw [H2.out])).mono ?_
          rintro e w3 ⟨rfl, hb3⟩
          have hz3 := hb3.size
          (try simp at hz3)
          obtain ⟨hc3, hf3⟩ := bcell hb3
          (try simp only [sz_setCell, sz_alloc, sz_drewN] at hc3 hf3)
          (try have hu3_0 : w.heap.size < w3.heap.size := by omega)
          (try have hu3_1 : w.heap.size + 1 < w3.heap.size := by omega)
          (try have hu3_2 : w.heap.size + 1 + 1 < w3.heap.size := by omega)
          (try have hx3_0 : b < w3.heap.size := by omega)
          (try have hx3_1 : b' < w3.heap.size := by omega)
          (try have hx3_2 : b2 < w3.heap.size := by omega)
          go_wp2_with fail
          go_ret
          exact Ret.bel (by unfold Tm.atom; rw [HE.out, H1.out, HN.out, H2.out]; simp) (by (repeat' first | (with_reducible exact Below.refl _ _) | (with_reducible refine Below.setCell ?_ ?_ _) | (with_reducible refine Below.alloc ?_ ?_ _) | (with_reducible refine Below.drewN' ?_ _) | (with_reducible refine Below.via ?_ (by assumption) ?_) | (with_reducible exact Nat.le_refl _) | (simp; done) | (simp; omega) | omega))
        · have H2 := Lib.hid hp
          clear hp
          go_enter Try.func102, Try.ntmps102
          go_wp2_with fail
          refine (Ret.mono (isEquality_any x _ _ hn (HX.out.keep (by (repeat' first | (with_reducible exact Below.refl _ _) | (with_reducible refine Below.setCell ?_ ?_ _) | (with_reducible refine Below.alloc ?_ ?_ _) | (with_reducible refine Below.drewN' ?_ _) | (with_reducible refine Below.via ?_ (by assumption) ?_) | (with_reducible exact Nat.le_refl _) | (simp; done) | (simp; omega) | omega)))) (by rw [HE.out])).mono ?_
          rintro e w1 ⟨rfl, hb1⟩
          have hz1 := hb1.size
          (try simp at hz1)
          obtain ⟨hc1, hf1⟩ := bcell hb1
          (try simp only [sz_setCell, sz_alloc, sz_drewN] at hc1 hf1)
          (try have hu1_0 : w.heap.size < w1.heap.size := by omega)
          (try have hu1_1 : w.heap.size + 1 < w1.heap.size := by omega)
          (try have hu1_2 : w.heap.size + 1 + 1 < w1.heap.size := by omega)
          (try have hx1_0 : b < w1.heap.size := by omega)
          (try have hx1_1 : b' < w1.heap.size := by omega)
          (try have hx1_2 : b2 < w1.heap.size := by omega)
          go_wp2_with fail
          refine (Ret.mono (isSmall_any x _ _ hn (HX.out.keep (by (repeat' first | (with_reducible exact Below.refl _ _) | (with_reducible refine Below.setCell ?_ ?_ _) | (with_reducible refine Below.alloc ?_ ?_ _) | (with_reducible refine Below.drewN' ?_ _) | (with_reducible refine Below.via ?_ (by assumption) ?_) | (with_reducible exact Nat.le_refl _) | (simp; done) | (simp; omega) | omega)))) (by rw [H1.out])).mono ?_
          rintro e w2 ⟨rfl, hb2⟩
          have hz2 := hb2.size
          (try simp at hz2)
          obtain ⟨hc2, hf2⟩ := bcell hb2
          (try simp only [sz_setCell, sz_alloc, sz_drewN] at hc2 hf2)
          (try have hu2_0 : w.heap.size < w2.heap.size := by omega)
          (try have hu2_1 : w.heap.size + 1 < w2.heap.size := by omega)
          (try have hu2_2 : w.heap.size + 1 + 1 < w2.heap.size := by omega)
          (try have hx2_0 : b < w2.heap.size := by omega)
          (try have hx2_1 : b' < w2.heap.size := by omega)
          (try have hx2_2 : b2 < w2.heap.size := by omega)
          go_wp2_with fail
          refine (Ret.mono (names_all _ _ _ (HE0.out.keep (by (repeat' first | (with_reducible exact Below.refl _ _) | (with_reducible refine Below.setCell ?_ ?_ _) | (with_reducible refine Below.alloc ?_ ?_ _) | (with_reducible refine Below.drewN' ?_ _) | (with_reducible refine Below.via ?_ (by assumption) ?_) | (with_reducible exact Nat.le_refl _) | (simp; done) | (simp; omega) | omega)))) (by rw [H2.out])).mono ?_
          rintro e w3 ⟨rfl, hb3⟩
          have hz3 := hb3.size
          (try simp at hz3)
          obtain ⟨hc3, hf3⟩ := bcell hb3
          (try simp only [sz_setCell, sz_alloc, sz_drewN] at hc3 hf3)
          (try have hu3_0 : w.heap.size < w3.heap.size := by omega)
          (try have hu3_1 : w.heap.size + 1 < w3.heap.size := by omega)
          (try have hu3_2 : w.heap.size + 1 + 1 < w3.heap.size := by omega)
          (try have hx3_0 : b < w3.heap.size := by omega)
          (try have hx3_1 : b' < w3.heap.size := by omega)
          (try have hx3_2 : b2 < w3.heap.size := by omega)
          go_wp2_with fail
          refine (names_all _ _ _ (HE1.out.keep (by (repeat' first | (with_reducible exact Below.refl _ _) | (with_reducible refine Below.setCell ?_ ?_ _) | (with_reducible refine Below.alloc ?_ ?_ _) | (with_reducible refine Below.drewN' ?_ _) | (with_reducible refine Below.via ?_ (by assumption) ?_) | (with_reducible exact Nat.le_refl _) | (simp; done) | (simp; omega) | omega)))).mono ?_
          rintro e w4 ⟨rfl, hb4⟩
          have hz4 := hb4.size
          (try simp at hz4)
          obtain ⟨hc4, hf4⟩ := bcell hb4
          (try simp only [sz_setCell, sz_alloc, sz_drewN] at hc4 hf4)
          (try have hu4_0 : w.heap.size < w4.heap.size := by omega)
          (try have hu4_1 : w.heap.size + 1 < w4.heap.size := by omega)
          (try have hu4_2 : w.heap.size + 1 + 1 < w4.heap.size := by omega)
          (try have hx4_0 : b < w4.heap.size := by omega)
          (try have hx4_1 : b' < w4.heap.size := by omega)
          (try have hx4_2 : b2 < w4.heap.size := by omega)
          go_wp2_with fail
          go_ret
          exact Ret.bel (by unfold Tm.atom; rw [HE.out, H1.out, HN.out, H2.out]; simp [HL.out]) (by (repeat' first | (with_reducible exact Below.refl _ _) | (with_reducible refine Below.setCell ?_ ?_ _) | (with_reducible refine Below.alloc ?_ ?_ _) | (with_reducible refine Below.drewN' ?_ _) | (with_reducible refine Below.via ?_ (by assumption) ?_) | (with_reducible exact Nat.le_refl _) | (simp; done) | (simp; omega) | omega))
    · have hl2 : ¬ (x.args.length : Int) = 2 := by omega
      clear he
      go_enter Try.func102, Try.ntmps102
      go_wp2_with fail
      refine (Ret.mono (isEquality_any x _ _ hn (HX.out.keep (by (repeat' first | (with_reducible exact Below.refl _ _) | (with_reducible refine Below.setCell ?_ ?_ _) | (with_reducible refine Below.alloc ?_ ?_ _) | (with_reducible refine Below.drewN' ?_ _) | (with_reducible refine Below.via ?_ (by assumption) ?_) | (with_reducible exact Nat.le_refl _) | (simp; done) | (simp; omega) | omega)))) (by rw [HE.out])).mono ?_
      rintro e w1 ⟨rfl, hb1⟩
      have hz1 := hb1.size
      (try simp at hz1)
      obtain ⟨hc1, hf1⟩ := bcell hb1
      (try simp only [sz_setCell, sz_alloc, sz_drewN] at hc1 hf1)
      (try have hu1_0 : w.heap.size < w1.heap.size := by omega)
      (try have hu1_1 : w.heap.size + 1 < w1.heap.size := by omega)
      (try have hu1_2 : w.heap.size + 1 + 1 < w1.heap.size := by omega)
      (try have hx1_0 : b < w1.heap.size := by omega)
      (try have hx1_1 : b' < w1.heap.size := by omega)
      (try have hx1_2 : b2 < w1.heap.size := by omega)
      go_wp2_with fail
      go_ret
      exact Ret.bel (by unfold Tm.atom; rw [HE.out]; simp [hl]) (by (repeat' first | (with_reducible exact Below.refl _ _) | (with_reducible refine Below.setCell ?_ ?_ _) | (with_reducible refine Below.alloc ?_ ?_ _) | (with_reducible refine Below.drewN' ?_ _) | (with_reducible refine Below.via ?_ (by assumption) ?_) | (with_reducible exact Nat.le_refl _) | (simp; done) | (simp; omega) | omega))

set_option maxHeartbeats 2000000 in
theorem l2Atom_any (x : Tm) : BoolC 64 x x.atom := by
  intro s0 w hn hx
  have bn := hx.1
  obtain ⟨y, cap, rfl, hnc, hcap⟩ := TmsAt.form_ hx.2
  have HX := Lib.hid hx
  clear hx
  cases he : x.eqn
  · have HE := Lib.hid he
    cases hs : symB x.name
    · have H1 := Lib.hid hs
      clear hs
      unfold Tm.eqn at he
      go_enter Try.func64, Try.ntmps64
      go_wp2_with fail
      refine (Ret.mono (Same.ret (l2Symbol_any x.name _ bn)) (by rw [H1.out])).mono ?_
      rintro e w2 ⟨rfl, hb2⟩
      have hz2 := hb2.size
      (try simp at hz2)
      obtain ⟨hc2, hf2⟩ := bcell hb2
      (try simp only [sz_setCell, sz_alloc, sz_drewN] at hc2 hf2)
      (try have hu2_0 : w.heap.size < w2.heap.size := by omega)
      (try have hu2_1 : w.heap.size + 1 < w2.heap.size := by omega)
      (try have hu2_2 : w.heap.size + 1 + 1 < w2.heap.size := by omega)
      (try have hx2_0 : b < w2.heap.size := by omega)
      (try have hx2_1 : b' < w2.heap.size := by omega)
      (try have hx2_2 : b2 < w2.heap.size := by omega)
      go_wp2_with fail
      go_ret
      exact Ret.bel (by unfold Tm.atom; rw [HE.out, H1.out]; rfl) (by (repeat' first | (with_reducible exact Below.refl _ _) | (with_reducible refine Below.setCell ?_ ?_ _) | (with_reducible refine Below.alloc ?_ ?_ _) | (with_reducible refine Below.drewN' ?_ _) | (with_reducible refine Below.via ?_ (by assumption) ?_) | (with_reducible exact Nat.le_refl _) | (simp; done) | (simp; omega) | omega))
    · have H1 := Lib.hid hs
      clear hs
      unfold Tm.eqn at he
      go_enter Try.func64, Try.ntmps64
      go_wp2_with fail
      refine (Ret.mono (Same.ret (l2Symbol_any x.name _ bn)) (by rw [H1.out])).mono ?_
      rintro e w2 ⟨rfl, hb2⟩
      have hz2 := hb2.size
      (try simp at hz2)
      obtain ⟨hc2, hf2⟩ := bcell hb2
      (try simp only [sz_setCell, sz_alloc, sz_drewN] at hc2 hf2)
      (try have hu2_0 : w.heap.size < w2.heap.size := by omega)
      (try have hu2_1 : w.heap.size + 1 < w2.heap.size := by omega)
      (try have hu2_2 : w.heap.size + 1 + 1 < w2.heap.size := by omega)
      (try have hx2_0 : b < w2.heap.size := by omega)
      (try have hx2_1 : b' < w2.heap.size := by omega)
      (try have hx2_2 : b2 < w2.heap.size := by omega)
      go_wp2_with fail
      refine (l2Good_any x _ _ hn (HX.out.keep (by (repeat' first | (with_reducible exact Below.refl _ _) | (with_reducible refine Below.setCell ?_ ?_ _) | (with_reducible refine Below.alloc ?_ ?_ _) | (with_reducible refine Below.drewN' ?_ _) | (with_reducible refine Below.via ?_ (by assumption) ?_) | (with_reducible exact Nat.le_refl _) | (simp; done) | (simp; omega) | omega)))).mono ?_
      rintro e w3 ⟨rfl, hb3⟩
      have hz3 := hb3.size
      (try simp at hz3)
      obtain ⟨hc3, hf3⟩ := bcell hb3
      (try simp only [sz_setCell, sz_alloc, sz_drewN] at hc3 hf3)
      (try have hu3_0 : w.heap.size < w3.heap.size := by omega)
      (try have hu3_1 : w.heap.size + 1 < w3.heap.size := by omega)
      (try have hu3_2 : w.heap.size + 1 + 1 < w3.heap.size := by omega)
      (try have hx3_0 : b < w3.heap.size := by omega)
      (try have hx3_1 : b' < w3.heap.size := by omega)
      (try have hx3_2 : b2 < w3.heap.size := by omega)
      go_wp2_with fail
      go_ret
      exact Ret.bel (by unfold Tm.atom; rw [HE.out, H1.out]; simp) (by (repeat' first | (with_reducible exact Below.refl _ _) | (with_reducible refine Below.setCell ?_ ?_ _) | (with_reducible refine Below.alloc ?_ ?_ _) | (with_reducible refine Below.drewN' ?_ _) | (with_reducible refine Below.via ?_ (by assumption) ?_) | (with_reducible exact Nat.le_refl _) | (simp; done) | (simp; omega) | omega))
  · have HE := Lib.hid he
    by_cases hl : x.args.length = 2
    · have hl2 : (x.args.length : Int) = 2 := by omega
      have HL := Lib.hid hl
      clear hl
      cases hs : x.small
      · have H1 := Lib.hid hs
        clear hs
        unfold Tm.eqn at he
        go_enter Try.func64, Try.ntmps64
        go_wp2_with fail
        refine (Ret.mono (l2Fits_any x _ _ hn (HX.out.keep (by (repeat' first | (with_reducible exact Below.refl _ _) | (with_reducible refine Below.setCell ?_ ?_ _) | (with_reducible refine Below.alloc ?_ ?_ _) | (with_reducible refine Below.drewN' ?_ _) | (with_reducible refine Below.via ?_ (by assumption) ?_) | (with_reducible exact Nat.le_refl _) | (simp; done) | (simp; omega) | omega)))) (by rw [H1.out])).mono ?_
        rintro e w2 ⟨rfl, hb2⟩
        have hz2 := hb2.size
        (try simp at hz2)
        obtain ⟨hc2, hf2⟩ := bcell hb2
        (try simp only [sz_setCell, sz_alloc, sz_drewN] at hc2 hf2)
        (try have hu2_0 : w.heap.size < w2.heap.size := by omega)
        (try have hu2_1 : w.heap.size + 1 < w2.heap.size := by omega)
        (try have hu2_2 : w.heap.size + 1 + 1 < w2.heap.size := by omega)
        (try have hx2_0 : b < w2.heap.size := by omega)
        (try have hx2_1 : b' < w2.heap.size := by omega)
        (try have hx2_2 : b2 < w2.heap.size := by omega)
        go_wp2_with fail
        go_ret
        exact Ret.bel (by unfold Tm.atom; rw [HE.out, H1.out]; simp) (by (repeat' first | (with_reducible exact Below.refl _ _) | (with_reducible refine Below.setCell ?_ ?_ _) | (with_reducible refine Below.alloc ?_ ?_ _) | (with_reducible refine Below.drewN' ?_ _) | (with_reducible refine Below.via ?_ (by assumption) ?_) | (with_reducible exact Nat.le_refl _) | (simp; done) | (simp; omega) | omega))
      · have H1 := Lib.hid hs
        clear hs
        obtain ⟨b, off, y0, ny0, cy0, rfl, hbl, c0, c1, hE0⟩ := (TmsAt.elem HX.out.2 (k := 0) (by have := HL.out; omega))
        obtain ⟨y1, ny1, cy1, hbl1, d0, d1, hE1⟩ := (TmsAt.elemS HX.out.2 (k := 1) (by have := HL.out; omega))
        have HE0 := Lib.hid hE0
        have HE1 := Lib.hid hE1
        have HN := Lib.hid (nameS_two HL.out)
        clear hE0 hE1
        simp only [Nat.zero_mul, Nat.add_zero, Nat.one_mul] at c0 c1 d0 d1
        cases hp : (x.args[0]'(by have := HL.out; omega)).names
        · have H2 := Lib.hid hp
          clear hp
          unfold Tm.eqn at he
          go_enter Try.func64, Try.ntmps64
          go_wp2_with fail
          refine (Ret.mono (l2Fits_any x _ _ hn (HX.out.keep (by (repeat' first | (with_reducible exact Below.refl _ _) | (with_reducible refine Below.setCell ?_ ?_ _) | (with_reducible refine Below.alloc ?_ ?_ _) | (with_reducible refine Below.drewN' ?_ _) | (with_reducible refine Below.via ?_ (by assumption) ?_) | (with_reducible exact Nat.le_refl _) | (simp; done) | (simp; omega) | omega)))) (by rw [H1.out])).mono ?_
          rintro e w2 ⟨rfl, hb2⟩
          have hz2 := hb2.size
          (try simp at hz2)
          obtain ⟨hc2, hf2⟩ := bcell hb2
          (try simp only [sz_setCell, sz_alloc, sz_drewN] at hc2 hf2)
          (try have hu2_0 : w.heap.size < w2.heap.size := by omega)
          (try have hu2_1 : w.heap.size + 1 < w2.heap.size := by omega)
          (try have hu2_2 : w.heap.size + 1 + 1 < w2.heap.size := by omega)
          (try have hx2_0 : b < w2.heap.size := by omega)
          (try have hx2_1 : b' < w2.heap.size := by omega)
          (try have hx2_2 : b2 < w2.heap.size := by omega)
          go_wp2_with fail
          refine (Ret.mono (nodes_all _ _ _ (HE0.out.keep (by (repeat' first | (with_reducible exact Below.refl _ _) | (with_reducible refine Below.setCell ?_ ?_ _) | (with_reducible refine Below.alloc ?_ ?_ _) | (with_reducible refine Below.drewN' ?_ _) | (with_reducible refine Below.via ?_ (by assumption) ?_) | (with_reducible exact Nat.le_refl _) | (simp; done) | (simp; omega) | omega)))) (by rw [H2.out])).mono ?_
          rintro e w3 ⟨rfl, hb3⟩
          have hz3 := hb3.size
          (try simp at hz3)
          obtain ⟨hc3, hf3⟩ := bcell hb3
          (try simp only [sz_setCell, sz_alloc, sz_drewN] at hc3 hf3)
          (try have hu3_0 : w.heap.size < w3.heap.size := by omega)
          (try have hu3_1 : w.heap.size + 1 < w3.heap.size := by omega)
          (try have hu3_2 : w.heap.size + 1 + 1 < w3.heap.size := by omega)
          (try have hx3_0 : b < w3.heap.size := by omega)
          (try have hx3_1 : b' < w3.heap.size := by omega)
          (try have hx3_2 : b2 < w3.heap.size := by omega)
          go_wp2_with fail
          go_ret
          exact Ret.bel (by unfold Tm.atom; rw [HE.out, H1.out, HN.out, H2.out]; simp) (by (repeat' first | (with_reducible exact Below.refl _ _) | (with_reducible refine Below.setCell ?_ ?_ _) | (with_reducible refine Below.alloc ?_ ?_ _) | (with_reducible refine Below.drewN' ?_ _) | (with_reducible refine Below.via ?_ (by assumption) ?_) | (with_reducible exact Nat.le_refl _) | (simp; done) | (simp; omega) | omega))
        · have H2 := Lib.hid hp
          clear hp
          unfold Tm.eqn at he
          go_enter Try.func64, Try.ntmps64
          go_wp2_with fail
          refine (Ret.mono (l2Fits_any x _ _ hn (HX.out.keep (by (repeat' first | (with_reducible exact Below.refl _ _) | (with_reducible refine Below.setCell ?_ ?_ _) | (with_reducible refine Below.alloc ?_ ?_ _) | (with_reducible refine Below.drewN' ?_ _) | (with_reducible refine Below.via ?_ (by assumption) ?_) | (with_reducible exact Nat.le_refl _) | (simp; done) | (simp; omega) | omega)))) (by rw [H1.out])).mono ?_
          rintro e w2 ⟨rfl, hb2⟩
          have hz2 := hb2.size
          (try simp at hz2)
          obtain ⟨hc2, hf2⟩ := bcell hb2
          (try simp only [sz_setCell, sz_alloc, sz_drewN] at hc2 hf2)
          (try have hu2_0 : w.heap.size < w2.heap.size := by omega)
          (try have hu2_1 : w.heap.size + 1 < w2.heap.size := by omega)
          (try have hu2_2 : w.heap.size + 1 + 1 < w2.heap.size := by omega)
          (try have hx2_0 : b < w2.heap.size := by omega)
          (try have hx2_1 : b' < w2.heap.size := by omega)
          (try have hx2_2 : b2 < w2.heap.size := by omega)
          go_wp2_with fail
          refine (Ret.mono (nodes_all _ _ _ (HE0.out.keep (by (repeat' first | (with_reducible exact Below.refl _ _) | (with_reducible refine Below.setCell ?_ ?_ _) | (with_reducible refine Below.alloc ?_ ?_ _) | (with_reducible refine Below.drewN' ?_ _) | (with_reducible refine Below.via ?_ (by assumption) ?_) | (with_reducible exact Nat.le_refl _) | (simp; done) | (simp; omega) | omega)))) (by rw [H2.out])).mono ?_
          rintro e w3 ⟨rfl, hb3⟩
          have hz3 := hb3.size
          (try simp at hz3)
          obtain ⟨hc3, hf3⟩ := bcell hb3
          (try simp only [sz_setCell, sz_alloc, sz_drewN] at hc3 hf3)
          (try have hu3_0 : w.heap.size < w3.heap.size := by omega)
          (try have hu3_1 : w.heap.size + 1 < w3.heap.size := by omega)
          (try have hu3_2 : w.heap.size + 1 + 1 < w3.heap.size := by omega)
          (try have hx3_0 : b < w3.heap.size := by omega)
          (try have hx3_1 : b' < w3.heap.size := by omega)
          (try have hx3_2 : b2 < w3.heap.size := by omega)
          go_wp2_with fail
          refine (nodes_all _ _ _ (HE1.out.keep (by (repeat' first | (with_reducible exact Below.refl _ _) | (with_reducible refine Below.setCell ?_ ?_ _) | (with_reducible refine Below.alloc ?_ ?_ _) | (with_reducible refine Below.drewN' ?_ _) | (with_reducible refine Below.via ?_ (by assumption) ?_) | (with_reducible exact Nat.le_refl _) | (simp; done) | (simp; omega) | omega)))).mono ?_
          rintro e w4 ⟨rfl, hb4⟩
          have hz4 := hb4.size
          (try simp at hz4)
          obtain ⟨hc4, hf4⟩ := bcell hb4
          (try simp only [sz_setCell, sz_alloc, sz_drewN] at hc4 hf4)
          (try have hu4_0 : w.heap.size < w4.heap.size := by omega)
          (try have hu4_1 : w.heap.size + 1 < w4.heap.size := by omega)
          (try have hu4_2 : w.heap.size + 1 + 1 < w4.heap.size := by omega)
          (try have hx4_0 : b < w4.heap.size := by omega)
          (try have hx4_1 : b' < w4.heap.size := by omega)
          (try have hx4_2 : b2 < w4.heap.size := by omega)
          go_wp2_with fail
          go_ret
          exact Ret.bel (by unfold Tm.atom; rw [HE.out, H1.out, HN.out, H2.out]; simp [HL.out]) (by (repeat' first | (with_reducible exact Below.refl _ _) | (with_reducible refine Below.setCell ?_ ?_ _) | (with_reducible refine Below.alloc ?_ ?_ _) | (with_reducible refine Below.drewN' ?_ _) | (with_reducible refine Below.via ?_ (by assumption) ?_) | (with_reducible exact Nat.le_refl _) | (simp; done) | (simp; omega) | omega))
    · have hl2 : ¬ (x.args.length : Int) = 2 := by omega
      unfold Tm.eqn at he
      go_enter Try.func64, Try.ntmps64
      go_wp2_with fail
      go_ret
      exact Ret.bel (by unfold Tm.atom; rw [HE.out]; simp [hl]) (by (repeat' first | (with_reducible exact Below.refl _ _) | (with_reducible refine Below.setCell ?_ ?_ _) | (with_reducible refine Below.alloc ?_ ?_ _) | (with_reducible refine Below.drewN' ?_ _) | (with_reducible refine Below.via ?_ (by assumption) ?_) | (with_reducible exact Nat.le_refl _) | (simp; done) | (simp; omega) | omega))

end Go.Proofs.Ytpbakldlhjdipaa
