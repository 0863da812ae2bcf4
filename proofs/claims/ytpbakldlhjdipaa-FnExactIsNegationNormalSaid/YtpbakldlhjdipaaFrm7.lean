/-
  This text proves what valid formulas are, and negation normal forms, in both packages. Condition: less than 2^40 in all.
-/
import Derived.Test.YtpbakldlhjdipaaFrm6
set_option maxRecDepth 100000
set_option linter.unusedSimpArgs false
set_option linter.unusedVariables false
namespace Go.Proofs.Ytpbakldlhjdipaa
open Go.RowKit

set_option maxHeartbeats 1000000 in
theorem l8Forms_of (x : Fm) (helem : ∀ y ∈ x.parts, BoolF 128 y y.forms) : BoolF 128 x x.forms := by
  intro s0 s1 w hbk hx
  have HX := Lib.hid hx
  obtain ⟨ba, ga, bv, gs⟩ := hx
  have HU := Lib.hid hbk
  have HE := Lib.hid helem
  have HS := Lib.hid gs
  have HN := Lib.hid (Fm.forms_eq x)
  obtain ⟨a0, n0, cap0, rfl⟩ := DAt.form ga
  obtain ⟨a, cap, rfl, hnc, hcap⟩ := FmsAt.form_ gs
  clear ga gs hbk helem
  cases hf : x.form
  · have H1 := Lib.hid hf
    clear hf
    go_enter Try.func128, Try.ntmps128
    go_wp2_with fail
    refine (Ret.mono (l8Form_any x _ _ _ HU.out (HX.out.keep (by (repeat' first | (with_reducible exact Below.refl _ _) | (with_reducible refine Below.setCell ?_ ?_ _) | (with_reducible refine Below.alloc ?_ ?_ _) | (with_reducible refine Below.drewN' ?_ _) | (with_reducible refine Below.via ?_ (by assumption) ?_) | (with_reducible exact Nat.le_refl _) | (simp; done) | (simp; omega) | omega)))) (by rw [H1.out])).mono ?_
    rintro e w1 ⟨rfl, hb1⟩
    have hz1 := hb1.size
    (try simp at hz1)
    obtain ⟨hc1, hf1⟩ := bcell hb1
    (try simp only [sz_setCell, sz_alloc, sz_drewN] at hc1 hf1)
    (try have hu1_0 : w.heap.size < w1.heap.size := by omega)
    (try have hu1_1 : w.heap.size + 1 < w1.heap.size := by omega)
    (try have hu1_2 : w.heap.size + 1 + 1 < w1.heap.size := by omega)
    (try have hx1_0 : b < w1.heap.size := by omega)
    (try have hx1_1 : b' < w1.heap.size := by omega)
    (try have hx1_2 : b2 < w1.heap.size := by omega)
    go_wp2_with fail
    go_ret
    exact Ret.bel (by rw [HN.out, H1.out]; rfl) (by (repeat' first | (with_reducible exact Below.refl _ _) | (with_reducible refine Below.setCell ?_ ?_ _) | (with_reducible refine Below.alloc ?_ ?_ _) | (with_reducible refine Below.drewN' ?_ _) | (with_reducible refine Below.via ?_ (by assumption) ?_) | (with_reducible exact Nat.le_refl _) | (simp; done) | (simp; omega) | omega))
  · have H1 := Lib.hid hf
    clear hf
    go_enter Try.func128, Try.ntmps128
    go_wp2_with fail
    refine (Ret.mono (l8Form_any x _ _ _ HU.out (HX.out.keep (by (repeat' first | (with_reducible exact Below.refl _ _) | (with_reducible refine Below.setCell ?_ ?_ _) | (with_reducible refine Below.alloc ?_ ?_ _) | (with_reducible refine Below.drewN' ?_ _) | (with_reducible refine Below.via ?_ (by assumption) ?_) | (with_reducible exact Nat.le_refl _) | (simp; done) | (simp; omega) | omega)))) (by rw [H1.out])).mono ?_
    rintro e w1 ⟨rfl, hb1⟩
    have hz1 := hb1.size
    (try simp at hz1)
    obtain ⟨hc1, hf1⟩ := bcell hb1
    (try simp only [sz_setCell, sz_alloc, sz_drewN] at hc1 hf1)
    (try have hu1_0 : w.heap.size < w1.heap.size := by omega)
    (try have hu1_1 : w.heap.size + 1 < w1.heap.size := by omega)
    (try have hu1_2 : w.heap.size + 1 + 1 < w1.heap.size := by omega)
    (try have hx1_0 : b < w1.heap.size := by omega)
    (try have hx1_1 : b' < w1.heap.size := by omega)
    (try have hx1_2 : b2 < w1.heap.size := by omega)
    go_wp2_with fail
    have hbx0 : Box w1 w.heap.size [.int .i64 x.op, .string x.atom.name, .slice a0 n0 cap0, .string x.var, .slice a x.parts.length cap] := Box.keep Box.new hb1
    go_loopw [3] (fun i wr => CntB w x.parts.length (fun k wr => Box wr w.heap.size [.int .i64 x.op, .string x.atom.name, .slice a0 n0 cap0, .string x.var, .slice a x.parts.length cap] ∧ Fm.formS (x.parts.take k) = true) i wr) (fun i _ => x.parts.length - (intOf i).toNat)
    case atStart => exact ⟨0, Nat.zero_le _, rfl, ⟨hbx0, rfl⟩, (by (repeat' first | (with_reducible exact Below.refl _ _) | (with_reducible refine Below.setCell ?_ ?_ _) | (with_reducible refine Below.alloc ?_ ?_ _) | (with_reducible refine Below.drewN' ?_ _) | (with_reducible refine Below.via ?_ (by assumption) ?_) | (with_reducible exact Nat.le_refl _) | (simp; done) | (simp; omega) | omega))⟩
    case round =>
      obtain ⟨k, hk, rfl, ⟨hbx, hok⟩, hbw⟩ := hrel
      clear hc1 hf1 hz1 hb1 hbx0
      have hzw := hbw.size
      have Hok := Lib.hid hok
      have q0 := hbx.c0
      have q4 := hbx.c4
      have hwl := hbx.1
      have HB := Lib.hid hbx
      clear hok hbx
      by_cases hlt : k < x.parts.length
      · obtain ⟨b, off, y, ny, cy, y', ny', cy', rfl, hbl, c0, c1, c2, c3, c4, hE⟩ := (FmsAt.keep HS.out hbw).elem hlt
        have HD := Lib.hid hE
        clear hE
        have hbk' : x.parts[k].bulk ≤ 1099511627775 := by have := Fm.bulk_le x.parts k hlt; have := HU.out; have := Fm.bulk_eq x; omega
        cases hp : x.parts[k].forms
        · have HP := Lib.hid hp
          clear hp
          go_wp2_with fail
          refine (Ret.mono (HE.out x.parts[k] (List.getElem_mem hlt) _ _ _ hbk' HD.out) (by rw [HP.out])).mono ?_
          rintro e w3 ⟨rfl, hb3⟩
          have hz3 := hb3.size
          (try simp at hz3)
          obtain ⟨hc3, hf3⟩ := bcell hb3
          (try simp only [sz_setCell, sz_alloc, sz_drewN] at hc3 hf3)
          (try have hu3_0 : w.heap.size < w3.heap.size := by omega)
          (try have hu3_1 : w.heap.size + 1 < w3.heap.size := by omega)
          (try have hu3_2 : w.heap.size + 1 + 1 < w3.heap.size := by omega)
          (try have hx3_0 : b < w3.heap.size := by omega)
          (try have hx3_1 : b' < w3.heap.size := by omega)
          (try have hx3_2 : b2 < w3.heap.size := by omega)
          go_wp2_with fail
          go_ret
          exact Ret.bel (by rw [HN.out, H1.out, Fm.formS_no hlt HP.out]; simp) (by (repeat' first | (with_reducible exact Below.refl _ _) | (with_reducible refine Below.setCell ?_ ?_ _) | (with_reducible refine Below.alloc ?_ ?_ _) | (with_reducible refine Below.drewN' ?_ _) | (with_reducible refine Below.via ?_ (by assumption) ?_) | (with_reducible exact Nat.le_refl _) | (simp; done) | (simp; omega) | omega))
        · have HP := Lib.hid hp
          clear hp
          go_wp2_with fail
          refine (Ret.mono (HE.out x.parts[k] (List.getElem_mem hlt) _ _ _ hbk' HD.out) (by rw [HP.out])).mono ?_
          rintro e w3 ⟨rfl, hb3⟩
          have hz3 := hb3.size
          (try simp at hz3)
          obtain ⟨hc3, hf3⟩ := bcell hb3
          (try simp only [sz_setCell, sz_alloc, sz_drewN] at hc3 hf3)
          (try have hu3_0 : w.heap.size < w3.heap.size := by omega)
          (try have hu3_1 : w.heap.size + 1 < w3.heap.size := by omega)
          (try have hu3_2 : w.heap.size + 1 + 1 < w3.heap.size := by omega)
          (try have hx3_0 : b < w3.heap.size := by omega)
          (try have hx3_1 : b' < w3.heap.size := by omega)
          (try have hx3_2 : b2 < w3.heap.size := by omega)
          go_wp2_with fail
          go_roundw
          case rel => exact ⟨k + 1, hlt, by go_num, ⟨HB.out.keep hb3, by rw [Fm.formS_take hlt, Hok.out, HP.out]; rfl⟩, (by (repeat' first | (with_reducible exact Below.refl _ _) | (with_reducible refine Below.setCell ?_ ?_ _) | (with_reducible refine Below.alloc ?_ ?_ _) | (with_reducible refine Below.drewN' ?_ _) | (with_reducible refine Below.via ?_ (by assumption) ?_) | (with_reducible exact Nat.le_refl _) | (simp; done) | (simp; omega) | omega))⟩
          case measure => exact intOf_lt hlt
      · obtain rfl : k = x.parts.length := by omega
        go_wp2_with fail
        go_ret
        exact Ret.bel (by rw [HN.out, H1.out]; have := Hok.out; rw [List.take_length] at this; simp [this]) (by (repeat' first | (with_reducible exact Below.refl _ _) | (with_reducible refine Below.setCell ?_ ?_ _) | (with_reducible refine Below.alloc ?_ ?_ _) | (with_reducible refine Below.drewN' ?_ _) | (with_reducible refine Below.via ?_ (by assumption) ?_) | (with_reducible exact Nat.le_refl _) | (simp; done) | (simp; omega) | omega))
theorem l8Forms_all (x : Fm) : BoolF 128 x x.forms := l8Forms_of x fun y hy => l8Forms_all y
termination_by SizeOf.sizeOf x
decreasing_by exact Fm.lt_of_mem hy

def Fm.valid (x : Fm) : Bool := decide (x.nodes ≤ 40) && x.forms
set_option maxHeartbeats 1000000 in
theorem isValidFormula_any (x : Fm) : BoolF 89 x x.valid := by
  intro s0 s1 w hbk hx
  have HX := Lib.hid hx
  have HU := Lib.hid hbk
  obtain ⟨ba, ga, bv, gs⟩ := hx
  obtain ⟨a0, n0, cap0, rfl⟩ := DAt.form ga
  obtain ⟨a, cap, rfl, hnc, hcap⟩ := FmsAt.form_ gs
  have hn : x.nodes ≤ 1099511627776 := by have := Fm.nodes_le_bulk x; omega
  clear ga gs hbk
  go_enter Try.func89, Try.ntmps89
  go_wp2_with fail
  refine (sizeF_all x _ _ _ hn (HX.out.keep (by (repeat' first | (with_reducible exact Below.refl _ _) | (with_reducible refine Below.setCell ?_ ?_ _) | (with_reducible refine Below.alloc ?_ ?_ _) | (with_reducible refine Below.drewN' ?_ _) | (with_reducible refine Below.via ?_ (by assumption) ?_) | (with_reducible exact Nat.le_refl _) | (simp; done) | (simp; omega) | omega)))).mono ?_
  rintro e w1 ⟨z, rfl, hb1, z1, z2, z3⟩
  have hz1 := hb1.size
  (try simp at hz1)
  obtain ⟨hc1, hf1⟩ := bcell hb1
  have hu1 : w.heap.size < w1.heap.size := by omega
  by_cases h40 : x.nodes ≤ 40
  · have e1 : z = x.nodes := z3 (by omega)
    have hz30 : z ≤ 40 := by omega
    clear z3 e1
    go_wp2_with fail
    refine (hasForm_all x _ _ _ HU.out (HX.out.keep (by (repeat' first | (with_reducible exact Below.refl _ _) | (with_reducible refine Below.setCell ?_ ?_ _) | (with_reducible refine Below.alloc ?_ ?_ _) | (with_reducible refine Below.drewN' ?_ _) | (with_reducible refine Below.via ?_ (by assumption) ?_) | (with_reducible exact Nat.le_refl _) | (simp; done) | (simp; omega) | omega)))).mono ?_
    rintro e w2 ⟨rfl, hb2⟩
    have hz2 := hb2.size
    (try simp at hz2)
    obtain ⟨hc2, hf2⟩ := bcell hb2
    (try simp only [sz_setCell, sz_alloc, sz_drewN] at hc2 hf2)
    (try have hu2_0 : w.heap.size < w2.heap.size := by omega)
    (try have hu2_1 : w.heap.size + 1 < w2.heap.size := by omega)
    (try have hu2_2 : w.heap.size + 1 + 1 < w2.heap.size := by omega)
    (try have hx2_0 : b < w2.heap.size := by omega)
    (try have hx2_1 : b' < w2.heap.size := by omega)
    (try have hx2_2 : b2 < w2.heap.size := by omega)
    go_wp2_with fail
    go_ret
    exact Ret.bel (by unfold Fm.valid; simp [h40]) (by (repeat' first | (with_reducible exact Below.refl _ _) | (with_reducible refine Below.setCell ?_ ?_ _) | (with_reducible refine Below.alloc ?_ ?_ _) | (with_reducible refine Below.drewN' ?_ _) | (with_reducible refine Below.via ?_ (by assumption) ?_) | (with_reducible exact Nat.le_refl _) | (simp; done) | (simp; omega) | omega))
  · have hz30 : ¬ z ≤ 40 := by intro h; have := z3 h; omega
    clear z3
    go_wp2_with fail
    go_ret
    exact Ret.bel (by unfold Fm.valid; simp [h40]) (by (repeat' first | (with_reducible exact Below.refl _ _) | (with_reducible refine Below.setCell ?_ ?_ _) | (with_reducible refine Below.alloc ?_ ?_ _) | (with_reducible refine Below.drewN' ?_ _) | (with_reducible refine Below.via ?_ (by assumption) ?_) | (with_reducible exact Nat.le_refl _) | (simp; done) | (simp; omega) | omega))
set_option maxHeartbeats 1000000 in
theorem l8Good_any (x : Fm) : BoolF 85 x x.valid := by
  intro s0 s1 w hbk hx
  have HX := Lib.hid hx
  have HU := Lib.hid hbk
  obtain ⟨ba, ga, bv, gs⟩ := hx
  obtain ⟨a0, n0, cap0, rfl⟩ := DAt.form ga
  obtain ⟨a, cap, rfl, hnc, hcap⟩ := FmsAt.form_ gs
  have hn : x.nodes ≤ 1099511627776 := by have := Fm.nodes_le_bulk x; omega
  clear ga gs hbk
  go_enter Try.func85, Try.ntmps85
  go_wp2_with fail
  refine (manyF_all x _ _ 40 _ (by omega) (by omega) hn (HX.out.keep (by (repeat' first | (with_reducible exact Below.refl _ _) | (with_reducible refine Below.setCell ?_ ?_ _) | (with_reducible refine Below.alloc ?_ ?_ _) | (with_reducible refine Below.drewN' ?_ _) | (with_reducible refine Below.via ?_ (by assumption) ?_) | (with_reducible exact Nat.le_refl _) | (simp; done) | (simp; omega) | omega)))).mono ?_
  rintro e w1 ⟨z, rfl, hb1, z1, z2, z3⟩
  have hz1 := hb1.size
  (try simp at hz1)
  obtain ⟨hc1, hf1⟩ := bcell hb1
  have hu1 : w.heap.size < w1.heap.size := by omega
  by_cases h40 : x.nodes ≤ 40
  · have e1 : z = x.nodes := z3 (by omega)
    have hz30 : z ≤ 40 := by omega
    clear z3 e1
    go_wp2_with fail
    refine (l8Forms_all x _ _ _ HU.out (HX.out.keep (by (repeat' first | (with_reducible exact Below.refl _ _) | (with_reducible refine Below.setCell ?_ ?_ _) | (with_reducible refine Below.alloc ?_ ?_ _) | (with_reducible refine Below.drewN' ?_ _) | (with_reducible refine Below.via ?_ (by assumption) ?_) | (with_reducible exact Nat.le_refl _) | (simp; done) | (simp; omega) | omega)))).mono ?_
    rintro e w2 ⟨rfl, hb2⟩
    have hz2 := hb2.size
    (try simp at hz2)
    obtain ⟨hc2, hf2⟩ := bcell hb2
    (try simp only [sz_setCell, sz_alloc, sz_drewN] at hc2 hf2)
    (try have hu2_0 : w.heap.size < w2.heap.size := by omega)
    (try have hu2_1 : w.heap.size + 1 < w2.heap.size := by omega)
    (try have hu2_2 : w.heap.size + 1 + 1 < w2.heap.size := by omega)
    (try have hx2_0 : b < w2.heap.size := by omega)
    (try have hx2_1 : b' < w2.heap.size := by omega)
    (try have hx2_2 : b2 < w2.heap.size := by omega)
    go_wp2_with fail
    go_ret
    exact Ret.bel (by unfold Fm.valid; simp [h40]) (by (repeat' first | (with_reducible exact Below.refl _ _) | (with_reducible refine Below.setCell ?_ ?_ _) | (with_reducible refine Below.alloc ?_ ?_ _) | (with_reducible refine Below.drewN' ?_ _) | (with_reducible refine Below.via ?_ (by assumption) ?_) | (with_reducible exact Nat.le_refl _) | (simp; done) | (simp; omega) | omega))
  · have hz30 : ¬ z ≤ 40 := by intro h; have := z3 h; omega
    clear z3
    go_wp2_with fail
    go_ret
    exact Ret.bel (by unfold Fm.valid; simp [h40]) (by (repeat' first | (with_reducible exact Below.refl _ _) | (with_reducible refine Below.setCell ?_ ?_ _) | (with_reducible refine Below.alloc ?_ ?_ _) | (with_reducible refine Below.drewN' ?_ _) | (with_reducible refine Below.via ?_ (by assumption) ?_) | (with_reducible exact Nat.le_refl _) | (simp; done) | (simp; omega) | omega))
end Go.Proofs.Ytpbakldlhjdipaa
