/-
  This text proves what the laws' measures of terms compute. No condition.
-/
import Derived.Test.YtpbakldlhjdipaaTm
set_option maxRecDepth 100000
set_option linter.unusedSimpArgs false
set_option linter.unusedVariables false
namespace Go.Proofs.Ytpbakldlhjdipaa
open Go.RowKit

def SzTm (x : Tm) : Prop := ∀ (s0 : Value) (left : Int) (w : World), 0 ≤ left → left ≤ 1048576 → Tm.At w x s0 → Calls Try.prog 83 #[.agg #[.string x.name, s0], .int .i64 left] w (SzR w left x.bulk)
def SzTms (xs : List Tm) : Prop := ∀ (v : Value) (left : Int) (w : World), 0 ≤ left → left ≤ 1048576 → TmsAt w xs v → Calls Try.prog 126 #[v, .int .i64 left] w (SzR w left (xs.length + Tm.sumB xs))
set_option maxHeartbeats 1000000 in
theorem szTerm_of (x : Tm) (hS : SzTms x.args) : SzTm x := by
  intro s0 left w h0 h1 hx
  have HX := Lib.hid hx
  have HB := Lib.hid (Tm.bulk_eq x)
  obtain ⟨b0, gs0⟩ := hx
  obtain ⟨xs0, ns0, cs0, rfl⟩ := DAt.form gs0
  clear gs0
  go_enter Try.func83, Try.ntmps83
  go_wp2_with fail
  all_goals first | (go_ret; exact SzR.stop ((by (repeat' first | (with_reducible exact Below.refl _ _) | (with_reducible refine Below.setCell ?_ ?_ _) | (with_reducible refine Below.alloc ?_ ?_ _) | (with_reducible refine Below.drewN' ?_ _) | (with_reducible refine Below.via ?_ (by assumption) ?_) | (with_reducible exact Nat.le_refl _) | (simp; done) | (simp; omega) | omega)))) | skip
  refine (hS _ _ _ (by omega) (by omega) (DAt.keep (HX.out.2) (by (repeat' first | (with_reducible exact Below.refl _ _) | (with_reducible refine Below.setCell ?_ ?_ _) | (with_reducible refine Below.alloc ?_ ?_ _) | (with_reducible refine Below.drewN' ?_ _) | (with_reducible refine Below.via ?_ (by assumption) ?_) | (with_reducible exact Nat.le_refl _) | (simp; done) | (simp; omega) | omega)))).mono ?_
  rintro e w1 ⟨z1, rfl, hb1, hz1⟩
  have Z1 := Lib.hid hz1
  have zb1 : -1 ≤ z1 ∧ z1 ≤ 1048576 := by rcases hz1 with h | h <;> omega
  obtain ⟨zl1, zu1⟩ := zb1
  clear hz1
  have hs1 := hb1.size
  (try simp at hs1)
  obtain ⟨hc1, hf1⟩ := bcell hb1
  (try simp only [sz_setCell, sz_alloc, sz_drewN] at hc1 hf1)
  (try have hu1_0 : w.heap.size < w1.heap.size := by omega)
  (try have hu1_1 : w.heap.size + 1 < w1.heap.size := by omega)
  (try have hu1_2 : w.heap.size + 1 + 1 < w1.heap.size := by omega)
  (try have hu1_3 : w.heap.size + 1 + 1 + 1 < w1.heap.size := by omega)
  go_wp2_with fail
  all_goals first | (go_ret; exact SzR.stop ((by (repeat' first | (with_reducible exact Below.refl _ _) | (with_reducible refine Below.setCell ?_ ?_ _) | (with_reducible refine Below.alloc ?_ ?_ _) | (with_reducible refine Below.drewN' ?_ _) | (with_reducible refine Below.via ?_ (by assumption) ?_) | (with_reducible exact Nat.le_refl _) | (simp; done) | (simp; omega) | omega)))) | skip
  go_ret
  refine SzR.fine ((by (repeat' first | (with_reducible exact Below.refl _ _) | (with_reducible refine Below.setCell ?_ ?_ _) | (with_reducible refine Below.alloc ?_ ?_ _) | (with_reducible refine Below.drewN' ?_ _) | (with_reducible refine Below.via ?_ (by assumption) ?_) | (with_reducible exact Nat.le_refl _) | (simp; done) | (simp; omega) | omega))) (by omega) ?_
  rw [HB.out]
  have q1 := Z1.out
  (try push_cast)
  omega
set_option maxHeartbeats 1000000 in
theorem szTermS_of (xs : List Tm) (helem : ∀ x ∈ xs, SzTm x) : SzTms xs := by
  intro v left w h0 h1 hx
  obtain ⟨a, cap, S0, rfl, hnc, hcap, hS, hF⟩ := hx.open_
  have HS := Lib.hid hS
  have HF := Lib.hid hF
  have HE := Lib.hid helem
  clear hS hF helem hx
  by_cases hl : left - xs.length < 0
  · go_enter Try.func126, Try.ntmps126
    go_wp2
    go_ret
    exact SzR.stop (Below.refl _ _)
  · go_enter Try.func126, Try.ntmps126
    go_wp2
    go_loopw [1, 5] (fun l i wr => ∃ z : Int, l = .int .i64 z ∧ 0 ≤ z ∧ z ≤ 1048576 ∧ CntB w xs.length (fun k _ => z + xs.length + Tm.sumB xs = left + Tm.sumB (xs.drop k)) i wr) (fun _ i _ => xs.length - (intOf i).toNat)
    case atStart => exact ⟨_, rfl, by omega, by omega, 0, Nat.zero_le _, rfl, by simp only [List.drop_zero]; omega, Below.refl _ _⟩
    case round =>
      obtain ⟨z, rfl, hz0, hz1, k, hk, rfl, hok, hbw⟩ := hrel
      have hzw := hbw.size
      have Hok := Lib.hid hok
      clear hok
      by_cases hlt : k < xs.length
      · obtain ⟨b, off, rfl, hbl, c0, c1⟩ := (HS.out.keep (Keeps.of_below hbw _)).at2 hlt
        rw [getD_at _ hlt] at c0 c1
        simp only [Tm.c] at c0 c1
        have HD := Lib.hid (show Tm.sumB (xs.drop k) = xs[k].bulk + Tm.sumB (xs.drop (k + 1)) by rw [drop_at hlt]; rw [Tm.sumB])
        go_wp2_with fail
        refine (HE.out xs[k] (List.getElem_mem hlt) _ _ _ hz0 hz1 ((HF.out k hlt).keep hbw)).mono ?_
        rintro e w1 ⟨z1, rfl, hb1, hq1⟩
        have Z1 := Lib.hid hq1
        have zb : -1 ≤ z1 ∧ z1 ≤ 1048576 := by rcases hq1 with h | h <;> omega
        obtain ⟨zl, zu⟩ := zb
        clear hq1
        go_wp2_with fail
        · go_ret
          exact SzR.stop (Below.of_trans hbw hb1)
        · go_roundw
          case rel => exact ⟨_, rfl, by omega, by omega, k + 1, hlt, by go_num, by have q1 := Z1.out; have q2 := HD.out; have q3 := Hok.out; omega, Below.of_trans hbw hb1⟩
          case measure => exact intOf_lt hlt
      · obtain rfl : k = xs.length := by omega
        go_wp2
        go_ret
        refine SzR.fine hbw (by omega) ?_
        have q := Hok.out
        rw [List.drop_length] at q
        simp only [Tm.sumB] at q
        push_cast
        omega
theorem szTerm_all (x : Tm) : SzTm x := szTerm_of x (szTermS_of _ fun y hy => szTerm_all y)
termination_by SizeOf.sizeOf x
decreasing_by exact Tm.lt_of_mem hy
theorem szTermS_all (xs : List Tm) : SzTms xs := szTermS_of xs fun x _ => szTerm_all x

def SzFm (x : Fm) : Prop := ∀ (s0 : Value) (s1 : Value) (left : Int) (w : World), 0 ≤ left → left ≤ 1048576 → Fm.At w x s0 s1 → Calls Try.prog 39 #[.agg #[.int .i64 x.op, .string x.atom.name, s0, .string x.var, s1], .int .i64 left] w (SzR w left x.bulk)
def SzFms (xs : List Fm) : Prop := ∀ (v : Value) (left : Int) (w : World), 0 ≤ left → left ≤ 1048576 → FmsAt w xs v → Calls Try.prog 84 #[v, .int .i64 left] w (SzR w left (xs.length + Fm.sumB xs))
set_option maxHeartbeats 1000000 in
theorem szFormula_of (x : Fm) (hS : SzFms x.parts) : SzFm x := by
  intro s0 s1 left w h0 h1 hx
  have HX := Lib.hid hx
  have HB := Lib.hid (Fm.bulk_eq x)
  obtain ⟨b0, gs0, b1, gs1⟩ := hx
  obtain ⟨xs0, ns0, cs0, rfl⟩ := DAt.form gs0
  clear gs0
  obtain ⟨xs1, ns1, cs1, rfl⟩ := DAt.form gs1
  clear gs1
  go_enter Try.func39, Try.ntmps39
  go_wp2_with fail
  all_goals first | (go_ret; exact SzR.stop ((by (repeat' first | (with_reducible exact Below.refl _ _) | (with_reducible refine Below.setCell ?_ ?_ _) | (with_reducible refine Below.alloc ?_ ?_ _) | (with_reducible refine Below.drewN' ?_ _) | (with_reducible refine Below.via ?_ (by assumption) ?_) | (with_reducible exact Nat.le_refl _) | (simp; done) | (simp; omega) | omega)))) | skip
  refine (szTerm_all _ _ _ _ (by omega) (by omega) (Tm.At.keep ⟨HX.out.1, HX.out.2.1⟩ (by (repeat' first | (with_reducible exact Below.refl _ _) | (with_reducible refine Below.setCell ?_ ?_ _) | (with_reducible refine Below.alloc ?_ ?_ _) | (with_reducible refine Below.drewN' ?_ _) | (with_reducible refine Below.via ?_ (by assumption) ?_) | (with_reducible exact Nat.le_refl _) | (simp; done) | (simp; omega) | omega)))).mono ?_
  rintro e w1 ⟨z1, rfl, hb1, hz1⟩
  have Z1 := Lib.hid hz1
  have zb1 : -1 ≤ z1 ∧ z1 ≤ 1048576 := by rcases hz1 with h | h <;> omega
  obtain ⟨zl1, zu1⟩ := zb1
  clear hz1
  have hs1 := hb1.size
  (try simp at hs1)
  obtain ⟨hc1, hf1⟩ := bcell hb1
  (try simp only [sz_setCell, sz_alloc, sz_drewN] at hc1 hf1)
  (try have hu1_0 : w.heap.size < w1.heap.size := by omega)
  (try have hu1_1 : w.heap.size + 1 < w1.heap.size := by omega)
  (try have hu1_2 : w.heap.size + 1 + 1 < w1.heap.size := by omega)
  (try have hu1_3 : w.heap.size + 1 + 1 + 1 < w1.heap.size := by omega)
  go_wp2_with fail
  all_goals first | (go_ret; exact SzR.stop ((by (repeat' first | (with_reducible exact Below.refl _ _) | (with_reducible refine Below.setCell ?_ ?_ _) | (with_reducible refine Below.alloc ?_ ?_ _) | (with_reducible refine Below.drewN' ?_ _) | (with_reducible refine Below.via ?_ (by assumption) ?_) | (with_reducible exact Nat.le_refl _) | (simp; done) | (simp; omega) | omega)))) | skip
  refine (hS _ _ _ (by omega) (by omega) (DAt.keep (HX.out.2.2.2) (by (repeat' first | (with_reducible exact Below.refl _ _) | (with_reducible refine Below.setCell ?_ ?_ _) | (with_reducible refine Below.alloc ?_ ?_ _) | (with_reducible refine Below.drewN' ?_ _) | (with_reducible refine Below.via ?_ (by assumption) ?_) | (with_reducible exact Nat.le_refl _) | (simp; done) | (simp; omega) | omega)))).mono ?_
  rintro e w2 ⟨z2, rfl, hb2, hz2⟩
  have Z2 := Lib.hid hz2
  have zb2 : -1 ≤ z2 ∧ z2 ≤ 1048576 := by rcases hz2 with h | h <;> omega
  obtain ⟨zl2, zu2⟩ := zb2
  clear hz2
  have hs2 := hb2.size
  (try simp at hs2)
  obtain ⟨hc2, hf2⟩ := bcell hb2
  (try simp only [sz_setCell, sz_alloc, sz_drewN] at hc2 hf2)
  (try have hu2_0 : w.heap.size < w2.heap.size := by omega)
  (try have hu2_1 : w.heap.size + 1 < w2.heap.size := by omega)
  (try have hu2_2 : w.heap.size + 1 + 1 < w2.heap.size := by omega)
  (try have hu2_3 : w.heap.size + 1 + 1 + 1 < w2.heap.size := by omega)
  go_wp2_with fail
  all_goals first | (go_ret; exact SzR.stop ((by (repeat' first | (with_reducible exact Below.refl _ _) | (with_reducible refine Below.setCell ?_ ?_ _) | (with_reducible refine Below.alloc ?_ ?_ _) | (with_reducible refine Below.drewN' ?_ _) | (with_reducible refine Below.via ?_ (by assumption) ?_) | (with_reducible exact Nat.le_refl _) | (simp; done) | (simp; omega) | omega)))) | skip
  go_ret
  refine SzR.fine ((by (repeat' first | (with_reducible exact Below.refl _ _) | (with_reducible refine Below.setCell ?_ ?_ _) | (with_reducible refine Below.alloc ?_ ?_ _) | (with_reducible refine Below.drewN' ?_ _) | (with_reducible refine Below.via ?_ (by assumption) ?_) | (with_reducible exact Nat.le_refl _) | (simp; done) | (simp; omega) | omega))) (by omega) ?_
  rw [HB.out]
  have q1 := Z1.out
  have q2 := Z2.out
  (try push_cast)
  omega
set_option maxHeartbeats 1000000 in
theorem szFormulaS_of (xs : List Fm) (helem : ∀ x ∈ xs, SzFm x) : SzFms xs := by
  intro v left w h0 h1 hx
  obtain ⟨a, cap, S0, S1, rfl, hnc, hcap, hS, hF⟩ := hx.open_
  have HS := Lib.hid hS
  have HF := Lib.hid hF
  have HE := Lib.hid helem
  clear hS hF helem hx
  by_cases hl : left - xs.length < 0
  · go_enter Try.func84, Try.ntmps84
    go_wp2
    go_ret
    exact SzR.stop (Below.refl _ _)
  · go_enter Try.func84, Try.ntmps84
    go_wp2
    go_loopw [1, 5] (fun l i wr => ∃ z : Int, l = .int .i64 z ∧ 0 ≤ z ∧ z ≤ 1048576 ∧ CntB w xs.length (fun k _ => z + xs.length + Fm.sumB xs = left + Fm.sumB (xs.drop k)) i wr) (fun _ i _ => xs.length - (intOf i).toNat)
    case atStart => exact ⟨_, rfl, by omega, by omega, 0, Nat.zero_le _, rfl, by simp only [List.drop_zero]; omega, Below.refl _ _⟩
    case round =>
      obtain ⟨z, rfl, hz0, hz1, k, hk, rfl, hok, hbw⟩ := hrel
      have hzw := hbw.size
      have Hok := Lib.hid hok
      clear hok
      by_cases hlt : k < xs.length
      · obtain ⟨b, off, rfl, hbl, c0, c1, c2, c3, c4⟩ := (HS.out.keep (Keeps.of_below hbw _)).at5 hlt
        rw [getD_at _ hlt] at c0 c1 c2 c3 c4
        simp only [Fm.c] at c0 c1 c2 c3 c4
        have HD := Lib.hid (show Fm.sumB (xs.drop k) = xs[k].bulk + Fm.sumB (xs.drop (k + 1)) by rw [drop_at hlt]; rw [Fm.sumB])
        go_wp2_with fail
        refine (HE.out xs[k] (List.getElem_mem hlt) _ _ _ _ hz0 hz1 ((HF.out k hlt).keep hbw)).mono ?_
        rintro e w1 ⟨z1, rfl, hb1, hq1⟩
        have Z1 := Lib.hid hq1
        have zb : -1 ≤ z1 ∧ z1 ≤ 1048576 := by rcases hq1 with h | h <;> omega
        obtain ⟨zl, zu⟩ := zb
        clear hq1
        go_wp2_with fail
        · go_ret
          exact SzR.stop (Below.of_trans hbw hb1)
        · go_roundw
          case rel => exact ⟨_, rfl, by omega, by omega, k + 1, hlt, by go_num, by have q1 := Z1.out; have q2 := HD.out; have q3 := Hok.out; omega, Below.of_trans hbw hb1⟩
          case measure => exact intOf_lt hlt
      · obtain rfl : k = xs.length := by omega
        go_wp2
        go_ret
        refine SzR.fine hbw (by omega) ?_
        have q := Hok.out
        rw [List.drop_length] at q
        simp only [Fm.sumB] at q
        push_cast
        omega
theorem szFormula_all (x : Fm) : SzFm x := szFormula_of x (szFormulaS_of _ fun y hy => szFormula_all y)
termination_by SizeOf.sizeOf x
decreasing_by exact Fm.lt_of_mem hy
theorem szFormulaS_all (xs : List Fm) : SzFms xs := szFormulaS_of xs fun x _ => szFormula_all x

end Go.Proofs.Ytpbakldlhjdipaa
