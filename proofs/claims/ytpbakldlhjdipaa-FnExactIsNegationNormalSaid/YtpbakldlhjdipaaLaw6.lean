/-
  This text proves that the law on negation normal forms says yes. Condition: the formula lies in memory.
-/
import Derived.Test.YtpbakldlhjdipaaFrm8
import Derived.Test.YtpbakldlhjdipaaSz1
import Derived.Test.YtpbakldlhjdipaaTo1
import Derived.Test.YtpbakldlhjdipaaEq1
import Derived.Test.YtpbakldlhjdipaaOpen2
set_option maxRecDepth 100000
set_option linter.unusedSimpArgs false
set_option linter.unusedVariables false
namespace Go.Proofs.Ytpbakldlhjdipaa
open Go.RowKit

theorem Leaves.lvs {w : World} {lo hi : Nat} {ds : List D} {vs : List Value} (h : Leaves w lo hi ds vs) : Lvs w ds vs := by
  induction h with
  | nil _ _ _ => exact .nil
  | cons _ _ _ _ _ _ _ _ h1 _ ih => exact .cons (DRep.any_ h1) ih
theorem Fm.At.of_lvs {w : World} {x : Fm} {vs : List Value} (h : Lvs w x.d vs) : ∃ s0 s1, vs = [.int .i64 x.op, .string x.atom.name, s0, .string x.var, s1] ∧ Fm.At w x s0 s1 := by
  rw [Fm.d_eq] at h
  cases h with
  | cons h0 h => cases h with
    | cons h1 h => cases h with
      | cons h2 h => cases h with
        | cons h3 h => cases h with
          | cons h4 h => cases h with
            | nil =>
              obtain rfl := h0.int_inv
              obtain ⟨rfl, b1⟩ := h1.str_inv
              obtain ⟨rfl, b3⟩ := h3.str_inv
              exact ⟨_, _, rfl, b1, h2, b3, h4⟩
/-- A formula, in a value. -/
def FmV (w : World) (x : Fm) (u : Value) : Prop := ∃ (a0 : Option Addr) (n0 c0 : Nat) (a1 : Option Addr) (n1 c1 : Nat), u = .agg #[.int .i64 x.op, .string x.atom.name, .slice a0 n0 c0, .string x.var, .slice a1 n1 c1] ∧ Fm.At w x (.slice a0 n0 c0) (.slice a1 n1 c1)
theorem FmV.keep {w w' : World} {x : Fm} {u : Value} (h : FmV w x u) (hb : Below w.heap.size w w') : FmV w' x u := by
  obtain ⟨a0, n0, c0, a1, n1, c1, e, h⟩ := h
  exact ⟨a0, n0, c0, a1, n1, c1, e, h.keep hb⟩
theorem toFormula_tell (x : Fm) (s0 s1 : Value) (w : World) (hb : x.bulk ≤ 1048576) (hx : Fm.At w x s0 s1) :
    Calls Try.prog 41 #[.agg #[.int .i64 x.op, .string x.atom.name, s0, .string x.var, s1]] w (Tell w fun w' u => FmV w' x u) := by
  refine (toFormula_all x s0 s1 w hb hx).mono ?_
  rintro e w' ⟨a0, n0, c0, a1, n1, c1, rfl, h1, h2⟩
  obtain ⟨t0, t1, e, hA⟩ := Fm.At.of_lvs h2.lvs
  simp only [List.cons.injEq, and_true, true_and] at e
  obtain ⟨rfl, rfl⟩ := e
  exact Tell.mk' h1 ⟨_, _, _, _, _, _, rfl, hA⟩

set_option maxHeartbeats 1000000 in
theorem specNnf_any (x : Fm) (s0 s1 : Value) (w : World) (hbk : x.bulk ≤ 1099511627775) (hx : Fm.At w x s0 s1) :
    Calls Try.prog 40 #[.agg #[.int .i64 x.op, .string x.atom.name, s0, .string x.var, s1]] w (Ret w (.tuple #[.bool (x.valid && x.nnf), .bool x.valid])) := by
  have HX := Lib.hid hx
  obtain ⟨a0, n0, cap0, rfl⟩ := DAt.form hx.2.1
  obtain ⟨a1, n1, cap1, rfl⟩ := DAt.form hx.2.2.2
  clear hx
  cases hv : x.valid
  · have H1 := Lib.hid hv
    clear hv
    go_enter Try.func40, Try.ntmps40
    go_wp2_with fail
    refine (Ret.mono (l8Good_any x _ _ _ hbk (HX.out.keep (by (repeat' first | (with_reducible exact Below.refl _ _) | (with_reducible refine Below.setCell ?_ ?_ _) | (with_reducible refine Below.alloc ?_ ?_ _) | (with_reducible refine Below.drewN' ?_ _) | (with_reducible refine Below.via ?_ (by assumption) ?_) | (with_reducible exact Nat.le_refl _) | (simp; done) | (simp; omega) | omega)))) (by rw [H1.out])).mono ?_
    rintro e w1 ⟨rfl, hb1⟩
    have hz1 := hb1.size
    (try simp at hz1)
    obtain ⟨hc1, hf1⟩ := bcell hb1
    (try simp only [sz_setCell, sz_alloc, sz_drewN] at hc1 hf1)
    (try have hu1_0 : w.heap.size < w1.heap.size := by omega)
    (try have hu1_1 : w.heap.size + 1 < w1.heap.size := by omega)
    (try have hu1_2 : w.heap.size + 1 + 1 < w1.heap.size := by omega)
    (try have hx1_0 : b < w1.heap.size := by omega)
    (try have hx1_1 : b' < w1.heap.size := by omega)
    (try have hx1_2 : b2 < w1.heap.size := by omega)
    go_wp2_with fail
    refine bodyPost_ret (v := .tuple #[.bool false, .bool false]) (by simp [results, Try.results40, go_sem]) rfl ?_
    exact Ret.bel (by simp) (by (repeat' first | (with_reducible exact Below.refl _ _) | (with_reducible refine Below.setCell ?_ ?_ _) | (with_reducible refine Below.alloc ?_ ?_ _) | (with_reducible refine Below.drewN' ?_ _) | (with_reducible refine Below.via ?_ (by assumption) ?_) | (with_reducible exact Nat.le_refl _) | (simp; done) | (simp; omega) | omega))
  · have H1 := Lib.hid hv
    have H2 : Hid (x.forms = true) := Lib.hid (by unfold Fm.valid at hv; simp at hv; exact hv.2)
    clear hv
    go_enter Try.func40, Try.ntmps40
    go_wp2_with fail
    refine (Ret.mono (l8Good_any x _ _ _ hbk (HX.out.keep (by (repeat' first | (with_reducible exact Below.refl _ _) | (with_reducible refine Below.setCell ?_ ?_ _) | (with_reducible refine Below.alloc ?_ ?_ _) | (with_reducible refine Below.drewN' ?_ _) | (with_reducible refine Below.via ?_ (by assumption) ?_) | (with_reducible exact Nat.le_refl _) | (simp; done) | (simp; omega) | omega)))) (by rw [H1.out])).mono ?_
    rintro e w1 ⟨rfl, hb1⟩
    have hz1 := hb1.size
    (try simp at hz1)
    obtain ⟨hc1, hf1⟩ := bcell hb1
    (try simp only [sz_setCell, sz_alloc, sz_drewN] at hc1 hf1)
    (try have hu1_0 : w.heap.size < w1.heap.size := by omega)
    (try have hu1_1 : w.heap.size + 1 < w1.heap.size := by omega)
    (try have hu1_2 : w.heap.size + 1 + 1 < w1.heap.size := by omega)
    (try have hx1_0 : b < w1.heap.size := by omega)
    (try have hx1_1 : b' < w1.heap.size := by omega)
    (try have hx1_2 : b2 < w1.heap.size := by omega)
    go_wp2_with fail
    refine (lnnf_all x H2.out _ _ _ hbk (HX.out.keep (by (repeat' first | (with_reducible exact Below.refl _ _) | (with_reducible refine Below.setCell ?_ ?_ _) | (with_reducible refine Below.alloc ?_ ?_ _) | (with_reducible refine Below.drewN' ?_ _) | (with_reducible refine Below.via ?_ (by assumption) ?_) | (with_reducible exact Nat.le_refl _) | (simp; done) | (simp; omega) | omega)))).mono ?_
    rintro e w2 ⟨rfl, hb2⟩
    have hz2 := hb2.size
    (try simp at hz2)
    obtain ⟨hc2, hf2⟩ := bcell hb2
    (try simp only [sz_setCell, sz_alloc, sz_drewN] at hc2 hf2)
    (try have hu2_0 : w.heap.size < w2.heap.size := by omega)
    (try have hu2_1 : w.heap.size + 1 < w2.heap.size := by omega)
    (try have hu2_2 : w.heap.size + 1 + 1 < w2.heap.size := by omega)
    (try have hx2_0 : b < w2.heap.size := by omega)
    (try have hx2_1 : b' < w2.heap.size := by omega)
    (try have hx2_2 : b2 < w2.heap.size := by omega)
    go_wp2_with fail
    refine bodyPost_ret (v := .tuple #[.bool x.nnf, .bool true]) (by simp [results, Try.results40, go_sem]) rfl ?_
    exact Ret.bel (by simp) (by (repeat' first | (with_reducible exact Below.refl _ _) | (with_reducible refine Below.setCell ?_ ?_ _) | (with_reducible refine Below.alloc ?_ ?_ _) | (with_reducible refine Below.drewN' ?_ _) | (with_reducible refine Below.via ?_ (by assumption) ?_) | (with_reducible exact Nat.le_refl _) | (simp; done) | (simp; omega) | omega))
set_option maxHeartbeats 1000000 in
theorem implNnf_any (x : Fm) (s0 s1 : Value) (w : World) (hbk : x.bulk ≤ 1099511627775) (hx : Fm.At w x s0 s1) :
    Calls Try.prog 42 #[.agg #[.int .i64 x.op, .string x.atom.name, s0, .string x.var, s1]] w (Ret w (.tuple #[.bool (x.valid && x.nnf), .bool x.valid])) := by
  have HX := Lib.hid hx
  obtain ⟨a0, n0, cap0, rfl⟩ := DAt.form hx.2.1
  obtain ⟨a1, n1, cap1, rfl⟩ := DAt.form hx.2.2.2
  clear hx
  cases hv : x.valid
  · have H1 := Lib.hid hv
    clear hv
    go_enter Try.func42, Try.ntmps42
    go_wp2_with fail
    refine (Ret.mono (isValidFormula_any x _ _ _ hbk (HX.out.keep (by (repeat' first | (with_reducible exact Below.refl _ _) | (with_reducible refine Below.setCell ?_ ?_ _) | (with_reducible refine Below.alloc ?_ ?_ _) | (with_reducible refine Below.drewN' ?_ _) | (with_reducible refine Below.via ?_ (by assumption) ?_) | (with_reducible exact Nat.le_refl _) | (simp; done) | (simp; omega) | omega)))) (by rw [H1.out])).mono ?_
    rintro e w1 ⟨rfl, hb1⟩
    have hz1 := hb1.size
    (try simp at hz1)
    obtain ⟨hc1, hf1⟩ := bcell hb1
    (try simp only [sz_setCell, sz_alloc, sz_drewN] at hc1 hf1)
    (try have hu1_0 : w.heap.size < w1.heap.size := by omega)
    (try have hu1_1 : w.heap.size + 1 < w1.heap.size := by omega)
    (try have hu1_2 : w.heap.size + 1 + 1 < w1.heap.size := by omega)
    (try have hx1_0 : b < w1.heap.size := by omega)
    (try have hx1_1 : b' < w1.heap.size := by omega)
    (try have hx1_2 : b2 < w1.heap.size := by omega)
    go_wp2_with fail
    refine bodyPost_ret (v := .tuple #[.bool false, .bool false]) (by simp [results, Try.results42, go_sem]) rfl ?_
    exact Ret.bel (by simp) (by (repeat' first | (with_reducible exact Below.refl _ _) | (with_reducible refine Below.setCell ?_ ?_ _) | (with_reducible refine Below.alloc ?_ ?_ _) | (with_reducible refine Below.drewN' ?_ _) | (with_reducible refine Below.via ?_ (by assumption) ?_) | (with_reducible exact Nat.le_refl _) | (simp; done) | (simp; omega) | omega))
  · have H1 := Lib.hid hv
    have H2 : Hid (x.forms = true) := Lib.hid (by unfold Fm.valid at hv; simp at hv; exact hv.2)
    clear hv
    go_enter Try.func42, Try.ntmps42
    go_wp2_with fail
    refine (Ret.mono (isValidFormula_any x _ _ _ hbk (HX.out.keep (by (repeat' first | (with_reducible exact Below.refl _ _) | (with_reducible refine Below.setCell ?_ ?_ _) | (with_reducible refine Below.alloc ?_ ?_ _) | (with_reducible refine Below.drewN' ?_ _) | (with_reducible refine Below.via ?_ (by assumption) ?_) | (with_reducible exact Nat.le_refl _) | (simp; done) | (simp; omega) | omega)))) (by rw [H1.out])).mono ?_
    rintro e w1 ⟨rfl, hb1⟩
    have hz1 := hb1.size
    (try simp at hz1)
    obtain ⟨hc1, hf1⟩ := bcell hb1
    (try simp only [sz_setCell, sz_alloc, sz_drewN] at hc1 hf1)
    (try have hu1_0 : w.heap.size < w1.heap.size := by omega)
    (try have hu1_1 : w.heap.size + 1 < w1.heap.size := by omega)
    (try have hu1_2 : w.heap.size + 1 + 1 < w1.heap.size := by omega)
    (try have hx1_0 : b < w1.heap.size := by omega)
    (try have hx1_1 : b' < w1.heap.size := by omega)
    (try have hx1_2 : b2 < w1.heap.size := by omega)
    go_wp2_with fail
    refine (nnf_all x H2.out _ _ _ hbk (HX.out.keep (by (repeat' first | (with_reducible exact Below.refl _ _) | (with_reducible refine Below.setCell ?_ ?_ _) | (with_reducible refine Below.alloc ?_ ?_ _) | (with_reducible refine Below.drewN' ?_ _) | (with_reducible refine Below.via ?_ (by assumption) ?_) | (with_reducible exact Nat.le_refl _) | (simp; done) | (simp; omega) | omega)))).mono ?_
    rintro e w2 ⟨rfl, hb2⟩
    have hz2 := hb2.size
    (try simp at hz2)
    obtain ⟨hc2, hf2⟩ := bcell hb2
    (try simp only [sz_setCell, sz_alloc, sz_drewN] at hc2 hf2)
    (try have hu2_0 : w.heap.size < w2.heap.size := by omega)
    (try have hu2_1 : w.heap.size + 1 < w2.heap.size := by omega)
    (try have hu2_2 : w.heap.size + 1 + 1 < w2.heap.size := by omega)
    (try have hx2_0 : b < w2.heap.size := by omega)
    (try have hx2_1 : b' < w2.heap.size := by omega)
    (try have hx2_2 : b2 < w2.heap.size := by omega)
    go_wp2_with fail
    refine bodyPost_ret (v := .tuple #[.bool x.nnf, .bool true]) (by simp [results, Try.results42, go_sem]) rfl ?_
    exact Ret.bel (by simp) (by (repeat' first | (with_reducible exact Below.refl _ _) | (with_reducible refine Below.setCell ?_ ?_ _) | (with_reducible refine Below.alloc ?_ ?_ _) | (with_reducible refine Below.drewN' ?_ _) | (with_reducible refine Below.via ?_ (by assumption) ?_) | (with_reducible exact Nat.le_refl _) | (simp; done) | (simp; omega) | omega))

set_option maxHeartbeats 4000000 in
theorem law6_walk (x : Fm) (s0 s1 : Value) (w : World) (hx : Fm.At w x s0 s1) :
    Calls Try.prog 8 #[.agg #[.int .i64 x.op, .string x.atom.name, s0, .string x.var, s1]] w (Ret w (.bool true)) := by
  have HX := Lib.hid hx
  obtain ⟨a0, n0, cap0, rfl⟩ := DAt.form hx.2.1
  obtain ⟨a1, n1, cap1, rfl⟩ := DAt.form hx.2.2.2
  clear hx
  go_enter Try.func8, Try.ntmps8
  go_wp2_with fail
  refine (szFormula_all x _ _ _ _ (by omega) (by omega) (HX.out.keep (by (repeat' first | (with_reducible exact Below.refl _ _) | (with_reducible refine Below.setCell ?_ ?_ _) | (with_reducible refine Below.alloc ?_ ?_ _) | (with_reducible refine Below.drewN' ?_ _) | (with_reducible refine Below.via ?_ (by assumption) ?_) | (with_reducible exact Nat.le_refl _) | (simp; done) | (simp; omega) | omega)))).mono ?_
  rintro e w1 ⟨z1, rfl, hb1, hq1⟩
  have hz1 := hb1.size
  simp at hz1
  obtain ⟨hc1, hf1⟩ := bcell hb1
  simp only [sz_setCell, sz_alloc, sz_drewN] at hc1 hf1
  have hu1 : w.heap.size < w1.heap.size := by omega
  rcases hq1 with rfl | ⟨hq0, hq1⟩
  · go_wp2_with fail
    go_ret
    exact Ret.bel rfl (by (repeat' first | (with_reducible exact Below.refl _ _) | (with_reducible refine Below.setCell ?_ ?_ _) | (with_reducible refine Below.alloc ?_ ?_ _) | (with_reducible refine Below.drewN' ?_ _) | (with_reducible refine Below.via ?_ (by assumption) ?_) | (with_reducible exact Nat.le_refl _) | (simp; done) | (simp; omega) | omega))
  · have hbk : x.bulk ≤ 1048576 := by omega
    have hbk' : x.bulk ≤ 1099511627775 := by omega
    clear hq1
    go_wp2_with fail
    refine (toFormula_tell x _ _ _ hbk (HX.out.keep (by (repeat' first | (with_reducible exact Below.refl _ _) | (with_reducible refine Below.setCell ?_ ?_ _) | (with_reducible refine Below.alloc ?_ ?_ _) | (with_reducible refine Below.drewN' ?_ _) | (with_reducible refine Below.via ?_ (by assumption) ?_) | (with_reducible exact Nat.le_refl _) | (simp; done) | (simp; omega) | omega)))).mono ?_
    rintro e w2 ⟨v2, rfl, hb2, x0, y0, e0, x1, y1, e1, rfl, hv2⟩
    have HV2 := Lib.hid hv2
    have hz2 := hb2.size
    obtain ⟨hc2, hf2⟩ := bcell hb2
    have hu2 : w.heap.size < w2.heap.size := by omega
    clear hv2
    go_wp2_with fail
    refine (specNnf_any x _ _ _ hbk' HV2.out).mono ?_
    rintro e w3 ⟨rfl, hb3⟩
    have hz3 := hb3.size
    (try simp at hz3)
    obtain ⟨hc3, hf3⟩ := bcell hb3
    (try simp only [sz_setCell, sz_alloc, sz_drewN] at hc3 hf3)
    (try have hu3_0 : w.heap.size < w3.heap.size := by omega)
    (try have hu3_1 : w.heap.size + 1 < w3.heap.size := by omega)
    (try have hu3_2 : w.heap.size + 1 + 1 < w3.heap.size := by omega)
    (try have hx3_0 : b < w3.heap.size := by omega)
    (try have hx3_1 : b' < w3.heap.size := by omega)
    (try have hx3_2 : b2 < w3.heap.size := by omega)
    go_wp2_with fail
    refine (toFormula_tell x _ _ _ hbk (HX.out.keep (by (repeat' first | (with_reducible exact Below.refl _ _) | (with_reducible refine Below.setCell ?_ ?_ _) | (with_reducible refine Below.alloc ?_ ?_ _) | (with_reducible refine Below.drewN' ?_ _) | (with_reducible refine Below.via ?_ (by assumption) ?_) | (with_reducible exact Nat.le_refl _) | (simp; done) | (simp; omega) | omega)))).mono ?_
    rintro e w4 ⟨v4, rfl, hb4, x4, y4, e4, x5, y5, e5, rfl, hv4⟩
    have HV4 := Lib.hid hv4
    have hz4 := hb4.size
    obtain ⟨hc4, hf4⟩ := bcell hb4
    have hu4 : w.heap.size < w4.heap.size := by omega
    clear hv4
    go_wp2_with fail
    refine (implNnf_any x _ _ _ hbk' (HV4.out.keep (by (repeat' first | (with_reducible exact Below.refl _ _) | (with_reducible refine Below.setCell ?_ ?_ _) | (with_reducible refine Below.alloc ?_ ?_ _) | (with_reducible refine Below.drewN' ?_ _) | (with_reducible refine Below.via ?_ (by assumption) ?_) | (with_reducible exact Nat.le_refl _) | (simp; done) | (simp; omega) | omega)))).mono ?_
    rintro e w5 ⟨rfl, hb5⟩
    have hz5 := hb5.size
    simp at hz5
    obtain ⟨hc5, hf5⟩ := bcell hb5
    simp only [sz_setCell, sz_alloc, sz_drewN] at hc5 hf5
    have hu5 : w.heap.size < w5.heap.size := by omega
    have hy5 : w4.heap.size < w5.heap.size := by omega
    have hy6 : w.heap.size < w4.heap.size + 1 := by omega
    go_wp2_with fail
    refine Flow.wp_region_flow 3 [(2, .told (fun v w => (fun w u => FmV w x u) w v))] [] (by kernel_rfl) (by kernel_rfl) (Stable.told (fun v w w' h hb => h.keep hb) Stable.nil) ?_
    intro hgrow
    simp only [List.take_succ_cons, List.take_zero]
    repeat (first | ((with_reducible refine Flow.flow_quiet ?_ ?_ ?_); (focus (exact rfl)); (focus (exact rfl)); intro K hK; go_simp; refine hK _ ?_; clear hK K) | ((with_reducible refine Flow.flow_pass ?_); intro K hK; go_simp; (first | refine hK _ ?_ | (refine ⟨?_, hK _ ?_⟩; (focus (simp [undef]; done)))); clear hK K))
    refine Flow.flow_rel (fun v w => (fun w u => FmV w x u) w v) rfl (by go_simp) (fun W hW hF => flow_told (by go_simp) (toFormula_tell x _ _ _ hbk (HX.out.keep (Below.of_trans (b := w5) (by (repeat' first | (with_reducible exact Below.refl _ _) | (with_reducible refine Below.setCell ?_ ?_ _) | (with_reducible refine Below.alloc ?_ ?_ _) | (with_reducible refine Below.drewN' ?_ _) | (with_reducible refine Below.via ?_ (by assumption) ?_) | (with_reducible exact Nat.le_refl _) | (simp; done) | (simp; omega) | omega)) hW)))) ?_
    intro v2
    simp only [Act.put, List.setIfInBounds_toArray, List.set_cons_succ, List.set_cons_zero]
    repeat (first | ((with_reducible refine Flow.flow_quiet ?_ ?_ ?_); (focus (exact rfl)); (focus (exact rfl)); intro K hK; go_simp; refine hK _ ?_; clear hK K) | ((with_reducible refine Flow.flow_pass ?_); intro K hK; go_simp; (first | refine hK _ ?_ | (refine ⟨?_, hK _ ?_⟩; (focus (simp [undef]; done)))); clear hK K))
    with_reducible refine Flow.flow_nil ?_
    clear hgrow
    intro W hW hH
    have hv2 : (fun w u => FmV w x u) W v2 := hH 2 v2 rfl
    clear hH
    have hzW := hW.size
    try simp at hzW
    obtain ⟨hcW, hfW⟩ := bcell hW
    simp only [List.drop_succ_cons, List.drop_zero, List.drop_nil]
    obtain ⟨x6, y6, e6, x7, y7, e7, rfl, hA6⟩ := hv2
    have HV6 := Lib.hid hA6
    clear hA6
    go_wp2_with fail
    refine (eqFormula_all x _ _ _ _ _ (HV4.out.keep (by (repeat' first | (with_reducible exact Below.refl _ _) | (with_reducible refine Below.setCell ?_ ?_ _) | (with_reducible refine Below.alloc ?_ ?_ _) | (with_reducible refine Below.drewN' ?_ _) | (with_reducible refine Below.via ?_ (by assumption) ?_) | (with_reducible exact Nat.le_refl _) | (simp; done) | (simp; omega) | omega))) (HV6.out)).mono ?_
    rintro e w7 ⟨rfl, hb7⟩
    have hz7 := hb7.size
    (try simp at hz7)
    obtain ⟨hc7, hf7⟩ := bcell hb7
    (try simp only [sz_setCell, sz_alloc, sz_drewN] at hc7 hf7)
    (try have hu7_0 : w.heap.size < w7.heap.size := by omega)
    (try have hu7_1 : w.heap.size + 1 < w7.heap.size := by omega)
    (try have hu7_2 : w.heap.size + 1 + 1 < w7.heap.size := by omega)
    (try have hx7_0 : b < w7.heap.size := by omega)
    (try have hx7_1 : b' < w7.heap.size := by omega)
    (try have hx7_2 : b2 < w7.heap.size := by omega)
    go_wp2_with fail
    go_ret
    exact Ret.bel rfl (by (repeat' first | (with_reducible exact Below.refl _ _) | (with_reducible refine Below.setCell ?_ ?_ _) | (with_reducible refine Below.alloc ?_ ?_ _) | (with_reducible refine Below.drewN' ?_ _) | (with_reducible refine Below.via ?_ (by assumption) ?_) | (with_reducible exact Nat.le_refl _) | (simp; done) | (simp; omega) | omega))
end Go.Proofs.Ytpbakldlhjdipaa
