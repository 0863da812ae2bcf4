/-
  This text proves that the laws' comparisons of equal terms and formulas say yes. Condition: both read as the same data.
-/
import Derived.Test.YtpbakldlhjdipaaTm
set_option maxRecDepth 100000
set_option linter.unusedSimpArgs false
set_option linter.unusedVariables false
namespace Go.Proofs.Ytpbakldlhjdipaa
open Go.RowKit

def EqTm (x : Tm) : Prop := ∀ (s0 : Value) (s0t : Value) (w : World), Tm.At w x s0 → Tm.At w x s0t → Calls Try.prog 31 #[.agg #[.string x.name, s0], .agg #[.string x.name, s0t]] w (Ret w (.bool true))
def EqTms (xs : List Tm) : Prop := ∀ (u v : Value) (w : World), TmsAt w xs u → TmsAt w xs v → Calls Try.prog 74 #[u, v] w (Ret w (.bool true))
set_option maxHeartbeats 1000000 in
theorem eqTerm_of (x : Tm) (hS : EqTms x.args) : EqTm x := by
  intro s0 s0t w hx hy
  have HX := Lib.hid hx
  have HY := Lib.hid hy
  obtain ⟨_, gs0⟩ := hx
  obtain ⟨xs0, ns0, cs0, rfl⟩ := DAt.form gs0
  clear gs0
  obtain ⟨_, gs0t⟩ := hy
  obtain ⟨xs0t, ns0t, cs0t, rfl⟩ := DAt.form gs0t
  clear gs0t
  go_enter Try.func31, Try.ntmps31
  go_wp2_with fail
  refine (hS _ _ _ (DAt.keep (HX.out.2) (by (repeat' first | (with_reducible exact Below.refl _ _) | (with_reducible refine Below.setCell ?_ ?_ _) | (with_reducible refine Below.alloc ?_ ?_ _) | (with_reducible refine Below.drewN' ?_ _) | (with_reducible refine Below.via ?_ (by assumption) ?_) | (with_reducible exact Nat.le_refl _) | (simp; done) | (simp; omega) | omega))) (DAt.keep (HY.out.2) (by (repeat' first | (with_reducible exact Below.refl _ _) | (with_reducible refine Below.setCell ?_ ?_ _) | (with_reducible refine Below.alloc ?_ ?_ _) | (with_reducible refine Below.drewN' ?_ _) | (with_reducible refine Below.via ?_ (by assumption) ?_) | (with_reducible exact Nat.le_refl _) | (simp; done) | (simp; omega) | omega)))).mono ?_
  rintro e w1 ⟨rfl, hb1⟩
  have hs1 := hb1.size
  (try simp at hs1)
  obtain ⟨hc1, hf1⟩ := bcell hb1
  (try simp only [sz_setCell, sz_alloc, sz_drewN] at hc1 hf1)
  (try have hu1_0 : w.heap.size < w1.heap.size := by omega)
  (try have hu1_1 : w.heap.size + 1 < w1.heap.size := by omega)
  (try have hu1_2 : w.heap.size + 1 + 1 < w1.heap.size := by omega)
  (try have hu1_3 : w.heap.size + 1 + 1 + 1 < w1.heap.size := by omega)
  go_wp2_with fail
  go_ret
  exact Ret.bel rfl (by (repeat' first | (with_reducible exact Below.refl _ _) | (with_reducible refine Below.setCell ?_ ?_ _) | (with_reducible refine Below.alloc ?_ ?_ _) | (with_reducible refine Below.drewN' ?_ _) | (with_reducible refine Below.via ?_ (by assumption) ?_) | (with_reducible exact Nat.le_refl _) | (simp; done) | (simp; omega) | omega))
set_option maxHeartbeats 1000000 in
theorem eqTermS_of (xs : List Tm) (helem : ∀ x ∈ xs, EqTm x) : EqTms xs := by
  intro u v w hx hy
  obtain ⟨a, cap, S0, rfl, hnc, hcap, hS, hF⟩ := hx.open_
  obtain ⟨a', cap', S0', rfl, hnc', hcap', hS', hG⟩ := hy.open_
  have HS := Lib.hid hS
  have HS' := Lib.hid hS'
  have HF := Lib.hid hF
  have HG := Lib.hid hG
  have HE := Lib.hid helem
  clear hS hF helem hx hS' hG hy
  go_enter Try.func74, Try.ntmps74
  go_wp2
  go_loopw [5] (fun i wr => CntB w xs.length (fun _ _ => True) i wr) (fun i _ => xs.length - (intOf i).toNat)
  case atStart => exact ⟨0, Nat.zero_le _, rfl, trivial, Below.refl _ _⟩
  case round =>
    obtain ⟨k, hk, rfl, _, hbw⟩ := hrel
    by_cases hlt : k < xs.length
    · obtain ⟨b, off, rfl, hbl, c0, c1⟩ := (HS.out.keep (Keeps.of_below hbw _)).at2 hlt
      obtain ⟨b', off', rfl, hbl', e0, e1⟩ := (HS'.out.keep (Keeps.of_below hbw _)).at2 hlt
      rw [getD_at _ hlt] at c0 c1 e0 e1
      simp only [Tm.c] at c0 c1 e0 e1
      go_wp2
      refine Flow.wp_region_flow 10 [(8, .fixed (.bool true))] [] (by kernel_rfl) (by kernel_rfl) (exact_stable rfl) ?_
      intro hgrow
      simp only [List.take_succ_cons, List.take_zero]
      repeat (first | ((with_reducible refine Flow.flow_quiet ?_ ?_ ?_); (focus (exact rfl)); (focus (exact rfl)); intro K hK; go_simp; refine hK _ ?_; clear hK K) | ((with_reducible refine Flow.flow_pass ?_); intro K hK; go_simp; (first | refine hK _ ?_ | (refine ⟨?_, hK _ ?_⟩; (focus (simp [undef]; done)))); clear hK K))
      refine Flow.flow_exact _ rfl (by go_simp) (fun W hW => flow_ret (by go_simp) (HE.out xs[k] (List.getElem_mem hlt) _ _ _ (((HF.out k hlt).keep hbw).keep hW) (((HG.out k hlt).keep hbw).keep hW))) ?_
      repeat (first | ((with_reducible refine Flow.flow_quiet ?_ ?_ ?_); (focus (exact rfl)); (focus (exact rfl)); intro K hK; go_simp; refine hK _ ?_; clear hK K) | ((with_reducible refine Flow.flow_pass ?_); intro K hK; go_simp; (first | refine hK _ ?_ | (refine ⟨?_, hK _ ?_⟩; (focus (simp [undef]; done)))); clear hK K))
      with_reducible refine Flow.flow_nil ?_
      clear hgrow
      intro W hW _
      have hzW := hW.size
      try simp at hzW
      obtain ⟨hcW, hfW⟩ := bcell hW
      simp only [List.drop_succ_cons, List.drop_zero, List.drop_nil]
      go_wp2
      go_roundw
      case rel => exact ⟨k + 1, hlt, by go_num, trivial, Below.of_trans hbw hW⟩
      case measure => exact intOf_lt hlt
    · obtain rfl : k = xs.length := by omega
      go_wp2
      go_ret
      exact Ret.bel rfl hbw
theorem eqTerm_all (x : Tm) : EqTm x := eqTerm_of x (eqTermS_of _ fun y hy => eqTerm_all y)
termination_by SizeOf.sizeOf x
decreasing_by exact Tm.lt_of_mem hy
theorem eqTermS_all (xs : List Tm) : EqTms xs := eqTermS_of xs fun x _ => eqTerm_all x

def EqFm (x : Fm) : Prop := ∀ (s0 : Value) (s1 : Value) (s0t : Value) (s1t : Value) (w : World), Fm.At w x s0 s1 → Fm.At w x s0t s1t → Calls Try.prog 43 #[.agg #[.int .i64 x.op, .string x.atom.name, s0, .string x.var, s1], .agg #[.int .i64 x.op, .string x.atom.name, s0t, .string x.var, s1t]] w (Ret w (.bool true))
def EqFms (xs : List Fm) : Prop := ∀ (u v : Value) (w : World), FmsAt w xs u → FmsAt w xs v → Calls Try.prog 91 #[u, v] w (Ret w (.bool true))
set_option maxHeartbeats 1000000 in
theorem eqFormula_of (x : Fm) (hS : EqFms x.parts) : EqFm x := by
  intro s0 s1 s0t s1t w hx hy
  have HX := Lib.hid hx
  have HY := Lib.hid hy
  obtain ⟨_, gs0, _, gs1⟩ := hx
  obtain ⟨xs0, ns0, cs0, rfl⟩ := DAt.form gs0
  clear gs0
  obtain ⟨xs1, ns1, cs1, rfl⟩ := DAt.form gs1
  clear gs1
  obtain ⟨_, gs0t, _, gs1t⟩ := hy
  obtain ⟨xs0t, ns0t, cs0t, rfl⟩ := DAt.form gs0t
  clear gs0t
  obtain ⟨xs1t, ns1t, cs1t, rfl⟩ := DAt.form gs1t
  clear gs1t
  go_enter Try.func43, Try.ntmps43
  go_wp2_with fail
  refine (eqTerm_all _ _ _ _ (Tm.At.keep ⟨HX.out.1, HX.out.2.1⟩ (by (repeat' first | (with_reducible exact Below.refl _ _) | (with_reducible refine Below.setCell ?_ ?_ _) | (with_reducible refine Below.alloc ?_ ?_ _) | (with_reducible refine Below.drewN' ?_ _) | (with_reducible refine Below.via ?_ (by assumption) ?_) | (with_reducible exact Nat.le_refl _) | (simp; done) | (simp; omega) | omega))) (Tm.At.keep ⟨HY.out.1, HY.out.2.1⟩ (by (repeat' first | (with_reducible exact Below.refl _ _) | (with_reducible refine Below.setCell ?_ ?_ _) | (with_reducible refine Below.alloc ?_ ?_ _) | (with_reducible refine Below.drewN' ?_ _) | (with_reducible refine Below.via ?_ (by assumption) ?_) | (with_reducible exact Nat.le_refl _) | (simp; done) | (simp; omega) | omega)))).mono ?_
  rintro e w1 ⟨rfl, hb1⟩
  have hs1 := hb1.size
  (try simp at hs1)
  obtain ⟨hc1, hf1⟩ := bcell hb1
  (try simp only [sz_setCell, sz_alloc, sz_drewN] at hc1 hf1)
  (try have hu1_0 : w.heap.size < w1.heap.size := by omega)
  (try have hu1_1 : w.heap.size + 1 < w1.heap.size := by omega)
  (try have hu1_2 : w.heap.size + 1 + 1 < w1.heap.size := by omega)
  (try have hu1_3 : w.heap.size + 1 + 1 + 1 < w1.heap.size := by omega)
  go_wp2_with fail
  refine (hS _ _ _ (DAt.keep (HX.out.2.2.2) (by (repeat' first | (with_reducible exact Below.refl _ _) | (with_reducible refine Below.setCell ?_ ?_ _) | (with_reducible refine Below.alloc ?_ ?_ _) | (with_reducible refine Below.drewN' ?_ _) | (with_reducible refine Below.via ?_ (by assumption) ?_) | (with_reducible exact Nat.le_refl _) | (simp; done) | (simp; omega) | omega))) (DAt.keep (HY.out.2.2.2) (by (repeat' first | (with_reducible exact Below.refl _ _) | (with_reducible refine Below.setCell ?_ ?_ _) | (with_reducible refine Below.alloc ?_ ?_ _) | (with_reducible refine Below.drewN' ?_ _) | (with_reducible refine Below.via ?_ (by assumption) ?_) | (with_reducible exact Nat.le_refl _) | (simp; done) | (simp; omega) | omega)))).mono ?_
  rintro e w2 ⟨rfl, hb2⟩
  have hs2 := hb2.size
  (try simp at hs2)
  obtain ⟨hc2, hf2⟩ := bcell hb2
  (try simp only [sz_setCell, sz_alloc, sz_drewN] at hc2 hf2)
  (try have hu2_0 : w.heap.size < w2.heap.size := by omega)
  (try have hu2_1 : w.heap.size + 1 < w2.heap.size := by omega)
  (try have hu2_2 : w.heap.size + 1 + 1 < w2.heap.size := by omega)
  (try have hu2_3 : w.heap.size + 1 + 1 + 1 < w2.heap.size := by omega)
  go_wp2_with fail
  go_ret
  exact Ret.bel rfl (by (repeat' first | (with_reducible exact Below.refl _ _) | (with_reducible refine Below.setCell ?_ ?_ _) | (with_reducible refine Below.alloc ?_ ?_ _) | (with_reducible refine Below.drewN' ?_ _) | (with_reducible refine Below.via ?_ (by assumption) ?_) | (with_reducible exact Nat.le_refl _) | (simp; done) | (simp; omega) | omega))
set_option maxHeartbeats 1000000 in
theorem eqFormulaS_of (xs : List Fm) (helem : ∀ x ∈ xs, EqFm x) : EqFms xs := by
  intro u v w hx hy
  obtain ⟨a, cap, S0, S1, rfl, hnc, hcap, hS, hF⟩ := hx.open_
  obtain ⟨a', cap', S0', S1', rfl, hnc', hcap', hS', hG⟩ := hy.open_
  have HS := Lib.hid hS
  have HS' := Lib.hid hS'
  have HF := Lib.hid hF
  have HG := Lib.hid hG
  have HE := Lib.hid helem
  clear hS hF helem hx hS' hG hy
  go_enter Try.func91, Try.ntmps91
  go_wp2
  go_loopw [5] (fun i wr => CntB w xs.length (fun _ _ => True) i wr) (fun i _ => xs.length - (intOf i).toNat)
  case atStart => exact ⟨0, Nat.zero_le _, rfl, trivial, Below.refl _ _⟩
  case round =>
    obtain ⟨k, hk, rfl, _, hbw⟩ := hrel
    by_cases hlt : k < xs.length
    · obtain ⟨b, off, rfl, hbl, c0, c1, c2, c3, c4⟩ := (HS.out.keep (Keeps.of_below hbw _)).at5 hlt
      obtain ⟨b', off', rfl, hbl', e0, e1, e2, e3, e4⟩ := (HS'.out.keep (Keeps.of_below hbw _)).at5 hlt
      rw [getD_at _ hlt] at c0 c1 c2 c3 c4 e0 e1 e2 e3 e4
      simp only [Fm.c] at c0 c1 c2 c3 c4 e0 e1 e2 e3 e4
      go_wp2
      refine Flow.wp_region_flow 10 [(8, .fixed (.bool true))] [] (by kernel_rfl) (by kernel_rfl) (exact_stable rfl) ?_
      intro hgrow
      simp only [List.take_succ_cons, List.take_zero]
      repeat (first | ((with_reducible refine Flow.flow_quiet ?_ ?_ ?_); (focus (exact rfl)); (focus (exact rfl)); intro K hK; go_simp; refine hK _ ?_; clear hK K) | ((with_reducible refine Flow.flow_pass ?_); intro K hK; go_simp; (first | refine hK _ ?_ | (refine ⟨?_, hK _ ?_⟩; (focus (simp [undef]; done)))); clear hK K))
      refine Flow.flow_exact _ rfl (by go_simp) (fun W hW => flow_ret (by go_simp) (HE.out xs[k] (List.getElem_mem hlt) _ _ _ _ _ (((HF.out k hlt).keep hbw).keep hW) (((HG.out k hlt).keep hbw).keep hW))) ?_
      repeat (first | ((with_reducible refine Flow.flow_quiet ?_ ?_ ?_); (focus (exact rfl)); (focus (exact rfl)); intro K hK; go_simp; refine hK _ ?_; clear hK K) | ((with_reducible refine Flow.flow_pass ?_); intro K hK; go_simp; (first | refine hK _ ?_ | (refine ⟨?_, hK _ ?_⟩; (focus (simp [undef]; done)))); clear hK K))
      with_reducible refine Flow.flow_nil ?_
      clear hgrow
      intro W hW _
      have hzW := hW.size
      try simp at hzW
      obtain ⟨hcW, hfW⟩ := bcell hW
      simp only [List.drop_succ_cons, List.drop_zero, List.drop_nil]
      go_wp2
      go_roundw
      case rel => exact ⟨k + 1, hlt, by go_num, trivial, Below.of_trans hbw hW⟩
      case measure => exact intOf_lt hlt
    · obtain rfl : k = xs.length := by omega
      go_wp2
      go_ret
      exact Ret.bel rfl hbw
theorem eqFormula_all (x : Fm) : EqFm x := eqFormula_of x (eqFormulaS_of _ fun y hy => eqFormula_all y)
termination_by SizeOf.sizeOf x
decreasing_by exact Fm.lt_of_mem hy
theorem eqFormulaS_all (xs : List Fm) : EqFms xs := eqFormulaS_of xs fun x _ => eqFormula_all x

end Go.Proofs.Ytpbakldlhjdipaa
