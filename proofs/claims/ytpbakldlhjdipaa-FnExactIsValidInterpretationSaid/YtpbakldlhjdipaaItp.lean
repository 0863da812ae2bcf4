/-
  This text proves what the program's look at an interpretation says. Condition: the interpretation lies in memory.
-/
import Derived.Test.YtpbakldlhjdipaaCount2
import Derived.Test.YtpbakldlhjdipaaFuncs
set_option maxRecDepth 100000
set_option linter.unusedSimpArgs false
set_option linter.unusedVariables false
namespace Go.Proofs.Ytpbakldlhjdipaa
open Go.RowKit

/-- Value v is none of the table's kinds. -/
def valBad (size : Int) (t : Tb) (v : Int) : Bool := !inB v 0 (kindsZ t size - 1)
/-- The table's values are not as many, or not such, as they should be. -/
def tabBad (size : Int) (t : Tb) : Bool := ((t.vals.length : Int) != powZ size t.arity.toNat) || anyB (fun k => valBad size t (atZ t.vals k)) t.vals.length
def itpB (size : Int) (ts : List Tb) : Bool := inB size 1 3 && tabsB ts && !anyB (fun i => tabBad size (ts.getD i tb0)) ts.length

set_option maxHeartbeats 400000 in
theorem itp11_any (t : Tb) (x : Option Addr) (n c : Nat) (size v : Int) (bt bm : Nat) (w : World) (h1 : 1 ≤ size) (h3 : size ≤ 3) (hbt : bt < w.heap.size) (hbm : bm < w.heap.size)
    (c0 : w.cell? ⟨bt, 0, none⟩ = some (.string t.name)) (c1 : w.cell? ⟨bt, 1, none⟩ = some (.int .i64 t.arity)) (c2 : w.cell? ⟨bt, 2, none⟩ = some (.bool t.pred)) (c3 : w.cell? ⟨bt, 3, none⟩ = some (.slice x n c))
    (m0 : w.cell? ⟨bm, 0, none⟩ = some (.int .i64 size)) :
    Calls Try.prog 58 #[.int .i64 v, .pointer (some ⟨bt, 0, none⟩), .pointer (some ⟨bm, 0, none⟩)] w (Ret w (.bool (valBad size t v))) := by
  obtain ⟨k1, k3⟩ := kindsZ_bd (t := t) h1 h3
  go_enter Try.func58, Try.ntmps58
  go_wp2_with (first
    | (go_at_call 52; refine (choices_any t _ _ _ ⟨_, _, _, rfl⟩).mono ?_; rintro e w1 ⟨rfl, hb1⟩; have hz1 := hb1.size; (try simp at hz1); obtain ⟨hc1, hf1⟩ := bcell hb1)
    | (go_at_call 50; refine (within_any _ _ _ _).mono ?_; rintro e w' ⟨rfl, rfl⟩))
  go_ret
  exact Ret.bel rfl hb1

set_option maxHeartbeats 1000000 in
theorem itp1_any (t : Tb) (s : Value) (size : Int) (bm : Nat) (w : World) {lo : Nat} (h1 : 1 ≤ size) (h3 : size ≤ 3) (a0 : 0 ≤ t.arity) (a3 : t.arity ≤ 3) (hs : IntsAt w lo s t.vals)
    (hbm : bm < w.heap.size) (m0 : w.cell? ⟨bm, 0, none⟩ = some (.int .i64 size)) :
    Calls Try.prog 56 #[.agg #[.string t.name, .int .i64 t.arity, .bool t.pred, s], .pointer (some ⟨bm, 0, none⟩)] w (Ret w (.bool (tabBad size t))) := by
  have HI := Lib.hid hs
  obtain ⟨x, c, rfl, hnc, hcap, hS⟩ := hs.open_
  clear hS hs
  have hpow : ∀ W, Calls Try.prog 51 #[.int .i64 size, .int .i64 t.arity] W (Same W (.int .i64 (powZ size t.arity.toNat))) := by
    intro W
    have := power_any size t.arity.toNat W h1 h3 (by omega)
    rwa [show ((t.arity.toNat : Nat) : Int) = t.arity by omega] at this
  have HP := Lib.hid hpow
  clear hpow
  have hcon : ∀ W, Below (w.heap.size + 1) (w.alloc (.cells #[.string t.name, .int .i64 t.arity, .bool t.pred, .slice x t.vals.length c] 83)) W →
      Calls Try.prog 57 #[.slice x t.vals.length c, .func (.func 58) #[] #[.pointer (some ⟨w.heap.size, 0, none⟩), .pointer (some ⟨bm, 0, none⟩)]] W (Ret W (.bool (anyB (fun k => valBad size t (atZ t.vals k)) t.vals.length))) := by
    intro W hW
    have hkW : Keeps lo w W := ((Keeps.refl lo w).alloc _).trans ⟨hW.size, fun b _ hb => hW.block b (by simpa using hb)⟩
    have hzW := hW.size
    simp at hzW
    refine containsFunc_int 58 _ (fun k => valBad size t (atZ t.vals k)) _ _ (fun i _ => .int .i64 (atZ t.vals i)) W (HI.out.keep hkW) (fun args W => by go_simp) ?_
    intro i hi _ W2 hW2
    have hb : Below (w.heap.size + 1) (w.alloc (.cells #[.string t.name, .int .i64 t.arity, .bool t.pred, .slice x t.vals.length c] 83)) W2 := hW.trans (hW2.mono (by omega))
    have hz2 := hW2.size
    have hc := fun o => hb.cell (p := ⟨w.heap.size, o, none⟩) (by simp)
    have hm := hb.cell (p := ⟨bm, 0, none⟩) (by simp; omega)
    rw [World.cell?_alloc_past _ _ _ hbm, m0] at hm
    refine itp11_any t x t.vals.length c size (atZ t.vals i) w.heap.size bm W2 h1 h3 (by omega) (by omega) ?_ ?_ ?_ ?_ hm
    · rw [hc 0, World.cell?_alloc_at _ _ _ _ rfl]; rfl
    · rw [hc 1, World.cell?_alloc_at _ _ _ _ rfl]; rfl
    · rw [hc 2, World.cell?_alloc_at _ _ _ _ rfl]; rfl
    · rw [hc 3, World.cell?_alloc_at _ _ _ _ rfl]; rfl
  have HC := Lib.hid hcon
  clear hcon
  cases hp : ((t.vals.length : Int) != powZ size t.arity.toNat)
  · have Hp := Lib.hid hp
    go_enter Try.func56, Try.ntmps56
    go_wp2
    refine Flow.wp_region_flow 15 [(7, .fixed (.int .i64 (powZ size t.arity.toNat))), (13, .fixed (.bool (anyB (fun k => valBad size t (atZ t.vals k)) t.vals.length)))] [] (by kernel_rfl) (by kernel_rfl) (exact_stable rfl) ?_
    intro hgrow
    simp only [List.take_succ_cons, List.take_zero]
    repeat (first | ((with_reducible refine Flow.flow_quiet ?_ ?_ ?_); (focus (exact rfl)); (focus (exact rfl)); intro K hK; go_simp; refine hK _ ?_; clear hK K) | ((with_reducible refine Flow.flow_pass ?_); intro K hK; go_simp; (first | refine hK _ ?_ | (refine ⟨?_, hK _ ?_⟩; (focus (simp [undef]; done)))); clear hK K))
    refine Flow.flow_exact _ rfl (by go_simp) (fun W hW => flow_ret (by go_simp) (Same.ret (HP.out _))) ?_
    repeat (first | ((with_reducible refine Flow.flow_quiet ?_ ?_ ?_); (focus (exact rfl)); (focus (exact rfl)); intro K hK; go_simp; refine hK _ ?_; clear hK K) | ((with_reducible refine Flow.flow_pass ?_); intro K hK; go_simp; (first | refine hK _ ?_ | (refine ⟨?_, hK _ ?_⟩; (focus (simp [undef]; done)))); clear hK K))
    refine Flow.flow_exact _ rfl (by go_simp) (fun W hW => flow_ret (by go_simp) (HC.out _ (by simpa using hW))) ?_
    repeat (first | ((with_reducible refine Flow.flow_quiet ?_ ?_ ?_); (focus (exact rfl)); (focus (exact rfl)); intro K hK; go_simp; refine hK _ ?_; clear hK K) | ((with_reducible refine Flow.flow_pass ?_); intro K hK; go_simp; (first | refine hK _ ?_ | (refine ⟨?_, hK _ ?_⟩; (focus (simp [undef]; done)))); clear hK K))
    with_reducible refine Flow.flow_nil ?_
    clear hgrow
    intro W hW _
    have hzW := hW.size
    try simp at hzW
    obtain ⟨hcW, hfW⟩ := bcell hW
    simp only [List.drop_succ_cons, List.drop_zero, List.drop_nil]
    go_wp2
    go_ret
    exact Ret.bel (by unfold tabBad; rw [Hp.out]; rfl) (by (repeat' first | (with_reducible exact Below.refl _ _) | (with_reducible refine Below.setCell ?_ ?_ _) | (with_reducible refine Below.alloc ?_ ?_ _) | (with_reducible refine Below.drewN' ?_ _) | (with_reducible refine Below.via ?_ (by assumption) ?_) | (with_reducible exact Nat.le_refl _) | (simp; done) | (simp; omega) | omega))
  · have Hp := Lib.hid hp
    go_enter Try.func56, Try.ntmps56
    go_wp2
    refine Flow.wp_region_flow 15 [(7, .fixed (.int .i64 (powZ size t.arity.toNat)))] [] (by kernel_rfl) (by kernel_rfl) (exact_stable rfl) ?_
    intro hgrow
    simp only [List.take_succ_cons, List.take_zero]
    repeat (first | ((with_reducible refine Flow.flow_quiet ?_ ?_ ?_); (focus (exact rfl)); (focus (exact rfl)); intro K hK; go_simp; refine hK _ ?_; clear hK K) | ((with_reducible refine Flow.flow_pass ?_); intro K hK; go_simp; (first | refine hK _ ?_ | (refine ⟨?_, hK _ ?_⟩; (focus (simp [undef]; done)))); clear hK K))
    refine Flow.flow_exact _ rfl (by go_simp) (fun W hW => flow_ret (by go_simp) (Same.ret (HP.out _))) ?_
    repeat (first | ((with_reducible refine Flow.flow_quiet ?_ ?_ ?_); (focus (exact rfl)); (focus (exact rfl)); intro K hK; go_simp; refine hK _ ?_; clear hK K) | ((with_reducible refine Flow.flow_pass ?_); intro K hK; go_simp; (first | refine hK _ ?_ | (refine ⟨?_, hK _ ?_⟩; (focus (simp [undef]; done)))); clear hK K))
    with_reducible refine Flow.flow_nil ?_
    clear hgrow
    intro W hW _
    have hzW := hW.size
    try simp at hzW
    obtain ⟨hcW, hfW⟩ := bcell hW
    simp only [List.drop_succ_cons, List.drop_zero, List.drop_nil]
    go_wp2
    go_ret
    exact Ret.bel (by unfold tabBad; rw [Hp.out]; rfl) (by (repeat' first | (with_reducible exact Below.refl _ _) | (with_reducible refine Below.setCell ?_ ?_ _) | (with_reducible refine Below.alloc ?_ ?_ _) | (with_reducible refine Below.drewN' ?_ _) | (with_reducible refine Below.via ?_ (by assumption) ?_) | (with_reducible exact Nat.le_refl _) | (simp; done) | (simp; omega) | omega))

theorem tabOk_arity {ts : List Tb} (h : tabsB ts = true) {k : Nat} (hlt : k < ts.length) : 0 ≤ ts[k].arity ∧ ts[k].arity ≤ 3 := by
  unfold tabsB at h
  rw [Bool.and_eq_true] at h
  have hta := allB_at h.1 hlt
  unfold tabOk at hta
  rw [getD_at _ hlt, Bool.and_eq_true, Bool.and_eq_true] at hta
  exact inB_le hta.1.2

set_option maxHeartbeats 1000000 in
theorem implItp_any (size : Int) (ts : List Tb) (v : Value) (w : World) {lo : Nat} (hx : TabsAt w lo v ts) :
    Calls Try.prog 17 #[.agg #[.int .i64 size, v]] w (Ret w (.bool (itpB size ts))) := by
  have HX := Lib.hid hx
  obtain ⟨s, hs, hf⟩ := hx
  obtain ⟨a, cap, rfl, hnc, hcap, hS⟩ := hs.open_
  have HS := Lib.hid hs
  have HF := Lib.hid hf
  clear hS hs hf
  cases h1 : inB size 1 3
  · go_enter Try.func17, Try.ntmps17
    go_wp2_with (first
      | (go_at_call 50; refine (within_any _ _ _ _).mono ?_; rintro e w' ⟨rfl, rfl⟩))
    go_ret
    exact Ret.bel (by unfold itpB; rw [h1]; rfl) (by (repeat' first | (with_reducible exact Below.refl _ _) | (with_reducible refine Below.setCell ?_ ?_ _) | (with_reducible refine Below.alloc ?_ ?_ _) | (with_reducible refine Below.drewN' ?_ _) | (with_reducible refine Below.via ?_ (by assumption) ?_) | (with_reducible exact Nat.le_refl _) | (simp; done) | (simp; omega) | omega))
  obtain ⟨g1, g3⟩ := inB_le h1
  cases h2 : tabsB ts
  · go_enter Try.func17, Try.ntmps17
    go_wp2_with (first
      | (go_at_call 50; refine (within_any _ _ _ _).mono ?_; rintro e w' ⟨rfl, rfl⟩)
      | (go_at_call 49; refine (areTables_any ts _ _ (HX.out.keep ((Keeps.refl _ _).alloc _))).mono ?_; rintro e w1 ⟨rfl, hb1⟩; have hz1 := hb1.size; (try simp at hz1); obtain ⟨hc1, hf1⟩ := bcell hb1))
    go_ret
    exact Ret.bel (by unfold itpB; rw [h1, h2]; rfl) (by (repeat' first | (with_reducible exact Below.refl _ _) | (with_reducible refine Below.setCell ?_ ?_ _) | (with_reducible refine Below.alloc ?_ ?_ _) | (with_reducible refine Below.drewN' ?_ _) | (with_reducible refine Below.via ?_ (by assumption) ?_) | (with_reducible exact Nat.le_refl _) | (simp; done) | (simp; omega) | omega))
  · have HA := Lib.hid h2
    go_enter Try.func17, Try.ntmps17
    go_wp2_with (first
      | (go_at_call 50; refine (within_any _ _ _ _).mono ?_; rintro e w' ⟨rfl, rfl⟩)
      | (go_at_call 49; refine (areTables_any ts _ _ (HX.out.keep ((Keeps.refl _ _).alloc _))).mono ?_; rintro e w1 ⟨rfl, hb1⟩; have hz1 := hb1.size; (try simp at hz1); obtain ⟨hc1, hf1⟩ := bcell hb1))
    have hk1 : Keeps lo w w1 := ((Keeps.refl lo w).alloc _).trans (Keeps.of_below hb1 _)
    refine (containsFunc_tab 56 _ (fun i => tabBad size (ts.getD i tb0)) _ _ _ _ (HS.out.keep hk1) (fun args W => by go_simp) ?_).mono ?_
    · intro i hi _ W hW
      have hT := ((HF.out i hi).keep hk1).keep (Keeps.of_below hW _)
      obtain ⟨a0, a3⟩ := tabOk_arity HA.out hi
      have hzW := hW.size
      have m0 : W.cell? ⟨w.heap.size, 0, none⟩ = some (.int .i64 size) := by
        rw [hW.cell (p := ⟨w.heap.size, 0, none⟩) (by simp; omega), hc1 _ _ (by simp), World.cell?_alloc_at _ _ _ _ rfl]; rfl
      rw [getD_at _ hi, getD_at _ hi]
      exact itp1_any ts[i] (s i) size w.heap.size W g1 g3 a0 a3 hT.1 (by omega) m0
    rintro e w2 ⟨rfl, hb2⟩
    have hz2 := hb2.size
    go_wp2_with fail
    go_ret
    exact Ret.bel (by unfold itpB; rw [h1, HA.out]; simp) (by (repeat' first | (with_reducible exact Below.refl _ _) | (with_reducible refine Below.setCell ?_ ?_ _) | (with_reducible refine Below.alloc ?_ ?_ _) | (with_reducible refine Below.drewN' ?_ _) | (with_reducible refine Below.via ?_ (by assumption) ?_) | (with_reducible exact Nat.le_refl _) | (simp; done) | (simp; omega) | omega))
end Go.Proofs.Ytpbakldlhjdipaa
