/-
  The program's IsValidInterpretation returns what the reference's returns, for all arguments: the law's function returns true, and what came in is left alone. No condition.
-/
import Derived.Test.YtpbakldlhjdipaaItp2
import Derived.Test.YtpbakldlhjdipaaLaw1
import Derived.Lib.SmallJoins
set_option maxRecDepth 100000
set_option linter.unusedSimpArgs false
set_option linter.unusedVariables false
namespace Go.Proofs.Ytpbakldlhjdipaa
open Go.RowKit Go.ChangeShapes Go.WideShapes Go.ChangeAt

theorem szItp_any (size : Int) (ts : List Tb) (v : Value) (left : Int) (w : World) (h0 : 0 ≤ left) (h1 : left ≤ 1048576) {lo : Nat} (ht : TabsAt w lo v ts) :
    Calls Try.prog 14 #[.agg #[.int .i64 size, v], .int .i64 left] w (Ret w (.int .i64 (szTbs ts left))) := by
  have HX := Lib.hid ht
  obtain ⟨s, hs, hf⟩ := ht
  obtain ⟨a, cap, rfl, hnc, hcap, hS⟩ := hs.open_
  clear hs hf hS
  have hlo : -1 ≤ szTbs ts left ∧ szTbs ts left ≤ left := by
    unfold szTbs
    split
    · omega
    · rename_i h
      have : ∀ (ts : List Tb) (z : Int), -1 ≤ z → -1 ≤ szGo ts z ∧ szGo ts z ≤ z := by
        intro ts
        induction ts with
        | nil => intro z hz; simp [szGo]; omega
        | cons t ts ih =>
          intro z hz
          have a1 := szTb_lo t z
          have a2 := szTb_hi t z hz
          unfold szGo
          split
          · omega
          · have := ih (szTb t z) a1; omega
      have := this ts (left - ts.length) (by omega)
      omega
  by_cases hn : szTbs ts left < 0
  · have e : szTbs ts left = -1 := by omega
    have E := Lib.hid e
    clear e
    go_enter Try.func14, Try.ntmps14
    go_wp2_with (first
      | (go_at_call 9; refine (szTableS_any ts _ _ _ h0 h1 (HX.out.keep ((Keeps.refl _ _).alloc _))).mono ?_; rintro e w1 ⟨rfl, hb1⟩; have hz1 := hb1.size; (try simp at hz1); obtain ⟨hc1, hf1⟩ := bcell hb1))
    go_ret
    exact Ret.bel (by rw [E.out]; rfl) (by (repeat' first | (with_reducible exact Below.refl _ _) | (with_reducible refine Below.setCell ?_ ?_ _) | (with_reducible refine Below.alloc ?_ ?_ _) | (with_reducible refine Below.drewN' ?_ _) | (with_reducible refine Below.via ?_ (by assumption) ?_) | (with_reducible exact Nat.le_refl _) | (simp; done) | (simp; omega) | omega))
  · go_enter Try.func14, Try.ntmps14
    go_wp2_with (first
      | (go_at_call 9; refine (szTableS_any ts _ _ _ h0 h1 (HX.out.keep ((Keeps.refl _ _).alloc _))).mono ?_; rintro e w1 ⟨rfl, hb1⟩; have hz1 := hb1.size; (try simp at hz1); obtain ⟨hc1, hf1⟩ := bcell hb1))
    go_ret
    exact Ret.bel rfl (by (repeat' first | (with_reducible exact Below.refl _ _) | (with_reducible refine Below.setCell ?_ ?_ _) | (with_reducible refine Below.alloc ?_ ?_ _) | (with_reducible refine Below.drewN' ?_ _) | (with_reducible refine Below.via ?_ (by assumption) ?_) | (with_reducible exact Nat.le_refl _) | (simp; done) | (simp; omega) | omega))

theorem toItp_any (size : Int) (ts : List Tb) (v : Value) (w : World) {lo : Nat} (hx : TabsAt w lo v ts) (hl : ts.length ≤ 1048576) (hls : ∀ t ∈ ts, t.vals.length ≤ 1048576) :
    Calls Try.prog 16 #[.agg #[.int .i64 size, v]] w (Tell w fun w' u => ∃ s, u = .agg #[.int .i64 size, s] ∧ TabsAt w' w.heap.size s ts) := by
  have HX := Lib.hid hx
  have HL := Lib.hid hls
  obtain ⟨s, hs, hf⟩ := hx
  obtain ⟨a, cap, rfl, hnc, hcap, hS⟩ := hs.open_
  clear hs hf hS hls
  go_enter Try.func16, Try.ntmps16
  go_wp2_with fail
  refine (toTableS_any ts _ _ (HX.out.keep (by (repeat' first | (with_reducible exact Keeps.refl _ _) | (with_reducible refine Keeps.setCell ?_ ?_ _) | (with_reducible refine Keeps.alloc ?_ _) | (with_reducible refine Keeps.drewN' ?_ _) | (with_reducible refine Keeps.via ?_ (by assumption) ?_) | (with_reducible exact Nat.le_refl _) | (simp; done) | (simp; omega) | omega))) hl HL.out).mono ?_
  rintro e w1 ⟨v1, rfl, hb1, hv1⟩
  have HV := Lib.hid hv1
  obtain ⟨s1, hs1, -⟩ := hv1
  obtain ⟨a1, q1, rfl, hq1, hq2, -⟩ := hs1.open_
  clear hs1
  have hz1 := hb1.size
  simp at hz1
  obtain ⟨hc1, hf1⟩ := bcell hb1
  go_wp2
  refine bodyPost_ret (v := .agg #[.int .i64 size, .slice a1 ts.length q1]) (by simp [results, Try.results16, go_sem, hc1]) rfl ?_
  refine Tell.mk' (by (repeat' first | (with_reducible exact Below.refl _ _) | (with_reducible refine Below.setCell ?_ ?_ _) | (with_reducible refine Below.alloc ?_ ?_ _) | (with_reducible refine Below.drewN' ?_ _) | (with_reducible refine Below.via ?_ (by assumption) ?_) | (with_reducible exact Nat.le_refl _) | (simp; done) | (simp; omega) | omega)) ⟨_, rfl, ?_⟩
  exact (HV.out.keep (by (repeat' first | (with_reducible exact Keeps.refl _ _) | (with_reducible refine Keeps.setCell ?_ ?_ _) | (with_reducible refine Keeps.alloc ?_ _) | (with_reducible refine Keeps.drewN' ?_ _) | (with_reducible refine Keeps.via ?_ (by assumption) ?_) | (with_reducible exact Nat.le_refl _) | (simp; done) | (simp; omega) | omega))).low (by simp; omega)

theorem eqItp_same (size : Int) (ts : List Tb) (u v : Value) (w : World) {lo lo' : Nat} (hu : TabsAt w lo u ts) (hv : TabsAt w lo' v ts) :
    Calls Try.prog 18 #[.agg #[.int .i64 size, u], .agg #[.int .i64 size, v]] w (Ret w (.bool true)) := by
  have HU := Lib.hid hu
  have HV := Lib.hid hv
  obtain ⟨s, hs, hf⟩ := hu
  obtain ⟨a, cap, rfl, hnc, hcap, hS⟩ := hs.open_
  obtain ⟨s', hs', hf'⟩ := hv
  obtain ⟨a', cap', rfl, hnc', hcap', hS'⟩ := hs'.open_
  clear hs hf hS hs' hf' hS'
  go_enter Try.func18, Try.ntmps18
  go_wp2_with (first
    | (go_at_call 13; refine (eqTableS_same ts _ _ _ (HU.out.keep (((Keeps.refl _ _).alloc _).alloc _)) (HV.out.keep (((Keeps.refl _ _).alloc _).alloc _))).mono ?_; rintro e w1 ⟨rfl, hb1⟩; have hz1 := hb1.size; (try simp at hz1); obtain ⟨hc1, hf1⟩ := bcell hb1))
  go_ret
  exact Ret.bel rfl (by (repeat' first | (with_reducible exact Below.refl _ _) | (with_reducible refine Below.setCell ?_ ?_ _) | (with_reducible refine Below.alloc ?_ ?_ _) | (with_reducible refine Below.drewN' ?_ _) | (with_reducible refine Below.via ?_ (by assumption) ?_) | (with_reducible exact Nat.le_refl _) | (simp; done) | (simp; omega) | omega))

theorem specItp_any (size : Int) (ts : List Tb) (v : Value) (w : World) {lo : Nat} (hx : TabsAt w lo v ts) :
    Calls Try.prog 15 #[.agg #[.int .i64 size, v]] w (Ret w (.bool (itpB size ts))) := by
  have HX := Lib.hid hx
  obtain ⟨s, hs, hf⟩ := hx
  obtain ⟨a, cap, rfl, hnc, hcap, hS⟩ := hs.open_
  clear hs hf hS
  go_enter Try.func15, Try.ntmps15
  go_wp2_with (first
    | (go_at_call 54; refine (l10Good_any size ts _ _ (HX.out.keep ((Keeps.refl _ _).alloc _))).mono ?_; rintro e w1 ⟨rfl, hb1⟩; have hz1 := hb1.size; (try simp at hz1); obtain ⟨hc1, hf1⟩ := bcell hb1))
  go_ret
  exact Ret.bel rfl (by (repeat' first | (with_reducible exact Below.refl _ _) | (with_reducible refine Below.setCell ?_ ?_ _) | (with_reducible refine Below.alloc ?_ ?_ _) | (with_reducible refine Below.drewN' ?_ _) | (with_reducible refine Below.via ?_ (by assumption) ?_) | (with_reducible exact Nat.le_refl _) | (simp; done) | (simp; omega) | omega))

set_option maxHeartbeats 2000000 in
theorem law2_walk (size : Int) (ts : List Tb) (v : Value) (w : World) (hx : TabsAt w 0 v ts) :
    Calls Try.prog 4 #[.agg #[.int .i64 size, v]] w (Ret w (.bool true)) := by
  have HX := Lib.hid hx
  obtain ⟨s, hs, hf⟩ := hx
  obtain ⟨a, cap, rfl, hnc, hcap, hS⟩ := hs.open_
  clear hs hf hS
  by_cases hsz : szTbs ts 1048576 < 0
  · go_enter Try.func4, Try.ntmps4
    go_wp2_with (first
      | (go_at_call 14; refine (szItp_any size ts _ _ _ (by omega) (by omega) (HX.out.keep ((Keeps.refl _ _).alloc _))).mono ?_; rintro e w1 ⟨rfl, hb1⟩; have hz1 := hb1.size; (try simp at hz1); obtain ⟨hc1, hf1⟩ := bcell hb1))
    go_ret
    exact Ret.bel rfl (by (repeat' first | (with_reducible exact Below.refl _ _) | (with_reducible refine Below.setCell ?_ ?_ _) | (with_reducible refine Below.alloc ?_ ?_ _) | (with_reducible refine Below.drewN' ?_ _) | (with_reducible refine Below.via ?_ (by assumption) ?_) | (with_reducible exact Nat.le_refl _) | (simp; done) | (simp; omega) | omega))
  · obtain ⟨hl, hls⟩ := szTbs_ok (by omega : 0 ≤ szTbs ts 1048576)
    have HL := Lib.hid hls
    clear hls
    go_enter Try.func4, Try.ntmps4
    go_wp2_with (first
      | (go_at_call 14; refine (szItp_any size ts _ _ _ (by omega) (by omega) (HX.out.keep ((Keeps.refl _ _).alloc _))).mono ?_; rintro e w1 ⟨rfl, hb1⟩; have hz1 := hb1.size; (try simp at hz1); obtain ⟨hc1, hf1⟩ := bcell hb1))
    obtain ⟨w0, hw0⟩ : ∃ w0, w0 = w.alloc (.cells #[.int .i64 size, .slice a ts.length cap] 31) := ⟨_, rfl⟩
    have hb0 : Below w.heap.size w w0 := hw0 ▸ (Below.refl _ _).alloc (Nat.le_refl _) _
    have hs0 : w.heap.size < w0.heap.size := by rw [hw0]; simp
    have m0 : w0.cell? ⟨w.heap.size, 0, none⟩ = some (.int .i64 size) := by rw [hw0, World.cell?_alloc_at _ _ _ _ rfl]; rfl
    have m1 : w0.cell? ⟨w.heap.size, 1, none⟩ = some (.slice a ts.length cap) := by rw [hw0, World.cell?_alloc_at _ _ _ _ rfl]; rfl
    rw [← hw0] at hb1
    clear hc1 hf1 hz1 hw0
    have hcell : ∀ W, Below w0.heap.size w0 W → W.cell? ⟨w.heap.size, 0, none⟩ = some (.int .i64 size) ∧ W.cell? ⟨w.heap.size, 1, none⟩ = some (.slice a ts.length cap) ∧ w.heap.size < W.heap.size := fun W hW =>
      ⟨(hW.cell (p := ⟨w.heap.size, 0, none⟩) hs0).trans m0, (hW.cell (p := ⟨w.heap.size, 1, none⟩) hs0).trans m1, Nat.lt_of_lt_of_le hs0 hW.size⟩
    have HC := Lib.hid hcell
    clear hcell m0 m1
    have HX0 := Lib.hid (HX.out.keep (Keeps.of_below hb0 _))
    obtain ⟨p0, p1, p2⟩ := HC.out w1 hb1
    refine (toItp_any size ts _ _ (HX0.out.keep (Keeps.of_below hb1 _)) hl HL.out).mono ?_
    rintro e w2 ⟨v2, rfl, hb2, s2, rfl, hs2⟩
    have hw2 := Below.of_trans hb1 hb2
    clear p0 p1 p2
    obtain ⟨p0, p1, p2⟩ := HC.out w2 hw2
    go_wp2_with fail
    refine (specItp_any size ts _ _ hs2).mono ?_
    rintro e w3 ⟨rfl, hb3⟩
    have hw3 := Below.of_trans hw2 hb3
    clear p0 p1 p2 hs2
    obtain ⟨p0, p1, p2⟩ := HC.out w3 hw3
    go_wp2_with fail
    refine (toItp_any size ts _ _ (HX0.out.keep (Keeps.of_below hw3 _)) hl HL.out).mono ?_
    rintro e w4 ⟨v4, rfl, hb4, s4, rfl, hs4⟩
    have hw4 := Below.of_trans hw3 hb4
    have hzw4 := hw4.size
    have HS4 := Lib.hid hs4
    obtain ⟨x4, n4, c4, rfl⟩ : ∃ x n c, s4 = .slice x n c := by
      obtain ⟨_, h, -⟩ := hs4
      obtain ⟨x, q, e, -⟩ := h.open_
      exact ⟨x, _, q, e⟩
    clear p0 p1 p2 hs4
    obtain ⟨p0, p1, p2⟩ := HC.out w4 hw4
    go_wp2_with fail
    refine (implItp_any size ts _ _ (HS4.out.keep ((Keeps.refl _ _).alloc _))).mono ?_
    rintro e w5 ⟨rfl, hb5⟩
    have hw5 : Below w0.heap.size w0 w5 := (by (repeat' first | (with_reducible exact Below.refl _ _) | (with_reducible refine Below.setCell ?_ ?_ _) | (with_reducible refine Below.alloc ?_ ?_ _) | (with_reducible refine Below.drewN' ?_ _) | (with_reducible refine Below.via ?_ (by assumption) ?_) | (with_reducible exact Nat.le_refl _) | (exact hw4.size) | (simp; done) | (simp; omega) | omega))
    have hz5 := hb5.size
    simp at hz5
    obtain ⟨hc5, hf5⟩ := bcell hb5
    have q0 : w5.cell? ⟨w4.heap.size, 0, none⟩ = some (.int .i64 size) := by rw [hc5 _ _ (by simp), World.cell?_alloc_at _ _ _ _ rfl]; rfl
    have q1 : w5.cell? ⟨w4.heap.size, 1, none⟩ = some (.slice x4 n4 c4) := by rw [hc5 _ _ (by simp), World.cell?_alloc_at _ _ _ _ rfl]; rfl
    have p3 : w4.heap.size < w5.heap.size := by omega
    have hk5 : Keeps w3.heap.size w4 w5 := ((Keeps.refl _ _).alloc _).trans (Keeps.of_below hb5 _)
    clear p0 p1 p2 hc5 hf5
    obtain ⟨p0, p1, p2⟩ := HC.out w5 hw5
    go_wp2_with fail
    refine Flow.wp_region_flow 3 [(2, .told (fun v w => (fun w u => ∃ s, u = .agg #[.int .i64 size, s] ∧ TabsAt w 0 s ts) w v))] [] (by kernel_rfl) (by kernel_rfl) (Stable.told (fun v w w' h hb => by obtain ⟨s, e, h⟩ := h; exact ⟨s, e, h.keep (Keeps.of_below hb _)⟩) Stable.nil) ?_
    intro hgrow
    simp only [List.take_succ_cons, List.take_zero]
    repeat (first | ((with_reducible refine Flow.flow_quiet ?_ ?_ ?_); (focus (exact rfl)); (focus (exact rfl)); intro K hK; go_simp; refine hK _ ?_; clear hK K) | ((with_reducible refine Flow.flow_pass ?_); intro K hK; go_simp; (first | refine hK _ ?_ | (refine ⟨?_, hK _ ?_⟩; (focus (simp [undef]; done)))); clear hK K))
    refine Flow.flow_rel (fun v w => (fun w u => ∃ s, u = .agg #[.int .i64 size, s] ∧ TabsAt w 0 s ts) w v) rfl (by go_simp) (fun W hW hF => flow_told (by go_simp) ((toItp_any size ts _ _ ((HX0.out.keep (Keeps.of_below hw5 _)).keep (Keeps.of_below hW _)) hl HL.out).mono fun _ _ ⟨v, h1, h2, s, h3, h4⟩ => ⟨v, h1, h2, s, h3, h4.low (Nat.zero_le _)⟩)) ?_
    intro v2
    simp only [Act.put, List.setIfInBounds_toArray, List.set_cons_succ, List.set_cons_zero]
    repeat (first | ((with_reducible refine Flow.flow_quiet ?_ ?_ ?_); (focus (exact rfl)); (focus (exact rfl)); intro K hK; go_simp; refine hK _ ?_; clear hK K) | ((with_reducible refine Flow.flow_pass ?_); intro K hK; go_simp; (first | refine hK _ ?_ | (refine ⟨?_, hK _ ?_⟩; (focus (simp [undef]; done)))); clear hK K))
    with_reducible refine Flow.flow_nil ?_
    clear hgrow
    intro W hW hH
    have hv2 : (fun w u => ∃ s, u = .agg #[.int .i64 size, s] ∧ TabsAt w 0 s ts) W v2 := hH 2 v2 rfl
    clear hH
    have hzW := hW.size
    try simp at hzW
    obtain ⟨hcW, hfW⟩ := bcell hW
    simp only [List.drop_succ_cons, List.drop_zero, List.drop_nil]
    obtain ⟨s6, rfl, hs6⟩ := hv2
    go_wp2_with (first
      | (go_at_call 18; refine (eqItp_same size ts _ _ _ ((HS4.out.keep hk5).keep (Keeps.of_below hW _)) hs6).mono ?_; rintro e w7 ⟨rfl, hb7⟩; have hz7 := hb7.size; (try simp at hz7); obtain ⟨hc7, hf7⟩ := bcell hb7))
    go_ret
    exact Ret.bel rfl (Below.of_trans (Below.of_trans (Below.of_trans hb0 hw5) hW) hb7)
end Go.Proofs.Ytpbakldlhjdipaa
