/-
  This text proves what the reference's look at an interpretation says. Condition: the interpretation lies in memory.
-/
import Derived.Test.YtpbakldlhjdipaaItp
set_option maxRecDepth 100000
set_option linter.unusedSimpArgs false
set_option linter.unusedVariables false
namespace Go.Proofs.Ytpbakldlhjdipaa
open Go.RowKit

theorem powG (size z : Int) (W : World) (h1 : 1 ≤ size) (h3 : size ≤ 3) (a0 : 0 ≤ z) (a3 : z ≤ 3) : Calls Try.prog 94 #[.int .i64 size, .int .i64 z] W (Same W (.int .i64 (powZ size z.toNat))) := by
  have := l10Power_any size z.toNat W h1 h3 (by omega)
  rwa [show ((z.toNat : Nat) : Int) = z by omega] at this

set_option maxHeartbeats 2000000 in
theorem l10Good_any (size : Int) (ts : List Tb) (v : Value) (w : World) {lo : Nat} (hx : TabsAt w lo v ts) :
    Calls Try.prog 54 #[.agg #[.int .i64 size, v]] w (Ret w (.bool (itpB size ts))) := by
  have HX := Lib.hid hx
  obtain ⟨s, hs, hf⟩ := hx
  obtain ⟨a, cap, rfl, hnc, hcap, hS⟩ := hs.open_
  have HS := Lib.hid hS
  have HF := Lib.hid hf
  clear hS hs hf
  cases h1 : inB size 1 3
  · go_enter Try.func54, Try.ntmps54
    go_wp2_with (first
      | (go_at_call 46; refine (l1In_any _ _ _ _).mono ?_; rintro e w' ⟨rfl, rfl⟩))
    go_ret
    exact Ret.bel (by unfold itpB; rw [h1]; rfl) (by (repeat' first | (with_reducible exact Below.refl _ _) | (with_reducible refine Below.setCell ?_ ?_ _) | (with_reducible refine Below.alloc ?_ ?_ _) | (with_reducible refine Below.drewN' ?_ _) | (with_reducible refine Below.via ?_ (by assumption) ?_) | (with_reducible exact Nat.le_refl _) | (simp; done) | (simp; omega) | omega))
  obtain ⟨g1, g3⟩ := inB_le h1
  cases h2 : tabsB ts
  · go_enter Try.func54, Try.ntmps54
    go_wp2_with (first
      | (go_at_call 46; refine (l1In_any _ _ _ _).mono ?_; rintro e w' ⟨rfl, rfl⟩)
      | (go_at_call 45; refine (l10Tables_any ts _ _ (HX.out.keep ((Keeps.refl _ _).alloc _))).mono ?_; rintro e w1 ⟨rfl, hb1⟩; have hz1 := hb1.size; (try simp at hz1); obtain ⟨hc1, hf1⟩ := bcell hb1))
    go_ret
    exact Ret.bel (by unfold itpB; rw [h1, h2]; rfl) (by (repeat' first | (with_reducible exact Below.refl _ _) | (with_reducible refine Below.setCell ?_ ?_ _) | (with_reducible refine Below.alloc ?_ ?_ _) | (with_reducible refine Below.drewN' ?_ _) | (with_reducible refine Below.via ?_ (by assumption) ?_) | (with_reducible exact Nat.le_refl _) | (simp; done) | (simp; omega) | omega))
  have HA := Lib.hid h2
  have hitp : itpB size ts = !anyB (fun i => tabBad size (ts.getD i tb0)) ts.length := by unfold itpB; rw [h1, h2]; rfl
  have HI := Lib.hid hitp
  clear hitp
  go_enter Try.func54, Try.ntmps54
  go_wp2_with (first
    | (go_at_call 46; refine (l1In_any _ _ _ _).mono ?_; rintro e w' ⟨rfl, rfl⟩)
    | (go_at_call 45; refine (l10Tables_any ts _ _ (HX.out.keep ((Keeps.refl _ _).alloc _))).mono ?_; rintro e w1 ⟨rfl, hb1⟩; have hz1 := hb1.size; (try simp at hz1); obtain ⟨hc1, hf1⟩ := bcell hb1))
  clear h2 HX
  obtain ⟨w0, hw0⟩ : ∃ w0, w0 = w.alloc (.cells #[.int .i64 size, .slice a ts.length cap] 35) := ⟨_, rfl⟩
  have hk0 : Keeps lo w w0 := hw0 ▸ (Keeps.refl lo w).alloc _
  have hb0 : Below w.heap.size w w0 := hw0 ▸ (Below.refl _ _).alloc (Nat.le_refl _) _
  have hs0 : w0.heap.size = w.heap.size + 1 := by rw [hw0]; simp
  have m0 : w0.cell? ⟨w.heap.size, 0, none⟩ = some (.int .i64 size) := by rw [hw0, World.cell?_alloc_at _ _ _ _ rfl]; rfl
  have m1 : w0.cell? ⟨w.heap.size, 1, none⟩ = some (.slice a ts.length cap) := by rw [hw0, World.cell?_alloc_at _ _ _ _ rfl]; rfl
  rw [← hw0] at hb1
  clear hc1 hf1 hz1
  have Hk0 := Lib.hid hk0
  have HS0 := Lib.hid (HS.out.keep hk0)
  clear hk0
  clear hw0
  go_loopw [3, 4, 5, 6] (fun i _ _ _ wr => CntB w0 ts.length (fun k _ => ∀ j, j < k → tabBad size (ts.getD j tb0) = false) i wr) (fun i _ _ _ _ => ts.length - (intOf i).toNat)
  case atStart => exact ⟨0, Nat.zero_le _, rfl, fun j hj => absurd hj (by omega), hb1⟩
  case round =>
    obtain ⟨k, hk, rfl, hok, hbw⟩ := hrel
    have hzw := hbw.size
    have Hok := Lib.hid hok
    clear hok hb1
    have n0 : wr.cell? ⟨w.heap.size, 0, none⟩ = some (.int .i64 size) := by rw [hbw.cell (p := ⟨w.heap.size, 0, none⟩) (by simp; omega)]; exact m0
    have n1 : wr.cell? ⟨w.heap.size, 1, none⟩ = some (.slice a ts.length cap) := by rw [hbw.cell (p := ⟨w.heap.size, 1, none⟩) (by simp; omega)]; exact m1
    clear m0 m1
    have hlt0 : w.heap.size < wr.heap.size := by omega
    by_cases hlt : k < ts.length
    · obtain ⟨b, off, rfl, hbl, c0, c1, c2, c3⟩ := (HS0.out.keep (Keeps.of_below hbw _)).at4 hlt
      rw [getD_at _ hlt] at c0 c1 c2 c3
      simp only [tbC] at c0 c1 c2 c3
      have hT := ((HF.out k hlt).keep Hk0.out).keep (Keeps.of_below hbw _)
      obtain ⟨a0, a3⟩ := tabOk_arity HA.out hlt
      have HV := Lib.hid hT.1
      obtain ⟨x, xc, hsk, hxc, hxcap, hSx⟩ := hT.1.open_
      rw [hsk] at c3
      rw [hsk] at HV
      have HSx := Lib.hid hSx
      clear hT hSx hsk
      obtain ⟨kq1, kq3⟩ := kindsZ_bd (t := ts[k]) g1 g3
      have Ht := Lib.hid (show ts.getD k tb0 = ts[k] from getD_at tb0 hlt)
      have hkind : kindsZ ts[k] size = if ts[k].pred then 2 else size := rfl
      cases hpr : ts[k].pred
      all_goals
        rw [hpr] at hkind
        simp only [Bool.false_eq_true, if_false, if_true] at hkind
        rw [hpr] at c2
        have Hkind := Lib.hid hkind
        have Hpr := Lib.hid hpr
        rw [hkind] at kq1 kq3
        clear hkind hpr
        cases hp : ((ts[k].vals.length : Int) != powZ size ts[k].arity.toNat)
        case true =>
          have Hp := Lib.hid hp
          go_wp2
          refine Flow.wp_region_flow 9 [(7, .fixed (.int .i64 (powZ size ts[k].arity.toNat)))] [] (by kernel_rfl) (by kernel_rfl) (exact_stable rfl) ?_
          intro hgrow
          simp only [List.take_succ_cons, List.take_zero]
          repeat (first | ((with_reducible refine Flow.flow_quiet ?_ ?_ ?_); (focus (exact rfl)); (focus (exact rfl)); intro K hK; go_simp; refine hK _ ?_; clear hK K) | ((with_reducible refine Flow.flow_pass ?_); intro K hK; go_simp; (first | refine hK _ ?_ | (refine ⟨?_, hK _ ?_⟩; (focus (simp [undef]; done)))); clear hK K))
          refine Flow.flow_exact _ rfl (by go_simp) (fun W hW => flow_ret (by go_simp) (Same.ret (powG size ts[k].arity _ g1 g3 a0 a3))) ?_
          repeat (first | ((with_reducible refine Flow.flow_quiet ?_ ?_ ?_); (focus (exact rfl)); (focus (exact rfl)); intro K hK; go_simp; refine hK _ ?_; clear hK K) | ((with_reducible refine Flow.flow_pass ?_); intro K hK; go_simp; (first | refine hK _ ?_ | (refine ⟨?_, hK _ ?_⟩; (focus (simp [undef]; done)))); clear hK K))
          with_reducible refine Flow.flow_nil ?_
          clear hgrow
          intro W hW _
          have hzW := hW.size
          try simp at hzW
          obtain ⟨hcW, hfW⟩ := bcell hW
          simp only [List.drop_succ_cons, List.drop_zero, List.drop_nil]
          go_wp2
          go_ret
          refine Ret.bel ?_ (Below.of_trans hb0 (by (repeat' first | (with_reducible exact Below.refl _ _) | (with_reducible refine Below.setCell ?_ ?_ _) | (with_reducible refine Below.alloc ?_ ?_ _) | (with_reducible refine Below.drewN' ?_ _) | (with_reducible refine Below.via ?_ (by assumption) ?_) | (with_reducible exact Nat.le_refl _) | (simp; done) | (simp; omega) | omega)))
          rw [HI.out, ← idxZ_ge, idxZ_hit hlt Hok.out (by rw [Ht.out]; unfold tabBad; rw [Hp.out]; rfl)]
          simp
        have Hp := Lib.hid hp
        go_wp2
        refine Flow.wp_region_flow 9 [(7, .fixed (.int .i64 (powZ size ts[k].arity.toNat)))] [] (by kernel_rfl) (by kernel_rfl) (exact_stable rfl) ?_
        intro hgrow
        simp only [List.take_succ_cons, List.take_zero]
        repeat (first | ((with_reducible refine Flow.flow_quiet ?_ ?_ ?_); (focus (exact rfl)); (focus (exact rfl)); intro K hK; go_simp; refine hK _ ?_; clear hK K) | ((with_reducible refine Flow.flow_pass ?_); intro K hK; go_simp; (first | refine hK _ ?_ | (refine ⟨?_, hK _ ?_⟩; (focus (simp [undef]; done)))); clear hK K))
        refine Flow.flow_exact _ rfl (by go_simp) (fun W hW => flow_ret (by go_simp) (Same.ret (powG size ts[k].arity _ g1 g3 a0 a3))) ?_
        repeat (first | ((with_reducible refine Flow.flow_quiet ?_ ?_ ?_); (focus (exact rfl)); (focus (exact rfl)); intro K hK; go_simp; refine hK _ ?_; clear hK K) | ((with_reducible refine Flow.flow_pass ?_); intro K hK; go_simp; (first | refine hK _ ?_ | (refine ⟨?_, hK _ ?_⟩; (focus (simp [undef]; done)))); clear hK K))
        with_reducible refine Flow.flow_nil ?_
        clear hgrow
        intro W hW _
        have hzW := hW.size
        try simp at hzW
        obtain ⟨hcW, hfW⟩ := bcell hW
        simp only [List.drop_succ_cons, List.drop_zero, List.drop_nil]
        go_wp2
        have hwW : Keeps lo wr W := ((Keeps.refl lo wr).alloc _).trans (Keeps.of_below hW _)
        have HSW := Lib.hid (HSx.out.keep hwW)
        have hbW : Below w0.heap.size w0 W := (by (repeat' first | (with_reducible exact Below.refl _ _) | (with_reducible refine Below.setCell ?_ ?_ _) | (with_reducible refine Below.alloc ?_ ?_ _) | (with_reducible refine Below.drewN' ?_ _) | (with_reducible refine Below.via ?_ (by assumption) ?_) | (with_reducible exact Nat.le_refl _) | (simp; done) | (simp; omega) | omega))
        go_loopw [6] (fun i W' => Cnt W ts[k].vals.length (fun j => ∀ i, i < j → valBad size ts[k] (atZ ts[k].vals i) = false) i W') (fun i _ => ts[k].vals.length - (intOf i).toNat)
        case atStart => exact ⟨0, Nat.zero_le _, rfl, fun j hj => absurd hj (by omega), rfl⟩
        case round =>
          obtain ⟨j, hj, rfl, hjok, rfl⟩ := hrel
          have Hjok := Lib.hid hjok
          clear hjok
          by_cases hjl : j < ts[k].vals.length
          · obtain ⟨b2, off2, rfl, hbl2, d0⟩ := HSW.out.at1 hjl
            clear n0 n1 c0 c1 c2 c3
            cases hbad : valBad size ts[k] (atZ ts[k].vals j)
            all_goals
              have Hbad := Lib.hid hbad
              unfold valBad at hbad
              rw [Hkind.out] at hbad
              simp only [Bool.not_eq_false', Bool.not_eq_true'] at hbad
              try simp only [Int.reduceSub] at hbad
              go_wp2_with (first
                | (go_at_call 46; refine (l1In_any _ _ _ _).mono ?_; rintro e w' ⟨rfl, rfl⟩))
            · go_roundw
              case rel => exact ⟨_, hjl, by go_num, all_lt_succ Hjok.out Hbad.out, rfl⟩
              case measure => exact intOf_lt hjl
            · go_ret
              refine Ret.bel ?_ (Below.of_trans hb0 hbW)
              rw [HI.out, ← idxZ_ge, idxZ_hit hlt Hok.out (by rw [Ht.out]; unfold tabBad; rw [← idxZ_ge, idxZ_hit hjl Hjok.out Hbad.out]; simp)]
              simp
          · obtain rfl : j = ts[k].vals.length := by omega
            go_wp2
            go_roundw
            case rel => exact ⟨k + 1, hlt, by go_num, all_lt_succ Hok.out (by rw [Ht.out]; unfold tabBad; rw [Hp.out, ← idxZ_ge, idxZ_miss Hjok.out]; rfl), hbW⟩
            case measure => exact intOf_lt hlt
    · obtain rfl : k = ts.length := by omega
      go_wp2
      go_ret
      refine Ret.bel ?_ (Below.of_trans hb0 hbw)
      rw [HI.out, ← idxZ_ge, idxZ_miss Hok.out]
      rfl
end Go.Proofs.Ytpbakldlhjdipaa
