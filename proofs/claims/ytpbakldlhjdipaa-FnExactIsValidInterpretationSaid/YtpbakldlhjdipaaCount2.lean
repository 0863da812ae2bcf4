/-
  This text proves that the program's and the reference's counts of interpretations are one. Condition: the list lies in memory.
-/
import Derived.Test.YtpbakldlhjdipaaCount
set_option maxRecDepth 100000
set_option linter.unusedSimpArgs false
set_option linter.unusedVariables false
namespace Go.Proofs.Ytpbakldlhjdipaa
open Go.RowKit

/-- What both return. -/
def countZ (ts : List Tb) (size : Int) : Int := if tabsB ts && inB size 1 3 then cntGo size ts 1 else 0
def countOk (ts : List Tb) (size : Int) : Bool := tabsB ts && inB size 1 3 && cntGo size ts 1 != 0

theorem inB_le {n lo hi : Int} (h : inB n lo hi = true) : lo ≤ n ∧ n ≤ hi := by
  unfold inB at h
  simpa using h

set_option maxHeartbeats 1000000 in
theorem specCount_any (ts : List Tb) (v : Value) (size : Int) (w : World) {lo : Nat} (hx : TabsAt w lo v ts) :
    Calls Try.prog 10 #[v, .int .i64 size] w (Ret w (.tuple #[.int .i64 (countZ ts size), .bool (countOk ts size)])) := by
  have HX := Lib.hid hx
  clear hx
  cases h1 : tabsB ts
  · go_enter Try.func10, Try.ntmps10
    go_wp2_with (first
      | (go_at_call 45; refine (l10Tables_any ts _ _ HX.out).mono ?_; rintro e w1 ⟨rfl, hb1⟩; have hz1 := hb1.size; (try simp at hz1); obtain ⟨hc1, hf1⟩ := bcell hb1))
    go_ret2
    exact Ret.bel (by unfold countZ countOk; rw [h1]; rfl) (by (repeat' first | (with_reducible exact Below.refl _ _) | (with_reducible refine Below.setCell ?_ ?_ _) | (with_reducible refine Below.alloc ?_ ?_ _) | (with_reducible refine Below.drewN' ?_ _) | (with_reducible refine Below.via ?_ (by assumption) ?_) | (with_reducible exact Nat.le_refl _) | (simp; done) | (simp; omega) | omega))
  · cases h2 : inB size 1 3
    · go_enter Try.func10, Try.ntmps10
      go_wp2_with (first
        | (go_at_call 45; refine (l10Tables_any ts _ _ HX.out).mono ?_; rintro e w1 ⟨rfl, hb1⟩; have hz1 := hb1.size; (try simp at hz1); obtain ⟨hc1, hf1⟩ := bcell hb1)
        | (go_at_call 46; refine (l1In_any _ _ _ _).mono ?_; rintro e w' ⟨rfl, rfl⟩))
      go_ret2
      exact Ret.bel (by unfold countZ countOk; rw [h1, h2]; rfl) (by (repeat' first | (with_reducible exact Below.refl _ _) | (with_reducible refine Below.setCell ?_ ?_ _) | (with_reducible refine Below.alloc ?_ ?_ _) | (with_reducible refine Below.drewN' ?_ _) | (with_reducible refine Below.via ?_ (by assumption) ?_) | (with_reducible exact Nat.le_refl _) | (simp; done) | (simp; omega) | omega))
    · obtain ⟨g1, g3⟩ := inB_le h2
      cases h3 : (cntGo size ts 1 == 0)
      all_goals
        go_enter Try.func10, Try.ntmps10
        go_wp2_with (first
          | (go_at_call 45; refine (l10Tables_any ts _ _ HX.out).mono ?_; rintro e w1 ⟨rfl, hb1⟩; have hz1 := hb1.size; (try simp at hz1); obtain ⟨hc1, hf1⟩ := bcell hb1)
          | (go_at_call 46; refine (l1In_any _ _ _ _).mono ?_; rintro e w' ⟨rfl, rfl⟩))
        have Hb1 := hb1
        refine (l10Count_any ts _ size _ (HX.out.keep (Keeps.of_below hb1 _)) g1 g3 h1).mono ?_
        rintro e w2 ⟨rfl, hb2⟩
        go_wp2_with fail
      · refine (l10Count_any ts _ size _ ((HX.out.keep (Keeps.of_below hb1 _)).keep (Keeps.of_below hb2 _)) g1 g3 h1).mono ?_
        rintro e w3 ⟨rfl, hb3⟩
        go_wp2_with fail
        go_ret2
        exact Ret.bel (by unfold countZ countOk; rw [h1, h2]; simp only [Bool.and_self, Bool.true_and, if_true, bne, h3]; rfl) (Below.of_trans (Below.of_trans hb1 hb2) hb3)
      · go_ret2
        exact Ret.bel (by unfold countZ countOk; rw [h1, h2]; simp only [Bool.and_self, Bool.true_and, if_true, bne, h3]; rw [eq_of_beq h3]; rfl) (Below.of_trans hb1 hb2)

theorem power_int (n z : Int) (w : World) (h1 : 1 ≤ n) (h3 : n ≤ 3) (h0 : 0 ≤ z) (hz : z ≤ 3) :
    Calls Try.prog 51 #[.int .i64 n, .int .i64 z] w (Same w (.int .i64 (powZ n z.toNat))) := by
  have := power_any n z.toNat w h1 h3 (by omega)
  rwa [show ((z.toNat : Nat) : Int) = z by omega] at this

set_option maxHeartbeats 2000000 in
theorem implCount_any (ts : List Tb) (v : Value) (size : Int) (w : World) {lo : Nat} (hx : TabsAt w lo v ts) :
    Calls Try.prog 12 #[v, .int .i64 size] w (Ret w (.tuple #[.int .i64 (countZ ts size), .bool (countOk ts size)])) := by
  have HX := Lib.hid hx
  obtain ⟨s, hs, hf⟩ := hx
  obtain ⟨a, cap, rfl, hnc, hcap, hS⟩ := hs.open_
  have HS := Lib.hid hS
  have HF := Lib.hid hf
  clear hS hs hf
  cases hok : tabsB ts
  · go_enter Try.func12, Try.ntmps12
    go_wp2_with (first
      | (go_at_call 49; refine (areTables_any ts _ _ HX.out).mono ?_; rintro e w1 ⟨rfl, hb1⟩; have hz1 := hb1.size; (try simp at hz1); obtain ⟨hc1, hf1⟩ := bcell hb1))
    go_ret2
    exact Ret.bel (by unfold countZ countOk; rw [hok]; rfl) (by (repeat' first | (with_reducible exact Below.refl _ _) | (with_reducible refine Below.setCell ?_ ?_ _) | (with_reducible refine Below.alloc ?_ ?_ _) | (with_reducible refine Below.drewN' ?_ _) | (with_reducible refine Below.via ?_ (by assumption) ?_) | (with_reducible exact Nat.le_refl _) | (simp; done) | (simp; omega) | omega))
  cases h2 : inB size 1 3
  · go_enter Try.func12, Try.ntmps12
    go_wp2_with (first
      | (go_at_call 49; refine (areTables_any ts _ _ HX.out).mono ?_; rintro e w1 ⟨rfl, hb1⟩; have hz1 := hb1.size; (try simp at hz1); obtain ⟨hc1, hf1⟩ := bcell hb1)
      | (go_at_call 50; refine (within_any _ _ _ _).mono ?_; rintro e w' ⟨rfl, rfl⟩))
    go_ret2
    exact Ret.bel (by unfold countZ countOk; rw [hok, h2]; rfl) (by (repeat' first | (with_reducible exact Below.refl _ _) | (with_reducible refine Below.setCell ?_ ?_ _) | (with_reducible refine Below.alloc ?_ ?_ _) | (with_reducible refine Below.drewN' ?_ _) | (with_reducible refine Below.via ?_ (by assumption) ?_) | (with_reducible exact Nat.le_refl _) | (simp; done) | (simp; omega) | omega))
  obtain ⟨h1, h3⟩ := inB_le h2
  have hCZ : countZ ts size = cntGo size ts 1 := by unfold countZ; rw [hok, h2]; rfl
  have hCO : countOk ts size = (cntGo size ts 1 != 0) := by unfold countOk; rw [hok, h2]; rfl
  have HCZ := Lib.hid hCZ
  have HCO := Lib.hid hCO
  have HA := Lib.hid hok
  clear hCZ hCO
  go_enter Try.func12, Try.ntmps12
  go_wp2_with (first
    | (go_at_call 49; refine (areTables_any ts _ _ HX.out).mono ?_; rintro e w1 ⟨rfl, hb1⟩; have hz1 := hb1.size; (try simp at hz1); obtain ⟨hc1, hf1⟩ := bcell hb1)
    | (go_at_call 50; refine (within_any _ _ _ _).mono ?_; rintro e w' ⟨rfl, rfl⟩))
  clear hok
  go_loopw [6, 8, 19] (fun o _ i wr => RelOut w ts size o i wr) (fun _ _ i _ => ts.length - (intOf i).toNat)
  case atStart => exact ⟨0, 1, Nat.zero_le _, rfl, rfl, by omega, by omega, rfl, hb1⟩
  case round =>
    obtain ⟨k, n, hk, rfl, rfl, hn1, hn2, hok, hbw⟩ := hrel
    have hzw := hbw.size
    have Hok := Lib.hid hok
    clear hok hb1 hz1 hc1 hf1
    by_cases hlt : k < ts.length
    · obtain ⟨b, off, rfl, hbl, c0, c1, c2, c3⟩ := (HS.out.keep (Keeps.of_below hbw _)).at4 hlt
      rw [getD_at _ hlt] at c0 c1 c2 c3
      simp only [tbC] at c0 c1 c2 c3
      obtain ⟨x, xn, xc, hsk⟩ := (HF.out k hlt).1.form
      rw [hsk] at c3
      have hta : tabOk ts k = true := by
        have := HA.out
        unfold tabsB at this
        rw [Bool.and_eq_true] at this
        exact allB_at this.1 hlt
      unfold tabOk at hta
      rw [getD_at _ hlt, Bool.and_eq_true, Bool.and_eq_true] at hta
      obtain ⟨⟨-, har⟩, -⟩ := hta
      unfold inB at har
      simp only [Bool.and_eq_true, decide_eq_true_eq] at har
      obtain ⟨ar0, ar3⟩ := har
      obtain ⟨p1, p2⟩ := powZ_bd h1 h3 ts[k].arity.toNat (by omega)
      obtain ⟨PN, hPN⟩ : ∃ PN : Nat, powZ size ts[k].arity.toNat = PN := ⟨(powZ size ts[k].arity.toNat).toNat, by omega⟩
      have hPNb : PN ≤ 27 := by omega
      obtain ⟨kq1, kq3⟩ := kindsZ_bd (t := ts[k]) h1 h3
      have hstep : cntGo size (ts.drop k) n = if cntIn (kindsZ ts[k] size) PN n = 0 then 0 else cntGo size (ts.drop (k + 1)) (cntIn (kindsZ ts[k] size) PN n) := by
        rw [drop_at hlt]
        show (if cntIn (kindsZ ts[k] size) (powZ size ts[k].arity.toNat).toNat n = 0 then 0 else cntGo size (ts.drop (k + 1)) (cntIn (kindsZ ts[k] size) (powZ size ts[k].arity.toNat).toNat n)) = _
        rw [hPN, Int.toNat_natCast]
      have Hstep := Lib.hid hstep
      have HPN := Lib.hid hPN
      clear hstep hPN p1 p2
      go_wp2_with (first
        | (go_at_call 51; refine (power_int size _ _ h1 h3 ar0 ar3).mono ?_; rintro e w' ⟨rfl, rfl⟩; rw [HPN.out]))
      go_loopw [6, 27] (fun o i W => RelIn (wr.alloc (.cells #[.string ts[k].name, .int .i64 ts[k].arity, .bool ts[k].pred, .slice x xn xc] 83)) (kindsZ ts[k] size) PN n o i W) (fun _ i _ => PN - (intOf i).toNat)
      case atStart => exact ⟨0, n, Nat.zero_le _, rfl, rfl, hn1, hn2, rfl, Below.refl _ _⟩
      case round =>
        obtain ⟨j, m, hj, rfl, rfl, hm1, hm2, hin, hbW⟩ := hrel
        have Hin := Lib.hid hin
        have hzW := hbW.size
        simp at hzW
        obtain ⟨hcW, hfW⟩ := bcell hbW
        clear hin c0 c1 c2 c3
        by_cases hjl : j < PN
        · obtain ⟨m1, m2⟩ := prod_bd hm1 hm2 kq1 kq3
          have Hpre := Lib.hid (show PN - j = (PN - (j + 1)) + 1 by omega)
          by_cases hbig : 5000 < m * kindsZ ts[k] size
          · have Hbig := Lib.hid hbig
            go_wp2_with (first
              | (go_at_call 52; refine (choices_any ts[k] _ _ _ ⟨_, _, _, rfl⟩).mono ?_; rintro e w2 ⟨rfl, hb2⟩; have hz2 := hb2.size; (try simp at hz2); obtain ⟨hc2, hf2⟩ := bcell hb2))
            go_ret2
            refine Ret.bel ?_ (by (repeat' first | (with_reducible exact Below.refl _ _) | (with_reducible refine Below.setCell ?_ ?_ _) | (with_reducible refine Below.alloc ?_ ?_ _) | (with_reducible refine Below.drewN' ?_ _) | (with_reducible refine Below.via ?_ (by assumption) ?_) | (with_reducible exact Nat.le_refl _) | (simp; done) | (simp; omega) | omega))
            rw [HCZ.out, HCO.out, ← Hok.out, Hstep.out, ← Hin.out, Hpre.out, cntIn_stop Hbig.out]
            rfl
          · have Hbig := Lib.hid hbig
            go_wp2_with (first
              | (go_at_call 52; refine (choices_any ts[k] _ _ _ ⟨_, _, _, rfl⟩).mono ?_; rintro e w2 ⟨rfl, hb2⟩; have hz2 := hb2.size; (try simp at hz2); obtain ⟨hc2, hf2⟩ := bcell hb2))
            go_roundw
            case rel => exact ⟨j + 1, _, hjl, by go_num, rfl, m1, by omega, by rw [← Hin.out, Hpre.out, cntIn_next (by have := Hbig.out; omega)], Below.of_trans hbW hb2⟩
            case measure => exact intOf_lt hjl
        · obtain rfl : j = PN := by omega
          go_wp2
          go_roundw
          case rel => exact ⟨k + 1, m, hlt, by go_num, rfl, hm1, hm2, by rw [← Hok.out, Hstep.out, ← Hin.out, Nat.sub_self]; show _ = if m = 0 then 0 else _; rw [if_neg (by omega)]; rfl, (by (repeat' first | (with_reducible exact Below.refl _ _) | (with_reducible refine Below.setCell ?_ ?_ _) | (with_reducible refine Below.alloc ?_ ?_ _) | (with_reducible refine Below.drewN' ?_ _) | (with_reducible refine Below.via ?_ (by assumption) ?_) | (with_reducible exact Nat.le_refl _) | (simp; done) | (simp; omega) | omega))⟩
          case measure => exact intOf_lt hlt
    · obtain rfl : k = ts.length := by omega
      go_wp2
      go_ret2
      refine Ret.bel ?_ hbw
      rw [HCZ.out, HCO.out, ← Hok.out, List.drop_length]
      have : (n != 0) = true := by rw [bne_iff_ne]; omega
      show Value.tuple #[.int .i64 n, .bool true] = Value.tuple #[.int .i64 n, .bool (n != 0)]
      rw [this]
end Go.Proofs.Ytpbakldlhjdipaa
