/-
  This text proves what the two counts of interpretations compute. Condition: the list lies in memory.
-/
import Derived.Test.YtpbakldlhjdipaaAre2
set_option maxRecDepth 100000
set_option linter.unusedSimpArgs false
set_option linter.unusedVariables false
namespace Go.Proofs.Ytpbakldlhjdipaa
open Go.RowKit

def powZ (n : Int) : Nat → Int
  | 0 => 1
  | k + 1 => powZ n k * n
theorem powZ_bd {n : Int} (h1 : 1 ≤ n) (h3 : n ≤ 3) : ∀ k, k ≤ 3 → 1 ≤ powZ n k ∧ powZ n k ≤ 27 := by
  have hn : n = 1 ∨ n = 2 ∨ n = 3 := by omega
  intro k hk
  have hk' : k = 0 ∨ k = 1 ∨ k = 2 ∨ k = 3 := by omega
  rcases hn with rfl | rfl | rfl <;> rcases hk' with rfl | rfl | rfl | rfl <;> simp [powZ]

set_option maxHeartbeats 400000 in
theorem power_any (n : Int) (k : Nat) (w : World) (h1 : 1 ≤ n) (h3 : n ≤ 3) (hk : k ≤ 3) :
    Calls Try.prog 51 #[.int .i64 n, .int .i64 (k : Int)] w (Same w (.int .i64 (powZ n k))) := by
  go_enter Try.func51, Try.ntmps51
  go_wp2
  go_loopw [5, 7] (fun o i wr => ∃ j : Nat, j ≤ k ∧ i = .int .i64 j ∧ o = .int .i64 (powZ n j) ∧ w = wr) (fun _ i _ => k - (intOf i).toNat)
  case atStart => exact ⟨0, Nat.zero_le _, rfl, rfl, rfl⟩
  case round =>
    obtain ⟨j, hj, rfl, rfl, rfl⟩ := hrel
    by_cases hlt : j < k
    · obtain ⟨b1, b2⟩ := powZ_bd h1 h3 (j + 1) (by omega)
      rw [powZ] at b1 b2
      go_wp2
      go_roundw
      case rel => exact ⟨j + 1, hlt, by go_num, rfl, trivial⟩
      case measure => exact intOf_lt hlt
    · obtain rfl : j = k := by omega
      go_wp2
      go_ret
      exact Same.mk' _ rfl

set_option maxHeartbeats 400000 in
theorem l10Power_any (n : Int) (k : Nat) (w : World) (h1 : 1 ≤ n) (h3 : n ≤ 3) (hk : k ≤ 3) :
    Calls Try.prog 94 #[.int .i64 n, .int .i64 (k : Int)] w (Same w (.int .i64 (powZ n k))) := by
  go_enter Try.func94, Try.ntmps94
  go_wp2
  go_loopw [5, 6] (fun o i wr => ∃ j : Nat, j ≤ k ∧ i = .int .i64 j ∧ o = .int .i64 (powZ n j) ∧ w = wr) (fun _ i _ => k - (intOf i).toNat)
  case atStart => exact ⟨0, Nat.zero_le _, rfl, rfl, rfl⟩
  case round =>
    obtain ⟨j, hj, rfl, rfl, rfl⟩ := hrel
    by_cases hlt : j < k
    · obtain ⟨b1, b2⟩ := powZ_bd h1 h3 (j + 1) (by omega)
      rw [powZ] at b1 b2
      go_wp2
      go_roundw
      case rel => exact ⟨j + 1, hlt, by go_num, rfl, trivial⟩
      case measure => exact intOf_lt hlt
    · obtain rfl : j = k := by omega
      go_wp2
      go_ret
      exact Same.mk' _ rfl

def kindsZ (t : Tb) (size : Int) : Int := if t.pred then 2 else size
theorem choices_any (t : Tb) (s : Value) (size : Int) (w : World) (hs : ∃ x n c, s = .slice x n c) :
    Calls Try.prog 52 #[.agg #[.string t.name, .int .i64 t.arity, .bool t.pred, s], .int .i64 size] w (Ret w (.int .i64 (kindsZ t size))) := by
  obtain ⟨x, n, c, rfl⟩ := hs
  cases hp : t.pred
  all_goals
    go_enter Try.func52, Try.ntmps52
    go_wp2
    go_ret
    exact Ret.bel (by unfold kindsZ; rw [hp]; rfl) (by (repeat' first | (with_reducible exact Below.refl _ _) | (with_reducible refine Below.setCell ?_ ?_ _) | (with_reducible refine Below.alloc ?_ ?_ _) | (with_reducible refine Below.drewN' ?_ _) | (with_reducible refine Below.via ?_ (by assumption) ?_) | (with_reducible exact Nat.le_refl _) | (simp; done) | (simp; omega) | omega))

/-- Multiply by kinds, m times; 0 as soon as there are too many. -/
def cntIn (kinds : Int) : Nat → Int → Int
  | 0, n => n
  | m + 1, n => if 5000 < n * kinds then 0 else cntIn kinds m (n * kinds)
def cntGo (size : Int) : List Tb → Int → Int
  | [], n => n
  | t :: ts, n => if cntIn (kindsZ t size) (powZ size t.arity.toNat).toNat n = 0 then 0 else cntGo size ts (cntIn (kindsZ t size) (powZ size t.arity.toNat).toNat n)
theorem cntIn_bd {kinds : Int} (h1 : 1 ≤ kinds) : ∀ m n, 1 ≤ n → n ≤ 5000 → 0 ≤ cntIn kinds m n ∧ cntIn kinds m n ≤ 5000
  | 0, n, a, b => by simp [cntIn]; omega
  | m + 1, n, a, b => by
    unfold cntIn
    split
    · omega
    · have : 1 * 1 ≤ n * kinds := Int.mul_le_mul a h1 (by omega) (by omega)
      exact cntIn_bd h1 m _ (by omega) (by omega)

theorem kindsZ_bd {t : Tb} {size : Int} (h1 : 1 ≤ size) (h3 : size ≤ 3) : 1 ≤ kindsZ t size ∧ kindsZ t size ≤ 3 := by
  unfold kindsZ; split <;> omega
theorem prod_bd {m q : Int} (h1 : 1 ≤ m) (h2 : m ≤ 5000) (h3 : 1 ≤ q) (h4 : q ≤ 3) : 1 ≤ m * q ∧ m * q ≤ 15000 := by
  have hq : q = 1 ∨ q = 2 ∨ q = 3 := by omega
  rcases hq with rfl | rfl | rfl <;> omega

theorem cntIn_stop {q : Int} {m : Nat} {z : Int} (h : 5000 < z * q) : cntIn q (m + 1) z = 0 := by unfold cntIn; rw [if_pos h]
theorem cntIn_next {q : Int} {m : Nat} {z : Int} (h : ¬ 5000 < z * q) : cntIn q (m + 1) z = cntIn q m (z * q) := by
  show (if 5000 < z * q then 0 else cntIn q m (z * q)) = _
  rw [if_neg h]
def RelIn (w : World) (q : Int) (P : Nat) (n0 : Int) (o i : Value) (wr : World) : Prop := ∃ (j : Nat) (m : Int), j ≤ P ∧ i = .int .i64 j ∧ o = .int .i64 m ∧ 1 ≤ m ∧ m ≤ 5000 ∧ cntIn q (P - j) m = cntIn q P n0 ∧ Below w.heap.size w wr
def RelOut (w : World) (ts : List Tb) (size : Int) (o i : Value) (wr : World) : Prop := ∃ (k : Nat) (n : Int), k ≤ ts.length ∧ i = .int .i64 k ∧ o = .int .i64 n ∧ 1 ≤ n ∧ n ≤ 5000 ∧ cntGo size (ts.drop k) n = cntGo size ts 1 ∧ Below w.heap.size w wr

set_option maxHeartbeats 2000000 in
theorem l10Count_any (ts : List Tb) (v : Value) (size : Int) (w : World) {lo : Nat} (hx : TabsAt w lo v ts) (h1 : 1 ≤ size) (h3 : size ≤ 3) (hok : tabsB ts = true) :
    Calls Try.prog 47 #[v, .int .i64 size] w (Ret w (.int .i64 (cntGo size ts 1))) := by
  obtain ⟨s, hs, hf⟩ := hx
  obtain ⟨a, cap, rfl, hnc, hcap, hS⟩ := hs.open_
  have HS := Lib.hid hS
  clear hS hs hf
  have HA := Lib.hid hok
  clear hok
  go_enter Try.func47, Try.ntmps47
  go_wp2
  go_loopw [5, 6, 7, 8] (fun o i _ _ wr => RelOut w ts size o i wr) (fun _ i _ _ _ => ts.length - (intOf i).toNat)
  case atStart => exact ⟨0, 1, Nat.zero_le _, rfl, rfl, by omega, by omega, rfl, Below.refl _ _⟩
  case round =>
    obtain ⟨k, n, hk, rfl, rfl, hn1, hn2, hok, hbw⟩ := hrel
    have Hok := Lib.hid hok
    clear hok
    by_cases hlt : k < ts.length
    · obtain ⟨b, off, rfl, hbl, c0, c1, c2, c3⟩ := (HS.out.keep (Keeps.of_below hbw _)).at4 hlt
      rw [getD_at _ hlt] at c0 c1 c2 c3
      simp only [tbC] at c0 c1 c2 c3
      have hta : tabOk ts k = true := by
        have := HA.out
        unfold tabsB at this
        rw [Bool.and_eq_true] at this
        exact allB_at this.1 hlt
      unfold tabOk at hta
      rw [getD_at _ hlt, Bool.and_eq_true, Bool.and_eq_true] at hta
      obtain ⟨⟨-, har⟩, -⟩ := hta
      unfold inB at har
      simp only [Bool.and_eq_true, decide_eq_true_eq] at har
      obtain ⟨ar0, ar3⟩ := har
      obtain ⟨A, hA⟩ : ∃ A : Nat, ts[k].arity = A := ⟨ts[k].arity.toNat, by omega⟩
      rw [hA] at c1 ar0 ar3
      obtain ⟨p1, p2⟩ := powZ_bd h1 h3 A (by omega)
      obtain ⟨PN, hPN⟩ : ∃ PN : Nat, powZ size A = PN := ⟨(powZ size A).toNat, by omega⟩
      have hPNb : PN ≤ 27 := by omega
      obtain ⟨kq1, kq3⟩ := kindsZ_bd (t := ts[k]) h1 h3
      have hstep : cntGo size (ts.drop k) n = if cntIn (kindsZ ts[k] size) PN n = 0 then 0 else cntGo size (ts.drop (k + 1)) (cntIn (kindsZ ts[k] size) PN n) := by
        rw [drop_at hlt]
        show (if cntIn (kindsZ ts[k] size) (powZ size ts[k].arity.toNat).toNat n = 0 then 0 else cntGo size (ts.drop (k + 1)) (cntIn (kindsZ ts[k] size) (powZ size ts[k].arity.toNat).toNat n)) = _
        rw [hA, Int.toNat_natCast, hPN, Int.toNat_natCast]
      have Hstep := Lib.hid hstep
      clear hstep
      have hkind : kindsZ ts[k] size = if ts[k].pred then 2 else size := rfl
      cases hp : ts[k].pred
      all_goals
        rw [hp] at hkind
        simp only [Bool.false_eq_true, if_false, if_true] at hkind
        rw [hp] at c2
        have HPN := Lib.hid hPN
        have Hkind := Lib.hid hkind
        rw [hkind] at kq1 kq3
        have HAr := Lib.hid hA
        clear hPN hkind hA hp
        go_wp2
        go_loopw [5, 8] (fun o i W => RelIn w (kindsZ ts[k] size) PN n o i W) (fun _ i _ => PN - (intOf i).toNat)
        case atStart => exact ⟨0, n, Nat.zero_le _, rfl, rfl, hn1, hn2, rfl, hbw⟩
        case round =>
          obtain ⟨j, m, hj, rfl, rfl, hm1, hm2, hin, hbW⟩ := hrel
          have Hin := Lib.hid hin
          obtain ⟨hblW, e0, e1, e2, e3⟩ := (HS.out.keep (Keeps.of_below hbW _)).at4s hlt
          rw [getD_at _ hlt] at e1
          simp only [tbC] at e1
          rw [HAr.out] at e1
          clear hin e0 e2 e3 c0 c1 c2 c3
          by_cases hjl : j < PN
          · obtain ⟨m1, m2⟩ := prod_bd hm1 hm2 kq1 kq3
            have hpre : PN - j = (PN - (j + 1)) + 1 := by omega
            have Hpre := Lib.hid hpre
            clear hpre
            by_cases hbig : 5000 < m * kindsZ ts[k] size
            · have Hbig := Lib.hid hbig
              rw [Hkind.out] at hbig
              go_wp2_with (first
                | (go_at_call 94; refine (l10Power_any size A _ h1 h3 (by omega)).mono ?_; rintro e w' ⟨rfl, rfl⟩; rw [HPN.out]))
              go_ret
              refine Ret.bel ?_ hbW
              rw [← Hok.out, Hstep.out, ← Hin.out, Hpre.out, cntIn_stop Hbig.out]
              rfl
            · have Hbig := Lib.hid hbig
              rw [Hkind.out] at hbig
              go_wp2_with (first
                | (go_at_call 94; refine (l10Power_any size A _ h1 h3 (by omega)).mono ?_; rintro e w' ⟨rfl, rfl⟩; rw [HPN.out]))
              go_roundw
              case rel => exact ⟨j + 1, _, hjl, by go_num, rfl, m1, by omega, by rw [← Hin.out, Hpre.out, cntIn_next (by have := Hbig.out; omega), Hkind.out], hbW⟩
              case measure => exact intOf_lt hjl
          · obtain rfl : j = PN := by omega
            go_wp2_with (first
              | (go_at_call 94; refine (l10Power_any size A _ h1 h3 (by omega)).mono ?_; rintro e w' ⟨rfl, rfl⟩; rw [HPN.out]))
            go_roundw
            case rel => exact ⟨k + 1, m, hlt, by go_num, rfl, hm1, hm2, by rw [← Hok.out, Hstep.out, ← Hin.out, Nat.sub_self]; show _ = if m = 0 then 0 else _; rw [if_neg (by omega)]; rfl, hbW⟩
            case measure => exact intOf_lt hlt
    · obtain rfl : k = ts.length := by omega
      go_wp2
      go_ret
      refine Ret.bel ?_ hbw
      rw [← Hok.out, List.drop_length]
      rfl
end Go.Proofs.Ytpbakldlhjdipaa
