/-
  This text proves the library's searches with a function value, at tables and at integers. Condition: the function value answers as it is said to.
-/
import Derived.Test.YtpbakldlhjdipaaReps
set_option maxRecDepth 100000
set_option linter.unusedSimpArgs false
set_option linter.unusedVariables false
namespace Go.Proofs.Ytpbakldlhjdipaa
open Go.RowKit

set_option maxHeartbeats 1000000 in
theorem indexFunc_tab (fid : Nat) (caps : Array Value) (p : Nat → Bool) (v : Value) (n : Nat) (f : Nat → Nat → Value) (w : World) {lo : Nat} (hs : Sl w lo 4 n f v)
    (hF : ∀ (args : Array Value) (W : World), (callFunc fid args).run Try.prog W = .ok (.enter fid args) W)
    (hcall : ∀ i, i < n → (∀ j, j < i → p j = false) → ∀ W, Below w.heap.size w W → Calls Try.prog fid (#[.agg #[f i 0, f i 1, f i 2, f i 3]] ++ caps) W (Ret W (.bool (p i)))) :
    Calls Try.prog 99 #[v, .func (.func fid) #[] caps] w (Ret w (.int .i64 (idxZ p n))) := by
  obtain ⟨a, cap, rfl, hnc, hcap, hS⟩ := hs.open_
  have HS := Lib.hid hS
  have HC := Lib.hid hcall
  clear hS hs hcall
  go_enter Try.func99, Try.ntmps99
  go_wp2
  go_loopw [8] (fun i wr => CntB w n (fun k _ => ∀ j, j < k → p j = false) i wr) (fun i _ => n - (intOf i).toNat)
  case atStart => exact ⟨0, Nat.zero_le _, rfl, fun j hj => absurd hj (by omega), Below.refl _ _⟩
  case round =>
    obtain ⟨k, hk, rfl, hok, hbw⟩ := hrel
    have hzw := hbw.size
    have Hok := Lib.hid hok
    clear hok
    by_cases hlt : k < n
    · obtain ⟨b, off, rfl, hbl, c0, c1, c2, c3⟩ := (HS.out.keep (Keeps.of_below hbw _)).at4 hlt
      have HK := Lib.hid (HC.out k hlt Hok.out _ hbw)
      cases hp : p k
      all_goals
        have Hp := Lib.hid hp
        go_wp2_with fail
        refine (HK.out).mono ?_
        rintro e w1 ⟨rfl, hb1⟩
        rw [Hp.out]
        go_wp2_with fail
      · go_roundw
        case rel => exact ⟨_, hlt, by go_num, all_lt_succ Hok.out Hp.out, Below.of_trans hbw hb1⟩
        case measure => exact intOf_lt hlt
      · go_ret
        exact Ret.bel (by rw [idxZ_hit hlt Hok.out Hp.out]; rfl) (Below.of_trans hbw hb1)
    · obtain rfl : k = n := by omega
      go_wp2_with fail
      go_ret
      exact Ret.bel (by rw [idxZ_miss Hok.out]; rfl) hbw

theorem containsFunc_tab (fid : Nat) (caps : Array Value) (p : Nat → Bool) (v : Value) (n : Nat) (f : Nat → Nat → Value) (w : World) {lo : Nat} (hs : Sl w lo 4 n f v)
    (hF : ∀ (args : Array Value) (W : World), (callFunc fid args).run Try.prog W = .ok (.enter fid args) W)
    (hcall : ∀ i, i < n → (∀ j, j < i → p j = false) → ∀ W, Below w.heap.size w W → Calls Try.prog fid (#[.agg #[f i 0, f i 1, f i 2, f i 3]] ++ caps) W (Ret W (.bool (p i)))) :
    Calls Try.prog 55 #[v, .func (.func fid) #[] caps] w (Ret w (.bool (anyB p n))) := by
  have HI := Lib.hid (indexFunc_tab fid caps p v n f w hs hF hcall)
  clear hcall hs hF
  go_enter Try.func55, Try.ntmps55
  go_wp2_with fail
  refine (HI.out).mono ?_
  rintro e w1 ⟨rfl, hb1⟩
  go_wp2_with fail
  go_ret
  exact Ret.bel (by rw [← idxZ_ge]; rfl) hb1

set_option maxHeartbeats 1000000 in
theorem indexFunc_int (fid : Nat) (caps : Array Value) (p : Nat → Bool) (v : Value) (n : Nat) (f : Nat → Nat → Value) (w : World) {lo : Nat} (hs : Sl w lo 1 n f v)
    (hF : ∀ (args : Array Value) (W : World), (callFunc fid args).run Try.prog W = .ok (.enter fid args) W)
    (hcall : ∀ i, i < n → (∀ j, j < i → p j = false) → ∀ W, Below w.heap.size w W → Calls Try.prog fid (#[(f i 0)] ++ caps) W (Ret W (.bool (p i)))) :
    Calls Try.prog 100 #[v, .func (.func fid) #[] caps] w (Ret w (.int .i64 (idxZ p n))) := by
  obtain ⟨a, cap, rfl, hnc, hcap, hS⟩ := hs.open_
  have HS := Lib.hid hS
  have HC := Lib.hid hcall
  clear hS hs hcall
  go_enter Try.func100, Try.ntmps100
  go_wp2
  go_loopw [8] (fun i wr => CntB w n (fun k _ => ∀ j, j < k → p j = false) i wr) (fun i _ => n - (intOf i).toNat)
  case atStart => exact ⟨0, Nat.zero_le _, rfl, fun j hj => absurd hj (by omega), Below.refl _ _⟩
  case round =>
    obtain ⟨k, hk, rfl, hok, hbw⟩ := hrel
    have hzw := hbw.size
    have Hok := Lib.hid hok
    clear hok
    by_cases hlt : k < n
    · obtain ⟨b, off, rfl, hbl, c0⟩ := (HS.out.keep (Keeps.of_below hbw _)).at1 hlt
      have HK := Lib.hid (HC.out k hlt Hok.out _ hbw)
      cases hp : p k
      all_goals
        have Hp := Lib.hid hp
        go_wp2_with fail
        refine (HK.out).mono ?_
        rintro e w1 ⟨rfl, hb1⟩
        rw [Hp.out]
        go_wp2_with fail
      · go_roundw
        case rel => exact ⟨_, hlt, by go_num, all_lt_succ Hok.out Hp.out, Below.of_trans hbw hb1⟩
        case measure => exact intOf_lt hlt
      · go_ret
        exact Ret.bel (by rw [idxZ_hit hlt Hok.out Hp.out]; rfl) (Below.of_trans hbw hb1)
    · obtain rfl : k = n := by omega
      go_wp2_with fail
      go_ret
      exact Ret.bel (by rw [idxZ_miss Hok.out]; rfl) hbw

theorem containsFunc_int (fid : Nat) (caps : Array Value) (p : Nat → Bool) (v : Value) (n : Nat) (f : Nat → Nat → Value) (w : World) {lo : Nat} (hs : Sl w lo 1 n f v)
    (hF : ∀ (args : Array Value) (W : World), (callFunc fid args).run Try.prog W = .ok (.enter fid args) W)
    (hcall : ∀ i, i < n → (∀ j, j < i → p j = false) → ∀ W, Below w.heap.size w W → Calls Try.prog fid (#[(f i 0)] ++ caps) W (Ret W (.bool (p i)))) :
    Calls Try.prog 57 #[v, .func (.func fid) #[] caps] w (Ret w (.bool (anyB p n))) := by
  have HI := Lib.hid (indexFunc_int fid caps p v n f w hs hF hcall)
  clear hcall hs hF
  go_enter Try.func57, Try.ntmps57
  go_wp2_with fail
  refine (HI.out).mono ?_
  rintro e w1 ⟨rfl, hb1⟩
  go_wp2_with fail
  go_ret
  exact Ret.bel (by rw [← idxZ_ge]; rfl) hb1

end Go.Proofs.Ytpbakldlhjdipaa
