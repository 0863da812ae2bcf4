/-
  This text proves what the functions on names compute: variables, symbols, bytes. Condition: a name has at most the greatest length.
-/
import Derived.Test.YtpbakldlhjdipaaBase
set_option maxRecDepth 100000
set_option linter.unusedSimpArgs false
set_option linter.unusedVariables false
namespace Go.Proofs.Ytpbakldlhjdipaa
open Go.RowKit

def lowB (b : Int) : Bool := decide (97 ≤ b) && decide (b ≤ 122)
def digB (b : Int) : Bool := decide (48 ≤ b) && decide (b ≤ 57)
def uppB (b : Int) : Bool := decide (65 ≤ b) && decide (b ≤ 90)
def inB (n lo hi : Int) : Bool := decide (lo ≤ n) && decide (n ≤ hi)

theorem within_any (n lo hi : Int) (w : World) :
    Calls Try.prog 50 #[.int .i64 n, .int .i64 lo, .int .i64 hi] w (Same w (.bool (inB n lo hi))) := by
  by_cases h1 : lo ≤ n <;> by_cases h2 : n ≤ hi
  all_goals
    go_enter Try.func50, Try.ntmps50
    go_wp2
    go_ret
    exact Same.mk' _ (by simp [inB, h1, h2])

theorem l1In_any (n lo hi : Int) (w : World) :
    Calls Try.prog 46 #[.int .i64 n, .int .i64 lo, .int .i64 hi] w (Same w (.bool (inB n lo hi))) := by
  by_cases h1 : lo ≤ n <;> by_cases h2 : n ≤ hi
  all_goals
    go_enter Try.func46, Try.ntmps46
    go_wp2
    go_ret
    exact Same.mk' _ (by simp [inB, h1, h2])

theorem isLower_any (n : Int) (w : World) : Calls Try.prog 135 #[.int .u8 n] w (Same w (.bool (lowB n))) := by
  by_cases h1 : 97 ≤ n <;> by_cases h2 : n ≤ 122
  all_goals
    go_enter Try.func135, Try.ntmps135
    go_wp2
    go_ret
    exact Same.mk' _ (by simp [lowB, h1, h2])

theorem isDigit_any (n : Int) (w : World) : Calls Try.prog 136 #[.int .u8 n] w (Same w (.bool (digB n))) := by
  by_cases h1 : 48 ≤ n <;> by_cases h2 : n ≤ 57
  all_goals
    go_enter Try.func136, Try.ntmps136
    go_wp2
    go_ret
    exact Same.mk' _ (by simp [digB, h1, h2])

theorem isUpper_any (n : Int) (w : World) : Calls Try.prog 142 #[.int .u8 n] w (Same w (.bool (uppB n))) := by
  by_cases h1 : 65 ≤ n <;> by_cases h2 : n ≤ 90
  all_goals
    go_enter Try.func142, Try.ntmps142
    go_wp2
    go_ret
    exact Same.mk' _ (by simp [uppB, h1, h2])

def smallB (n : Int) : Bool := lowB n || digB n
theorem l2Small_any (n : Int) (w : World) : Calls Try.prog 134 #[.int .u8 n] w (Same w (.bool (smallB n))) := by
  by_cases h1 : 97 ≤ n <;> by_cases h2 : n ≤ 122 <;> by_cases h3 : 48 ≤ n <;> by_cases h4 : n ≤ 57 <;> first | (exfalso; omega) | skip
  all_goals
    go_enter Try.func134, Try.ntmps134
    go_wp2
    go_ret
    exact Same.mk' _ (by simp [smallB, lowB, digB, h1, h2, h3, h4])

def byteZ (s : ByteArray) (k : Nat) : Int := ((s.toList.getD k 0).toNat : Int)
theorem byteZ_get {s : ByteArray} {k : Nat} (h : k < s.size) : (s[k].toNat : Int) = byteZ s k := by
  have h' : k < s.data.toList.length := h
  unfold byteZ
  rw [ByteArray.toList_eq, List.getD_eq_getElem?_getD, List.getElem?_eq_getElem h']
  rfl

/-! A loop over the bytes of a name that ends at the first wrong one. -/
def loopB (p : Nat → Int → Bool) (s : ByteArray) (k : Nat) : Bool := (List.range k).all fun j => p j (byteZ s j)
theorem loopB_succ {p : Nat → Int → Bool} {s : ByteArray} {k : Nat} : loopB p s (k + 1) = (loopB p s k && p k (byteZ s k)) := by
  unfold loopB
  rw [List.range_succ, List.all_append]
  simp
theorem loopB_next {p : Nat → Int → Bool} {s : ByteArray} {k : Nat} (h : loopB p s k = true) (hk : p k (byteZ s k) = true) : loopB p s (k + 1) = true := by
  rw [loopB_succ, h, hk]; rfl
theorem loopB_mono {p : Nat → Int → Bool} {s : ByteArray} {k n : Nat} (h : loopB p s k = false) (hn : k ≤ n) : loopB p s n = false := by
  induction n with
  | zero => have : k = 0 := by omega
            subst this; exact h
  | succ n ih =>
    by_cases hk : k = n + 1
    · subst hk; exact h
    · rw [loopB_succ, ih (by omega)]; rfl
theorem loopB_stop {p : Nat → Int → Bool} {s : ByteArray} {k : Nat} (hk : k < s.size) (h : p k (byteZ s k) = false) : loopB p s s.size = false :=
  loopB_mono (k := k + 1) (by rw [loopB_succ, h]; simp) (by omega)

/-- The byte at place k of a symbol, of a variable. -/
def symOk (k : Nat) (b : Int) : Bool := (k != 0 || lowB b) && (smallB b || b == 95)
def varOk (k : Nat) (b : Int) : Bool := (k != 0 || uppB b) && (k == 0 || smallB b)
def words : List (List UInt8) := [[116, 114, 117, 101], [102, 97, 108, 115, 101], [116, 114, 117, 116, 104], [98, 111, 116, 104], [101, 105, 116, 104, 101, 114], [105, 102], [97, 108, 108], [115, 111, 109, 101]]
def resB (s : ByteArray) : Bool := anyB (fun k => s.toList == words.getD k []) 8
def symB (s : ByteArray) : Bool := loopB symOk s s.size && inB s.size 1 6 && !resB s
def varB (s : ByteArray) : Bool := loopB varOk s s.size && inB s.size 1 4

set_option maxHeartbeats 1000000 in
theorem isVariable_any (s : ByteArray) (w : World) (hs : s.size ≤ 9223372036854775807) : Calls Try.prog 107 #[.string s] w (Same w (.bool (varB s))) := by
  go_enter Try.func107, Try.ntmps107
  go_wp2
  go_loopw [6] (fun i wr => Cnt w s.size (fun k => loopB varOk s k = true) i wr) (fun i _ => s.size - (intOf i).toNat)
  case atStart => exact ⟨0, Nat.zero_le _, rfl, rfl, rfl⟩
  case round =>
    obtain ⟨k, hk, rfl, hok, rfl⟩ := hrel
    have Hok := Lib.hid hok
    clear hok
    by_cases hlt : k < s.size
    · have Hb := Lib.hid (byteZ_get hlt)
      rcases Nat.eq_zero_or_pos k with rfl | hpos
      all_goals
        go_wp2_with (first
          | (go_at_call 135; refine (isLower_any _ _).mono ?_; rintro e w' ⟨rfl, rfl⟩)
          | (go_at_call 142; refine (isUpper_any _ _).mono ?_; rintro e w' ⟨rfl, rfl⟩)
          | (go_at_call 136; refine (isDigit_any _ _).mono ?_; rintro e w' ⟨rfl, rfl⟩))
        all_goals first
          | (go_ret
             refine Same.mk' _ ?_
             unfold varB
             rw [loopB_stop hlt (by rw [← Hb.out]; simp_all [varOk, smallB] <;> omega)]
             rfl)
          | (go_roundw
             case rel => exact ⟨_, hlt, by go_num, loopB_next Hok.out (by rw [← Hb.out]; simp_all [varOk, smallB] <;> omega), rfl⟩
             case measure => first | exact intOf_lt hlt | (simp [intOf]; omega))
    · obtain rfl : k = s.size := by omega
      go_wp2_with (first
        | (go_at_call 50; refine (within_any _ _ _ _).mono ?_; rintro e w' ⟨rfl, rfl⟩))
      go_ret
      exact Same.mk' _ (by unfold varB; rw [Hok.out]; rfl)
end Go.Proofs.Ytpbakldlhjdipaa
