/-
  This text proves what the reference's functions on names compute. Condition: a name has at most the greatest length.
-/
import Derived.Test.YtpbakldlhjdipaaSyms
set_option maxRecDepth 100000
set_option linter.unusedSimpArgs false
set_option linter.unusedVariables false
namespace Go.Proofs.Ytpbakldlhjdipaa
open Go.RowKit

theorem loopB_false_of {p : Nat → Int → Bool} {s : ByteArray} {k : Nat} (hk : k < s.size) (h : p k (byteZ s k) = false) : loopB p s s.size = false := loopB_stop hk h

set_option maxHeartbeats 1000000 in
theorem l2Var_any (s : ByteArray) (w : World) (hs : s.size ≤ 9223372036854775807) : Calls Try.prog 141 #[.string s] w (Same w (.bool (varB s))) := by
  cases hin : inB s.size 1 4
  · go_enter Try.func141, Try.ntmps141
    go_wp2_with (first
      | (go_at_call 46; refine (l1In_any _ _ _ _).mono ?_; rintro e w' ⟨rfl, rfl⟩))
    go_ret
    exact Same.mk' _ (by unfold varB; rw [hin]; simp)
  · have hpos : 0 < s.size := by simp [inB] at hin; omega
    have Hb := Lib.hid (byteZ_get hpos)
    go_enter Try.func141, Try.ntmps141
    go_wp2_with (first
      | (go_at_call 46; refine (l1In_any _ _ _ _).mono ?_; rintro e w' ⟨rfl, rfl⟩))
    all_goals first
      | (go_ret
         refine Same.mk' _ ?_
         unfold varB
         rw [loopB_stop hpos (by rw [← Hb.out]; simp [varOk, uppB]; omega)]
         rfl)
      | skip
    · go_loopw [3] (fun i wr => Cnt w s.size (fun k => 1 ≤ k ∧ loopB varOk s k = true) i wr) (fun i _ => s.size - (intOf i).toNat)
      case atStart => exact ⟨1, hpos, rfl, ⟨Nat.le_refl _, by rw [loopB_succ, ← Hb.out]; simp [loopB, varOk, uppB]; omega⟩, rfl⟩
      case round =>
        obtain ⟨k, hk, rfl, ⟨hk1, hok⟩, rfl⟩ := hrel
        have Hok := Lib.hid hok
        clear hok
        by_cases hlt : k < s.size
        · have Hbk := Lib.hid (byteZ_get hlt)
          have hk0 : k ≠ 0 := by omega
          go_wp2_with (first
            | (go_at_call 134; refine (l2Small_any _ _).mono ?_; rintro e w' ⟨rfl, rfl⟩))
          all_goals first
            | (go_ret
               refine Same.mk' _ ?_
               unfold varB
               rw [loopB_stop hlt (by rw [← Hbk.out]; simp_all [varOk] <;> omega)]
               rfl)
            | (go_roundw
               case rel => exact ⟨_, hlt, by go_num, ⟨by omega, loopB_next Hok.out (by rw [← Hbk.out]; simp_all [varOk] <;> omega)⟩, rfl⟩
               case measure => first | exact intOf_lt hlt | (simp [intOf]; omega))
        · obtain rfl : k = s.size := by omega
          go_wp2_with fail
          go_ret
          exact Same.mk' _ (by unfold varB; rw [Hok.out, hin]; rfl)

theorem resB_eq (s : ByteArray) : resB s = (s.toList == [116, 114, 117, 101] || s.toList == [102, 97, 108, 115, 101] || s.toList == [116, 114, 117, 116, 104] || s.toList == [98, 111, 116, 104] || s.toList == [101, 105, 116, 104, 101, 114] || s.toList == [105, 102] || s.toList == [97, 108, 108] || s.toList == [115, 111, 109, 101]) := by
  unfold resB anyB words
  simp [List.range, List.range.loop, Bool.or_assoc]

set_option maxHeartbeats 2000000 in
theorem l2Symbol_any (s : ByteArray) (w : World) (hs : s.size ≤ 9223372036854775807) : Calls Try.prog 93 #[.string s] w (Same w (.bool (symB s))) := by
  cases hin : inB s.size 1 6
  · go_enter Try.func93, Try.ntmps93
    go_wp2_with (first
      | (go_at_call 46; refine (l1In_any _ _ _ _).mono ?_; rintro e w' ⟨rfl, rfl⟩))
    go_ret
    exact Same.mk' _ (by unfold symB; rw [hin]; simp)
  · have hpos : 0 < s.size := by simp [inB] at hin; omega
    have Hb := Lib.hid (byteZ_get hpos)
    cases hres : resB s
    case true =>
      have Hres := Lib.hid hres
      rw [resB_eq] at hres
      go_enter Try.func93, Try.ntmps93
      go_wp2_with (first
        | (go_at_call 46; refine (l1In_any _ _ _ _).mono ?_; rintro e w' ⟨rfl, rfl⟩))
      all_goals first
        | (go_ret
           refine Same.mk' _ ?_
           unfold symB
           rw [Hres.out]; simp)
        | (exfalso; simp_all; done)
    have Hres := Lib.hid hres
    rw [resB_eq] at hres
    simp only [Bool.or_eq_false_iff] at hres
    obtain ⟨⟨⟨⟨⟨⟨⟨e1, e2⟩, e3⟩, e4⟩, e5⟩, e6⟩, e7⟩, e8⟩ := hres
    go_enter Try.func93, Try.ntmps93
    go_wp2_with (first
      | (go_at_call 46; refine (l1In_any _ _ _ _).mono ?_; rintro e w' ⟨rfl, rfl⟩))
    all_goals first
      | (go_ret
         refine Same.mk' _ ?_
         unfold symB
         rw [loopB_stop hpos (by rw [← Hb.out]; simp [symOk, lowB]; omega)]; rfl)
      | skip
    go_loopw [3] (fun i wr => Cnt w s.size (fun k => 1 ≤ k ∧ loopB symOk s k = true) i wr) (fun i _ => s.size - (intOf i).toNat)
    case atStart => exact ⟨1, hpos, rfl, ⟨Nat.le_refl _, by rw [loopB_succ, ← Hb.out]; simp [loopB, symOk, smallB, lowB]; omega⟩, rfl⟩
    case round =>
      obtain ⟨k, hk, rfl, ⟨hk1, hok⟩, rfl⟩ := hrel
      have Hok := Lib.hid hok
      clear hok
      by_cases hlt : k < s.size
      · have Hbk := Lib.hid (byteZ_get hlt)
        have hk0 : k ≠ 0 := by omega
        go_wp2_with (first
          | (go_at_call 134; refine (l2Small_any _ _).mono ?_; rintro e w' ⟨rfl, rfl⟩))
        all_goals first
          | (go_ret
             refine Same.mk' _ ?_
             unfold symB
             rw [loopB_stop hlt (by rw [← Hbk.out]; simp_all [symOk] <;> omega)]
             rfl)
          | (go_roundw
             case rel => exact ⟨_, hlt, by go_num, ⟨by omega, loopB_next Hok.out (by rw [← Hbk.out]; simp_all [symOk] <;> omega)⟩, rfl⟩
             case measure => first | exact intOf_lt hlt | (simp [intOf]; omega))
      · obtain rfl : k = s.size := by omega
        go_wp2_with fail
        go_ret
        exact Same.mk' _ (by unfold symB; rw [Hok.out, hin, Hres.out]; rfl)
end Go.Proofs.Ytpbakldlhjdipaa
