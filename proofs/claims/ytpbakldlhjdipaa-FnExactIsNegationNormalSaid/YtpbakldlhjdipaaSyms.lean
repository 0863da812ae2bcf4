/-
  This text proves what the functions on symbols compute, the program's and the reference's. Condition: a name has at most the greatest length.
-/
import Derived.Test.YtpbakldlhjdipaaNames
set_option maxRecDepth 100000
set_option linter.unusedSimpArgs false
set_option linter.unusedVariables false
namespace Go.Proofs.Ytpbakldlhjdipaa
open Go.RowKit

set_option maxHeartbeats 1000000 in
theorem indexS_any (b n c : Nat) (f : Nat → ByteArray) (x : ByteArray) (w : World) (hn : n ≤ 9223372036854775807)
   (hc : ∀ k, k < n → w.cell? ⟨b, k, none⟩ = some (.string (f k))) : Calls Try.prog 160 #[.slice (some ⟨b, 0, none⟩) n c, .string x] w (Same w (.int .i64 (idxZ (fun k => x.toList == (f k).toList) n))) := by
  go_enter Try.func160, Try.ntmps160
  go_wp2
  go_loopw [8] (fun i wr => Cnt w n (fun k => ∀ j, j < k → (x.toList == (f j).toList) = false) i wr) (fun i _ => n - (intOf i).toNat)
  case atStart => exact ⟨0, Nat.zero_le _, rfl, fun j hj => absurd hj (by omega), rfl⟩
  case round =>
    obtain ⟨k, hk, rfl, hok, rfl⟩ := hrel
    have Hok := Lib.hid hok
    clear hok
    by_cases hlt : k < n
    · have hck := hc k (by omega)
      go_wp2_with fail
      · go_ret
        exact Same.mk' _ (by rw [idxZ_hit hlt Hok.out (by assumption)]; rfl)
      · go_roundw
        case rel => exact ⟨_, hlt, by go_num, all_lt_succ Hok.out (by assumption), rfl⟩
        case measure => exact intOf_lt hlt
    · obtain rfl : k = n := by omega
      go_wp2_with fail
      go_ret
      exact Same.mk' _ (by rw [idxZ_miss Hok.out]; rfl)

theorem containsS_any (b n c : Nat) (f : Nat → ByteArray) (x : ByteArray) (w : World) (hn : n ≤ 9223372036854775807)
   (hc : ∀ k, k < n → w.cell? ⟨b, k, none⟩ = some (.string (f k))) : Calls Try.prog 137 #[.slice (some ⟨b, 0, none⟩) n c, .string x] w (Same w (.bool (anyB (fun k => x.toList == (f k).toList) n))) := by
  have Hc := Lib.hid hc
  clear hc
  go_enter Try.func137, Try.ntmps137
  go_wp2_with (first
    | (go_at_call 160; refine (indexS_any _ _ _ f _ _ hn Hc.out).mono ?_; rintro e w' ⟨rfl, rfl⟩))
  go_ret
  exact Same.mk' _ (by rw [← idxZ_ge]; rfl)

theorem reserved_any (w : World) : Calls Try.prog 138 #[] w fun e w' => e = .returned (.slice (some ⟨w.heap.size, 0, none⟩) 8 8) ∧ w' = w.alloc (.cells ((words.map fun l => Value.string ⟨l.toArray⟩).toArray) 9) := by
  go_enter Try.func138, Try.ntmps138
  go_wp2
  go_ret
  exact ⟨rfl, rfl⟩

theorem words_cells (w : World) : ∀ k, k < 8 → (w.alloc (.cells ((words.map fun l => Value.string ⟨l.toArray⟩).toArray) 9)).cell? ⟨w.heap.size, k, none⟩ = some (.string ⟨(words.getD k []).toArray⟩) := by
  intro k hk
  have hh : (w.alloc (.cells ((words.map fun l => Value.string ⟨l.toArray⟩).toArray) 9)).heap[w.heap.size]? = some (.cells ((words.map fun l => Value.string ⟨l.toArray⟩).toArray) 9) := heap_alloc_new w _
  unfold World.cell?
  rw [hh]
  match k, hk with
  | 0, _ => rfl
  | 1, _ => rfl
  | 2, _ => rfl
  | 3, _ => rfl
  | 4, _ => rfl
  | 5, _ => rfl
  | 6, _ => rfl
  | 7, _ => rfl

set_option maxHeartbeats 1000000 in
theorem isSymbol_any (s : ByteArray) (w : World) (hs : s.size ≤ 9223372036854775807) : Calls Try.prog 96 #[.string s] w (Ret w (.bool (symB s))) := by
  go_enter Try.func96, Try.ntmps96
  go_wp2
  go_loopw [6] (fun i wr => Cnt w s.size (fun k => loopB symOk s k = true) i wr) (fun i _ => s.size - (intOf i).toNat)
  case atStart => exact ⟨0, Nat.zero_le _, rfl, rfl, rfl⟩
  case round =>
    obtain ⟨k, hk, rfl, hok, rfl⟩ := hrel
    have Hok := Lib.hid hok
    clear hok
    by_cases hlt : k < s.size
    · have Hb := Lib.hid (byteZ_get hlt)
      rcases Nat.eq_zero_or_pos k with rfl | hpos
      all_goals
        go_wp2_with (first
          | (go_at_call 135; refine (isLower_any _ _).mono ?_; rintro e w' ⟨rfl, rfl⟩)
          | (go_at_call 136; refine (isDigit_any _ _).mono ?_; rintro e w' ⟨rfl, rfl⟩))
        all_goals first
          | (go_ret
             refine Ret.same _ ?_
             unfold symB
             rw [loopB_stop hlt (by rw [← Hb.out]; simp_all [symOk, smallB] <;> omega)]
             rfl)
          | (go_roundw
             case rel => exact ⟨_, hlt, by go_num, loopB_next Hok.out (by rw [← Hb.out]; simp_all [symOk, smallB] <;> omega), rfl⟩
             case measure => first | exact intOf_lt hlt | (simp [intOf]; omega))
    · obtain rfl : k = s.size := by omega
      cases hin : inB s.size 1 6
      · go_wp2_with (first
          | (go_at_call 50; refine (within_any _ _ _ _).mono ?_; rintro e w' ⟨rfl, rfl⟩))
        go_ret
        exact Ret.same _ (by unfold symB; rw [hin]; simp)
      · go_wp2_with (first
          | (go_at_call 50; refine (within_any _ _ _ _).mono ?_; rintro e w' ⟨rfl, rfl⟩)
          | (go_at_call 138; refine (reserved_any _).mono ?_; rintro e w' ⟨rfl, rfl⟩)
          | (go_at_call 137; refine (containsS_any _ _ _ (fun k => ⟨(words.getD k []).toArray⟩) _ _ (by omega) (words_cells w)).mono ?_; rintro e w' ⟨rfl, rfl⟩))
        go_ret
        refine Ret.bel ?_ ((Below.refl _ _).alloc (Nat.le_refl _) _)
        unfold symB resB
        rw [hin, Hok.out]
        simp
end Go.Proofs.Ytpbakldlhjdipaa
