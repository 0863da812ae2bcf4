/-
  This text proves what the comparisons of strings, of numbers and of tables compute. No condition.
-/
import Derived.Test.YtpbakldlhjdipaaTabs3
import Derived.Test.YtpbakldlhjdipaaSyms2
set_option maxRecDepth 100000
set_option linter.unusedSimpArgs false
set_option linter.unusedVariables false
namespace Go.Proofs.Ytpbakldlhjdipaa
open Go.RowKit

theorem less_irrefl : ∀ x : List UInt8, Op.bytesLess x x = false
  | [] => rfl
  | a :: x => by simp [Op.bytesLess, less_irrefl x]
theorem less_asymm : ∀ x y : List UInt8, Op.bytesLess x y = true → Op.bytesLess y x = false
  | [], [], h => by simp [Op.bytesLess] at h
  | [], _ :: _, _ => rfl
  | _ :: _, [], h => by simp [Op.bytesLess] at h
  | a :: x, b :: y, h => by
    simp only [Op.bytesLess, Bool.or_eq_true, decide_eq_true_eq, Bool.and_eq_true, beq_iff_eq] at h
    simp only [Op.bytesLess, Bool.or_eq_false_iff, decide_eq_false_iff_not]
    rcases h with h | ⟨rfl, h⟩
    · have h2 : ¬ b < a := by intro h3; exact absurd (UInt8.lt_trans h h3) (UInt8.lt_irrefl _)
      have h3 : (b == a) = false := by
        rw [beq_eq_false_iff_ne]; rintro rfl; exact UInt8.lt_irrefl _ h
      exact ⟨h2, by rw [h3]; rfl⟩
    · exact ⟨UInt8.lt_irrefl _, by rw [less_asymm x y h]; simp⟩
theorem less_total : ∀ x y : List UInt8, Op.bytesLess x y = false → Op.bytesLess y x = false → x = y
  | [], [], _, _ => rfl
  | [], _ :: _, h, _ => by simp [Op.bytesLess] at h
  | _ :: _, [], _, h => by simp [Op.bytesLess] at h
  | a :: x, b :: y, h, k => by
    simp only [Op.bytesLess, Bool.or_eq_false_iff, decide_eq_false_iff_not] at h k
    have hab : a = b := by
      have h1 := h.1; have h2 := k.1
      rw [UInt8.lt_iff_toNat_lt] at h1 h2
      exact UInt8.toNat_inj.1 (by omega)
    subst hab
    have h1 : Op.bytesLess x y = false := by simpa using h.2
    have h2 : Op.bytesLess y x = false := by simpa using k.2
    rw [less_total x y h1 h2]

/-- Comparing two byte strings, two numbers. -/
def cmpS (x y : List UInt8) : Int := if Op.bytesLess x y then -1 else if x == y then 0 else 1
def cmpI (x y : Int) : Int := if x < y then -1 else if y < x then 1 else 0
def orZ (x y : Int) : Int := if x = 0 then y else x

theorem isNaN_string (x : ByteArray) (w : World) : Calls Try.prog 152 #[.string x] w (Same w (.bool false)) := by
  go_enter Try.func152, Try.ntmps152
  go_wp2
  go_ret
  exact Same.mk' _ (by simp)

theorem isNaN_int (x : Int) (w : World) : Calls Try.prog 153 #[.int .i64 x] w (Same w (.bool false)) := by
  go_enter Try.func153, Try.ntmps153
  go_wp2
  go_ret
  exact Same.mk' _ (by simp)

set_option maxHeartbeats 400000 in
theorem compareS_any (x y : ByteArray) (w : World) : Calls Try.prog 123 #[.string x, .string y] w (Same w (.int .i64 (cmpS x.toList y.toList))) := by
  cases h1 : Op.bytesLess x.toList y.toList
  · cases h2 : (x.toList == y.toList)
    all_goals
      go_enter Try.func123, Try.ntmps123
      go_wp2_with (first
        | (go_at_call 152; refine (isNaN_string _ _).mono ?_; rintro e w' ⟨rfl, rfl⟩))
      go_ret
      exact Same.mk' _ (by unfold cmpS; rw [h1, h2]; rfl)
  · go_enter Try.func123, Try.ntmps123
    go_wp2_with (first
      | (go_at_call 152; refine (isNaN_string _ _).mono ?_; rintro e w' ⟨rfl, rfl⟩))
    go_ret
    exact Same.mk' _ (by unfold cmpS; rw [h1]; rfl)

set_option maxHeartbeats 400000 in
theorem compareI_any (x y : Int) (w : World) : Calls Try.prog 124 #[.int .i64 x, .int .i64 y] w (Same w (.int .i64 (cmpI x y))) := by
  rcases Int.lt_trichotomy x y with h | h | h
  all_goals
    go_enter Try.func124, Try.ntmps124
    go_wp2_with (first
      | (go_at_call 153; refine (isNaN_int _ _).mono ?_; rintro e w' ⟨rfl, rfl⟩))
    go_ret
    refine Same.mk' _ ?_
    unfold cmpI
  · rw [if_pos h]; rfl
  · rw [if_neg (by omega), if_neg (by omega)]; rfl
  · rw [if_neg (by omega), if_pos h]; rfl

set_option maxHeartbeats 400000 in
theorem or2_any (b : Nat) (x y : Int) (w : World) (h0 : w.cell? ⟨b, 0, none⟩ = some (.int .i64 x)) (h1 : w.cell? ⟨b, 1, none⟩ = some (.int .i64 y)) :
    Calls Try.prog 122 #[.slice (some ⟨b, 0, none⟩) 2 2] w (Same w (.int .i64 (orZ x y))) := by
  go_enter Try.func122, Try.ntmps122
  go_wp2
  go_loopw [8] (fun i wr => Cnt w 2 (fun k => 1 ≤ k → x = 0 ∧ (2 ≤ k → y = 0)) i wr) (fun i _ => 2 - (intOf i).toNat)
  case atStart => exact ⟨0, by omega, rfl, fun h => absurd h (by omega), rfl⟩
  case round =>
    obtain ⟨k, hk, rfl, hok, rfl⟩ := hrel
    have Hok := Lib.hid hok
    clear hok
    have hk3 : k = 0 ∨ k = 1 ∨ k = 2 := by omega
    rcases hk3 with rfl | rfl | rfl
    · by_cases hx : x = 0
      · subst hx
        go_wp2
        go_roundw
        case rel => exact ⟨1, by omega, by go_num, by simp, rfl⟩
        case measure => simp [intOf]
      · have hx' : (x != 0) = true := by simpa using hx
        go_wp2
        go_ret
        exact Same.mk' _ (by unfold orZ; rw [if_neg hx]; rfl)
    · obtain rfl : x = 0 := (Hok.out (by omega)).1
      by_cases hy : y = 0
      · subst hy
        go_wp2
        go_roundw
        case rel => exact ⟨2, by omega, by go_num, by simp, rfl⟩
        case measure => simp [intOf]
      · have hy' : (y != 0) = true := by simpa using hy
        go_wp2
        go_ret
        exact Same.mk' _ (by unfold orZ; simp)
    · obtain ⟨rfl, h⟩ := Hok.out (by omega)
      obtain rfl := h (by omega)
      go_wp2
      go_ret
      exact Same.mk' _ (by unfold orZ; simp)

/-- Comparing two tables. -/
def cmpT (a b : Tb) : Int := orZ (cmpS a.name.toList b.name.toList) (cmpI a.arity b.arity)

set_option maxHeartbeats 1000000 in
theorem compareTables_any (a b : Tb) (s s' : Value) (w : World) (hs : ∃ x n c, s = .slice x n c) (hs' : ∃ x n c, s' = .slice x n c) :
    Calls Try.prog 97 #[.agg #[.string a.name, .int .i64 a.arity, .bool a.pred, s], .agg #[.string b.name, .int .i64 b.arity, .bool b.pred, s']] w (Ret w (.int .i64 (cmpT a b))) := by
  obtain ⟨x, n, c, rfl⟩ := hs
  obtain ⟨x', n', c', rfl⟩ := hs'
  go_enter Try.func97, Try.ntmps97
  go_wp2
  refine Flow.wp_region_flow 10 [(4, .fixed (.int .i64 (cmpS a.name.toList b.name.toList))), (9, .fixed (.int .i64 (cmpI a.arity b.arity)))] [] (by kernel_rfl) (by kernel_rfl) (exact_stable rfl) ?_
  intro hgrow
  simp only [List.take_succ_cons, List.take_zero]
  repeat (first | ((with_reducible refine Flow.flow_quiet ?_ ?_ ?_); (focus (exact rfl)); (focus (exact rfl)); intro K hK; go_simp; refine hK _ ?_; clear hK K) | ((with_reducible refine Flow.flow_pass ?_); intro K hK; go_simp; (first | refine hK _ ?_ | (refine ⟨?_, hK _ ?_⟩; (focus (simp [undef]; done)))); clear hK K))
  refine Flow.flow_exact _ rfl (by go_simp) (fun W hW => flow_ret (by go_simp) (Same.ret (compareS_any _ _ _))) ?_
  repeat (first | ((with_reducible refine Flow.flow_quiet ?_ ?_ ?_); (focus (exact rfl)); (focus (exact rfl)); intro K hK; go_simp; refine hK _ ?_; clear hK K) | ((with_reducible refine Flow.flow_pass ?_); intro K hK; go_simp; (first | refine hK _ ?_ | (refine ⟨?_, hK _ ?_⟩; (focus (simp [undef]; done)))); clear hK K))
  refine Flow.flow_exact _ rfl (by go_simp) (fun W hW => flow_ret (by go_simp) (Same.ret (compareI_any _ _ _))) ?_
  repeat (first | ((with_reducible refine Flow.flow_quiet ?_ ?_ ?_); (focus (exact rfl)); (focus (exact rfl)); intro K hK; go_simp; refine hK _ ?_; clear hK K) | ((with_reducible refine Flow.flow_pass ?_); intro K hK; go_simp; (first | refine hK _ ?_ | (refine ⟨?_, hK _ ?_⟩; (focus (simp [undef]; done)))); clear hK K))
  with_reducible refine Flow.flow_nil ?_
  clear hgrow
  intro W hW _
  have hzW := hW.size
  try simp at hzW
  obtain ⟨hcW, hfW⟩ := bcell hW
  simp only [List.drop_succ_cons, List.drop_zero, List.drop_nil]
  go_wp2_with (first
    | (go_at_call 122; refine (or2_any _ (cmpS a.name.toList b.name.toList) (cmpI a.arity b.arity) _ (by simp [World.cell?_alloc_at]) (by simp [World.cell?_alloc_at])).mono ?_; rintro e w' ⟨rfl, rfl⟩))
  go_ret
  exact Ret.bel rfl (by (repeat' first | (with_reducible exact Below.refl _ _) | (with_reducible refine Below.setCell ?_ ?_ _) | (with_reducible refine Below.alloc ?_ ?_ _) | (with_reducible refine Below.drewN' ?_ _) | (with_reducible refine Below.via ?_ (by assumption) ?_) | (with_reducible exact Nat.le_refl _) | (simp; done) | (simp; omega) | omega))
end Go.Proofs.Ytpbakldlhjdipaa
