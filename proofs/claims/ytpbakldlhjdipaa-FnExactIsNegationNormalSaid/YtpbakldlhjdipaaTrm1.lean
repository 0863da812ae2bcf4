/-
  This text proves what the sizes and depths of terms are, in both packages. Condition: fewer than 2^40 nodes.
-/
import Derived.Test.YtpbakldlhjdipaaTm
set_option maxRecDepth 100000
set_option linter.unusedSimpArgs false
set_option linter.unusedVariables false
namespace Go.Proofs.Ytpbakldlhjdipaa
open Go.RowKit

mutual
def Tm.nodes : Tm → Nat
  | .mk _ args => 1 + Tm.nodeS args
def Tm.nodeS : List Tm → Nat
  | [] => 0
  | x :: xs => Tm.nodes x + Tm.nodeS xs
end
theorem Tm.nodes_eq (x : Tm) : x.nodes = 1 + Tm.nodeS x.args := by
  obtain ⟨name, args⟩ := x
  rw [Tm.nodes]; rfl
theorem Tm.nodes_pos (x : Tm) : 1 ≤ x.nodes := by rw [Tm.nodes_eq]; omega
theorem Tm.nodes_le : ∀ (xs : List Tm) (k : Nat) (h : k < xs.length), xs[k].nodes ≤ Tm.nodeS xs
  | [], k, h => absurd h (by simp)
  | x :: xs, 0, _ => by rw [Tm.nodeS]; simp
  | x :: xs, k + 1, h => by
    have := Tm.nodes_le xs k (by simpa using h)
    rw [Tm.nodeS]; simp only [List.getElem_cons_succ]; omega
theorem Tm.nodeS_take : ∀ (xs : List Tm) (k : Nat) (h : k < xs.length), Tm.nodeS (xs.take (k + 1)) = Tm.nodeS (xs.take k) + xs[k].nodes
  | [], k, h => absurd h (by simp)
  | x :: xs, 0, _ => by simp [Tm.nodeS]
  | x :: xs, k + 1, h => by
    have := Tm.nodeS_take xs k (by simpa using h)
    simp only [List.take_succ_cons, Tm.nodeS, List.getElem_cons_succ, this]; omega
theorem Tm.nodeS_take_le (xs : List Tm) (k : Nat) : Tm.nodeS (xs.take k) ≤ Tm.nodeS xs := by
  induction xs generalizing k with
  | nil => simp [Tm.nodeS]
  | cons x xs ih =>
    cases k with
    | zero => simp [Tm.nodeS]
    | succ k => simp only [List.take_succ_cons, Tm.nodeS]; have := ih k; omega
/-- The number, or a greater one than the greatest. -/
def Capped (most : Int) (n : Nat) (w : World) (e : Ending) (w' : World) : Prop := ∃ z : Int, e = .returned (.int .i64 z) ∧ Below w.heap.size w w' ∧ 1 ≤ z ∧ z ≤ n ∧ (z ≤ most → z = n)
theorem Capped.mk' {most : Int} {n : Nat} {w w' : World} {z : Int} (hb : Below w.heap.size w w') (h1 : 1 ≤ z) (h2 : z ≤ n) (h3 : z ≤ most → z = n) : Capped most n w (.returned (.int .i64 z)) w' := ⟨z, rfl, hb, h1, h2, h3⟩

def SizeC (x : Tm) : Prop := ∀ (s0 : Value) (w : World), x.nodes ≤ 1099511627776 → Tm.At w x s0 → Calls Try.prog 62 #[.agg #[.string x.name, s0]] w (Capped 30 x.nodes w)
set_option maxHeartbeats 1000000 in
theorem size_of (x : Tm) (helem : ∀ y ∈ x.args, SizeC y) : SizeC x := by
  intro s0 w hn hx
  obtain ⟨bn, gs⟩ := hx
  obtain ⟨a, cap, rfl, hnc, hcap⟩ := gs.form_
  have HS := Lib.hid gs
  have HE := Lib.hid helem
  rw [Tm.nodes_eq] at hn
  have HN := Lib.hid (Tm.nodes_eq x)
  clear helem gs
  go_enter Try.func62, Try.ntmps62
  go_wp2
  go_loopw [3, 9] (fun l i wr => ∃ z : Int, l = .int .i64 z ∧ 1 ≤ z ∧ z ≤ 1 + Tm.nodeS x.args ∧ CntB w x.args.length (fun k _ => z ≤ 30 → z = 1 + Tm.nodeS (x.args.take k)) i wr) (fun _ i _ => x.args.length - (intOf i).toNat)
  case atStart => exact ⟨_, rfl, by omega, by omega, 0, Nat.zero_le _, rfl, by simp [Tm.nodeS], by repeat' first | exact Below.refl _ _ | refine Below.alloc ?_ (Nat.le_refl _) _⟩
  case round =>
    obtain ⟨z, rfl, hz0, hz1, k, hk, rfl, hok, hbw⟩ := hrel
    have hzw := hbw.size
    have Hok := Lib.hid hok
    clear hok
    by_cases hlt : k < x.args.length
    · obtain ⟨b, off, y, ny, cy, rfl, hbl, c0, c1, hE⟩ := (TmsAt.keep HS.out hbw).elem hlt
      have HT := Lib.hid (Tm.nodeS_take x.args k hlt)
      have HU := Lib.hid (Tm.nodeS_take_le x.args (k + 1))
      have HD := Lib.hid hE
      clear hE
      by_cases hm : 30 < z
      · go_wp2_with fail
        go_ret
        refine Capped.mk' (by (repeat' first | (with_reducible exact Below.refl _ _) | (with_reducible refine Below.setCell ?_ ?_ _) | (with_reducible refine Below.alloc ?_ ?_ _) | (with_reducible refine Below.drewN' ?_ _) | (with_reducible refine Below.via ?_ (by assumption) ?_) | (with_reducible exact Nat.le_refl _) | (simp; done) | (simp; omega) | omega)) hz0 (by rw [HN.out]; omega) (by omega)
      · go_wp2_with fail
        refine (HE.out x.args[k] (List.getElem_mem hlt) _ _ (by have := Tm.nodes_le x.args k hlt; omega) (HD.out.keep (by (repeat' first | (with_reducible exact Below.refl _ _) | (with_reducible refine Below.setCell ?_ ?_ _) | (with_reducible refine Below.alloc ?_ ?_ _) | (with_reducible refine Below.drewN' ?_ _) | (with_reducible refine Below.via ?_ (by assumption) ?_) | (with_reducible exact Nat.le_refl _) | (simp; done) | (simp; omega) | omega)))).mono ?_
        rintro e w1 ⟨z1, rfl, hb1, p1, p2, p3⟩
        have P3 := Lib.hid p3
        clear p3
        have hN1 : z + z1 ≤ 1 + Tm.nodeS x.args := by have := Hok.out; have := HT.out; have := HU.out; omega
        have HH := Lib.hid hN1
        have hN2 : z + z1 ≤ 1099511627776 := by omega
        clear hN1
        go_wp2_with fail
        go_roundw
        case rel => exact ⟨_, rfl, by omega, HH.out, k + 1, hlt, by go_num, by intro hc; have := Hok.out; have := HT.out; have := P3.out (by omega); omega, (by (repeat' first | (with_reducible exact Below.refl _ _) | (with_reducible refine Below.setCell ?_ ?_ _) | (with_reducible refine Below.alloc ?_ ?_ _) | (with_reducible refine Below.drewN' ?_ _) | (with_reducible refine Below.via ?_ (by assumption) ?_) | (with_reducible exact Nat.le_refl _) | (simp; done) | (simp; omega) | omega))⟩
        case measure => exact intOf_lt hlt
    · obtain rfl : k = x.args.length := by omega
      go_wp2
      go_ret
      refine Capped.mk' (by (repeat' first | (with_reducible exact Below.refl _ _) | (with_reducible refine Below.setCell ?_ ?_ _) | (with_reducible refine Below.alloc ?_ ?_ _) | (with_reducible refine Below.drewN' ?_ _) | (with_reducible refine Below.via ?_ (by assumption) ?_) | (with_reducible exact Nat.le_refl _) | (simp; done) | (simp; omega) | omega)) hz0 (by rw [HN.out]; omega) (fun h => by rw [HN.out]; have := Hok.out h; rw [List.take_length] at this; omega)
theorem size_all (x : Tm) : SizeC x := size_of x fun y hy => size_all y
termination_by SizeOf.sizeOf x
decreasing_by exact Tm.lt_of_mem hy

def ManyC (x : Tm) : Prop := ∀ (s0 : Value) (most : Int) (w : World), 0 ≤ most → most ≤ 1099511627776 → x.nodes ≤ 1099511627776 → Tm.At w x s0 → Calls Try.prog 139 #[.agg #[.string x.name, s0], .int .i64 most] w (Capped most x.nodes w)
set_option maxHeartbeats 1000000 in
theorem many_of (x : Tm) (helem : ∀ y ∈ x.args, ManyC y) : ManyC x := by
  intro s0 most w hm0 hm1 hn hx
  obtain ⟨bn, gs⟩ := hx
  obtain ⟨a, cap, rfl, hnc, hcap⟩ := gs.form_
  have HS := Lib.hid gs
  have HE := Lib.hid helem
  rw [Tm.nodes_eq] at hn
  have HN := Lib.hid (Tm.nodes_eq x)
  clear helem gs
  go_enter Try.func139, Try.ntmps139
  go_wp2
  go_loopw [5, 6] (fun l i wr => ∃ z : Int, l = .int .i64 z ∧ 1 ≤ z ∧ z ≤ 1 + Tm.nodeS x.args ∧ CntB w x.args.length (fun k wr => (wr.cell? ⟨w.heap.size, 0, none⟩ = some (.string x.name) ∧ wr.cell? ⟨w.heap.size, 1, none⟩ = some (.slice a x.args.length cap)) ∧ w.heap.size < wr.heap.size ∧ (z ≤ most → z = 1 + Tm.nodeS (x.args.take k))) i wr) (fun _ i _ => x.args.length - (intOf i).toNat)
  case atStart => exact ⟨_, rfl, by omega, by omega, 0, Nat.zero_le _, rfl, ⟨by constructor <;> simp, by simp, by simp [Tm.nodeS]⟩, by repeat' first | exact Below.refl _ _ | refine Below.alloc ?_ (Nat.le_refl _) _⟩
  case round =>
    obtain ⟨z, rfl, hz0, hz1, k, hk, rfl, ⟨⟨q0, q1⟩, hwl, hok⟩, hbw⟩ := hrel
    have hzw := hbw.size
    have Hok := Lib.hid hok
    clear hok
    by_cases hlt : k < x.args.length
    · obtain ⟨b, off, y, ny, cy, rfl, hbl, c0, c1, hE⟩ := (TmsAt.keep HS.out hbw).elem hlt
      have HT := Lib.hid (Tm.nodeS_take x.args k hlt)
      have HU := Lib.hid (Tm.nodeS_take_le x.args (k + 1))
      have HD := Lib.hid hE
      clear hE
      by_cases hm : most < z
      · go_wp2_with fail
        go_ret
        refine Capped.mk' (by (repeat' first | (with_reducible exact Below.refl _ _) | (with_reducible refine Below.setCell ?_ ?_ _) | (with_reducible refine Below.alloc ?_ ?_ _) | (with_reducible refine Below.drewN' ?_ _) | (with_reducible refine Below.via ?_ (by assumption) ?_) | (with_reducible exact Nat.le_refl _) | (simp; done) | (simp; omega) | omega)) hz0 (by rw [HN.out]; omega) (by omega)
      · go_wp2_with fail
        refine (HE.out x.args[k] (List.getElem_mem hlt) _ (most - z) _ (by omega) (by omega) (by have := Tm.nodes_le x.args k hlt; omega) (HD.out.keep (by (repeat' first | (with_reducible exact Below.refl _ _) | (with_reducible refine Below.setCell ?_ ?_ _) | (with_reducible refine Below.alloc ?_ ?_ _) | (with_reducible refine Below.drewN' ?_ _) | (with_reducible refine Below.via ?_ (by assumption) ?_) | (with_reducible exact Nat.le_refl _) | (simp; done) | (simp; omega) | omega)))).mono ?_
        rintro e w1 ⟨z1, rfl, hb1, p1, p2, p3⟩
        have P3 := Lib.hid p3
        clear p3
        have hN1 : z + z1 ≤ 1 + Tm.nodeS x.args := by have := Hok.out; have := HT.out; have := HU.out; omega
        have HH := Lib.hid hN1
        have hN2 : z + z1 ≤ 1099511627776 := by omega
        clear hN1
        go_wp2_with fail
        go_roundw
        case rel => exact ⟨_, rfl, by omega, HH.out, k + 1, hlt, by go_num, ⟨⟨by rw [hb1.cell (by simpa using hwl)]; exact q0, by rw [hb1.cell (by simpa using hwl)]; exact q1⟩, by have := hb1.size; omega, by intro hc; have := Hok.out; have := HT.out; have := P3.out (by omega); omega⟩, (by (repeat' first | (with_reducible exact Below.refl _ _) | (with_reducible refine Below.setCell ?_ ?_ _) | (with_reducible refine Below.alloc ?_ ?_ _) | (with_reducible refine Below.drewN' ?_ _) | (with_reducible refine Below.via ?_ (by assumption) ?_) | (with_reducible exact Nat.le_refl _) | (simp; done) | (simp; omega) | omega))⟩
        case measure => exact intOf_lt hlt
    · obtain rfl : k = x.args.length := by omega
      go_wp2
      go_ret
      refine Capped.mk' (by (repeat' first | (with_reducible exact Below.refl _ _) | (with_reducible refine Below.setCell ?_ ?_ _) | (with_reducible refine Below.alloc ?_ ?_ _) | (with_reducible refine Below.drewN' ?_ _) | (with_reducible refine Below.via ?_ (by assumption) ?_) | (with_reducible exact Nat.le_refl _) | (simp; done) | (simp; omega) | omega)) hz0 (by rw [HN.out]; omega) (fun h => by rw [HN.out]; have := Hok.out h; rw [List.take_length] at this; omega)
theorem many_all (x : Tm) : ManyC x := many_of x fun y hy => many_all y
termination_by SizeOf.sizeOf x
decreasing_by exact Tm.lt_of_mem hy
end Go.Proofs.Ytpbakldlhjdipaa
