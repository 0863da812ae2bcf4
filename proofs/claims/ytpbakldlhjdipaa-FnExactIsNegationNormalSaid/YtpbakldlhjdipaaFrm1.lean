/-
  This text proves what the sizes of formulas are, in both packages. Condition: fewer than 2^40 nodes.
-/
import Derived.Test.YtpbakldlhjdipaaTrm1
set_option maxRecDepth 100000
set_option linter.unusedSimpArgs false
set_option linter.unusedVariables false
namespace Go.Proofs.Ytpbakldlhjdipaa
open Go.RowKit

mutual
def Fm.nodes : Fm → Nat
  | .mk _ _ _ parts => 1 + Fm.nodeS parts
def Fm.nodeS : List Fm → Nat
  | [] => 0
  | x :: xs => Fm.nodes x + Fm.nodeS xs
end
theorem Fm.nodes_eq (x : Fm) : x.nodes = 1 + Fm.nodeS x.parts := by
  obtain ⟨op, atom, var, parts⟩ := x
  rw [Fm.nodes]; rfl
theorem Fm.nodes_pos (x : Fm) : 1 ≤ x.nodes := by rw [Fm.nodes_eq]; omega
theorem Fm.nodes_le : ∀ (xs : List Fm) (k : Nat) (h : k < xs.length), xs[k].nodes ≤ Fm.nodeS xs
  | [], k, h => absurd h (by simp)
  | x :: xs, 0, _ => by rw [Fm.nodeS]; simp
  | x :: xs, k + 1, h => by
    have := Fm.nodes_le xs k (by simpa using h)
    rw [Fm.nodeS]; simp only [List.getElem_cons_succ]; omega
theorem Fm.nodeS_take : ∀ (xs : List Fm) (k : Nat) (h : k < xs.length), Fm.nodeS (xs.take (k + 1)) = Fm.nodeS (xs.take k) + xs[k].nodes
  | [], k, h => absurd h (by simp)
  | x :: xs, 0, _ => by simp [Fm.nodeS]
  | x :: xs, k + 1, h => by
    have := Fm.nodeS_take xs k (by simpa using h)
    simp only [List.take_succ_cons, Fm.nodeS, List.getElem_cons_succ, this]; omega
theorem Fm.nodeS_take_le (xs : List Fm) (k : Nat) : Fm.nodeS (xs.take k) ≤ Fm.nodeS xs := by
  induction xs generalizing k with
  | nil => simp [Fm.nodeS]
  | cons x xs ih =>
    cases k with
    | zero => simp [Fm.nodeS]
    | succ k => simp only [List.take_succ_cons, Fm.nodeS]; have := ih k; omega
def SizeF (x : Fm) : Prop := ∀ (s0 s1 : Value) (w : World), x.nodes ≤ 1099511627776 → Fm.At w x s0 s1 → Calls Try.prog 130 #[.agg #[.int .i64 x.op, .string x.atom.name, s0, .string x.var, s1]] w (Capped 40 x.nodes w)
set_option maxHeartbeats 1000000 in
theorem sizeF_of (x : Fm) (helem : ∀ y ∈ x.parts, SizeF y) : SizeF x := by
  intro s0 s1 w hn hx
  obtain ⟨bn, ga, bv, gs⟩ := hx
  obtain ⟨a0, n0, cap0, rfl⟩ := DAt.form ga
  clear ga
  obtain ⟨a, cap, rfl, hnc, hcap⟩ := gs.form_
  have HS := Lib.hid gs
  have HE := Lib.hid helem
  rw [Fm.nodes_eq] at hn
  have HN := Lib.hid (Fm.nodes_eq x)
  clear helem gs
  go_enter Try.func130, Try.ntmps130
  go_wp2
  go_loopw [3, 9] (fun l i wr => ∃ z : Int, l = .int .i64 z ∧ 1 ≤ z ∧ z ≤ 1 + Fm.nodeS x.parts ∧ CntB w x.parts.length (fun k _ => z ≤ 40 → z = 1 + Fm.nodeS (x.parts.take k)) i wr) (fun _ i _ => x.parts.length - (intOf i).toNat)
  case atStart => exact ⟨_, rfl, by omega, by omega, 0, Nat.zero_le _, rfl, by simp [Fm.nodeS], by repeat' first | exact Below.refl _ _ | refine Below.alloc ?_ (Nat.le_refl _) _⟩
  case round =>
    obtain ⟨z, rfl, hz0, hz1, k, hk, rfl, hok, hbw⟩ := hrel
    have hzw := hbw.size
    have Hok := Lib.hid hok
    clear hok
    by_cases hlt : k < x.parts.length
    · obtain ⟨b, off, y, ny, cy, y', ny', cy', rfl, hbl, c0, c1, c2, c3, c4, hE⟩ := (FmsAt.keep HS.out hbw).elem hlt
      have HT := Lib.hid (Fm.nodeS_take x.parts k hlt)
      have HU := Lib.hid (Fm.nodeS_take_le x.parts (k + 1))
      have HD := Lib.hid hE
      clear hE
      by_cases hm : 40 < z
      · go_wp2_with fail
        go_ret
        refine Capped.mk' (by (repeat' first | (with_reducible exact Below.refl _ _) | (with_reducible refine Below.setCell ?_ ?_ _) | (with_reducible refine Below.alloc ?_ ?_ _) | (with_reducible refine Below.drewN' ?_ _) | (with_reducible refine Below.via ?_ (by assumption) ?_) | (with_reducible exact Nat.le_refl _) | (simp; done) | (simp; omega) | omega)) hz0 (by rw [HN.out]; omega) (by omega)
      · go_wp2_with fail
        refine (HE.out x.parts[k] (List.getElem_mem hlt) _ _ _ (by have := Fm.nodes_le x.parts k hlt; omega) (HD.out.keep (by (repeat' first | (with_reducible exact Below.refl _ _) | (with_reducible refine Below.setCell ?_ ?_ _) | (with_reducible refine Below.alloc ?_ ?_ _) | (with_reducible refine Below.drewN' ?_ _) | (with_reducible refine Below.via ?_ (by assumption) ?_) | (with_reducible exact Nat.le_refl _) | (simp; done) | (simp; omega) | omega)))).mono ?_
        rintro e w1 ⟨z1, rfl, hb1, p1, p2, p3⟩
        have P3 := Lib.hid p3
        clear p3
        have hN1 : z + z1 ≤ 1 + Fm.nodeS x.parts := by have := Hok.out; have := HT.out; have := HU.out; omega
        have HH := Lib.hid hN1
        have hN2 : z + z1 ≤ 1099511627776 := by omega
        clear hN1
        go_wp2_with fail
        go_roundw
        case rel => exact ⟨_, rfl, by omega, HH.out, k + 1, hlt, by go_num, by intro hc; have := Hok.out; have := HT.out; have := P3.out (by omega); omega, (by (repeat' first | (with_reducible exact Below.refl _ _) | (with_reducible refine Below.setCell ?_ ?_ _) | (with_reducible refine Below.alloc ?_ ?_ _) | (with_reducible refine Below.drewN' ?_ _) | (with_reducible refine Below.via ?_ (by assumption) ?_) | (with_reducible exact Nat.le_refl _) | (simp; done) | (simp; omega) | omega))⟩
        case measure => exact intOf_lt hlt
    · obtain rfl : k = x.parts.length := by omega
      go_wp2
      go_ret
      refine Capped.mk' (by (repeat' first | (with_reducible exact Below.refl _ _) | (with_reducible refine Below.setCell ?_ ?_ _) | (with_reducible refine Below.alloc ?_ ?_ _) | (with_reducible refine Below.drewN' ?_ _) | (with_reducible refine Below.via ?_ (by assumption) ?_) | (with_reducible exact Nat.le_refl _) | (simp; done) | (simp; omega) | omega)) hz0 (by rw [HN.out]; omega) (fun h => by rw [HN.out]; have := Hok.out h; rw [List.take_length] at this; omega)
theorem sizeF_all (x : Fm) : SizeF x := sizeF_of x fun y hy => sizeF_all y
termination_by SizeOf.sizeOf x
decreasing_by exact Fm.lt_of_mem hy

def ManyF (x : Fm) : Prop := ∀ (s0 s1 : Value) (most : Int) (w : World), 0 ≤ most → most ≤ 1099511627776 → x.nodes ≤ 1099511627776 → Fm.At w x s0 s1 → Calls Try.prog 127 #[.agg #[.int .i64 x.op, .string x.atom.name, s0, .string x.var, s1], .int .i64 most] w (Capped most x.nodes w)
set_option maxHeartbeats 1000000 in
theorem manyF_of (x : Fm) (helem : ∀ y ∈ x.parts, ManyF y) : ManyF x := by
  intro s0 s1 most w hm0 hm1 hn hx
  obtain ⟨bn, ga, bv, gs⟩ := hx
  obtain ⟨a0, n0, cap0, rfl⟩ := DAt.form ga
  clear ga
  obtain ⟨a, cap, rfl, hnc, hcap⟩ := gs.form_
  have HS := Lib.hid gs
  have HE := Lib.hid helem
  rw [Fm.nodes_eq] at hn
  have HN := Lib.hid (Fm.nodes_eq x)
  clear helem gs
  go_enter Try.func127, Try.ntmps127
  go_wp2
  go_loopw [5, 6] (fun l i wr => ∃ z : Int, l = .int .i64 z ∧ 1 ≤ z ∧ z ≤ 1 + Fm.nodeS x.parts ∧ CntB w x.parts.length (fun k wr => Box wr w.heap.size [.int .i64 x.op, .string x.atom.name, .slice a0 n0 cap0, .string x.var, .slice a x.parts.length cap] ∧ (z ≤ most → z = 1 + Fm.nodeS (x.parts.take k))) i wr) (fun _ i _ => x.parts.length - (intOf i).toNat)
  case atStart => exact ⟨_, rfl, by omega, by omega, 0, Nat.zero_le _, rfl, ⟨Box.new, by simp [Fm.nodeS]⟩, by repeat' first | exact Below.refl _ _ | refine Below.alloc ?_ (Nat.le_refl _) _⟩
  case round =>
    obtain ⟨z, rfl, hz0, hz1, k, hk, rfl, ⟨hbx, hok⟩, hbw⟩ := hrel
    have hzw := hbw.size
    have Hok := Lib.hid hok
    clear hok
    have q0 := hbx.c0
    have q3 := hbx.c4
    have hwl := hbx.1
    have HB := Lib.hid hbx
    clear hbx
    by_cases hlt : k < x.parts.length
    · obtain ⟨b, off, y, ny, cy, y', ny', cy', rfl, hbl, c0, c1, c2, c3, c4, hE⟩ := (FmsAt.keep HS.out hbw).elem hlt
      have HT := Lib.hid (Fm.nodeS_take x.parts k hlt)
      have HU := Lib.hid (Fm.nodeS_take_le x.parts (k + 1))
      have HD := Lib.hid hE
      clear hE
      by_cases hm : most < z
      · go_wp2_with fail
        go_ret
        refine Capped.mk' (by (repeat' first | (with_reducible exact Below.refl _ _) | (with_reducible refine Below.setCell ?_ ?_ _) | (with_reducible refine Below.alloc ?_ ?_ _) | (with_reducible refine Below.drewN' ?_ _) | (with_reducible refine Below.via ?_ (by assumption) ?_) | (with_reducible exact Nat.le_refl _) | (simp; done) | (simp; omega) | omega)) hz0 (by rw [HN.out]; omega) (by omega)
      · go_wp2_with fail
        refine (HE.out x.parts[k] (List.getElem_mem hlt) _ _ (most - z) _ (by omega) (by omega) (by have := Fm.nodes_le x.parts k hlt; omega) (HD.out.keep (by (repeat' first | (with_reducible exact Below.refl _ _) | (with_reducible refine Below.setCell ?_ ?_ _) | (with_reducible refine Below.alloc ?_ ?_ _) | (with_reducible refine Below.drewN' ?_ _) | (with_reducible refine Below.via ?_ (by assumption) ?_) | (with_reducible exact Nat.le_refl _) | (simp; done) | (simp; omega) | omega)))).mono ?_
        rintro e w1 ⟨z1, rfl, hb1, p1, p2, p3⟩
        have P3 := Lib.hid p3
        clear p3
        have hN1 : z + z1 ≤ 1 + Fm.nodeS x.parts := by have := Hok.out; have := HT.out; have := HU.out; omega
        have HH := Lib.hid hN1
        have hN2 : z + z1 ≤ 1099511627776 := by omega
        clear hN1
        go_wp2_with fail
        go_roundw
        case rel => exact ⟨_, rfl, by omega, HH.out, k + 1, hlt, by go_num, ⟨HB.out.keep (by (repeat' first | (with_reducible exact Below.refl _ _) | (with_reducible refine Below.setCell ?_ ?_ _) | (with_reducible refine Below.alloc ?_ ?_ _) | (with_reducible refine Below.drewN' ?_ _) | (with_reducible refine Below.via ?_ (by assumption) ?_) | (with_reducible exact Nat.le_refl _) | (simp; done) | (simp; omega) | omega)), by intro hc; have := Hok.out; have := HT.out; have := P3.out (by omega); omega⟩, (by (repeat' first | (with_reducible exact Below.refl _ _) | (with_reducible refine Below.setCell ?_ ?_ _) | (with_reducible refine Below.alloc ?_ ?_ _) | (with_reducible refine Below.drewN' ?_ _) | (with_reducible refine Below.via ?_ (by assumption) ?_) | (with_reducible exact Nat.le_refl _) | (simp; done) | (simp; omega) | omega))⟩
        case measure => exact intOf_lt hlt
    · obtain rfl : k = x.parts.length := by omega
      go_wp2
      go_ret
      refine Capped.mk' (by (repeat' first | (with_reducible exact Below.refl _ _) | (with_reducible refine Below.setCell ?_ ?_ _) | (with_reducible refine Below.alloc ?_ ?_ _) | (with_reducible refine Below.drewN' ?_ _) | (with_reducible refine Below.via ?_ (by assumption) ?_) | (with_reducible exact Nat.le_refl _) | (simp; done) | (simp; omega) | omega)) hz0 (by rw [HN.out]; omega) (fun h => by rw [HN.out]; have := Hok.out h; rw [List.take_length] at this; omega)
theorem manyF_all (x : Fm) : ManyF x := manyF_of x fun y hy => manyF_all y
termination_by SizeOf.sizeOf x
decreasing_by exact Fm.lt_of_mem hy
end Go.Proofs.Ytpbakldlhjdipaa
