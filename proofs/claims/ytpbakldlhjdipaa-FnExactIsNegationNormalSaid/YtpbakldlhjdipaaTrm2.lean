/-
  This text proves what the depths and the names of terms are, in both packages. Condition: fewer than 2^40 nodes.
-/
import Derived.Test.YtpbakldlhjdipaaTrm1
import Derived.Test.YtpbakldlhjdipaaSyms2
set_option maxRecDepth 100000
set_option linter.unusedSimpArgs false
set_option linter.unusedVariables false
namespace Go.Proofs.Ytpbakldlhjdipaa
open Go.RowKit

mutual
def Tm.deep : Tm → Nat
  | .mk _ args => Tm.deepS args + 1
def Tm.deepS : List Tm → Nat
  | [] => 0
  | x :: xs => max (Tm.deep x) (Tm.deepS xs)
end
theorem Tm.deep_eq (x : Tm) : x.deep = Tm.deepS x.args + 1 := by
  obtain ⟨name, args⟩ := x
  rw [Tm.deep]; rfl
theorem Tm.deepS_le_nodes : ∀ xs : List Tm, (∀ y ∈ xs, y.deep ≤ y.nodes) → Tm.deepS xs ≤ Tm.nodeS xs
  | [], _ => by simp [Tm.deepS]
  | x :: xs, h => by
    have h1 := h x (by simp)
    have h2 := Tm.deepS_le_nodes xs fun y hy => h y (by simp [hy])
    rw [Tm.deepS, Tm.nodeS]; omega
theorem Tm.deep_le_nodes (x : Tm) : x.deep ≤ x.nodes := by
  rw [Tm.deep_eq, Tm.nodes_eq]
  have := Tm.deepS_le_nodes x.args fun y hy => Tm.deep_le_nodes y
  omega
termination_by SizeOf.sizeOf x
decreasing_by exact Tm.lt_of_mem hy
theorem Tm.deepS_take : ∀ (xs : List Tm) (k : Nat) (h : k < xs.length), Tm.deepS (xs.take (k + 1)) = max (Tm.deepS (xs.take k)) xs[k].deep
  | [], k, h => absurd h (by simp)
  | x :: xs, 0, _ => by simp [Tm.deepS]
  | x :: xs, k + 1, h => by
    have := Tm.deepS_take xs k (by simpa using h)
    simp only [List.take_succ_cons, Tm.deepS, List.getElem_cons_succ, this]; omega

theorem l1Most_any (n m : Int) (w : World) : Calls Try.prog 161 #[.int .i64 n, .int .i64 m] w (Same w (.int .i64 (max n m))) := by
  by_cases h : m < n
  · go_enter Try.func161, Try.ntmps161
    go_wp2
    go_ret
    exact Same.mk' _ (by rw [show max n m = n by omega]; rfl)
  · go_enter Try.func161, Try.ntmps161
    go_wp2
    go_ret
    exact Same.mk' _ (by rw [show max n m = m by omega]; rfl)

def DeepC (f : FuncId) (x : Tm) : Prop := ∀ (s0 : Value) (w : World), x.nodes ≤ 1099511627776 → Tm.At w x s0 → Calls Try.prog f #[.agg #[.string x.name, s0]] w (Ret w (.int .i64 x.deep))
set_option maxHeartbeats 1000000 in
theorem depth_of (x : Tm) (helem : ∀ y ∈ x.args, DeepC 106 y) : DeepC 106 x := by
  intro s0 w hn hx
  obtain ⟨bn, gs⟩ := hx
  obtain ⟨a, cap, rfl, hnc, hcap⟩ := gs.form_
  have HS := Lib.hid gs
  have HE := Lib.hid helem
  have hd := Tm.deepS_le_nodes x.args fun y hy => Tm.deep_le_nodes y
  rw [Tm.nodes_eq] at hn
  have hd2 : (Tm.deepS x.args : Int) ≤ 1099511627776 := by omega
  have HN := Lib.hid (Tm.deep_eq x)
  clear helem gs hd
  go_enter Try.func106, Try.ntmps106
  go_wp2
  go_loopw [3, 9] (fun l i wr => ∃ z : Nat, l = .int .i64 z ∧ (z : Int) ≤ 1099511627776 ∧ CntB w x.args.length (fun k wr => z = Tm.deepS (x.args.take k)) i wr) (fun _ i _ => x.args.length - (intOf i).toNat)
  case atStart => exact ⟨0, rfl, by omega, 0, Nat.zero_le _, rfl, by simp [Tm.deepS], by repeat' first | exact Below.refl _ _ | refine Below.alloc ?_ (Nat.le_refl _) _⟩
  case round =>
    obtain ⟨z, rfl, hz1, k, hk, rfl, hok, hbw⟩ := hrel
    have hzw := hbw.size
    have Hok := Lib.hid hok
    clear hok
    by_cases hlt : k < x.args.length
    · obtain ⟨b, off, y, ny, cy, rfl, hbl, c0, c1, hE⟩ := (TmsAt.keep HS.out hbw).elem hlt
      have HT := Lib.hid (Tm.deepS_take x.args k hlt)
      have HD := Lib.hid hE
      clear hE
      have hnk : x.args[k].nodes ≤ 1099511627776 := by have := Tm.nodes_le x.args k hlt; omega
      have hdk : (x.args[k].deep : Int) ≤ 1099511627776 := by have := Tm.deep_le_nodes x.args[k]; omega
      go_wp2_with fail
      refine (HE.out x.args[k] (List.getElem_mem hlt) _ _ hnk (HD.out.keep (by (repeat' first | (with_reducible exact Below.refl _ _) | (with_reducible refine Below.setCell ?_ ?_ _) | (with_reducible refine Below.alloc ?_ ?_ _) | (with_reducible refine Below.drewN' ?_ _) | (with_reducible refine Below.via ?_ (by assumption) ?_) | (with_reducible exact Nat.le_refl _) | (simp; done) | (simp; omega) | omega)))).mono ?_
      rintro e w1 ⟨rfl, hb1⟩
      have hz1 := hb1.size
      (try simp at hz1)
      go_wp2_with fail
      have HH : Hid (max z x.args[k].deep = Tm.deepS (x.args.take (k + 1))) := Lib.hid (by rw [HT.out, Hok.out])
      go_roundw
      case rel => exact ⟨max z x.args[k].deep, by go_num, by omega, k + 1, hlt, by go_num, HH.out, (by (repeat' first | (with_reducible exact Below.refl _ _) | (with_reducible refine Below.setCell ?_ ?_ _) | (with_reducible refine Below.alloc ?_ ?_ _) | (with_reducible refine Below.drewN' ?_ _) | (with_reducible refine Below.via ?_ (by assumption) ?_) | (with_reducible exact Nat.le_refl _) | (simp; done) | (simp; omega) | omega))⟩
      case measure => exact intOf_lt hlt
    · obtain rfl : k = x.args.length := by omega
      go_wp2
      go_ret
      exact Ret.bel (by rw [HN.out]; have := Hok.out; rw [List.take_length] at this; rw [this]; go_num) (by (repeat' first | (with_reducible exact Below.refl _ _) | (with_reducible refine Below.setCell ?_ ?_ _) | (with_reducible refine Below.alloc ?_ ?_ _) | (with_reducible refine Below.drewN' ?_ _) | (with_reducible refine Below.via ?_ (by assumption) ?_) | (with_reducible exact Nat.le_refl _) | (simp; done) | (simp; omega) | omega))
theorem depth_all (x : Tm) : DeepC 106 x := depth_of x fun y hy => depth_all y
termination_by SizeOf.sizeOf x
decreasing_by exact Tm.lt_of_mem hy

set_option maxHeartbeats 1000000 in
theorem ldepth_of (x : Tm) (helem : ∀ y ∈ x.args, DeepC 140 y) : DeepC 140 x := by
  intro s0 w hn hx
  obtain ⟨bn, gs⟩ := hx
  obtain ⟨a, cap, rfl, hnc, hcap⟩ := gs.form_
  have HS := Lib.hid gs
  have HE := Lib.hid helem
  have hd := Tm.deepS_le_nodes x.args fun y hy => Tm.deep_le_nodes y
  rw [Tm.nodes_eq] at hn
  have hd2 : (Tm.deepS x.args : Int) ≤ 1099511627776 := by omega
  have HN := Lib.hid (Tm.deep_eq x)
  clear helem gs hd
  go_enter Try.func140, Try.ntmps140
  go_wp2
  go_loopw [3, 4] (fun l i wr => ∃ z : Nat, l = .int .i64 z ∧ (z : Int) ≤ 1099511627776 ∧ CntB w x.args.length (fun k wr => Box wr w.heap.size [.string x.name, .slice a x.args.length cap] ∧ z = Tm.deepS (x.args.take k)) i wr) (fun _ i _ => x.args.length - (intOf i).toNat)
  case atStart => exact ⟨0, rfl, by omega, 0, Nat.zero_le _, rfl, ⟨Box.new, by simp [Tm.deepS]⟩, by repeat' first | exact Below.refl _ _ | refine Below.alloc ?_ (Nat.le_refl _) _⟩
  case round =>
    obtain ⟨z, rfl, hz1, k, hk, rfl, ⟨hbx, hok⟩, hbw⟩ := hrel
    have hzw := hbw.size
    have Hok := Lib.hid hok
    clear hok
    have q0 := hbx.c0
    have q1 := hbx.c1
    have hwl := hbx.1
    have HB := Lib.hid hbx
    clear hbx
    by_cases hlt : k < x.args.length
    · obtain ⟨b, off, y, ny, cy, rfl, hbl, c0, c1, hE⟩ := (TmsAt.keep HS.out hbw).elem hlt
      have HT := Lib.hid (Tm.deepS_take x.args k hlt)
      have HD := Lib.hid hE
      clear hE
      have hnk : x.args[k].nodes ≤ 1099511627776 := by have := Tm.nodes_le x.args k hlt; omega
      have hdk : (x.args[k].deep : Int) ≤ 1099511627776 := by have := Tm.deep_le_nodes x.args[k]; omega
      go_wp2_with fail
      refine (HE.out x.args[k] (List.getElem_mem hlt) _ _ hnk (HD.out.keep (by (repeat' first | (with_reducible exact Below.refl _ _) | (with_reducible refine Below.setCell ?_ ?_ _) | (with_reducible refine Below.alloc ?_ ?_ _) | (with_reducible refine Below.drewN' ?_ _) | (with_reducible refine Below.via ?_ (by assumption) ?_) | (with_reducible exact Nat.le_refl _) | (simp; done) | (simp; omega) | omega)))).mono ?_
      rintro e w1 ⟨rfl, hb1⟩
      have hz1 := hb1.size
      (try simp at hz1)
      go_wp2_with fail
      refine (Same.ret (l1Most_any z x.args[k].deep _)).mono ?_
      rintro e w2 ⟨rfl, hb2⟩
      have hz2 := hb2.size
      go_wp2_with fail
      have HH : Hid (max z x.args[k].deep = Tm.deepS (x.args.take (k + 1))) := Lib.hid (by rw [HT.out, Hok.out])
      go_roundw
      case rel => exact ⟨max z x.args[k].deep, by go_num, by omega, k + 1, hlt, by go_num, ⟨HB.out.keep (by (repeat' first | (with_reducible exact Below.refl _ _) | (with_reducible refine Below.setCell ?_ ?_ _) | (with_reducible refine Below.alloc ?_ ?_ _) | (with_reducible refine Below.drewN' ?_ _) | (with_reducible refine Below.via ?_ (by assumption) ?_) | (with_reducible exact Nat.le_refl _) | (simp; done) | (simp; omega) | omega)), HH.out⟩, (by (repeat' first | (with_reducible exact Below.refl _ _) | (with_reducible refine Below.setCell ?_ ?_ _) | (with_reducible refine Below.alloc ?_ ?_ _) | (with_reducible refine Below.drewN' ?_ _) | (with_reducible refine Below.via ?_ (by assumption) ?_) | (with_reducible exact Nat.le_refl _) | (simp; done) | (simp; omega) | omega))⟩
      case measure => exact intOf_lt hlt
    · obtain rfl : k = x.args.length := by omega
      go_wp2
      go_ret
      exact Ret.bel (by rw [HN.out]; have := Hok.out; rw [List.take_length] at this; rw [this]; go_num) (by (repeat' first | (with_reducible exact Below.refl _ _) | (with_reducible refine Below.setCell ?_ ?_ _) | (with_reducible refine Below.alloc ?_ ?_ _) | (with_reducible refine Below.drewN' ?_ _) | (with_reducible refine Below.via ?_ (by assumption) ?_) | (with_reducible exact Nat.le_refl _) | (simp; done) | (simp; omega) | omega))
theorem ldepth_all (x : Tm) : DeepC 140 x := ldepth_of x fun y hy => ldepth_all y
termination_by SizeOf.sizeOf x
decreasing_by exact Tm.lt_of_mem hy

end Go.Proofs.Ytpbakldlhjdipaa
