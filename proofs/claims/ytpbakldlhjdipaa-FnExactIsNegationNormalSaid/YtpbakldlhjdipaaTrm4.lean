/-
  This text proves what the names of terms are in the reference. Condition: the term lies in memory.
-/
import Derived.Test.YtpbakldlhjdipaaTrm3
set_option maxRecDepth 100000
set_option linter.unusedSimpArgs false
set_option linter.unusedVariables false
namespace Go.Proofs.Ytpbakldlhjdipaa
open Go.RowKit

theorem Tm.nameS_take {xs : List Tm} {k : Nat} (h : k < xs.length) : Tm.nameS (xs.take (k + 1)) = (Tm.nameS (xs.take k) && xs[k].names) := by
  rw [Tm.nameS_all, Tm.nameS_all, ← List.take_append_getElem h, List.all_append]; simp
theorem Tm.nameS_no {xs : List Tm} {k : Nat} (h : k < xs.length) (hn : xs[k].names = false) : Tm.nameS xs = false := by
  rw [Tm.nameS_all, List.all_eq_false]; exact ⟨xs[k], List.getElem_mem h, by simp [hn]⟩

set_option maxHeartbeats 1000000 in
theorem nodes_of (x : Tm) (helem : ∀ y ∈ x.args, NamesC 104 y) : NamesC 104 x := by
  intro s0 w hx
  obtain ⟨bn, gs⟩ := hx
  obtain ⟨a, cap, rfl, hnc, hcap⟩ := gs.form_
  have HS := Lib.hid gs
  have HE := Lib.hid helem
  have HN := Lib.hid (Tm.names_eq x)
  clear helem gs
  cases hv : varB x.name
  · have HV := Lib.hid hv
    cases hs : symB x.name
    · have HY := Lib.hid hs
      clear hs hv
      go_enter Try.func104, Try.ntmps104
      go_wp2_with fail
      refine (Ret.mono (Same.ret (l2Var_any x.name _ bn)) (by rw [HV.out])).mono ?_
      rintro e w1 ⟨rfl, hb1⟩
      have hz1 := hb1.size
      (try simp at hz1)
      obtain ⟨hc1, hf1⟩ := bcell hb1
      (try simp only [sz_setCell, sz_alloc, sz_drewN] at hc1 hf1)
      (try have hu1_0 : w.heap.size < w1.heap.size := by omega)
      (try have hu1_1 : w.heap.size + 1 < w1.heap.size := by omega)
      (try have hu1_2 : w.heap.size + 1 + 1 < w1.heap.size := by omega)
      go_wp2_with fail
      refine (Ret.mono (Same.ret (l2Symbol_any x.name _ bn)) (by rw [HY.out])).mono ?_
      rintro e w2 ⟨rfl, hb2⟩
      have hz2 := hb2.size
      (try simp at hz2)
      obtain ⟨hc2, hf2⟩ := bcell hb2
      (try simp only [sz_setCell, sz_alloc, sz_drewN] at hc2 hf2)
      (try have hu2_0 : w.heap.size < w2.heap.size := by omega)
      (try have hu2_1 : w.heap.size + 1 < w2.heap.size := by omega)
      (try have hu2_2 : w.heap.size + 1 + 1 < w2.heap.size := by omega)
      go_wp2_with fail
      go_ret
      exact Ret.bel (by rw [HN.out, HV.out, HY.out]; rfl) (by (repeat' first | (with_reducible exact Below.refl _ _) | (with_reducible refine Below.setCell ?_ ?_ _) | (with_reducible refine Below.alloc ?_ ?_ _) | (with_reducible refine Below.drewN' ?_ _) | (with_reducible refine Below.via ?_ (by assumption) ?_) | (with_reducible exact Nat.le_refl _) | (simp; done) | (simp; omega) | omega))
    · have HY := Lib.hid hs
      clear hs hv
      by_cases hl : x.args.length ≤ 4
      · have hl' : (x.args.length : Int) ≤ 4 := by omega
        go_enter Try.func104, Try.ntmps104
        go_wp2_with fail
        refine (Ret.mono (Same.ret (l2Var_any x.name _ bn)) (by rw [HV.out])).mono ?_
        rintro e w1 ⟨rfl, hb1⟩
        have hz1 := hb1.size
        (try simp at hz1)
        obtain ⟨hc1, hf1⟩ := bcell hb1
        (try simp only [sz_setCell, sz_alloc, sz_drewN] at hc1 hf1)
        (try have hu1_0 : w.heap.size < w1.heap.size := by omega)
        (try have hu1_1 : w.heap.size + 1 < w1.heap.size := by omega)
        (try have hu1_2 : w.heap.size + 1 + 1 < w1.heap.size := by omega)
        go_wp2_with fail
        refine (Ret.mono (Same.ret (l2Symbol_any x.name _ bn)) (by rw [HY.out])).mono ?_
        rintro e w2 ⟨rfl, hb2⟩
        have hz2 := hb2.size
        (try simp at hz2)
        obtain ⟨hc2, hf2⟩ := bcell hb2
        (try simp only [sz_setCell, sz_alloc, sz_drewN] at hc2 hf2)
        (try have hu2_0 : w.heap.size < w2.heap.size := by omega)
        (try have hu2_1 : w.heap.size + 1 < w2.heap.size := by omega)
        (try have hu2_2 : w.heap.size + 1 + 1 < w2.heap.size := by omega)
        go_wp2_with fail
        have hbx0 : Box w2 w.heap.size [.string x.name, .slice a x.args.length cap] := (Box.keep Box.new hb1).keep hb2
        go_loopw [3] (fun i wr => CntB w x.args.length (fun k wr => Box wr w.heap.size [.string x.name, .slice a x.args.length cap] ∧ Tm.nameS (x.args.take k) = true) i wr) (fun i _ => x.args.length - (intOf i).toNat)
        case atStart => exact ⟨0, Nat.zero_le _, rfl, ⟨hbx0, rfl⟩, (by (repeat' first | (with_reducible exact Below.refl _ _) | (with_reducible refine Below.setCell ?_ ?_ _) | (with_reducible refine Below.alloc ?_ ?_ _) | (with_reducible refine Below.drewN' ?_ _) | (with_reducible refine Below.via ?_ (by assumption) ?_) | (with_reducible exact Nat.le_refl _) | (simp; done) | (simp; omega) | omega))⟩
        case round =>
          obtain ⟨k, hk, rfl, ⟨hbx, hok⟩, hbw⟩ := hrel
          clear hc1 hc2 hf1 hf2 hz1 hz2 hb1 hb2 hbx0
          have hzw := hbw.size
          have Hok := Lib.hid hok
          have q0 := hbx.c0
          have q1 := hbx.c1
          have hwl := hbx.1
          have HB := Lib.hid hbx
          clear hok hbx
          by_cases hlt : k < x.args.length
          · obtain ⟨b, off, y, ny, cy, rfl, hbl, c0, c1, hE⟩ := (TmsAt.keep HS.out hbw).elem hlt
            have HD := Lib.hid hE
            clear hE
            cases hp : x.args[k].names
            · have HP := Lib.hid hp
              clear hp
              go_wp2_with fail
              refine (Ret.mono (HE.out x.args[k] (List.getElem_mem hlt) _ _ HD.out) (by rw [HP.out])).mono ?_
              rintro e w3 ⟨rfl, hb3⟩
              have hz3 := hb3.size
              (try simp at hz3)
              obtain ⟨hc3, hf3⟩ := bcell hb3
              (try simp only [sz_setCell, sz_alloc, sz_drewN] at hc3 hf3)
              (try have hu3_0 : w.heap.size < w3.heap.size := by omega)
              (try have hu3_1 : w.heap.size + 1 < w3.heap.size := by omega)
              (try have hu3_2 : w.heap.size + 1 + 1 < w3.heap.size := by omega)
              go_wp2_with fail
              go_ret
              exact Ret.bel (by rw [HN.out, HV.out, HY.out, Tm.nameS_no hlt HP.out]; simp) (by (repeat' first | (with_reducible exact Below.refl _ _) | (with_reducible refine Below.setCell ?_ ?_ _) | (with_reducible refine Below.alloc ?_ ?_ _) | (with_reducible refine Below.drewN' ?_ _) | (with_reducible refine Below.via ?_ (by assumption) ?_) | (with_reducible exact Nat.le_refl _) | (simp; done) | (simp; omega) | omega))
            · have HP := Lib.hid hp
              clear hp
              go_wp2_with fail
              refine (Ret.mono (HE.out x.args[k] (List.getElem_mem hlt) _ _ HD.out) (by rw [HP.out])).mono ?_
              rintro e w3 ⟨rfl, hb3⟩
              have hz3 := hb3.size
              (try simp at hz3)
              obtain ⟨hc3, hf3⟩ := bcell hb3
              (try simp only [sz_setCell, sz_alloc, sz_drewN] at hc3 hf3)
              (try have hu3_0 : w.heap.size < w3.heap.size := by omega)
              (try have hu3_1 : w.heap.size + 1 < w3.heap.size := by omega)
              (try have hu3_2 : w.heap.size + 1 + 1 < w3.heap.size := by omega)
              go_wp2_with fail
              go_roundw
              case rel => exact ⟨k + 1, hlt, by go_num, ⟨HB.out.keep hb3, by rw [Tm.nameS_take hlt, Hok.out, HP.out]; rfl⟩, (by (repeat' first | (with_reducible exact Below.refl _ _) | (with_reducible refine Below.setCell ?_ ?_ _) | (with_reducible refine Below.alloc ?_ ?_ _) | (with_reducible refine Below.drewN' ?_ _) | (with_reducible refine Below.via ?_ (by assumption) ?_) | (with_reducible exact Nat.le_refl _) | (simp; done) | (simp; omega) | omega))⟩
              case measure => exact intOf_lt hlt
          · obtain rfl : k = x.args.length := by omega
            go_wp2_with fail
            go_ret
            exact Ret.bel (by rw [HN.out, HV.out, HY.out]; have := Hok.out; rw [List.take_length] at this; simp [hl, this]) (by (repeat' first | (with_reducible exact Below.refl _ _) | (with_reducible refine Below.setCell ?_ ?_ _) | (with_reducible refine Below.alloc ?_ ?_ _) | (with_reducible refine Below.drewN' ?_ _) | (with_reducible refine Below.via ?_ (by assumption) ?_) | (with_reducible exact Nat.le_refl _) | (simp; done) | (simp; omega) | omega))
      · have hl' : ¬ (x.args.length : Int) ≤ 4 := by omega
        go_enter Try.func104, Try.ntmps104
        go_wp2_with fail
        refine (Ret.mono (Same.ret (l2Var_any x.name _ bn)) (by rw [HV.out])).mono ?_
        rintro e w1 ⟨rfl, hb1⟩
        have hz1 := hb1.size
        (try simp at hz1)
        obtain ⟨hc1, hf1⟩ := bcell hb1
        (try simp only [sz_setCell, sz_alloc, sz_drewN] at hc1 hf1)
        (try have hu1_0 : w.heap.size < w1.heap.size := by omega)
        (try have hu1_1 : w.heap.size + 1 < w1.heap.size := by omega)
        (try have hu1_2 : w.heap.size + 1 + 1 < w1.heap.size := by omega)
        go_wp2_with fail
        refine (Ret.mono (Same.ret (l2Symbol_any x.name _ bn)) (by rw [HY.out])).mono ?_
        rintro e w2 ⟨rfl, hb2⟩
        have hz2 := hb2.size
        (try simp at hz2)
        obtain ⟨hc2, hf2⟩ := bcell hb2
        (try simp only [sz_setCell, sz_alloc, sz_drewN] at hc2 hf2)
        (try have hu2_0 : w.heap.size < w2.heap.size := by omega)
        (try have hu2_1 : w.heap.size + 1 < w2.heap.size := by omega)
        (try have hu2_2 : w.heap.size + 1 + 1 < w2.heap.size := by omega)
        go_wp2_with fail
        go_ret
        exact Ret.bel (by rw [HN.out, HV.out, HY.out]; simp [hl]) (by (repeat' first | (with_reducible exact Below.refl _ _) | (with_reducible refine Below.setCell ?_ ?_ _) | (with_reducible refine Below.alloc ?_ ?_ _) | (with_reducible refine Below.drewN' ?_ _) | (with_reducible refine Below.via ?_ (by assumption) ?_) | (with_reducible exact Nat.le_refl _) | (simp; done) | (simp; omega) | omega))
  · have HV := Lib.hid hv
    go_enter Try.func104, Try.ntmps104
    go_wp2_with fail
    refine (Ret.mono (Same.ret (l2Var_any x.name _ bn)) (by rw [HV.out])).mono ?_
    rintro e w1 ⟨rfl, hb1⟩
    have hz1 := hb1.size
    (try simp at hz1)
    obtain ⟨hc1, hf1⟩ := bcell hb1
    (try simp only [sz_setCell, sz_alloc, sz_drewN] at hc1 hf1)
    (try have hu1_0 : w.heap.size < w1.heap.size := by omega)
    (try have hu1_1 : w.heap.size + 1 < w1.heap.size := by omega)
    (try have hu1_2 : w.heap.size + 1 + 1 < w1.heap.size := by omega)
    go_wp2_with fail
    go_ret
    exact Ret.bel (by rw [HN.out, HV.out]; simp; cases x.args <;> simp <;> omega) (by (repeat' first | (with_reducible exact Below.refl _ _) | (with_reducible refine Below.setCell ?_ ?_ _) | (with_reducible refine Below.alloc ?_ ?_ _) | (with_reducible refine Below.drewN' ?_ _) | (with_reducible refine Below.via ?_ (by assumption) ?_) | (with_reducible exact Nat.le_refl _) | (simp; done) | (simp; omega) | omega))
theorem names_all (x : Tm) : NamesC 68 x := names_of x fun y hy => names_all y
termination_by SizeOf.sizeOf x
decreasing_by exact Tm.lt_of_mem hy
theorem nodes_all (x : Tm) : NamesC 104 x := nodes_of x fun y hy => nodes_all y
termination_by SizeOf.sizeOf x
decreasing_by exact Tm.lt_of_mem hy
end Go.Proofs.Ytpbakldlhjdipaa
