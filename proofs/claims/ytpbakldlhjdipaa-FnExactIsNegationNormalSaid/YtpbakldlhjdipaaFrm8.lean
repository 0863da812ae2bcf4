/-
  This text proves what negation normal forms are, in both packages. Condition: the formula has valid forms, less than 2^40 in all.
-/
import Derived.Test.YtpbakldlhjdipaaFrm7
set_option maxRecDepth 100000
set_option linter.unusedSimpArgs false
set_option linter.unusedVariables false
namespace Go.Proofs.Ytpbakldlhjdipaa
open Go.RowKit

def headOp : List Fm → Int
  | [] => 3
  | x :: _ => x.op
/-- The operator of this one is allowed. -/
def Fm.nnf1 (x : Fm) : Bool := !(x.op == 7) && !(x.op == 4 && !(headOp x.parts == 3))
mutual
def Fm.nnf : Fm → Bool
  | .mk op atom var parts => Fm.nnf1 (.mk op atom var parts) && Fm.nnfS parts
def Fm.nnfS : List Fm → Bool
  | [] => true
  | x :: xs => Fm.nnf x && Fm.nnfS xs
end
theorem Fm.nnf_eq (x : Fm) : x.nnf = (x.nnf1 && Fm.nnfS x.parts) := by
  obtain ⟨op, atom, var, parts⟩ := x
  rw [Fm.nnf]; rfl
theorem Fm.nnfS_all : ∀ xs : List Fm, Fm.nnfS xs = xs.all Fm.nnf
  | [] => rfl
  | x :: xs => by rw [Fm.nnfS, Fm.nnfS_all xs]; rfl
theorem Fm.nnfS_take {xs : List Fm} {k : Nat} (h : k < xs.length) : Fm.nnfS (xs.take (k + 1)) = (Fm.nnfS (xs.take k) && xs[k].nnf) := by
  rw [Fm.nnfS_all, Fm.nnfS_all, ← List.take_append_getElem h, List.all_append]; simp
theorem Fm.nnfS_no {xs : List Fm} {k : Nat} (h : k < xs.length) (hn : xs[k].nnf = false) : Fm.nnfS xs = false := by
  rw [Fm.nnfS_all, List.all_eq_false]; exact ⟨xs[k], List.getElem_mem h, by simp [hn]⟩
theorem Fm.forms_part {x : Fm} (h : x.forms = true) {y : Fm} (hy : y ∈ x.parts) : y.forms = true := by
  rw [Fm.forms_eq, Fm.formS_all, Bool.and_eq_true, List.all_eq_true] at h
  exact h.2 y hy
theorem Fm.not_one {x : Fm} (h : x.forms = true) (ho : x.op = 4) : x.parts.length = 1 := by
  rw [Fm.forms_eq] at h
  unfold Fm.form at h
  simp [ho] at h
  omega
theorem headOp_at {xs : List Fm} (h : 0 < xs.length) : headOp xs = xs[0].op := by
  cases xs with
  | nil => simp at h
  | cons x xs => rfl
def NnfC (f : FuncId) (x : Fm) : Prop := x.forms = true → BoolF f x x.nnf

theorem nnf1_any (x : Fm) (hv : x.forms = true) (hx : NnfC 90 x) (s0 s1 : Value) (w : World) (hb : x.bulk ≤ 1099511627775) (h : Fm.At w x s0 s1) : Calls Try.prog 133 #[.agg #[.int .i64 x.op, .string x.atom.name, s0, .string x.var, s1]] w (Ret w (.bool (!x.nnf))) := by
  obtain ⟨a0, n0, cap0, rfl⟩ := DAt.form h.2.1
  obtain ⟨y, n, c, rfl⟩ := DAt.form h.2.2.2
  have H := Lib.hid h
  have HB := Lib.hid hb
  clear h
  go_enter Try.func133, Try.ntmps133
  go_wp2_with fail
  refine (hx hv _ _ _ HB.out (H.out.keep (by (repeat' first | (with_reducible exact Below.refl _ _) | (with_reducible refine Below.setCell ?_ ?_ _) | (with_reducible refine Below.alloc ?_ ?_ _) | (with_reducible refine Below.drewN' ?_ _) | (with_reducible refine Below.via ?_ (by assumption) ?_) | (with_reducible exact Nat.le_refl _) | (simp; done) | (simp; omega) | omega)))).mono ?_
  rintro e w1 ⟨rfl, hb1⟩
  go_wp2_with fail
  go_ret
  exact Ret.bel rfl (by (repeat' first | (with_reducible exact Below.refl _ _) | (with_reducible refine Below.setCell ?_ ?_ _) | (with_reducible refine Below.alloc ?_ ?_ _) | (with_reducible refine Below.drewN' ?_ _) | (with_reducible refine Below.via ?_ (by assumption) ?_) | (with_reducible exact Nat.le_refl _) | (simp; done) | (simp; omega) | omega))

set_option maxHeartbeats 2000000 in
theorem nnf_of (x : Fm) (helem : ∀ y ∈ x.parts, NnfC 90 y) : NnfC 90 x := by
  intro hv s0 s1 w hbk hx
  obtain ⟨ba, ga, bv, gs⟩ := hx
  have HV := Lib.hid hv
  have HU := Lib.hid hbk
  have HE := Lib.hid helem
  have HN := Lib.hid (Fm.nnf_eq x)
  obtain ⟨a0, n0, cap0, rfl⟩ := DAt.form ga
  obtain ⟨a, cap, S0, S1, rfl, hnc, hcap, hS, hG⟩ := FmsAt.open_ gs
  have HS := Lib.hid (Sl.mk hnc hcap hS)
  have HG := Lib.hid hG
  have HP := Lib.hid gs
  clear ga gs hbk helem hv
  clear hS hG
  by_cases h7 : x.op = 7
  · have H1 : Hid (x.nnf1 = false) := Lib.hid (by unfold Fm.nnf1; simp [h7])
    go_enter Try.func90, Try.ntmps90
    go_wp2_with fail
    go_ret
    exact Ret.bel (by rw [HN.out, H1.out]; rfl) (by (repeat' first | (with_reducible exact Below.refl _ _) | (with_reducible refine Below.setCell ?_ ?_ _) | (with_reducible refine Below.alloc ?_ ?_ _) | (with_reducible refine Below.drewN' ?_ _) | (with_reducible refine Below.via ?_ (by assumption) ?_) | (with_reducible exact Nat.le_refl _) | (simp; done) | (simp; omega) | omega))
  · by_cases h4 : x.op = 4
    · have hl1 := Fm.not_one HV.out h4
      have hlp : 0 < x.parts.length := by omega
      have hl2 : (0 : Int) < x.parts.length := by omega
      clear hl1
      have HO := Lib.hid (headOp_at (xs := x.parts) hlp)
      have H4 := Lib.hid h4
      obtain ⟨b, off, y, ny, cy, y', ny', cy', rfl, hbl, c0, c1, c2, c3, c4, hE⟩ := FmsAt.elem HP.out (k := 0) hlp
      simp only [Nat.zero_mul, Nat.add_zero] at c0 c1 c2 c3 c4
      clear hE
      by_cases h3 : (x.parts[0]'hlp).op = 3
      · have H1 : Hid (x.nnf1 = true) := Lib.hid (by unfold Fm.nnf1; rw [HO.out, h3]; simp [h7])
        rw [h4]
        clear h4 h7 HO
        go_enter Try.func90, Try.ntmps90
        go_wp2_with fail
        refine (Ret.mono (v := .bool (!Fm.nnfS x.parts)) (containsFunc_forms 133 #[] (fun i => !(x.parts.getD i Fm.zero).nnf) _ x.parts.length (fun i j => Fm.c (x.parts.getD i Fm.zero) (S0 i) (S1 i) j) _ (HS.out.keep (Keeps.of_below (w := w) (by (repeat' first | (with_reducible exact Below.refl _ _) | (with_reducible refine Below.setCell ?_ ?_ _) | (with_reducible refine Below.alloc ?_ ?_ _) | (with_reducible refine Below.drewN' ?_ _) | (with_reducible refine Below.via ?_ (by assumption) ?_) | (with_reducible exact Nat.le_refl _) | (simp; done) | (simp; omega) | omega)) _)) (fun args W => by go_simp) (fun i hi _ W hW => by rw [getD_at _ hi]; exact nnf1_any x.parts[i] (Fm.forms_part HV.out (List.getElem_mem hi)) (HE.out _ (List.getElem_mem hi)) (S0 i) (S1 i) W (by have := Fm.bulk_le x.parts i hi; have := HU.out; have := Fm.bulk_eq x; omega) ((HG.out i hi).keep (Below.of_trans (by (repeat' first | (with_reducible exact Below.refl _ _) | (with_reducible refine Below.setCell ?_ ?_ _) | (with_reducible refine Below.alloc ?_ ?_ _) | (with_reducible refine Below.drewN' ?_ _) | (with_reducible refine Below.via ?_ (by assumption) ?_) | (with_reducible exact Nat.le_refl _) | (simp; done) | (simp; omega) | omega)) hW)))) (by rw [any_all, Fm.nnfS_all])).mono ?_
        rintro e w1 ⟨rfl, hb1⟩
        have hz1 := hb1.size
        (try simp at hz1)
        obtain ⟨hc1, hf1⟩ := bcell hb1
        (try simp only [sz_setCell, sz_alloc, sz_drewN] at hc1 hf1)
        (try have hu1_0 : w.heap.size < w1.heap.size := by omega)
        (try have hu1_1 : w.heap.size + 1 < w1.heap.size := by omega)
        (try have hu1_2 : w.heap.size + 1 + 1 < w1.heap.size := by omega)
        (try have hx1_0 : b < w1.heap.size := by omega)
        (try have hx1_1 : b' < w1.heap.size := by omega)
        (try have hx1_2 : b2 < w1.heap.size := by omega)
        go_wp2_with fail
        go_ret
        exact Ret.bel (by rw [HN.out, H1.out]; simp) (by (repeat' first | (with_reducible exact Below.refl _ _) | (with_reducible refine Below.setCell ?_ ?_ _) | (with_reducible refine Below.alloc ?_ ?_ _) | (with_reducible refine Below.drewN' ?_ _) | (with_reducible refine Below.via ?_ (by assumption) ?_) | (with_reducible exact Nat.le_refl _) | (simp; done) | (simp; omega) | omega))
      · have H1 : Hid (x.nnf1 = false) := Lib.hid (by unfold Fm.nnf1; rw [HO.out]; simp [h4, h3])
        go_enter Try.func90, Try.ntmps90
        go_wp2_with fail
        go_ret
        exact Ret.bel (by rw [HN.out, H1.out]; rfl) (by (repeat' first | (with_reducible exact Below.refl _ _) | (with_reducible refine Below.setCell ?_ ?_ _) | (with_reducible refine Below.alloc ?_ ?_ _) | (with_reducible refine Below.drewN' ?_ _) | (with_reducible refine Below.via ?_ (by assumption) ?_) | (with_reducible exact Nat.le_refl _) | (simp; done) | (simp; omega) | omega))
    · have H1 : Hid (x.nnf1 = true) := Lib.hid (by unfold Fm.nnf1; simp [h7, h4])
      have h7b : (x.op == 7) = false := by simp [h7]
      have h4b : (x.op == 4) = false := by simp [h4]
      clear h4 h7
      go_enter Try.func90, Try.ntmps90
      go_wp2_with fail
      refine (Ret.mono (v := .bool (!Fm.nnfS x.parts)) (containsFunc_forms 133 #[] (fun i => !(x.parts.getD i Fm.zero).nnf) _ x.parts.length (fun i j => Fm.c (x.parts.getD i Fm.zero) (S0 i) (S1 i) j) _ (HS.out.keep (Keeps.of_below (w := w) (by (repeat' first | (with_reducible exact Below.refl _ _) | (with_reducible refine Below.setCell ?_ ?_ _) | (with_reducible refine Below.alloc ?_ ?_ _) | (with_reducible refine Below.drewN' ?_ _) | (with_reducible refine Below.via ?_ (by assumption) ?_) | (with_reducible exact Nat.le_refl _) | (simp; done) | (simp; omega) | omega)) _)) (fun args W => by go_simp) (fun i hi _ W hW => by rw [getD_at _ hi]; exact nnf1_any x.parts[i] (Fm.forms_part HV.out (List.getElem_mem hi)) (HE.out _ (List.getElem_mem hi)) (S0 i) (S1 i) W (by have := Fm.bulk_le x.parts i hi; have := HU.out; have := Fm.bulk_eq x; omega) ((HG.out i hi).keep (Below.of_trans (by (repeat' first | (with_reducible exact Below.refl _ _) | (with_reducible refine Below.setCell ?_ ?_ _) | (with_reducible refine Below.alloc ?_ ?_ _) | (with_reducible refine Below.drewN' ?_ _) | (with_reducible refine Below.via ?_ (by assumption) ?_) | (with_reducible exact Nat.le_refl _) | (simp; done) | (simp; omega) | omega)) hW)))) (by rw [any_all, Fm.nnfS_all])).mono ?_
      rintro e w1 ⟨rfl, hb1⟩
      have hz1 := hb1.size
      (try simp at hz1)
      obtain ⟨hc1, hf1⟩ := bcell hb1
      (try simp only [sz_setCell, sz_alloc, sz_drewN] at hc1 hf1)
      (try have hu1_0 : w.heap.size < w1.heap.size := by omega)
      (try have hu1_1 : w.heap.size + 1 < w1.heap.size := by omega)
      (try have hu1_2 : w.heap.size + 1 + 1 < w1.heap.size := by omega)
      (try have hx1_0 : b < w1.heap.size := by omega)
      (try have hx1_1 : b' < w1.heap.size := by omega)
      (try have hx1_2 : b2 < w1.heap.size := by omega)
      go_wp2_with fail
      go_ret
      exact Ret.bel (by rw [HN.out, H1.out]; simp) (by (repeat' first | (with_reducible exact Below.refl _ _) | (with_reducible refine Below.setCell ?_ ?_ _) | (with_reducible refine Below.alloc ?_ ?_ _) | (with_reducible refine Below.drewN' ?_ _) | (with_reducible refine Below.via ?_ (by assumption) ?_) | (with_reducible exact Nat.le_refl _) | (simp; done) | (simp; omega) | omega))
theorem nnf_all (x : Fm) : NnfC 90 x := nnf_of x fun y hy => nnf_all y
termination_by SizeOf.sizeOf x
decreasing_by exact Fm.lt_of_mem hy

set_option maxHeartbeats 2000000 in
theorem lnnf_of (x : Fm) (helem : ∀ y ∈ x.parts, NnfC 86 y) : NnfC 86 x := by
  intro hv s0 s1 w hbk hx
  obtain ⟨ba, ga, bv, gs⟩ := hx
  have HV := Lib.hid hv
  have HU := Lib.hid hbk
  have HE := Lib.hid helem
  have HN := Lib.hid (Fm.nnf_eq x)
  obtain ⟨a0, n0, cap0, rfl⟩ := DAt.form ga
  obtain ⟨a, cap, rfl, hnc, hcap⟩ := FmsAt.form_ gs
  have HS := Lib.hid gs
  clear ga gs hbk helem hv
  by_cases h7 : x.op = 7
  · have H1 : Hid (x.nnf1 = false) := Lib.hid (by unfold Fm.nnf1; simp [h7])
    go_enter Try.func86, Try.ntmps86
    go_wp2_with fail
    go_ret
    exact Ret.bel (by rw [HN.out, H1.out]; rfl) (by (repeat' first | (with_reducible exact Below.refl _ _) | (with_reducible refine Below.setCell ?_ ?_ _) | (with_reducible refine Below.alloc ?_ ?_ _) | (with_reducible refine Below.drewN' ?_ _) | (with_reducible refine Below.via ?_ (by assumption) ?_) | (with_reducible exact Nat.le_refl _) | (simp; done) | (simp; omega) | omega))
  · by_cases h4 : x.op = 4
    · have hl1 := Fm.not_one HV.out h4
      have hlp : 0 < x.parts.length := by omega
      have hl2 : (0 : Int) < x.parts.length := by omega
      clear hl1
      have HO := Lib.hid (headOp_at (xs := x.parts) hlp)
      have H4 := Lib.hid h4
      obtain ⟨b, off, y, ny, cy, y', ny', cy', rfl, hbl, c0, c1, c2, c3, c4, hE⟩ := FmsAt.elem HS.out (k := 0) hlp
      simp only [Nat.zero_mul, Nat.add_zero] at c0 c1 c2 c3 c4
      clear hE
      by_cases h3 : (x.parts[0]'hlp).op = 3
      · have H1 : Hid (x.nnf1 = true) := Lib.hid (by unfold Fm.nnf1; rw [HO.out, h3]; simp [h7])
        rw [h4]
        clear h4 h7 HO
        go_enter Try.func86, Try.ntmps86
        go_wp2_with fail
        go_loopw [3] (fun i wr => CntB w x.parts.length (fun k wr => Box wr w.heap.size [.int .i64 4, .string x.atom.name, .slice a0 n0 cap0, .string x.var, .slice (some ⟨b, off, none⟩) x.parts.length cap] ∧ Fm.nnfS (x.parts.take k) = true) i wr) (fun i _ => x.parts.length - (intOf i).toNat)
        case atStart => exact ⟨0, Nat.zero_le _, rfl, ⟨Box.new, rfl⟩, (by (repeat' first | (with_reducible exact Below.refl _ _) | (with_reducible refine Below.setCell ?_ ?_ _) | (with_reducible refine Below.alloc ?_ ?_ _) | (with_reducible refine Below.drewN' ?_ _) | (with_reducible refine Below.via ?_ (by assumption) ?_) | (with_reducible exact Nat.le_refl _) | (simp; done) | (simp; omega) | omega))⟩
        case round =>
          obtain ⟨k, hk, rfl, ⟨hbx, hok⟩, hbw⟩ := hrel
          clear c0 c1 c2 c3 c4
          have hzw := hbw.size
          have Hok := Lib.hid hok
          have q0 := hbx.c0
          have q4 := hbx.c4
          have hwl := hbx.1
          have HB := Lib.hid hbx
          clear hok hbx
          by_cases hlt : k < x.parts.length
          · obtain ⟨y, ny, cy, y', ny', cy', hbl, c0, c1, c2, c3, c4, hE⟩ := (FmsAt.keep HS.out hbw).elemS hlt
            have HD := Lib.hid hE
            clear hE
            have hbk' : x.parts[k].bulk ≤ 1099511627775 := by have := Fm.bulk_le x.parts k hlt; have := HU.out; have := Fm.bulk_eq x; omega
            cases hp : x.parts[k].nnf
            · have HP := Lib.hid hp
              clear hp
              go_wp2_with fail
              refine (Ret.mono (HE.out x.parts[k] (List.getElem_mem hlt) (Fm.forms_part HV.out (List.getElem_mem hlt)) _ _ _ hbk' HD.out) (by rw [HP.out])).mono ?_
              rintro e w3 ⟨rfl, hb3⟩
              have hz3 := hb3.size
              (try simp at hz3)
              obtain ⟨hc3, hf3⟩ := bcell hb3
              (try simp only [sz_setCell, sz_alloc, sz_drewN] at hc3 hf3)
              (try have hu3_0 : w.heap.size < w3.heap.size := by omega)
              (try have hu3_1 : w.heap.size + 1 < w3.heap.size := by omega)
              (try have hu3_2 : w.heap.size + 1 + 1 < w3.heap.size := by omega)
              (try have hx3_0 : b < w3.heap.size := by omega)
              (try have hx3_1 : b' < w3.heap.size := by omega)
              (try have hx3_2 : b2 < w3.heap.size := by omega)
              go_wp2_with fail
              go_ret
              exact Ret.bel (by rw [HN.out, H1.out, Fm.nnfS_no hlt HP.out]; simp) (by (repeat' first | (with_reducible exact Below.refl _ _) | (with_reducible refine Below.setCell ?_ ?_ _) | (with_reducible refine Below.alloc ?_ ?_ _) | (with_reducible refine Below.drewN' ?_ _) | (with_reducible refine Below.via ?_ (by assumption) ?_) | (with_reducible exact Nat.le_refl _) | (simp; done) | (simp; omega) | omega))
            · have HP := Lib.hid hp
              clear hp
              go_wp2_with fail
              refine (Ret.mono (HE.out x.parts[k] (List.getElem_mem hlt) (Fm.forms_part HV.out (List.getElem_mem hlt)) _ _ _ hbk' HD.out) (by rw [HP.out])).mono ?_
              rintro e w3 ⟨rfl, hb3⟩
              have hz3 := hb3.size
              (try simp at hz3)
              obtain ⟨hc3, hf3⟩ := bcell hb3
              (try simp only [sz_setCell, sz_alloc, sz_drewN] at hc3 hf3)
              (try have hu3_0 : w.heap.size < w3.heap.size := by omega)
              (try have hu3_1 : w.heap.size + 1 < w3.heap.size := by omega)
              (try have hu3_2 : w.heap.size + 1 + 1 < w3.heap.size := by omega)
              (try have hx3_0 : b < w3.heap.size := by omega)
              (try have hx3_1 : b' < w3.heap.size := by omega)
              (try have hx3_2 : b2 < w3.heap.size := by omega)
              go_wp2_with fail
              go_roundw
              case rel => exact ⟨k + 1, hlt, by go_num, ⟨HB.out.keep hb3, by rw [Fm.nnfS_take hlt, Hok.out, HP.out]; rfl⟩, (by (repeat' first | (with_reducible exact Below.refl _ _) | (with_reducible refine Below.setCell ?_ ?_ _) | (with_reducible refine Below.alloc ?_ ?_ _) | (with_reducible refine Below.drewN' ?_ _) | (with_reducible refine Below.via ?_ (by assumption) ?_) | (with_reducible exact Nat.le_refl _) | (simp; done) | (simp; omega) | omega))⟩
              case measure => exact intOf_lt hlt
          · obtain rfl : k = x.parts.length := by omega
            go_wp2_with fail
            go_ret
            exact Ret.bel (by rw [HN.out, H1.out]; have := Hok.out; rw [List.take_length] at this; simp [this]) (by (repeat' first | (with_reducible exact Below.refl _ _) | (with_reducible refine Below.setCell ?_ ?_ _) | (with_reducible refine Below.alloc ?_ ?_ _) | (with_reducible refine Below.drewN' ?_ _) | (with_reducible refine Below.via ?_ (by assumption) ?_) | (with_reducible exact Nat.le_refl _) | (simp; done) | (simp; omega) | omega))
      · have H1 : Hid (x.nnf1 = false) := Lib.hid (by unfold Fm.nnf1; rw [HO.out]; simp [h4, h3])
        go_enter Try.func86, Try.ntmps86
        go_wp2_with fail
        go_ret
        exact Ret.bel (by rw [HN.out, H1.out]; rfl) (by (repeat' first | (with_reducible exact Below.refl _ _) | (with_reducible refine Below.setCell ?_ ?_ _) | (with_reducible refine Below.alloc ?_ ?_ _) | (with_reducible refine Below.drewN' ?_ _) | (with_reducible refine Below.via ?_ (by assumption) ?_) | (with_reducible exact Nat.le_refl _) | (simp; done) | (simp; omega) | omega))
    · have H1 : Hid (x.nnf1 = true) := Lib.hid (by unfold Fm.nnf1; simp [h7, h4])
      have h7b : (x.op == 7) = false := by simp [h7]
      have h4b : (x.op == 4) = false := by simp [h4]
      clear h4 h7
      go_enter Try.func86, Try.ntmps86
      go_wp2_with fail
      go_loopw [3] (fun i wr => CntB w x.parts.length (fun k wr => Box wr w.heap.size [.int .i64 x.op, .string x.atom.name, .slice a0 n0 cap0, .string x.var, .slice a x.parts.length cap] ∧ Fm.nnfS (x.parts.take k) = true) i wr) (fun i _ => x.parts.length - (intOf i).toNat)
      case atStart => exact ⟨0, Nat.zero_le _, rfl, ⟨Box.new, rfl⟩, (by (repeat' first | (with_reducible exact Below.refl _ _) | (with_reducible refine Below.setCell ?_ ?_ _) | (with_reducible refine Below.alloc ?_ ?_ _) | (with_reducible refine Below.drewN' ?_ _) | (with_reducible refine Below.via ?_ (by assumption) ?_) | (with_reducible exact Nat.le_refl _) | (simp; done) | (simp; omega) | omega))⟩
      case round =>
        obtain ⟨k, hk, rfl, ⟨hbx, hok⟩, hbw⟩ := hrel
        have hzw := hbw.size
        have Hok := Lib.hid hok
        have q0 := hbx.c0
        have q4 := hbx.c4
        have hwl := hbx.1
        have HB := Lib.hid hbx
        clear hok hbx
        by_cases hlt : k < x.parts.length
        · obtain ⟨b, off, y, ny, cy, y', ny', cy', rfl, hbl, c0, c1, c2, c3, c4, hE⟩ := (FmsAt.keep HS.out hbw).elem hlt
          have HD := Lib.hid hE
          clear hE
          have hbk' : x.parts[k].bulk ≤ 1099511627775 := by have := Fm.bulk_le x.parts k hlt; have := HU.out; have := Fm.bulk_eq x; omega
          cases hp : x.parts[k].nnf
          · have HP := Lib.hid hp
            clear hp
            go_wp2_with fail
            refine (Ret.mono (HE.out x.parts[k] (List.getElem_mem hlt) (Fm.forms_part HV.out (List.getElem_mem hlt)) _ _ _ hbk' HD.out) (by rw [HP.out])).mono ?_
            rintro e w3 ⟨rfl, hb3⟩
            have hz3 := hb3.size
            (try simp at hz3)
            obtain ⟨hc3, hf3⟩ := bcell hb3
            (try simp only [sz_setCell, sz_alloc, sz_drewN] at hc3 hf3)
            (try have hu3_0 : w.heap.size < w3.heap.size := by omega)
            (try have hu3_1 : w.heap.size + 1 < w3.heap.size := by omega)
            (try have hu3_2 : w.heap.size + 1 + 1 < w3.heap.size := by omega)
            (try have hx3_0 : b < w3.heap.size := by omega)
            (try have hx3_1 : b' < w3.heap.size := by omega)
            (try have hx3_2 : b2 < w3.heap.size := by omega)
            go_wp2_with fail
            go_ret
            exact Ret.bel (by rw [HN.out, H1.out, Fm.nnfS_no hlt HP.out]; simp) (by (repeat' first | (with_reducible exact Below.refl _ _) | (with_reducible refine Below.setCell ?_ ?_ _) | (with_reducible refine Below.alloc ?_ ?_ _) | (with_reducible refine Below.drewN' ?_ _) | (with_reducible refine Below.via ?_ (by assumption) ?_) | (with_reducible exact Nat.le_refl _) | (simp; done) | (simp; omega) | omega))
          · have HP := Lib.hid hp
            clear hp
            go_wp2_with fail
            refine (Ret.mono (HE.out x.parts[k] (List.getElem_mem hlt) (Fm.forms_part HV.out (List.getElem_mem hlt)) _ _ _ hbk' HD.out) (by rw [HP.out])).mono ?_
            rintro e w3 ⟨rfl, hb3⟩
            have hz3 := hb3.size
            (try simp at hz3)
            obtain ⟨hc3, hf3⟩ := bcell hb3
            (try simp only [sz_setCell, sz_alloc, sz_drewN] at hc3 hf3)
            (try have hu3_0 : w.heap.size < w3.heap.size := by omega)
            (try have hu3_1 : w.heap.size + 1 < w3.heap.size := by omega)
            (try have hu3_2 : w.heap.size + 1 + 1 < w3.heap.size := by omega)
            (try have hx3_0 : b < w3.heap.size := by omega)
            (try have hx3_1 : b' < w3.heap.size := by omega)
            (try have hx3_2 : b2 < w3.heap.size := by omega)
            go_wp2_with fail
            go_roundw
            case rel => exact ⟨k + 1, hlt, by go_num, ⟨HB.out.keep hb3, by rw [Fm.nnfS_take hlt, Hok.out, HP.out]; rfl⟩, (by (repeat' first | (with_reducible exact Below.refl _ _) | (with_reducible refine Below.setCell ?_ ?_ _) | (with_reducible refine Below.alloc ?_ ?_ _) | (with_reducible refine Below.drewN' ?_ _) | (with_reducible refine Below.via ?_ (by assumption) ?_) | (with_reducible exact Nat.le_refl _) | (simp; done) | (simp; omega) | omega))⟩
            case measure => exact intOf_lt hlt
        · obtain rfl : k = x.parts.length := by omega
          go_wp2_with fail
          go_ret
          exact Ret.bel (by rw [HN.out, H1.out]; have := Hok.out; rw [List.take_length] at this; simp [this]) (by (repeat' first | (with_reducible exact Below.refl _ _) | (with_reducible refine Below.setCell ?_ ?_ _) | (with_reducible refine Below.alloc ?_ ?_ _) | (with_reducible refine Below.drewN' ?_ _) | (with_reducible refine Below.via ?_ (by assumption) ?_) | (with_reducible exact Nat.le_refl _) | (simp; done) | (simp; omega) | omega))
theorem lnnf_all (x : Fm) : NnfC 86 x := lnnf_of x fun y hy => lnnf_all y
termination_by SizeOf.sizeOf x
decreasing_by exact Fm.lt_of_mem hy

end Go.Proofs.Ytpbakldlhjdipaa
