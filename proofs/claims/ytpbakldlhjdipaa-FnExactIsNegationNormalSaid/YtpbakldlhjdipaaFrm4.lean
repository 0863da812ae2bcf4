/-
  This text proves what the forms of formulas are in the program: formulas of the operators 1, 3, 5. Condition: less than 2^40 in all.
-/
import Derived.Test.YtpbakldlhjdipaaFrm3
set_option maxRecDepth 100000
set_option linter.unusedSimpArgs false
set_option linter.unusedVariables false
namespace Go.Proofs.Ytpbakldlhjdipaa
open Go.RowKit

set_option maxHeartbeats 4000000 in
theorem hasForm_1 (x : Fm) (ho : x.op = 1) (helem : ∀ y ∈ x.parts, FormC y) : FormC x := by
  intro s0 s1 w hbk hx
  obtain ⟨ba, ga, bv, gs⟩ := hx
  have HA : Hid (Tm.At w x.atom s0) := Lib.hid ⟨ba, ga⟩
  have HU := Lib.hid hbk
  have HE := Lib.hid helem
  obtain ⟨a0, n0, cap0, rfl⟩ := DAt.form ga
  obtain ⟨a, cap, S0, S1, rfl, hnc, hcap, hS, hG⟩ := FmsAt.open_ gs
  have HS := Lib.hid (Sl.mk hnc hcap hS)
  have HG := Lib.hid hG
  clear ga gs hbk hS hG helem
  have HF : Hid (x.forms = (x.parts.length == 0 && x.atom.none && (x.var.toList == []) && Fm.formS x.parts)) := Lib.hid (by rw [Fm.forms_eq]; unfold Fm.form; simp [ho])
  rw [ho]
  by_cases hl : x.parts.length = 0
  · have hl2 : (x.parts.length : Int) = 0 := by omega
    have HL := Lib.hid hl
    clear hl
    cases hw : x.var.toList == []
    · have H1 := Lib.hid hw
      go_enter Try.func131, Try.ntmps131
      go_wp2_with fail
      refine (Ret.mono (v := .bool false) (Same.ret (isQuantifier_any 1 _)) rfl).mono ?_
      rintro e w1 ⟨rfl, hb1⟩
      have hz1 := hb1.size
      (try simp at hz1)
      obtain ⟨hc1, hf1⟩ := bcell hb1
      (try simp only [sz_setCell, sz_alloc, sz_drewN] at hc1 hf1)
      (try have hu1_0 : w.heap.size < w1.heap.size := by omega)
      (try have hu1_1 : w.heap.size + 1 < w1.heap.size := by omega)
      (try have hu1_2 : w.heap.size + 1 + 1 < w1.heap.size := by omega)
      (try have hx1_0 : b < w1.heap.size := by omega)
      (try have hx1_1 : b' < w1.heap.size := by omega)
      (try have hx1_2 : b2 < w1.heap.size := by omega)
      go_wp2_with fail
      refine (Ret.mono (v := .bool false) (Same.ret (isQuantifier_any 1 _)) rfl).mono ?_
      rintro e w2 ⟨rfl, hb2⟩
      have hz2 := hb2.size
      (try simp at hz2)
      obtain ⟨hc2, hf2⟩ := bcell hb2
      (try simp only [sz_setCell, sz_alloc, sz_drewN] at hc2 hf2)
      (try have hu2_0 : w.heap.size < w2.heap.size := by omega)
      (try have hu2_1 : w.heap.size + 1 < w2.heap.size := by omega)
      (try have hu2_2 : w.heap.size + 1 + 1 < w2.heap.size := by omega)
      (try have hx2_0 : b < w2.heap.size := by omega)
      (try have hx2_1 : b' < w2.heap.size := by omega)
      (try have hx2_2 : b2 < w2.heap.size := by omega)
      go_wp2_with fail
      go_ret
      exact Ret.bel (by rw [HF.out, H1.out]; simp) (by (repeat' first | (with_reducible exact Below.refl _ _) | (with_reducible refine Below.setCell ?_ ?_ _) | (with_reducible refine Below.alloc ?_ ?_ _) | (with_reducible refine Below.drewN' ?_ _) | (with_reducible refine Below.via ?_ (by assumption) ?_) | (with_reducible exact Nat.le_refl _) | (simp; done) | (simp; omega) | omega))
    · have H1 := Lib.hid hw
      cases hs : x.atom.none
      · have H2 := Lib.hid hs
        clear hs
        go_enter Try.func131, Try.ntmps131
        go_wp2_with fail
        refine (Ret.mono (v := .bool false) (Same.ret (isQuantifier_any 1 _)) rfl).mono ?_
        rintro e w1 ⟨rfl, hb1⟩
        have hz1 := hb1.size
        (try simp at hz1)
        obtain ⟨hc1, hf1⟩ := bcell hb1
        (try simp only [sz_setCell, sz_alloc, sz_drewN] at hc1 hf1)
        (try have hu1_0 : w.heap.size < w1.heap.size := by omega)
        (try have hu1_1 : w.heap.size + 1 < w1.heap.size := by omega)
        (try have hu1_2 : w.heap.size + 1 + 1 < w1.heap.size := by omega)
        (try have hx1_0 : b < w1.heap.size := by omega)
        (try have hx1_1 : b' < w1.heap.size := by omega)
        (try have hx1_2 : b2 < w1.heap.size := by omega)
        go_wp2_with fail
        refine (Ret.mono (v := .bool false) (Same.ret (isQuantifier_any 1 _)) rfl).mono ?_
        rintro e w2 ⟨rfl, hb2⟩
        have hz2 := hb2.size
        (try simp at hz2)
        obtain ⟨hc2, hf2⟩ := bcell hb2
        (try simp only [sz_setCell, sz_alloc, sz_drewN] at hc2 hf2)
        (try have hu2_0 : w.heap.size < w2.heap.size := by omega)
        (try have hu2_1 : w.heap.size + 1 < w2.heap.size := by omega)
        (try have hu2_2 : w.heap.size + 1 + 1 < w2.heap.size := by omega)
        (try have hx2_0 : b < w2.heap.size := by omega)
        (try have hx2_1 : b' < w2.heap.size := by omega)
        (try have hx2_2 : b2 < w2.heap.size := by omega)
        go_wp2_with fail
        refine (Ret.mono (isZeroTerm_any x.atom _ _ (HA.out.keep (by (repeat' first | (with_reducible exact Below.refl _ _) | (with_reducible refine Below.setCell ?_ ?_ _) | (with_reducible refine Below.alloc ?_ ?_ _) | (with_reducible refine Below.drewN' ?_ _) | (with_reducible refine Below.via ?_ (by assumption) ?_) | (with_reducible exact Nat.le_refl _) | (simp; done) | (simp; omega) | omega)))) (by rw [H2.out])).mono ?_
        rintro e w3 ⟨rfl, hb3⟩
        have hz3 := hb3.size
        (try simp at hz3)
        obtain ⟨hc3, hf3⟩ := bcell hb3
        (try simp only [sz_setCell, sz_alloc, sz_drewN] at hc3 hf3)
        (try have hu3_0 : w.heap.size < w3.heap.size := by omega)
        (try have hu3_1 : w.heap.size + 1 < w3.heap.size := by omega)
        (try have hu3_2 : w.heap.size + 1 + 1 < w3.heap.size := by omega)
        (try have hx3_0 : b < w3.heap.size := by omega)
        (try have hx3_1 : b' < w3.heap.size := by omega)
        (try have hx3_2 : b2 < w3.heap.size := by omega)
        go_wp2_with fail
        go_ret
        exact Ret.bel (by rw [HF.out, H1.out, H2.out]; simp) (by (repeat' first | (with_reducible exact Below.refl _ _) | (with_reducible refine Below.setCell ?_ ?_ _) | (with_reducible refine Below.alloc ?_ ?_ _) | (with_reducible refine Below.drewN' ?_ _) | (with_reducible refine Below.via ?_ (by assumption) ?_) | (with_reducible exact Nat.le_refl _) | (simp; done) | (simp; omega) | omega))
      · have H2 := Lib.hid hs
        clear hs
        go_enter Try.func131, Try.ntmps131
        go_wp2_with fail
        refine (Ret.mono (v := .bool false) (Same.ret (isQuantifier_any 1 _)) rfl).mono ?_
        rintro e w1 ⟨rfl, hb1⟩
        have hz1 := hb1.size
        (try simp at hz1)
        obtain ⟨hc1, hf1⟩ := bcell hb1
        (try simp only [sz_setCell, sz_alloc, sz_drewN] at hc1 hf1)
        (try have hu1_0 : w.heap.size < w1.heap.size := by omega)
        (try have hu1_1 : w.heap.size + 1 < w1.heap.size := by omega)
        (try have hu1_2 : w.heap.size + 1 + 1 < w1.heap.size := by omega)
        (try have hx1_0 : b < w1.heap.size := by omega)
        (try have hx1_1 : b' < w1.heap.size := by omega)
        (try have hx1_2 : b2 < w1.heap.size := by omega)
        go_wp2_with fail
        refine (Ret.mono (v := .bool false) (Same.ret (isQuantifier_any 1 _)) rfl).mono ?_
        rintro e w2 ⟨rfl, hb2⟩
        have hz2 := hb2.size
        (try simp at hz2)
        obtain ⟨hc2, hf2⟩ := bcell hb2
        (try simp only [sz_setCell, sz_alloc, sz_drewN] at hc2 hf2)
        (try have hu2_0 : w.heap.size < w2.heap.size := by omega)
        (try have hu2_1 : w.heap.size + 1 < w2.heap.size := by omega)
        (try have hu2_2 : w.heap.size + 1 + 1 < w2.heap.size := by omega)
        (try have hx2_0 : b < w2.heap.size := by omega)
        (try have hx2_1 : b' < w2.heap.size := by omega)
        (try have hx2_2 : b2 < w2.heap.size := by omega)
        go_wp2_with fail
        refine (Ret.mono (isZeroTerm_any x.atom _ _ (HA.out.keep (by (repeat' first | (with_reducible exact Below.refl _ _) | (with_reducible refine Below.setCell ?_ ?_ _) | (with_reducible refine Below.alloc ?_ ?_ _) | (with_reducible refine Below.drewN' ?_ _) | (with_reducible refine Below.via ?_ (by assumption) ?_) | (with_reducible exact Nat.le_refl _) | (simp; done) | (simp; omega) | omega)))) (by rw [H2.out])).mono ?_
        rintro e w3 ⟨rfl, hb3⟩
        have hz3 := hb3.size
        (try simp at hz3)
        obtain ⟨hc3, hf3⟩ := bcell hb3
        (try simp only [sz_setCell, sz_alloc, sz_drewN] at hc3 hf3)
        (try have hu3_0 : w.heap.size < w3.heap.size := by omega)
        (try have hu3_1 : w.heap.size + 1 < w3.heap.size := by omega)
        (try have hu3_2 : w.heap.size + 1 + 1 < w3.heap.size := by omega)
        (try have hx3_0 : b < w3.heap.size := by omega)
        (try have hx3_1 : b' < w3.heap.size := by omega)
        (try have hx3_2 : b2 < w3.heap.size := by omega)
        go_wp2_with fail
        refine (Ret.mono (v := .bool (!Fm.formS x.parts)) (containsFunc_forms 158 #[] (fun i => !(x.parts.getD i Fm.zero).forms) _ x.parts.length (fun i j => Fm.c (x.parts.getD i Fm.zero) (S0 i) (S1 i) j) _ (HS.out.keep (Keeps.of_below (w := w) (by (repeat' first | (with_reducible exact Below.refl _ _) | (with_reducible refine Below.setCell ?_ ?_ _) | (with_reducible refine Below.alloc ?_ ?_ _) | (with_reducible refine Below.drewN' ?_ _) | (with_reducible refine Below.via ?_ (by assumption) ?_) | (with_reducible exact Nat.le_refl _) | (simp; done) | (simp; omega) | omega)) _)) (fun args W => by go_simp) (fun i hi _ W hW => by rw [getD_at _ hi]; exact form1_any x.parts[i] (HE.out _ (List.getElem_mem hi)) (S0 i) (S1 i) W (by have := Fm.bulk_le x.parts i hi; have := HU.out; have := Fm.bulk_eq x; omega) ((HG.out i hi).keep (Below.of_trans (b := w3) (by (repeat' first | (with_reducible exact Below.refl _ _) | (with_reducible refine Below.setCell ?_ ?_ _) | (with_reducible refine Below.alloc ?_ ?_ _) | (with_reducible refine Below.drewN' ?_ _) | (with_reducible refine Below.via ?_ (by assumption) ?_) | (with_reducible exact Nat.le_refl _) | (simp; done) | (simp; omega) | omega)) hW)))) (by rw [any_all, Fm.formS_all])).mono ?_
        rintro e w4 ⟨rfl, hb4⟩
        have hz4 := hb4.size
        (try simp at hz4)
        obtain ⟨hc4, hf4⟩ := bcell hb4
        (try simp only [sz_setCell, sz_alloc, sz_drewN] at hc4 hf4)
        (try have hu4_0 : w.heap.size < w4.heap.size := by omega)
        (try have hu4_1 : w.heap.size + 1 < w4.heap.size := by omega)
        (try have hu4_2 : w.heap.size + 1 + 1 < w4.heap.size := by omega)
        (try have hx4_0 : b < w4.heap.size := by omega)
        (try have hx4_1 : b' < w4.heap.size := by omega)
        (try have hx4_2 : b2 < w4.heap.size := by omega)
        go_wp2_with fail
        go_ret
        exact Ret.bel (by rw [HF.out, H1.out, H2.out]; simp [HL.out]) (by (repeat' first | (with_reducible exact Below.refl _ _) | (with_reducible refine Below.setCell ?_ ?_ _) | (with_reducible refine Below.alloc ?_ ?_ _) | (with_reducible refine Below.drewN' ?_ _) | (with_reducible refine Below.via ?_ (by assumption) ?_) | (with_reducible exact Nat.le_refl _) | (simp; done) | (simp; omega) | omega))
  · have hl2 : ¬ (x.parts.length : Int) = 0 := by omega
    go_enter Try.func131, Try.ntmps131
    go_wp2_with fail
    go_ret
    exact Ret.bel (by rw [HF.out]; simp [hl]) (by (repeat' first | (with_reducible exact Below.refl _ _) | (with_reducible refine Below.setCell ?_ ?_ _) | (with_reducible refine Below.alloc ?_ ?_ _) | (with_reducible refine Below.drewN' ?_ _) | (with_reducible refine Below.via ?_ (by assumption) ?_) | (with_reducible exact Nat.le_refl _) | (simp; done) | (simp; omega) | omega))
set_option maxHeartbeats 4000000 in
theorem hasForm_3 (x : Fm) (ho : x.op = 3) (helem : ∀ y ∈ x.parts, FormC y) : FormC x := by
  intro s0 s1 w hbk hx
  obtain ⟨ba, ga, bv, gs⟩ := hx
  have HA : Hid (Tm.At w x.atom s0) := Lib.hid ⟨ba, ga⟩
  have HU := Lib.hid hbk
  have HE := Lib.hid helem
  obtain ⟨a0, n0, cap0, rfl⟩ := DAt.form ga
  obtain ⟨a, cap, S0, S1, rfl, hnc, hcap, hS, hG⟩ := FmsAt.open_ gs
  have HS := Lib.hid (Sl.mk hnc hcap hS)
  have HG := Lib.hid hG
  clear ga gs hbk hS hG helem
  have HF : Hid (x.forms = (x.parts.length == 0 && x.atom.atom && (x.var.toList == []) && Fm.formS x.parts)) := Lib.hid (by rw [Fm.forms_eq]; unfold Fm.form; simp [ho])
  rw [ho]
  by_cases hl : x.parts.length = 0
  · have hl2 : (x.parts.length : Int) = 0 := by omega
    have HL := Lib.hid hl
    clear hl
    cases hw : x.var.toList == []
    · have H1 := Lib.hid hw
      go_enter Try.func131, Try.ntmps131
      go_wp2_with fail
      refine (Ret.mono (v := .bool false) (Same.ret (isQuantifier_any 3 _)) rfl).mono ?_
      rintro e w1 ⟨rfl, hb1⟩
      have hz1 := hb1.size
      (try simp at hz1)
      obtain ⟨hc1, hf1⟩ := bcell hb1
      (try simp only [sz_setCell, sz_alloc, sz_drewN] at hc1 hf1)
      (try have hu1_0 : w.heap.size < w1.heap.size := by omega)
      (try have hu1_1 : w.heap.size + 1 < w1.heap.size := by omega)
      (try have hu1_2 : w.heap.size + 1 + 1 < w1.heap.size := by omega)
      (try have hx1_0 : b < w1.heap.size := by omega)
      (try have hx1_1 : b' < w1.heap.size := by omega)
      (try have hx1_2 : b2 < w1.heap.size := by omega)
      go_wp2_with fail
      refine (Ret.mono (v := .bool false) (Same.ret (isQuantifier_any 3 _)) rfl).mono ?_
      rintro e w2 ⟨rfl, hb2⟩
      have hz2 := hb2.size
      (try simp at hz2)
      obtain ⟨hc2, hf2⟩ := bcell hb2
      (try simp only [sz_setCell, sz_alloc, sz_drewN] at hc2 hf2)
      (try have hu2_0 : w.heap.size < w2.heap.size := by omega)
      (try have hu2_1 : w.heap.size + 1 < w2.heap.size := by omega)
      (try have hu2_2 : w.heap.size + 1 + 1 < w2.heap.size := by omega)
      (try have hx2_0 : b < w2.heap.size := by omega)
      (try have hx2_1 : b' < w2.heap.size := by omega)
      (try have hx2_2 : b2 < w2.heap.size := by omega)
      go_wp2_with fail
      go_ret
      exact Ret.bel (by rw [HF.out, H1.out]; simp) (by (repeat' first | (with_reducible exact Below.refl _ _) | (with_reducible refine Below.setCell ?_ ?_ _) | (with_reducible refine Below.alloc ?_ ?_ _) | (with_reducible refine Below.drewN' ?_ _) | (with_reducible refine Below.via ?_ (by assumption) ?_) | (with_reducible exact Nat.le_refl _) | (simp; done) | (simp; omega) | omega))
    · have H1 := Lib.hid hw
      cases hs : x.atom.atom
      · have H2 := Lib.hid hs
        clear hs
        go_enter Try.func131, Try.ntmps131
        go_wp2_with fail
        refine (Ret.mono (v := .bool false) (Same.ret (isQuantifier_any 3 _)) rfl).mono ?_
        rintro e w1 ⟨rfl, hb1⟩
        have hz1 := hb1.size
        (try simp at hz1)
        obtain ⟨hc1, hf1⟩ := bcell hb1
        (try simp only [sz_setCell, sz_alloc, sz_drewN] at hc1 hf1)
        (try have hu1_0 : w.heap.size < w1.heap.size := by omega)
        (try have hu1_1 : w.heap.size + 1 < w1.heap.size := by omega)
        (try have hu1_2 : w.heap.size + 1 + 1 < w1.heap.size := by omega)
        (try have hx1_0 : b < w1.heap.size := by omega)
        (try have hx1_1 : b' < w1.heap.size := by omega)
        (try have hx1_2 : b2 < w1.heap.size := by omega)
        go_wp2_with fail
        refine (Ret.mono (v := .bool false) (Same.ret (isQuantifier_any 3 _)) rfl).mono ?_
        rintro e w2 ⟨rfl, hb2⟩
        have hz2 := hb2.size
        (try simp at hz2)
        obtain ⟨hc2, hf2⟩ := bcell hb2
        (try simp only [sz_setCell, sz_alloc, sz_drewN] at hc2 hf2)
        (try have hu2_0 : w.heap.size < w2.heap.size := by omega)
        (try have hu2_1 : w.heap.size + 1 < w2.heap.size := by omega)
        (try have hu2_2 : w.heap.size + 1 + 1 < w2.heap.size := by omega)
        (try have hx2_0 : b < w2.heap.size := by omega)
        (try have hx2_1 : b' < w2.heap.size := by omega)
        (try have hx2_2 : b2 < w2.heap.size := by omega)
        go_wp2_with fail
        refine (Ret.mono (isValidAtom_any x.atom _ _ (by have := Tm.nodes_le_bulk x.atom; have := HU.out; have := Fm.bulk_eq x; omega) (HA.out.keep (by (repeat' first | (with_reducible exact Below.refl _ _) | (with_reducible refine Below.setCell ?_ ?_ _) | (with_reducible refine Below.alloc ?_ ?_ _) | (with_reducible refine Below.drewN' ?_ _) | (with_reducible refine Below.via ?_ (by assumption) ?_) | (with_reducible exact Nat.le_refl _) | (simp; done) | (simp; omega) | omega)))) (by rw [H2.out])).mono ?_
        rintro e w3 ⟨rfl, hb3⟩
        have hz3 := hb3.size
        (try simp at hz3)
        obtain ⟨hc3, hf3⟩ := bcell hb3
        (try simp only [sz_setCell, sz_alloc, sz_drewN] at hc3 hf3)
        (try have hu3_0 : w.heap.size < w3.heap.size := by omega)
        (try have hu3_1 : w.heap.size + 1 < w3.heap.size := by omega)
        (try have hu3_2 : w.heap.size + 1 + 1 < w3.heap.size := by omega)
        (try have hx3_0 : b < w3.heap.size := by omega)
        (try have hx3_1 : b' < w3.heap.size := by omega)
        (try have hx3_2 : b2 < w3.heap.size := by omega)
        go_wp2_with fail
        go_ret
        exact Ret.bel (by rw [HF.out, H1.out, H2.out]; simp) (by (repeat' first | (with_reducible exact Below.refl _ _) | (with_reducible refine Below.setCell ?_ ?_ _) | (with_reducible refine Below.alloc ?_ ?_ _) | (with_reducible refine Below.drewN' ?_ _) | (with_reducible refine Below.via ?_ (by assumption) ?_) | (with_reducible exact Nat.le_refl _) | (simp; done) | (simp; omega) | omega))
      · have H2 := Lib.hid hs
        clear hs
        go_enter Try.func131, Try.ntmps131
        go_wp2_with fail
        refine (Ret.mono (v := .bool false) (Same.ret (isQuantifier_any 3 _)) rfl).mono ?_
        rintro e w1 ⟨rfl, hb1⟩
        have hz1 := hb1.size
        (try simp at hz1)
        obtain ⟨hc1, hf1⟩ := bcell hb1
        (try simp only [sz_setCell, sz_alloc, sz_drewN] at hc1 hf1)
        (try have hu1_0 : w.heap.size < w1.heap.size := by omega)
        (try have hu1_1 : w.heap.size + 1 < w1.heap.size := by omega)
        (try have hu1_2 : w.heap.size + 1 + 1 < w1.heap.size := by omega)
        (try have hx1_0 : b < w1.heap.size := by omega)
        (try have hx1_1 : b' < w1.heap.size := by omega)
        (try have hx1_2 : b2 < w1.heap.size := by omega)
        go_wp2_with fail
        refine (Ret.mono (v := .bool false) (Same.ret (isQuantifier_any 3 _)) rfl).mono ?_
        rintro e w2 ⟨rfl, hb2⟩
        have hz2 := hb2.size
        (try simp at hz2)
        obtain ⟨hc2, hf2⟩ := bcell hb2
        (try simp only [sz_setCell, sz_alloc, sz_drewN] at hc2 hf2)
        (try have hu2_0 : w.heap.size < w2.heap.size := by omega)
        (try have hu2_1 : w.heap.size + 1 < w2.heap.size := by omega)
        (try have hu2_2 : w.heap.size + 1 + 1 < w2.heap.size := by omega)
        (try have hx2_0 : b < w2.heap.size := by omega)
        (try have hx2_1 : b' < w2.heap.size := by omega)
        (try have hx2_2 : b2 < w2.heap.size := by omega)
        go_wp2_with fail
        refine (Ret.mono (isValidAtom_any x.atom _ _ (by have := Tm.nodes_le_bulk x.atom; have := HU.out; have := Fm.bulk_eq x; omega) (HA.out.keep (by (repeat' first | (with_reducible exact Below.refl _ _) | (with_reducible refine Below.setCell ?_ ?_ _) | (with_reducible refine Below.alloc ?_ ?_ _) | (with_reducible refine Below.drewN' ?_ _) | (with_reducible refine Below.via ?_ (by assumption) ?_) | (with_reducible exact Nat.le_refl _) | (simp; done) | (simp; omega) | omega)))) (by rw [H2.out])).mono ?_
        rintro e w3 ⟨rfl, hb3⟩
        have hz3 := hb3.size
        (try simp at hz3)
        obtain ⟨hc3, hf3⟩ := bcell hb3
        (try simp only [sz_setCell, sz_alloc, sz_drewN] at hc3 hf3)
        (try have hu3_0 : w.heap.size < w3.heap.size := by omega)
        (try have hu3_1 : w.heap.size + 1 < w3.heap.size := by omega)
        (try have hu3_2 : w.heap.size + 1 + 1 < w3.heap.size := by omega)
        (try have hx3_0 : b < w3.heap.size := by omega)
        (try have hx3_1 : b' < w3.heap.size := by omega)
        (try have hx3_2 : b2 < w3.heap.size := by omega)
        go_wp2_with fail
        refine (Ret.mono (v := .bool (!Fm.formS x.parts)) (containsFunc_forms 158 #[] (fun i => !(x.parts.getD i Fm.zero).forms) _ x.parts.length (fun i j => Fm.c (x.parts.getD i Fm.zero) (S0 i) (S1 i) j) _ (HS.out.keep (Keeps.of_below (w := w) (by (repeat' first | (with_reducible exact Below.refl _ _) | (with_reducible refine Below.setCell ?_ ?_ _) | (with_reducible refine Below.alloc ?_ ?_ _) | (with_reducible refine Below.drewN' ?_ _) | (with_reducible refine Below.via ?_ (by assumption) ?_) | (with_reducible exact Nat.le_refl _) | (simp; done) | (simp; omega) | omega)) _)) (fun args W => by go_simp) (fun i hi _ W hW => by rw [getD_at _ hi]; exact form1_any x.parts[i] (HE.out _ (List.getElem_mem hi)) (S0 i) (S1 i) W (by have := Fm.bulk_le x.parts i hi; have := HU.out; have := Fm.bulk_eq x; omega) ((HG.out i hi).keep (Below.of_trans (b := w3) (by (repeat' first | (with_reducible exact Below.refl _ _) | (with_reducible refine Below.setCell ?_ ?_ _) | (with_reducible refine Below.alloc ?_ ?_ _) | (with_reducible refine Below.drewN' ?_ _) | (with_reducible refine Below.via ?_ (by assumption) ?_) | (with_reducible exact Nat.le_refl _) | (simp; done) | (simp; omega) | omega)) hW)))) (by rw [any_all, Fm.formS_all])).mono ?_
        rintro e w4 ⟨rfl, hb4⟩
        have hz4 := hb4.size
        (try simp at hz4)
        obtain ⟨hc4, hf4⟩ := bcell hb4
        (try simp only [sz_setCell, sz_alloc, sz_drewN] at hc4 hf4)
        (try have hu4_0 : w.heap.size < w4.heap.size := by omega)
        (try have hu4_1 : w.heap.size + 1 < w4.heap.size := by omega)
        (try have hu4_2 : w.heap.size + 1 + 1 < w4.heap.size := by omega)
        (try have hx4_0 : b < w4.heap.size := by omega)
        (try have hx4_1 : b' < w4.heap.size := by omega)
        (try have hx4_2 : b2 < w4.heap.size := by omega)
        go_wp2_with fail
        go_ret
        exact Ret.bel (by rw [HF.out, H1.out, H2.out]; simp [HL.out]) (by (repeat' first | (with_reducible exact Below.refl _ _) | (with_reducible refine Below.setCell ?_ ?_ _) | (with_reducible refine Below.alloc ?_ ?_ _) | (with_reducible refine Below.drewN' ?_ _) | (with_reducible refine Below.via ?_ (by assumption) ?_) | (with_reducible exact Nat.le_refl _) | (simp; done) | (simp; omega) | omega))
  · have hl2 : ¬ (x.parts.length : Int) = 0 := by omega
    go_enter Try.func131, Try.ntmps131
    go_wp2_with fail
    go_ret
    exact Ret.bel (by rw [HF.out]; simp [hl]) (by (repeat' first | (with_reducible exact Below.refl _ _) | (with_reducible refine Below.setCell ?_ ?_ _) | (with_reducible refine Below.alloc ?_ ?_ _) | (with_reducible refine Below.drewN' ?_ _) | (with_reducible refine Below.via ?_ (by assumption) ?_) | (with_reducible exact Nat.le_refl _) | (simp; done) | (simp; omega) | omega))
set_option maxHeartbeats 4000000 in
theorem hasForm_5 (x : Fm) (ho : x.op = 5) (helem : ∀ y ∈ x.parts, FormC y) : FormC x := by
  intro s0 s1 w hbk hx
  obtain ⟨ba, ga, bv, gs⟩ := hx
  have HA : Hid (Tm.At w x.atom s0) := Lib.hid ⟨ba, ga⟩
  have HU := Lib.hid hbk
  have HE := Lib.hid helem
  obtain ⟨a0, n0, cap0, rfl⟩ := DAt.form ga
  obtain ⟨a, cap, S0, S1, rfl, hnc, hcap, hS, hG⟩ := FmsAt.open_ gs
  have HS := Lib.hid (Sl.mk hnc hcap hS)
  have HG := Lib.hid hG
  clear ga gs hbk hS hG helem
  have HF : Hid (x.forms = (x.parts.length == 2 && x.atom.none && (x.var.toList == []) && Fm.formS x.parts)) := Lib.hid (by rw [Fm.forms_eq]; unfold Fm.form; simp [ho])
  rw [ho]
  by_cases hl : x.parts.length = 2
  · have hl2 : (x.parts.length : Int) = 2 := by omega
    have HL := Lib.hid hl
    clear hl
    cases hw : x.var.toList == []
    · have H1 := Lib.hid hw
      go_enter Try.func131, Try.ntmps131
      go_wp2_with fail
      refine (Ret.mono (v := .bool false) (Same.ret (isQuantifier_any 5 _)) rfl).mono ?_
      rintro e w1 ⟨rfl, hb1⟩
      have hz1 := hb1.size
      (try simp at hz1)
      obtain ⟨hc1, hf1⟩ := bcell hb1
      (try simp only [sz_setCell, sz_alloc, sz_drewN] at hc1 hf1)
      (try have hu1_0 : w.heap.size < w1.heap.size := by omega)
      (try have hu1_1 : w.heap.size + 1 < w1.heap.size := by omega)
      (try have hu1_2 : w.heap.size + 1 + 1 < w1.heap.size := by omega)
      (try have hx1_0 : b < w1.heap.size := by omega)
      (try have hx1_1 : b' < w1.heap.size := by omega)
      (try have hx1_2 : b2 < w1.heap.size := by omega)
      go_wp2_with fail
      refine (Ret.mono (v := .bool true) (Same.ret (isBinary_any 5 _)) rfl).mono ?_
      rintro e w2 ⟨rfl, hb2⟩
      have hz2 := hb2.size
      (try simp at hz2)
      obtain ⟨hc2, hf2⟩ := bcell hb2
      (try simp only [sz_setCell, sz_alloc, sz_drewN] at hc2 hf2)
      (try have hu2_0 : w.heap.size < w2.heap.size := by omega)
      (try have hu2_1 : w.heap.size + 1 < w2.heap.size := by omega)
      (try have hu2_2 : w.heap.size + 1 + 1 < w2.heap.size := by omega)
      (try have hx2_0 : b < w2.heap.size := by omega)
      (try have hx2_1 : b' < w2.heap.size := by omega)
      (try have hx2_2 : b2 < w2.heap.size := by omega)
      go_wp2_with fail
      refine (Ret.mono (v := .bool false) (Same.ret (isQuantifier_any 5 _)) rfl).mono ?_
      rintro e w3 ⟨rfl, hb3⟩
      have hz3 := hb3.size
      (try simp at hz3)
      obtain ⟨hc3, hf3⟩ := bcell hb3
      (try simp only [sz_setCell, sz_alloc, sz_drewN] at hc3 hf3)
      (try have hu3_0 : w.heap.size < w3.heap.size := by omega)
      (try have hu3_1 : w.heap.size + 1 < w3.heap.size := by omega)
      (try have hu3_2 : w.heap.size + 1 + 1 < w3.heap.size := by omega)
      (try have hx3_0 : b < w3.heap.size := by omega)
      (try have hx3_1 : b' < w3.heap.size := by omega)
      (try have hx3_2 : b2 < w3.heap.size := by omega)
      go_wp2_with fail
      refine (Ret.mono (v := .bool false) (Same.ret (isQuantifier_any 5 _)) rfl).mono ?_
      rintro e w4 ⟨rfl, hb4⟩
      have hz4 := hb4.size
      (try simp at hz4)
      obtain ⟨hc4, hf4⟩ := bcell hb4
      (try simp only [sz_setCell, sz_alloc, sz_drewN] at hc4 hf4)
      (try have hu4_0 : w.heap.size < w4.heap.size := by omega)
      (try have hu4_1 : w.heap.size + 1 < w4.heap.size := by omega)
      (try have hu4_2 : w.heap.size + 1 + 1 < w4.heap.size := by omega)
      (try have hx4_0 : b < w4.heap.size := by omega)
      (try have hx4_1 : b' < w4.heap.size := by omega)
      (try have hx4_2 : b2 < w4.heap.size := by omega)
      go_wp2_with fail
      go_ret
      exact Ret.bel (by rw [HF.out, H1.out]; simp) (by (repeat' first | (with_reducible exact Below.refl _ _) | (with_reducible refine Below.setCell ?_ ?_ _) | (with_reducible refine Below.alloc ?_ ?_ _) | (with_reducible refine Below.drewN' ?_ _) | (with_reducible refine Below.via ?_ (by assumption) ?_) | (with_reducible exact Nat.le_refl _) | (simp; done) | (simp; omega) | omega))
    · have H1 := Lib.hid hw
      cases hs : x.atom.none
      · have H2 := Lib.hid hs
        clear hs
        go_enter Try.func131, Try.ntmps131
        go_wp2_with fail
        refine (Ret.mono (v := .bool false) (Same.ret (isQuantifier_any 5 _)) rfl).mono ?_
        rintro e w1 ⟨rfl, hb1⟩
        have hz1 := hb1.size
        (try simp at hz1)
        obtain ⟨hc1, hf1⟩ := bcell hb1
        (try simp only [sz_setCell, sz_alloc, sz_drewN] at hc1 hf1)
        (try have hu1_0 : w.heap.size < w1.heap.size := by omega)
        (try have hu1_1 : w.heap.size + 1 < w1.heap.size := by omega)
        (try have hu1_2 : w.heap.size + 1 + 1 < w1.heap.size := by omega)
        (try have hx1_0 : b < w1.heap.size := by omega)
        (try have hx1_1 : b' < w1.heap.size := by omega)
        (try have hx1_2 : b2 < w1.heap.size := by omega)
        go_wp2_with fail
        refine (Ret.mono (v := .bool true) (Same.ret (isBinary_any 5 _)) rfl).mono ?_
        rintro e w2 ⟨rfl, hb2⟩
        have hz2 := hb2.size
        (try simp at hz2)
        obtain ⟨hc2, hf2⟩ := bcell hb2
        (try simp only [sz_setCell, sz_alloc, sz_drewN] at hc2 hf2)
        (try have hu2_0 : w.heap.size < w2.heap.size := by omega)
        (try have hu2_1 : w.heap.size + 1 < w2.heap.size := by omega)
        (try have hu2_2 : w.heap.size + 1 + 1 < w2.heap.size := by omega)
        (try have hx2_0 : b < w2.heap.size := by omega)
        (try have hx2_1 : b' < w2.heap.size := by omega)
        (try have hx2_2 : b2 < w2.heap.size := by omega)
        go_wp2_with fail
        refine (Ret.mono (v := .bool false) (Same.ret (isQuantifier_any 5 _)) rfl).mono ?_
        rintro e w3 ⟨rfl, hb3⟩
        have hz3 := hb3.size
        (try simp at hz3)
        obtain ⟨hc3, hf3⟩ := bcell hb3
        (try simp only [sz_setCell, sz_alloc, sz_drewN] at hc3 hf3)
        (try have hu3_0 : w.heap.size < w3.heap.size := by omega)
        (try have hu3_1 : w.heap.size + 1 < w3.heap.size := by omega)
        (try have hu3_2 : w.heap.size + 1 + 1 < w3.heap.size := by omega)
        (try have hx3_0 : b < w3.heap.size := by omega)
        (try have hx3_1 : b' < w3.heap.size := by omega)
        (try have hx3_2 : b2 < w3.heap.size := by omega)
        go_wp2_with fail
        refine (Ret.mono (v := .bool false) (Same.ret (isQuantifier_any 5 _)) rfl).mono ?_
        rintro e w4 ⟨rfl, hb4⟩
        have hz4 := hb4.size
        (try simp at hz4)
        obtain ⟨hc4, hf4⟩ := bcell hb4
        (try simp only [sz_setCell, sz_alloc, sz_drewN] at hc4 hf4)
        (try have hu4_0 : w.heap.size < w4.heap.size := by omega)
        (try have hu4_1 : w.heap.size + 1 < w4.heap.size := by omega)
        (try have hu4_2 : w.heap.size + 1 + 1 < w4.heap.size := by omega)
        (try have hx4_0 : b < w4.heap.size := by omega)
        (try have hx4_1 : b' < w4.heap.size := by omega)
        (try have hx4_2 : b2 < w4.heap.size := by omega)
        go_wp2_with fail
        refine (Ret.mono (isZeroTerm_any x.atom _ _ (HA.out.keep (by (repeat' first | (with_reducible exact Below.refl _ _) | (with_reducible refine Below.setCell ?_ ?_ _) | (with_reducible refine Below.alloc ?_ ?_ _) | (with_reducible refine Below.drewN' ?_ _) | (with_reducible refine Below.via ?_ (by assumption) ?_) | (with_reducible exact Nat.le_refl _) | (simp; done) | (simp; omega) | omega)))) (by rw [H2.out])).mono ?_
        rintro e w5 ⟨rfl, hb5⟩
        have hz5 := hb5.size
        (try simp at hz5)
        obtain ⟨hc5, hf5⟩ := bcell hb5
        (try simp only [sz_setCell, sz_alloc, sz_drewN] at hc5 hf5)
        (try have hu5_0 : w.heap.size < w5.heap.size := by omega)
        (try have hu5_1 : w.heap.size + 1 < w5.heap.size := by omega)
        (try have hu5_2 : w.heap.size + 1 + 1 < w5.heap.size := by omega)
        (try have hx5_0 : b < w5.heap.size := by omega)
        (try have hx5_1 : b' < w5.heap.size := by omega)
        (try have hx5_2 : b2 < w5.heap.size := by omega)
        go_wp2_with fail
        go_ret
        exact Ret.bel (by rw [HF.out, H1.out, H2.out]; simp) (by (repeat' first | (with_reducible exact Below.refl _ _) | (with_reducible refine Below.setCell ?_ ?_ _) | (with_reducible refine Below.alloc ?_ ?_ _) | (with_reducible refine Below.drewN' ?_ _) | (with_reducible refine Below.via ?_ (by assumption) ?_) | (with_reducible exact Nat.le_refl _) | (simp; done) | (simp; omega) | omega))
      · have H2 := Lib.hid hs
        clear hs
        go_enter Try.func131, Try.ntmps131
        go_wp2_with fail
        refine (Ret.mono (v := .bool false) (Same.ret (isQuantifier_any 5 _)) rfl).mono ?_
        rintro e w1 ⟨rfl, hb1⟩
        have hz1 := hb1.size
        (try simp at hz1)
        obtain ⟨hc1, hf1⟩ := bcell hb1
        (try simp only [sz_setCell, sz_alloc, sz_drewN] at hc1 hf1)
        (try have hu1_0 : w.heap.size < w1.heap.size := by omega)
        (try have hu1_1 : w.heap.size + 1 < w1.heap.size := by omega)
        (try have hu1_2 : w.heap.size + 1 + 1 < w1.heap.size := by omega)
        (try have hx1_0 : b < w1.heap.size := by omega)
        (try have hx1_1 : b' < w1.heap.size := by omega)
        (try have hx1_2 : b2 < w1.heap.size := by omega)
        go_wp2_with fail
        refine (Ret.mono (v := .bool true) (Same.ret (isBinary_any 5 _)) rfl).mono ?_
        rintro e w2 ⟨rfl, hb2⟩
        have hz2 := hb2.size
        (try simp at hz2)
        obtain ⟨hc2, hf2⟩ := bcell hb2
        (try simp only [sz_setCell, sz_alloc, sz_drewN] at hc2 hf2)
        (try have hu2_0 : w.heap.size < w2.heap.size := by omega)
        (try have hu2_1 : w.heap.size + 1 < w2.heap.size := by omega)
        (try have hu2_2 : w.heap.size + 1 + 1 < w2.heap.size := by omega)
        (try have hx2_0 : b < w2.heap.size := by omega)
        (try have hx2_1 : b' < w2.heap.size := by omega)
        (try have hx2_2 : b2 < w2.heap.size := by omega)
        go_wp2_with fail
        refine (Ret.mono (v := .bool false) (Same.ret (isQuantifier_any 5 _)) rfl).mono ?_
        rintro e w3 ⟨rfl, hb3⟩
        have hz3 := hb3.size
        (try simp at hz3)
        obtain ⟨hc3, hf3⟩ := bcell hb3
        (try simp only [sz_setCell, sz_alloc, sz_drewN] at hc3 hf3)
        (try have hu3_0 : w.heap.size < w3.heap.size := by omega)
        (try have hu3_1 : w.heap.size + 1 < w3.heap.size := by omega)
        (try have hu3_2 : w.heap.size + 1 + 1 < w3.heap.size := by omega)
        (try have hx3_0 : b < w3.heap.size := by omega)
        (try have hx3_1 : b' < w3.heap.size := by omega)
        (try have hx3_2 : b2 < w3.heap.size := by omega)
        go_wp2_with fail
        refine (Ret.mono (v := .bool false) (Same.ret (isQuantifier_any 5 _)) rfl).mono ?_
        rintro e w4 ⟨rfl, hb4⟩
        have hz4 := hb4.size
        (try simp at hz4)
        obtain ⟨hc4, hf4⟩ := bcell hb4
        (try simp only [sz_setCell, sz_alloc, sz_drewN] at hc4 hf4)
        (try have hu4_0 : w.heap.size < w4.heap.size := by omega)
        (try have hu4_1 : w.heap.size + 1 < w4.heap.size := by omega)
        (try have hu4_2 : w.heap.size + 1 + 1 < w4.heap.size := by omega)
        (try have hx4_0 : b < w4.heap.size := by omega)
        (try have hx4_1 : b' < w4.heap.size := by omega)
        (try have hx4_2 : b2 < w4.heap.size := by omega)
        go_wp2_with fail
        refine (Ret.mono (isZeroTerm_any x.atom _ _ (HA.out.keep (by (repeat' first | (with_reducible exact Below.refl _ _) | (with_reducible refine Below.setCell ?_ ?_ _) | (with_reducible refine Below.alloc ?_ ?_ _) | (with_reducible refine Below.drewN' ?_ _) | (with_reducible refine Below.via ?_ (by assumption) ?_) | (with_reducible exact Nat.le_refl _) | (simp; done) | (simp; omega) | omega)))) (by rw [H2.out])).mono ?_
        rintro e w5 ⟨rfl, hb5⟩
        have hz5 := hb5.size
        (try simp at hz5)
        obtain ⟨hc5, hf5⟩ := bcell hb5
        (try simp only [sz_setCell, sz_alloc, sz_drewN] at hc5 hf5)
        (try have hu5_0 : w.heap.size < w5.heap.size := by omega)
        (try have hu5_1 : w.heap.size + 1 < w5.heap.size := by omega)
        (try have hu5_2 : w.heap.size + 1 + 1 < w5.heap.size := by omega)
        (try have hx5_0 : b < w5.heap.size := by omega)
        (try have hx5_1 : b' < w5.heap.size := by omega)
        (try have hx5_2 : b2 < w5.heap.size := by omega)
        go_wp2_with fail
        refine (Ret.mono (v := .bool (!Fm.formS x.parts)) (containsFunc_forms 158 #[] (fun i => !(x.parts.getD i Fm.zero).forms) _ x.parts.length (fun i j => Fm.c (x.parts.getD i Fm.zero) (S0 i) (S1 i) j) _ (HS.out.keep (Keeps.of_below (w := w) (by (repeat' first | (with_reducible exact Below.refl _ _) | (with_reducible refine Below.setCell ?_ ?_ _) | (with_reducible refine Below.alloc ?_ ?_ _) | (with_reducible refine Below.drewN' ?_ _) | (with_reducible refine Below.via ?_ (by assumption) ?_) | (with_reducible exact Nat.le_refl _) | (simp; done) | (simp; omega) | omega)) _)) (fun args W => by go_simp) (fun i hi _ W hW => by rw [getD_at _ hi]; exact form1_any x.parts[i] (HE.out _ (List.getElem_mem hi)) (S0 i) (S1 i) W (by have := Fm.bulk_le x.parts i hi; have := HU.out; have := Fm.bulk_eq x; omega) ((HG.out i hi).keep (Below.of_trans (b := w5) (by (repeat' first | (with_reducible exact Below.refl _ _) | (with_reducible refine Below.setCell ?_ ?_ _) | (with_reducible refine Below.alloc ?_ ?_ _) | (with_reducible refine Below.drewN' ?_ _) | (with_reducible refine Below.via ?_ (by assumption) ?_) | (with_reducible exact Nat.le_refl _) | (simp; done) | (simp; omega) | omega)) hW)))) (by rw [any_all, Fm.formS_all])).mono ?_
        rintro e w6 ⟨rfl, hb6⟩
        have hz6 := hb6.size
        (try simp at hz6)
        obtain ⟨hc6, hf6⟩ := bcell hb6
        (try simp only [sz_setCell, sz_alloc, sz_drewN] at hc6 hf6)
        (try have hu6_0 : w.heap.size < w6.heap.size := by omega)
        (try have hu6_1 : w.heap.size + 1 < w6.heap.size := by omega)
        (try have hu6_2 : w.heap.size + 1 + 1 < w6.heap.size := by omega)
        (try have hx6_0 : b < w6.heap.size := by omega)
        (try have hx6_1 : b' < w6.heap.size := by omega)
        (try have hx6_2 : b2 < w6.heap.size := by omega)
        go_wp2_with fail
        go_ret
        exact Ret.bel (by rw [HF.out, H1.out, H2.out]; simp [HL.out]) (by (repeat' first | (with_reducible exact Below.refl _ _) | (with_reducible refine Below.setCell ?_ ?_ _) | (with_reducible refine Below.alloc ?_ ?_ _) | (with_reducible refine Below.drewN' ?_ _) | (with_reducible refine Below.via ?_ (by assumption) ?_) | (with_reducible exact Nat.le_refl _) | (simp; done) | (simp; omega) | omega))
  · have hl2 : ¬ (x.parts.length : Int) = 2 := by omega
    go_enter Try.func131, Try.ntmps131
    go_wp2_with fail
    refine (Ret.mono (v := .bool false) (Same.ret (isQuantifier_any 5 _)) rfl).mono ?_
    rintro e w1 ⟨rfl, hb1⟩
    have hz1 := hb1.size
    (try simp at hz1)
    obtain ⟨hc1, hf1⟩ := bcell hb1
    (try simp only [sz_setCell, sz_alloc, sz_drewN] at hc1 hf1)
    (try have hu1_0 : w.heap.size < w1.heap.size := by omega)
    (try have hu1_1 : w.heap.size + 1 < w1.heap.size := by omega)
    (try have hu1_2 : w.heap.size + 1 + 1 < w1.heap.size := by omega)
    (try have hx1_0 : b < w1.heap.size := by omega)
    (try have hx1_1 : b' < w1.heap.size := by omega)
    (try have hx1_2 : b2 < w1.heap.size := by omega)
    go_wp2_with fail
    refine (Ret.mono (v := .bool true) (Same.ret (isBinary_any 5 _)) rfl).mono ?_
    rintro e w2 ⟨rfl, hb2⟩
    have hz2 := hb2.size
    (try simp at hz2)
    obtain ⟨hc2, hf2⟩ := bcell hb2
    (try simp only [sz_setCell, sz_alloc, sz_drewN] at hc2 hf2)
    (try have hu2_0 : w.heap.size < w2.heap.size := by omega)
    (try have hu2_1 : w.heap.size + 1 < w2.heap.size := by omega)
    (try have hu2_2 : w.heap.size + 1 + 1 < w2.heap.size := by omega)
    (try have hx2_0 : b < w2.heap.size := by omega)
    (try have hx2_1 : b' < w2.heap.size := by omega)
    (try have hx2_2 : b2 < w2.heap.size := by omega)
    go_wp2_with fail
    go_ret
    exact Ret.bel (by rw [HF.out]; simp [hl]) (by (repeat' first | (with_reducible exact Below.refl _ _) | (with_reducible refine Below.setCell ?_ ?_ _) | (with_reducible refine Below.alloc ?_ ?_ _) | (with_reducible refine Below.drewN' ?_ _) | (with_reducible refine Below.via ?_ (by assumption) ?_) | (with_reducible exact Nat.le_refl _) | (simp; done) | (simp; omega) | omega))
end Go.Proofs.Ytpbakldlhjdipaa
