/-
  This text proves what the laws' copies of terms and formulas compute. Condition: sizes within the law's own bound.
-/
import Derived.Test.YtpbakldlhjdipaaTm
set_option maxRecDepth 100000
set_option linter.unusedSimpArgs false
set_option linter.unusedVariables false
namespace Go.Proofs.Ytpbakldlhjdipaa
open Go.RowKit

def ToTmR (w : World) (x : Tm) (e : Ending) (w' : World) : Prop := ∃ (as0 : Option Addr) (ns0 cs0 : Nat), e = .returned (.agg #[.string x.name, .slice as0 ns0 cs0]) ∧ Below w.heap.size w w' ∧ Leaves w' w.heap.size w'.heap.size x.d [.string x.name, .slice as0 ns0 cs0]
def ToTm (x : Tm) : Prop := ∀ (s0 : Value) (w : World), x.bulk ≤ 1048576 → Tm.At w x s0 → Calls Try.prog 87 #[.agg #[.string x.name, s0]] w (ToTmR w x)
def ToTms (xs : List Tm) : Prop := ∀ (v : Value) (w : World), xs.length + Tm.sumB xs ≤ 1048576 → TmsAt w xs v → Calls Try.prog 129 #[v] w (Tell w fun w' u => DOwn w' w.heap.size (.arr (xs.map Tm.d)) u)
set_option maxHeartbeats 1000000 in
theorem toTerm_of (x : Tm) (hS : ToTms x.args) : ToTm x := by
  intro s0 w hbk hx
  have HX := Lib.hid hx
  rw [Tm.bulk_eq] at hbk
  obtain ⟨b0, gs0⟩ := hx
  obtain ⟨xs0, ns0, cs0, rfl⟩ := DAt.form gs0
  clear gs0
  go_enter Try.func87, Try.ntmps87
  go_wp2_with fail
  refine (hS _ _ (by omega) (DAt.keep (HX.out.2) (by (repeat' first | (with_reducible exact Below.refl _ _) | (with_reducible refine Below.setCell ?_ ?_ _) | (with_reducible refine Below.alloc ?_ ?_ _) | (with_reducible refine Below.drewN' ?_ _) | (with_reducible refine Below.via ?_ (by assumption) ?_) | (with_reducible exact Nat.le_refl _) | (simp; done) | (simp; omega) | omega)))).mono ?_
  rintro e w1 ⟨v1, rfl, hb1, ho1⟩
  obtain ⟨as0, ns0, cs0, rfl⟩ := DOwn.form ho1
  have HO1 := Lib.hid ho1
  clear ho1
  have hs1 := hb1.size
  (try simp at hs1)
  obtain ⟨hc1, hf1⟩ := bcell hb1
  (try simp only [sz_setCell, sz_alloc, sz_drewN] at hc1 hf1)
  (try have hu1_0 : w.heap.size < w1.heap.size := by omega)
  (try have hu1_1 : w.heap.size + 1 < w1.heap.size := by omega)
  (try have hu1_2 : w.heap.size + 1 + 1 < w1.heap.size := by omega)
  (try have hu1_3 : w.heap.size + 1 + 1 + 1 < w1.heap.size := by omega)
  go_wp2_with fail
  refine bodyPost_ret (v := .agg #[.string x.name, .slice as0 ns0 cs0]) (by simp [results, Try.results87, go_sem, hc1, hu1_0, hu1_1, hu1_2]) rfl ?_
  refine ⟨_, _, _, rfl, by (repeat' first | (with_reducible exact Below.refl _ _) | (with_reducible refine Below.setCell ?_ ?_ _) | (with_reducible refine Below.alloc ?_ ?_ _) | (with_reducible refine Below.drewN' ?_ _) | (with_reducible refine Below.via ?_ (by assumption) ?_) | (with_reducible exact Nat.le_refl _) | (simp; done) | (simp; omega) | omega), ?_⟩
  rw [Tm.d_eq]
  refine Leaves.cons_str b0 ?_
  refine Leaves.cons_own (mid := w1.heap.size) HO1.out (by (repeat' first | (with_reducible exact KeepS.refl _ _) | (with_reducible refine KeepS.setCell ?_ ?_ _) | (with_reducible refine KeepS.alloc ?_ _) | (with_reducible refine KeepS.drewN' ?_ _) | (with_reducible refine KeepS.via ?_ (by assumption) ?_) | (with_reducible exact Nat.le_refl _) | (intro hS; obtain ⟨hS1, hS2⟩ := hS; dsimp only at hS1 hS2; omega) | (simp; done) | (simp; omega) | omega)) (by simp; try omega) (by simp; try omega) (by simp) ?_
  exact .nil _ _ (by simp; try omega)
theorem Term_info : (Try.prog.info? 43).map (fun i => (i.zero, i.size, i.bytes)) = some (some (.agg #[.string ⟨#[]⟩, .slice none 0 0]), 2, 40) := by kernel_rfl
set_option maxHeartbeats 2000000 in
theorem toTermS_of (xs : List Tm) (helem : ∀ x ∈ xs, ToTm x) : ToTms xs := by
  intro v w hbk hx
  obtain ⟨a, cap, S0, rfl, hnc, hcap, hS, hF⟩ := hx.open_
  have HS := Lib.hid hS
  have HF := Lib.hid hF
  have HE := Lib.hid helem
  clear hS hF helem hx
  have hmk := fun W => run_make_k (P := Try.prog) 41 43 (.agg #[.string ⟨#[]⟩, .slice none 0 0]) 2 40 Try.underlying41 Term_info .i64 .i64 xs.length (by omega) (by omega) W
  go_enter Try.func129, Try.ntmps129
  go_wp2
  clear hmk
  have h0 := rowIs_made_k w #[.string ⟨#[]⟩, .slice none 0 0] (xs.length * 2) 43
  go_loopw [4] (fun i wr => CntB w xs.length (fun k wr => ∃ h : Nat → Value, wr.rowIs w.heap.size 43 (xs.length * 2) h ∧ Leaves wr (w.heap.size + 1) wr.heap.size ((xs.take k).map Tm.d).flatten ((List.range (k * 2)).map h)) i wr) (fun i _ => xs.length - (intOf i).toNat)
  case atStart => exact ⟨0, Nat.zero_le _, rfl, ⟨_, h0, .nil _ _ (by simp)⟩, (Below.refl _ _).alloc (Nat.le_refl _) _⟩
  case round =>
    obtain ⟨k, hk, rfl, ⟨h, hr, hh⟩, hbw⟩ := hrel
    have hzw := hbw.size
    clear h0
    have HL := Lib.hid hh
    clear hh
    by_cases hlt : k < xs.length
    · obtain ⟨b, off, rfl, hbl, c0, c1⟩ := (HS.out.keep (Keeps.of_below hbw _)).at2 hlt
      rw [getD_at _ hlt] at c0 c1
      simp only [Tm.c] at c0 c1
      have HR := Lib.hid hr
      have hrs := hr.lt
      have d0 := hr.cell (i := k * 2) (by omega)
      have f0 := hr.frozen (k * 2)
      have d1 := hr.cell (i := k * 2 + 1) (by omega)
      have f1 := hr.frozen (k * 2 + 1)
      clear hr
      have hbx : xs[k].bulk ≤ 1048576 := by have := Tm.bulk_le xs k hlt; omega
      go_wp2_with fail
      refine (HE.out xs[k] (List.getElem_mem hlt) _ _ hbx ((HF.out k hlt).keep hbw)).mono ?_
      rintro e w1 ⟨as0, ns0, cs0, rfl, hb1, hl1⟩
      have HL1 := Lib.hid hl1
      clear hl1
      have hz1 := hb1.size
      obtain ⟨hc1, hf1⟩ := bcell hb1
      go_wp2_with fail
      go_roundw
      case rel =>
        refine ⟨k + 1, hlt, by go_num, ⟨_, ((row_keep HR.out (Keeps.of_below hb1 0) (Nat.zero_le _)).set _ _).set _ _, ?_⟩, by (repeat' first | (with_reducible exact Below.refl _ _) | (with_reducible refine Below.setCell ?_ ?_ _) | (with_reducible refine Below.alloc ?_ ?_ _) | (with_reducible refine Below.drewN' ?_ _) | (with_reducible refine Below.via ?_ (by assumption) ?_) | (with_reducible exact Nat.le_refl _) | (simp; done) | (simp; omega) | omega)⟩
        clear hc1 hf1 c0 c1
        rw [take_flat Tm.d hlt, range_snoc (k := k) (m := 2)]
        refine Leaves.append (mid := wr.heap.size) ?_ ?_
        · rw [range_agree (h' := h) (by intro q hq; repeat rw [if_neg (by omega)])]
          exact Leaves.keep HL.out (by (repeat' first | (with_reducible exact KeepS.refl _ _) | (with_reducible refine KeepS.setCell ?_ ?_ _) | (with_reducible refine KeepS.alloc ?_ _) | (with_reducible refine KeepS.drewN' ?_ _) | (with_reducible refine KeepS.via ?_ (by assumption) ?_) | (with_reducible exact Nat.le_refl _) | (intro hS; obtain ⟨hS1, hS2⟩ := hS; dsimp only at hS1 hS2; omega) | (simp; done) | (simp; omega) | omega))
        · refine Leaves.cast_ (Leaves.wide (Leaves.keep HL1.out (by (repeat' first | (with_reducible exact KeepS.refl _ _) | (with_reducible refine KeepS.setCell ?_ ?_ _) | (with_reducible refine KeepS.alloc ?_ _) | (with_reducible refine KeepS.drewN' ?_ _) | (with_reducible refine KeepS.via ?_ (by assumption) ?_) | (with_reducible exact Nat.le_refl _) | (intro hS; obtain ⟨hS1, hS2⟩ := hS; dsimp only at hS1 hS2; omega) | (simp; done) | (simp; omega) | omega))) (by simp)) rfl ?_
          simp [List.range, List.range.loop]
      case measure => exact intOf_lt hlt
    · obtain rfl : k = xs.length := by omega
      go_wp2
      go_ret
      refine Tell.mk' hbw ?_
      have hl := HL.out
      rw [List.take_length] at hl
      have hmlen : (xs.map Tm.d).length = xs.length := by simp
      have := DOwn.of_leaves (es := xs.map Tm.d) (m := 2) (by intro e he; obtain ⟨y, _, rfl⟩ := List.mem_map.1 he; rw [Tm.d_eq]; rfl) (by rw [hmlen]; exact hr) (Nat.lt_succ_self _) hl.le (Nat.le_refl _) (by rw [hmlen]; exact hl) (by rw [hmlen]; omega)
      rw [hmlen] at this
      exact this
theorem toTerm_all (x : Tm) : ToTm x := toTerm_of x (toTermS_of _ fun y hy => toTerm_all y)
termination_by SizeOf.sizeOf x
decreasing_by exact Tm.lt_of_mem hy
theorem toTermS_all (xs : List Tm) : ToTms xs := toTermS_of xs fun x _ => toTerm_all x

def ToFmR (w : World) (x : Fm) (e : Ending) (w' : World) : Prop := ∃ (as0 : Option Addr) (ns0 cs0 : Nat) (as1 : Option Addr) (ns1 cs1 : Nat), e = .returned (.agg #[.int .i64 x.op, .string x.atom.name, .slice as0 ns0 cs0, .string x.var, .slice as1 ns1 cs1]) ∧ Below w.heap.size w w' ∧ Leaves w' w.heap.size w'.heap.size x.d [.int .i64 x.op, .string x.atom.name, .slice as0 ns0 cs0, .string x.var, .slice as1 ns1 cs1]
def ToFm (x : Fm) : Prop := ∀ (s0 : Value) (s1 : Value) (w : World), x.bulk ≤ 1048576 → Fm.At w x s0 s1 → Calls Try.prog 41 #[.agg #[.int .i64 x.op, .string x.atom.name, s0, .string x.var, s1]] w (ToFmR w x)
def ToFms (xs : List Fm) : Prop := ∀ (v : Value) (w : World), xs.length + Fm.sumB xs ≤ 1048576 → FmsAt w xs v → Calls Try.prog 88 #[v] w (Tell w fun w' u => DOwn w' w.heap.size (.arr (xs.map Fm.d)) u)
set_option maxHeartbeats 1000000 in
theorem toFormula_of (x : Fm) (hS : ToFms x.parts) : ToFm x := by
  intro s0 s1 w hbk hx
  have HX := Lib.hid hx
  rw [Fm.bulk_eq] at hbk
  obtain ⟨b0, gs0, b1, gs1⟩ := hx
  obtain ⟨xs0, ns0, cs0, rfl⟩ := DAt.form gs0
  clear gs0
  obtain ⟨xs1, ns1, cs1, rfl⟩ := DAt.form gs1
  clear gs1
  go_enter Try.func41, Try.ntmps41
  go_wp2_with fail
  refine (toTerm_all _ _ _ (by omega) (Tm.At.keep ⟨HX.out.1, HX.out.2.1⟩ (by (repeat' first | (with_reducible exact Below.refl _ _) | (with_reducible refine Below.setCell ?_ ?_ _) | (with_reducible refine Below.alloc ?_ ?_ _) | (with_reducible refine Below.drewN' ?_ _) | (with_reducible refine Below.via ?_ (by assumption) ?_) | (with_reducible exact Nat.le_refl _) | (simp; done) | (simp; omega) | omega)))).mono ?_
  rintro e w1 ⟨as0, ns0, cs0, rfl, hb1, ho1⟩
  have HO1 := Lib.hid ho1
  clear ho1
  have hs1 := hb1.size
  (try simp at hs1)
  obtain ⟨hc1, hf1⟩ := bcell hb1
  (try simp only [sz_setCell, sz_alloc, sz_drewN] at hc1 hf1)
  (try have hu1_0 : w.heap.size < w1.heap.size := by omega)
  (try have hu1_1 : w.heap.size + 1 < w1.heap.size := by omega)
  (try have hu1_2 : w.heap.size + 1 + 1 < w1.heap.size := by omega)
  (try have hu1_3 : w.heap.size + 1 + 1 + 1 < w1.heap.size := by omega)
  go_wp2_with fail
  refine (hS _ _ (by omega) (DAt.keep (HX.out.2.2.2) (by (repeat' first | (with_reducible exact Below.refl _ _) | (with_reducible refine Below.setCell ?_ ?_ _) | (with_reducible refine Below.alloc ?_ ?_ _) | (with_reducible refine Below.drewN' ?_ _) | (with_reducible refine Below.via ?_ (by assumption) ?_) | (with_reducible exact Nat.le_refl _) | (simp; done) | (simp; omega) | omega)))).mono ?_
  rintro e w2 ⟨v2, rfl, hb2, ho2⟩
  obtain ⟨as1, ns1, cs1, rfl⟩ := DOwn.form ho2
  have HO2 := Lib.hid ho2
  clear ho2
  have hs2 := hb2.size
  (try simp at hs2)
  obtain ⟨hc2, hf2⟩ := bcell hb2
  (try simp only [sz_setCell, sz_alloc, sz_drewN] at hc2 hf2)
  (try have hu2_0 : w.heap.size < w2.heap.size := by omega)
  (try have hu2_1 : w.heap.size + 1 < w2.heap.size := by omega)
  (try have hu2_2 : w.heap.size + 1 + 1 < w2.heap.size := by omega)
  (try have hu2_3 : w.heap.size + 1 + 1 + 1 < w2.heap.size := by omega)
  go_wp2_with fail
  refine bodyPost_ret (v := .agg #[.int .i64 x.op, .string x.atom.name, .slice as0 ns0 cs0, .string x.var, .slice as1 ns1 cs1]) (by simp [results, Try.results41, go_sem, hc1, hu1_0, hu1_1, hu1_2, hc2, hu2_0, hu2_1, hu2_2]) rfl ?_
  refine ⟨_, _, _, _, _, _, rfl, by (repeat' first | (with_reducible exact Below.refl _ _) | (with_reducible refine Below.setCell ?_ ?_ _) | (with_reducible refine Below.alloc ?_ ?_ _) | (with_reducible refine Below.drewN' ?_ _) | (with_reducible refine Below.via ?_ (by assumption) ?_) | (with_reducible exact Nat.le_refl _) | (simp; done) | (simp; omega) | omega), ?_⟩
  rw [Fm.d_eq]
  refine Leaves.cons_int ?_
  refine Leaves.cast_ (Leaves.app_own (mid := w1.heap.size) HO1.out (by (repeat' first | (with_reducible exact KeepS.refl _ _) | (with_reducible refine KeepS.setCell ?_ ?_ _) | (with_reducible refine KeepS.alloc ?_ _) | (with_reducible refine KeepS.drewN' ?_ _) | (with_reducible refine KeepS.via ?_ (by assumption) ?_) | (with_reducible exact Nat.le_refl _) | (intro hS; obtain ⟨hS1, hS2⟩ := hS; dsimp only at hS1 hS2; omega) | (simp; done) | (simp; omega) | omega)) (by simp; try omega) (by simp) ?_) (by rw [Tm.d_eq]; rfl) rfl
  refine Leaves.cons_str b1 ?_
  refine Leaves.cons_own (mid := w2.heap.size) HO2.out (by (repeat' first | (with_reducible exact KeepS.refl _ _) | (with_reducible refine KeepS.setCell ?_ ?_ _) | (with_reducible refine KeepS.alloc ?_ _) | (with_reducible refine KeepS.drewN' ?_ _) | (with_reducible refine KeepS.via ?_ (by assumption) ?_) | (with_reducible exact Nat.le_refl _) | (intro hS; obtain ⟨hS1, hS2⟩ := hS; dsimp only at hS1 hS2; omega) | (simp; done) | (simp; omega) | omega)) (by simp; try omega) (by simp; try omega) (by simp) ?_
  exact .nil _ _ (by simp; try omega)
theorem Formula_info : (Try.prog.info? 73).map (fun i => (i.zero, i.size, i.bytes)) = some (some (.agg #[.int .i64 0, .string ⟨#[]⟩, .slice none 0 0, .string ⟨#[]⟩, .slice none 0 0]), 5, 88) := by kernel_rfl
set_option maxHeartbeats 2000000 in
theorem toFormulaS_of (xs : List Fm) (helem : ∀ x ∈ xs, ToFm x) : ToFms xs := by
  intro v w hbk hx
  obtain ⟨a, cap, S0, S1, rfl, hnc, hcap, hS, hF⟩ := hx.open_
  have HS := Lib.hid hS
  have HF := Lib.hid hF
  have HE := Lib.hid helem
  clear hS hF helem hx
  have hmk := fun W => run_make_k (P := Try.prog) 71 73 (.agg #[.int .i64 0, .string ⟨#[]⟩, .slice none 0 0, .string ⟨#[]⟩, .slice none 0 0]) 5 88 Try.underlying71 Formula_info .i64 .i64 xs.length (by omega) (by omega) W
  go_enter Try.func88, Try.ntmps88
  go_wp2
  clear hmk
  have h0 := rowIs_made_k w #[.int .i64 0, .string ⟨#[]⟩, .slice none 0 0, .string ⟨#[]⟩, .slice none 0 0] (xs.length * 5) 73
  go_loopw [4] (fun i wr => CntB w xs.length (fun k wr => ∃ h : Nat → Value, wr.rowIs w.heap.size 73 (xs.length * 5) h ∧ Leaves wr (w.heap.size + 1) wr.heap.size ((xs.take k).map Fm.d).flatten ((List.range (k * 5)).map h)) i wr) (fun i _ => xs.length - (intOf i).toNat)
  case atStart => exact ⟨0, Nat.zero_le _, rfl, ⟨_, h0, .nil _ _ (by simp)⟩, (Below.refl _ _).alloc (Nat.le_refl _) _⟩
  case round =>
    obtain ⟨k, hk, rfl, ⟨h, hr, hh⟩, hbw⟩ := hrel
    have hzw := hbw.size
    clear h0
    have HL := Lib.hid hh
    clear hh
    by_cases hlt : k < xs.length
    · obtain ⟨b, off, rfl, hbl, c0, c1, c2, c3, c4⟩ := (HS.out.keep (Keeps.of_below hbw _)).at5 hlt
      rw [getD_at _ hlt] at c0 c1 c2 c3 c4
      simp only [Fm.c] at c0 c1 c2 c3 c4
      have HR := Lib.hid hr
      have hrs := hr.lt
      have d0 := hr.cell (i := k * 5) (by omega)
      have f0 := hr.frozen (k * 5)
      have d1 := hr.cell (i := k * 5 + 1) (by omega)
      have f1 := hr.frozen (k * 5 + 1)
      have d2 := hr.cell (i := k * 5 + 2) (by omega)
      have f2 := hr.frozen (k * 5 + 2)
      have d3 := hr.cell (i := k * 5 + 3) (by omega)
      have f3 := hr.frozen (k * 5 + 3)
      have d4 := hr.cell (i := k * 5 + 4) (by omega)
      have f4 := hr.frozen (k * 5 + 4)
      clear hr
      have hbx : xs[k].bulk ≤ 1048576 := by have := Fm.bulk_le xs k hlt; omega
      go_wp2_with fail
      refine (HE.out xs[k] (List.getElem_mem hlt) _ _ _ hbx ((HF.out k hlt).keep hbw)).mono ?_
      rintro e w1 ⟨as0, ns0, cs0, as1, ns1, cs1, rfl, hb1, hl1⟩
      have HL1 := Lib.hid hl1
      clear hl1
      have hz1 := hb1.size
      obtain ⟨hc1, hf1⟩ := bcell hb1
      go_wp2_with fail
      go_roundw
      case rel =>
        refine ⟨k + 1, hlt, by go_num, ⟨_, (((((row_keep HR.out (Keeps.of_below hb1 0) (Nat.zero_le _)).set _ _).set _ _).set _ _).set _ _).set _ _, ?_⟩, by (repeat' first | (with_reducible exact Below.refl _ _) | (with_reducible refine Below.setCell ?_ ?_ _) | (with_reducible refine Below.alloc ?_ ?_ _) | (with_reducible refine Below.drewN' ?_ _) | (with_reducible refine Below.via ?_ (by assumption) ?_) | (with_reducible exact Nat.le_refl _) | (simp; done) | (simp; omega) | omega)⟩
        clear hc1 hf1 c0 c1 c2 c3 c4
        rw [take_flat Fm.d hlt, range_snoc (k := k) (m := 5)]
        refine Leaves.append (mid := wr.heap.size) ?_ ?_
        · rw [range_agree (h' := h) (by intro q hq; repeat rw [if_neg (by omega)])]
          exact Leaves.keep HL.out (by (repeat' first | (with_reducible exact KeepS.refl _ _) | (with_reducible refine KeepS.setCell ?_ ?_ _) | (with_reducible refine KeepS.alloc ?_ _) | (with_reducible refine KeepS.drewN' ?_ _) | (with_reducible refine KeepS.via ?_ (by assumption) ?_) | (with_reducible exact Nat.le_refl _) | (intro hS; obtain ⟨hS1, hS2⟩ := hS; dsimp only at hS1 hS2; omega) | (simp; done) | (simp; omega) | omega))
        · refine Leaves.cast_ (Leaves.wide (Leaves.keep HL1.out (by (repeat' first | (with_reducible exact KeepS.refl _ _) | (with_reducible refine KeepS.setCell ?_ ?_ _) | (with_reducible refine KeepS.alloc ?_ _) | (with_reducible refine KeepS.drewN' ?_ _) | (with_reducible refine KeepS.via ?_ (by assumption) ?_) | (with_reducible exact Nat.le_refl _) | (intro hS; obtain ⟨hS1, hS2⟩ := hS; dsimp only at hS1 hS2; omega) | (simp; done) | (simp; omega) | omega))) (by simp)) rfl ?_
          simp [List.range, List.range.loop]
      case measure => exact intOf_lt hlt
    · obtain rfl : k = xs.length := by omega
      go_wp2
      go_ret
      refine Tell.mk' hbw ?_
      have hl := HL.out
      rw [List.take_length] at hl
      have hmlen : (xs.map Fm.d).length = xs.length := by simp
      have := DOwn.of_leaves (es := xs.map Fm.d) (m := 5) (by intro e he; obtain ⟨y, _, rfl⟩ := List.mem_map.1 he; rw [Fm.d_eq]; rfl) (by rw [hmlen]; exact hr) (Nat.lt_succ_self _) hl.le (Nat.le_refl _) (by rw [hmlen]; exact hl) (by rw [hmlen]; omega)
      rw [hmlen] at this
      exact this
theorem toFormula_all (x : Fm) : ToFm x := toFormula_of x (toFormulaS_of _ fun y hy => toFormula_all y)
termination_by SizeOf.sizeOf x
decreasing_by exact Fm.lt_of_mem hy
theorem toFormulaS_all (xs : List Fm) : ToFms xs := toFormulaS_of xs fun x _ => toFormula_all x

end Go.Proofs.Ytpbakldlhjdipaa
