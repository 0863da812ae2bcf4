/-
  This text proves what the names of terms are, in both packages. Condition: the term lies in memory.
-/
import Derived.Test.YtpbakldlhjdipaaTrm2
set_option maxRecDepth 100000
set_option linter.unusedSimpArgs false
set_option linter.unusedVariables false
namespace Go.Proofs.Ytpbakldlhjdipaa
open Go.RowKit

mutual
def Tm.names : Tm → Bool
  | .mk name args => if varB name then args.length == 0 else symB name && decide (args.length ≤ 4) && Tm.nameS args
def Tm.nameS : List Tm → Bool
  | [] => true
  | x :: xs => Tm.names x && Tm.nameS xs
end
theorem Tm.names_eq (x : Tm) : x.names = if varB x.name then x.args.length == 0 else symB x.name && decide (x.args.length ≤ 4) && Tm.nameS x.args := by
  obtain ⟨name, args⟩ := x
  rw [Tm.names]; rfl
theorem Tm.nameS_all : ∀ xs : List Tm, Tm.nameS xs = xs.all Tm.names
  | [] => rfl
  | x :: xs => by rw [Tm.nameS, Tm.nameS_all xs]; rfl
theorem any_all {α : Type} (p : α → Bool) (d : α) : ∀ xs : List α, anyB (fun i => !p (xs.getD i d)) xs.length = !xs.all p := by
  intro xs
  unfold anyB
  rw [Bool.eq_iff_iff]
  simp only [List.any_eq_true, List.mem_range, Bool.not_eq_true', List.all_eq_false]
  constructor
  · rintro ⟨i, hi, h⟩
    rw [getD_at _ hi] at h
    exact ⟨xs[i], List.getElem_mem hi, by simp [h]⟩
  · rintro ⟨y, hy, h⟩
    obtain ⟨i, hi, rfl⟩ := List.getElem_of_mem hy
    exact ⟨i, hi, by rw [getD_at _ hi]; simpa using h⟩
set_option maxHeartbeats 1000000 in
theorem indexFunc_terms (fid : Nat) (caps : Array Value) (p : Nat → Bool) (v : Value) (n : Nat) (f : Nat → Nat → Value) (w : World) {lo : Nat} (hs : Sl w lo 2 n f v)
    (hF : ∀ (args : Array Value) (W : World), (callFunc fid args).run Try.prog W = .ok (.enter fid args) W)
    (hcall : ∀ i, i < n → (∀ j, j < i → p j = false) → ∀ W, Below w.heap.size w W → Calls Try.prog fid (#[.agg #[f i 0, f i 1]] ++ caps) W (Ret W (.bool (p i)))) :
    Calls Try.prog 143 #[v, .func (.func fid) #[] caps] w (Ret w (.int .i64 (idxZ p n))) := by
  obtain ⟨a, cap, rfl, hnc, hcap, hS⟩ := hs.open_
  have HS := Lib.hid hS
  have HC := Lib.hid hcall
  clear hS hs hcall
  go_enter Try.func143, Try.ntmps143
  go_wp2
  go_loopw [8] (fun i wr => CntB w n (fun k _ => ∀ j, j < k → p j = false) i wr) (fun i _ => n - (intOf i).toNat)
  case atStart => exact ⟨0, Nat.zero_le _, rfl, fun j hj => absurd hj (by omega), Below.refl _ _⟩
  case round =>
    obtain ⟨k, hk, rfl, hok, hbw⟩ := hrel
    have hzw := hbw.size
    have Hok := Lib.hid hok
    clear hok
    by_cases hlt : k < n
    · obtain ⟨b, off, rfl, hbl, c0, c1⟩ := (HS.out.keep (Keeps.of_below hbw _)).at2 hlt
      have HK := Lib.hid (HC.out k hlt Hok.out _ hbw)
      cases hp : p k
      all_goals
        have Hp := Lib.hid hp
        go_wp2_with fail
        refine (HK.out).mono ?_
        rintro e w1 ⟨rfl, hb1⟩
        rw [Hp.out]
        go_wp2_with fail
      · go_roundw
        case rel => exact ⟨_, hlt, by go_num, all_lt_succ Hok.out Hp.out, Below.of_trans hbw hb1⟩
        case measure => exact intOf_lt hlt
      · go_ret
        exact Ret.bel (by rw [idxZ_hit hlt Hok.out Hp.out]; rfl) (Below.of_trans hbw hb1)
    · obtain rfl : k = n := by omega
      go_wp2_with fail
      go_ret
      exact Ret.bel (by rw [idxZ_miss Hok.out]; rfl) hbw

theorem containsFunc_terms (fid : Nat) (caps : Array Value) (p : Nat → Bool) (v : Value) (n : Nat) (f : Nat → Nat → Value) (w : World) {lo : Nat} (hs : Sl w lo 2 n f v)
    (hF : ∀ (args : Array Value) (W : World), (callFunc fid args).run Try.prog W = .ok (.enter fid args) W)
    (hcall : ∀ i, i < n → (∀ j, j < i → p j = false) → ∀ W, Below w.heap.size w W → Calls Try.prog fid (#[.agg #[f i 0, f i 1]] ++ caps) W (Ret W (.bool (p i)))) :
    Calls Try.prog 108 #[v, .func (.func fid) #[] caps] w (Ret w (.bool (anyB p n))) := by
  have HI := Lib.hid (indexFunc_terms fid caps p v n f w hs hF hcall)
  clear hcall hs hF
  go_enter Try.func108, Try.ntmps108
  go_wp2_with fail
  refine (HI.out).mono ?_
  rintro e w1 ⟨rfl, hb1⟩
  go_wp2_with fail
  go_ret
  exact Ret.bel (by rw [← idxZ_ge]; rfl) hb1



def NamesC (f : FuncId) (x : Tm) : Prop := ∀ (s0 : Value) (w : World), Tm.At w x s0 → Calls Try.prog f #[.agg #[.string x.name, s0]] w (Ret w (.bool x.names))
theorem names1_any (x : Tm) (hx : NamesC 68 x) (s0 : Value) (w : World) (h : Tm.At w x s0) : Calls Try.prog 109 #[.agg #[.string x.name, s0]] w (Ret w (.bool (!x.names))) := by
  obtain ⟨y, n, c, rfl⟩ := DAt.form h.2
  have H := Lib.hid h
  clear h
  go_enter Try.func109, Try.ntmps109
  go_wp2_with fail
  refine (hx _ _ (H.out.keep (by (repeat' first | (with_reducible exact Below.refl _ _) | (with_reducible refine Below.setCell ?_ ?_ _) | (with_reducible refine Below.alloc ?_ ?_ _) | (with_reducible refine Below.drewN' ?_ _) | (with_reducible refine Below.via ?_ (by assumption) ?_) | (with_reducible exact Nat.le_refl _) | (simp; done) | (simp; omega) | omega)))).mono ?_
  rintro e w1 ⟨rfl, hb1⟩
  go_wp2_with fail
  go_ret
  exact Ret.bel rfl (by (repeat' first | (with_reducible exact Below.refl _ _) | (with_reducible refine Below.setCell ?_ ?_ _) | (with_reducible refine Below.alloc ?_ ?_ _) | (with_reducible refine Below.drewN' ?_ _) | (with_reducible refine Below.via ?_ (by assumption) ?_) | (with_reducible exact Nat.le_refl _) | (simp; done) | (simp; omega) | omega))

set_option maxHeartbeats 1000000 in
theorem names_of (x : Tm) (helem : ∀ y ∈ x.args, NamesC 68 y) : NamesC 68 x := by
  intro s0 w hx
  obtain ⟨bn, gs⟩ := hx
  obtain ⟨a, cap, S0, rfl, hnc, hcap, hS, hF⟩ := gs.open_
  have HS := Lib.hid (Sl.mk hnc hcap hS)
  have HF := Lib.hid hF
  have HE := Lib.hid helem
  have HN := Lib.hid (Tm.names_eq x)
  clear helem gs hS hF
  cases hv : varB x.name
  · have HV := Lib.hid hv
    cases hs : symB x.name
    · have HY := Lib.hid hs
      clear hs hv
      go_enter Try.func68, Try.ntmps68
      go_wp2_with fail
      refine (Ret.mono (Same.ret (isVariable_any x.name _ bn)) (by rw [HV.out])).mono ?_
      rintro e w1 ⟨rfl, hb1⟩
      have hz1 := hb1.size
      (try simp at hz1)
      obtain ⟨hc1, hf1⟩ := bcell hb1
      (try simp only [sz_setCell, sz_alloc, sz_drewN] at hc1 hf1)
      (try have hu1_0 : w.heap.size < w1.heap.size := by omega)
      (try have hu1_1 : w.heap.size + 1 < w1.heap.size := by omega)
      (try have hu1_2 : w.heap.size + 1 + 1 < w1.heap.size := by omega)
      go_wp2_with fail
      refine (Ret.mono (isSymbol_any x.name _ bn) (by rw [HY.out])).mono ?_
      rintro e w2 ⟨rfl, hb2⟩
      have hz2 := hb2.size
      (try simp at hz2)
      obtain ⟨hc2, hf2⟩ := bcell hb2
      (try simp only [sz_setCell, sz_alloc, sz_drewN] at hc2 hf2)
      (try have hu2_0 : w.heap.size < w2.heap.size := by omega)
      (try have hu2_1 : w.heap.size + 1 < w2.heap.size := by omega)
      (try have hu2_2 : w.heap.size + 1 + 1 < w2.heap.size := by omega)
      go_wp2_with fail
      go_ret
      exact Ret.bel (by rw [HN.out, HV.out, HY.out]; rfl) (by (repeat' first | (with_reducible exact Below.refl _ _) | (with_reducible refine Below.setCell ?_ ?_ _) | (with_reducible refine Below.alloc ?_ ?_ _) | (with_reducible refine Below.drewN' ?_ _) | (with_reducible refine Below.via ?_ (by assumption) ?_) | (with_reducible exact Nat.le_refl _) | (simp; done) | (simp; omega) | omega))
    · have HY := Lib.hid hs
      clear hs hv
      by_cases hl : x.args.length ≤ 4
      · have hl' : (x.args.length : Int) ≤ 4 := by omega
        go_enter Try.func68, Try.ntmps68
        go_wp2_with fail
        refine (Ret.mono (Same.ret (isVariable_any x.name _ bn)) (by rw [HV.out])).mono ?_
        rintro e w1 ⟨rfl, hb1⟩
        have hz1 := hb1.size
        (try simp at hz1)
        obtain ⟨hc1, hf1⟩ := bcell hb1
        (try simp only [sz_setCell, sz_alloc, sz_drewN] at hc1 hf1)
        (try have hu1_0 : w.heap.size < w1.heap.size := by omega)
        (try have hu1_1 : w.heap.size + 1 < w1.heap.size := by omega)
        (try have hu1_2 : w.heap.size + 1 + 1 < w1.heap.size := by omega)
        go_wp2_with fail
        refine (Ret.mono (isSymbol_any x.name _ bn) (by rw [HY.out])).mono ?_
        rintro e w2 ⟨rfl, hb2⟩
        have hz2 := hb2.size
        (try simp at hz2)
        obtain ⟨hc2, hf2⟩ := bcell hb2
        (try simp only [sz_setCell, sz_alloc, sz_drewN] at hc2 hf2)
        (try have hu2_0 : w.heap.size < w2.heap.size := by omega)
        (try have hu2_1 : w.heap.size + 1 < w2.heap.size := by omega)
        (try have hu2_2 : w.heap.size + 1 + 1 < w2.heap.size := by omega)
        go_wp2_with fail
        refine (Ret.mono (v := .bool (!Tm.nameS x.args)) (containsFunc_terms 109 #[] (fun i => !(x.args.getD i Tm.zero).names) _ x.args.length (fun i j => Tm.c (x.args.getD i Tm.zero) (S0 i) j) _ (HS.out.keep (Keeps.of_below (w := w) (by (repeat' first | (with_reducible exact Below.refl _ _) | (with_reducible refine Below.setCell ?_ ?_ _) | (with_reducible refine Below.alloc ?_ ?_ _) | (with_reducible refine Below.drewN' ?_ _) | (with_reducible refine Below.via ?_ (by assumption) ?_) | (with_reducible exact Nat.le_refl _) | (simp; done) | (simp; omega) | omega)) _)) (fun args W => by go_simp) (fun i hi _ W hW => by rw [getD_at _ hi]; exact names1_any x.args[i] (HE.out _ (List.getElem_mem hi)) (S0 i) W ((HF.out i hi).keep (Below.of_trans (b := w2) (by (repeat' first | (with_reducible exact Below.refl _ _) | (with_reducible refine Below.setCell ?_ ?_ _) | (with_reducible refine Below.alloc ?_ ?_ _) | (with_reducible refine Below.drewN' ?_ _) | (with_reducible refine Below.via ?_ (by assumption) ?_) | (with_reducible exact Nat.le_refl _) | (simp; done) | (simp; omega) | omega)) hW)))) (by rw [any_all, Tm.nameS_all])).mono ?_
        rintro e w3 ⟨rfl, hb3⟩
        have hz3 := hb3.size
        (try simp at hz3)
        obtain ⟨hc3, hf3⟩ := bcell hb3
        (try simp only [sz_setCell, sz_alloc, sz_drewN] at hc3 hf3)
        (try have hu3_0 : w.heap.size < w3.heap.size := by omega)
        (try have hu3_1 : w.heap.size + 1 < w3.heap.size := by omega)
        (try have hu3_2 : w.heap.size + 1 + 1 < w3.heap.size := by omega)
        go_wp2_with fail
        go_ret
        exact Ret.bel (by rw [HN.out, HV.out, HY.out]; simp [hl]) (by (repeat' first | (with_reducible exact Below.refl _ _) | (with_reducible refine Below.setCell ?_ ?_ _) | (with_reducible refine Below.alloc ?_ ?_ _) | (with_reducible refine Below.drewN' ?_ _) | (with_reducible refine Below.via ?_ (by assumption) ?_) | (with_reducible exact Nat.le_refl _) | (simp; done) | (simp; omega) | omega))
      · have hl' : ¬ (x.args.length : Int) ≤ 4 := by omega
        go_enter Try.func68, Try.ntmps68
        go_wp2_with fail
        refine (Ret.mono (Same.ret (isVariable_any x.name _ bn)) (by rw [HV.out])).mono ?_
        rintro e w1 ⟨rfl, hb1⟩
        have hz1 := hb1.size
        (try simp at hz1)
        obtain ⟨hc1, hf1⟩ := bcell hb1
        (try simp only [sz_setCell, sz_alloc, sz_drewN] at hc1 hf1)
        (try have hu1_0 : w.heap.size < w1.heap.size := by omega)
        (try have hu1_1 : w.heap.size + 1 < w1.heap.size := by omega)
        (try have hu1_2 : w.heap.size + 1 + 1 < w1.heap.size := by omega)
        go_wp2_with fail
        refine (Ret.mono (isSymbol_any x.name _ bn) (by rw [HY.out])).mono ?_
        rintro e w2 ⟨rfl, hb2⟩
        have hz2 := hb2.size
        (try simp at hz2)
        obtain ⟨hc2, hf2⟩ := bcell hb2
        (try simp only [sz_setCell, sz_alloc, sz_drewN] at hc2 hf2)
        (try have hu2_0 : w.heap.size < w2.heap.size := by omega)
        (try have hu2_1 : w.heap.size + 1 < w2.heap.size := by omega)
        (try have hu2_2 : w.heap.size + 1 + 1 < w2.heap.size := by omega)
        go_wp2_with fail
        go_ret
        exact Ret.bel (by rw [HN.out, HV.out, HY.out]; simp [hl]) (by (repeat' first | (with_reducible exact Below.refl _ _) | (with_reducible refine Below.setCell ?_ ?_ _) | (with_reducible refine Below.alloc ?_ ?_ _) | (with_reducible refine Below.drewN' ?_ _) | (with_reducible refine Below.via ?_ (by assumption) ?_) | (with_reducible exact Nat.le_refl _) | (simp; done) | (simp; omega) | omega))
  · have HV := Lib.hid hv
    go_enter Try.func68, Try.ntmps68
    go_wp2_with fail
    refine (Ret.mono (Same.ret (isVariable_any x.name _ bn)) (by rw [HV.out])).mono ?_
    rintro e w1 ⟨rfl, hb1⟩
    have hz1 := hb1.size
    (try simp at hz1)
    obtain ⟨hc1, hf1⟩ := bcell hb1
    (try simp only [sz_setCell, sz_alloc, sz_drewN] at hc1 hf1)
    (try have hu1_0 : w.heap.size < w1.heap.size := by omega)
    (try have hu1_1 : w.heap.size + 1 < w1.heap.size := by omega)
    (try have hu1_2 : w.heap.size + 1 + 1 < w1.heap.size := by omega)
    go_wp2_with fail
    go_ret
    exact Ret.bel (by rw [HN.out, HV.out]; simp; cases x.args <;> simp <;> omega) (by (repeat' first | (with_reducible exact Below.refl _ _) | (with_reducible refine Below.setCell ?_ ?_ _) | (with_reducible refine Below.alloc ?_ ?_ _) | (with_reducible refine Below.drewN' ?_ _) | (with_reducible refine Below.via ?_ (by assumption) ?_) | (with_reducible exact Nat.le_refl _) | (simp; done) | (simp; omega) | omega))
end Go.Proofs.Ytpbakldlhjdipaa
