/-
  This text proves what the forms of formulas are in the program. Condition: less than 2^40 in all.
-/
import Derived.Test.YtpbakldlhjdipaaFrm2
set_option maxRecDepth 100000
set_option linter.unusedSimpArgs false
set_option linter.unusedVariables false
namespace Go.Proofs.Ytpbakldlhjdipaa
open Go.RowKit

def quantB (n : Int) : Bool := n == 8 || n == 9
def binB (n : Int) : Bool := n == 5 || n == 6 || n == 7
theorem isQuantifier_any (n : Int) (w : World) : Calls Try.prog 155 #[.int .i64 n] w (Same w (.bool (quantB n))) := by
  by_cases h8 : n = 8 <;> by_cases h9 : n = 9
  all_goals
    go_enter Try.func155, Try.ntmps155
    go_wp2
    go_ret
    exact Same.mk' _ (by unfold quantB; simp [*])
theorem isBinary_any (n : Int) (w : World) : Calls Try.prog 156 #[.int .i64 n] w (Same w (.bool (binB n))) := by
  by_cases h5 : n = 5 <;> by_cases h6 : n = 6 <;> by_cases h7 : n = 7
  all_goals
    go_enter Try.func156, Try.ntmps156
    go_wp2
    go_ret
    exact Same.mk' _ (by unfold binB; simp [*])
mutual
def Fm.forms : Fm → Bool
  | .mk op atom var parts => Fm.form (.mk op atom var parts) && Fm.formS parts
def Fm.formS : List Fm → Bool
  | [] => true
  | x :: xs => Fm.forms x && Fm.formS xs
end
theorem Fm.forms_eq (x : Fm) : x.forms = (x.form && Fm.formS x.parts) := by
  obtain ⟨op, atom, var, parts⟩ := x
  rw [Fm.forms]; rfl
theorem Fm.formS_all : ∀ xs : List Fm, Fm.formS xs = xs.all Fm.forms
  | [] => rfl
  | x :: xs => by rw [Fm.formS, Fm.formS_all xs]; rfl
theorem Fm.formS_take {xs : List Fm} {k : Nat} (h : k < xs.length) : Fm.formS (xs.take (k + 1)) = (Fm.formS (xs.take k) && xs[k].forms) := by
  rw [Fm.formS_all, Fm.formS_all, ← List.take_append_getElem h, List.all_append]; simp
theorem Fm.formS_no {xs : List Fm} {k : Nat} (h : k < xs.length) (hn : xs[k].forms = false) : Fm.formS xs = false := by
  rw [Fm.formS_all, List.all_eq_false]; exact ⟨xs[k], List.getElem_mem h, by simp [hn]⟩
set_option maxHeartbeats 1000000 in
theorem indexFunc_forms (fid : Nat) (caps : Array Value) (p : Nat → Bool) (v : Value) (n : Nat) (f : Nat → Nat → Value) (w : World) {lo : Nat} (hs : Sl w lo 5 n f v)
    (hF : ∀ (args : Array Value) (W : World), (callFunc fid args).run Try.prog W = .ok (.enter fid args) W)
    (hcall : ∀ i, i < n → (∀ j, j < i → p j = false) → ∀ W, Below w.heap.size w W → Calls Try.prog fid (#[.agg #[f i 0, f i 1, f i 2, f i 3, f i 4]] ++ caps) W (Ret W (.bool (p i)))) :
    Calls Try.prog 159 #[v, .func (.func fid) #[] caps] w (Ret w (.int .i64 (idxZ p n))) := by
  obtain ⟨a, cap, rfl, hnc, hcap, hS⟩ := hs.open_
  have HS := Lib.hid hS
  have HC := Lib.hid hcall
  clear hS hs hcall
  go_enter Try.func159, Try.ntmps159
  go_wp2
  go_loopw [8] (fun i wr => CntB w n (fun k _ => ∀ j, j < k → p j = false) i wr) (fun i _ => n - (intOf i).toNat)
  case atStart => exact ⟨0, Nat.zero_le _, rfl, fun j hj => absurd hj (by omega), Below.refl _ _⟩
  case round =>
    obtain ⟨k, hk, rfl, hok, hbw⟩ := hrel
    have hzw := hbw.size
    have Hok := Lib.hid hok
    clear hok
    by_cases hlt : k < n
    · obtain ⟨b, off, rfl, hbl, c0, c1, c2, c3, c4⟩ := (HS.out.keep (Keeps.of_below hbw _)).at5 hlt
      have HK := Lib.hid (HC.out k hlt Hok.out _ hbw)
      cases hp : p k
      all_goals
        have Hp := Lib.hid hp
        go_wp2_with fail
        refine (HK.out).mono ?_
        rintro e w1 ⟨rfl, hb1⟩
        rw [Hp.out]
        go_wp2_with fail
      · go_roundw
        case rel => exact ⟨_, hlt, by go_num, all_lt_succ Hok.out Hp.out, Below.of_trans hbw hb1⟩
        case measure => exact intOf_lt hlt
      · go_ret
        exact Ret.bel (by rw [idxZ_hit hlt Hok.out Hp.out]; rfl) (Below.of_trans hbw hb1)
    · obtain rfl : k = n := by omega
      go_wp2_with fail
      go_ret
      exact Ret.bel (by rw [idxZ_miss Hok.out]; rfl) hbw

theorem containsFunc_forms (fid : Nat) (caps : Array Value) (p : Nat → Bool) (v : Value) (n : Nat) (f : Nat → Nat → Value) (w : World) {lo : Nat} (hs : Sl w lo 5 n f v)
    (hF : ∀ (args : Array Value) (W : World), (callFunc fid args).run Try.prog W = .ok (.enter fid args) W)
    (hcall : ∀ i, i < n → (∀ j, j < i → p j = false) → ∀ W, Below w.heap.size w W → Calls Try.prog fid (#[.agg #[f i 0, f i 1, f i 2, f i 3, f i 4]] ++ caps) W (Ret W (.bool (p i)))) :
    Calls Try.prog 132 #[v, .func (.func fid) #[] caps] w (Ret w (.bool (anyB p n))) := by
  have HI := Lib.hid (indexFunc_forms fid caps p v n f w hs hF hcall)
  clear hcall hs hF
  go_enter Try.func132, Try.ntmps132
  go_wp2_with fail
  refine (HI.out).mono ?_
  rintro e w1 ⟨rfl, hb1⟩
  go_wp2_with fail
  go_ret
  exact Ret.bel (by rw [← idxZ_ge]; rfl) hb1



def FormC (x : Fm) : Prop := BoolF 131 x x.forms
theorem form1_any (x : Fm) (hx : FormC x) (s0 s1 : Value) (w : World) (hb : x.bulk ≤ 1099511627775) (h : Fm.At w x s0 s1) : Calls Try.prog 158 #[.agg #[.int .i64 x.op, .string x.atom.name, s0, .string x.var, s1]] w (Ret w (.bool (!x.forms))) := by
  obtain ⟨a0, n0, cap0, rfl⟩ := DAt.form h.2.1
  obtain ⟨y, n, c, rfl⟩ := DAt.form h.2.2.2
  have H := Lib.hid h
  have HB := Lib.hid hb
  clear h
  go_enter Try.func158, Try.ntmps158
  go_wp2_with fail
  refine (hx _ _ _ HB.out (H.out.keep (by (repeat' first | (with_reducible exact Below.refl _ _) | (with_reducible refine Below.setCell ?_ ?_ _) | (with_reducible refine Below.alloc ?_ ?_ _) | (with_reducible refine Below.drewN' ?_ _) | (with_reducible refine Below.via ?_ (by assumption) ?_) | (with_reducible exact Nat.le_refl _) | (simp; done) | (simp; omega) | omega)))).mono ?_
  rintro e w1 ⟨rfl, hb1⟩
  go_wp2_with fail
  go_ret
  exact Ret.bel rfl (by (repeat' first | (with_reducible exact Below.refl _ _) | (with_reducible refine Below.setCell ?_ ?_ _) | (with_reducible refine Below.alloc ?_ ?_ _) | (with_reducible refine Below.drewN' ?_ _) | (with_reducible refine Below.via ?_ (by assumption) ?_) | (with_reducible exact Nat.le_refl _) | (simp; done) | (simp; omega) | omega))
end Go.Proofs.Ytpbakldlhjdipaa
