/-
  This text holds, one behind the other: This text tells what the laws' measuring functions answer. No condition.
  This text tells what the laws' copying functions answer. No condition.
  This text tells what the laws' comparing functions answer. No condition.
  This text tells how much an interpretation of a small bulk holds. No condition.
  This text tells what the law of EvaluateFormula answers. No condition.
  This text opens arguments: slices of integers, of structs, of tables: what is read as data lies in memory as our words say. No condition.
  This text opens arguments: what is read as data, terms and formulas, lies in memory as our words say. No condition.
  This text turns a function's answer into a walk of the kit's form, and opens arguments that are clauses. No condition.
-/
import Derived.Test.YtihclcmgbkkhfaaGreatK37c
import Derived.Test.YtihclcmgbkkhfaaGreatK37d
import Derived.Test.YtihclcmgbkkhfaaGreatK37e
import Derived.ProofKit
import Derived.Deep.Slices
import Derived.Deep.Fields
import Derived.ChangeSame
import Derived.OpenShut
import Derived.ShutString
import Derived.ChangeOld
open Nat renaming reduceAdd → zA, reduceSub → zB, reduceLT → zC, reduceLeDiff → zD, reduceEqDiff → zE, reduceBEq → zF, reduceBneDiff → zG, reduceMul → zH
open Int renaming reduceToNat → zI, reduceNeg → zJ, reduceAdd → zK
set_option maxRecDepth 100000
set_option linter.unusedSimpArgs false
set_option linter.unusedVariables false
namespace Go.Proofs.YtihclcmgbkkhfaaGreat
open Go.RowKit
def c_laws_szIntS : SC := (.seq (.reg [⟨some 4, none, .mv (.c (.int .i64 0))⟩]) (.seq (.reg [⟨some 5, none, .mv (.t 1)⟩, ⟨some 6, none, .mv (.t 0)⟩, ⟨some 7, none, .len false (.t 6)⟩, ⟨some 8, none, .bin .sub false (.t 5) (.t 7)⟩, ⟨some 1, none, .mv (.t 8)⟩]) (.seq (.seq (.reg [⟨some 9, none, .mv (.t 1)⟩, ⟨some 10, none, .bin .lss false (.t 9) (.c (.int .i64 0))⟩]) (.cond (.t 10) (.seq (.reg [⟨some 4, none, .mv (.c (.int .i64 (-(0 + 1))))⟩]) .ret) .skip)) (.seq (.reg [⟨some 11, none, .mv (.t 1)⟩, ⟨some 4, none, .mv (.t 11)⟩]) .ret))))
theorem k_laws_szIntS : codeOf Tryz.prog 136 = some ⟨12, c_laws_szIntS, [(.tmp 4)]⟩ := by kernel_rfl
theorem m_laws_szIntS : modes 136 = ⟨[], .asis, none, false⟩ := by unfold modes; rfl
abbrev SzTS_int (xs : List Int) : Prop := D.fit (.arr (xs.map (fun s => [D.int s]))) → ∀ left : Int, 0 ≤ left → left ≤ 1048576 → E 136 [.arr (xs.map (fun s => [D.int s])), .int .i64 left] [] = some (.int .i64 (szR left (xs.length : Nat)), [])
theorem szTS_int (xs : List Int) : SzTS_int xs := by
  intro hfit left h0 h1
  simp only [D.fit, List.length_map] at hfit
  have q0 := szR_spec left xs.length
  refine E_walk k_laws_szIntS m_laws_szIntS (of_decide_eq_true rfl) ?_
  simp (disch := omega) only [c_laws_szIntS, go_sem, go_cond, zA, zB, zC, zD, zE, zF, zG, zH, ↓reduceIte, zI, reduceCtorEq, zJ, zK]
  repeat' (refine boolP_split (fun hq => ?_) (fun hq => ?_) <;> (first | replace hq := dec_iff.1 hq | replace hq := dec_not.1 hq) <;> (try simp (disch := omega) only [go_sem, go_cond, zA, zB, zC, zD, zE, zF, zG, zH, ↓reduceIte, zI, reduceCtorEq, zJ, zK]))
  all_goals omega
def c_laws_szTerm : SC := (.seq (.reg [⟨some 2, none, .boxv 24 2 (.t 0)⟩, ⟨some 4, none, .mv (.c (.int .i64 0))⟩]) (.seq (.reg [⟨some 5, none, .mv (.t 1)⟩, ⟨some 6, none, .faddr 0 (.t 2)⟩, ⟨some 7, none, .load false 1 (.t 6)⟩, ⟨some 8, none, .len true (.t 7)⟩, ⟨some 9, none, .bin .sub false (.t 5) (.t 8)⟩, ⟨some 1, none, .mv (.t 9)⟩]) (.seq (.seq (.reg [⟨some 10, none, .mv (.t 1)⟩, ⟨some 11, none, .bin .lss false (.t 10) (.c (.int .i64 0))⟩]) (.cond (.t 11) (.seq (.reg [⟨some 4, none, .mv (.c (.int .i64 (-(0 + 1))))⟩]) .ret) .skip)) (.seq (.reg [⟨some 12, none, .faddr 1 (.t 2)⟩, ⟨some 13, none, .load false 1 (.t 12)⟩, ⟨some 14, none, .mv (.t 1)⟩, ⟨some 15, none, .call 72 [(.t 13), (.t 14)]⟩, ⟨some 1, none, .mv (.t 15)⟩]) (.seq (.seq (.reg [⟨some 16, none, .mv (.t 1)⟩, ⟨some 17, none, .bin .lss false (.t 16) (.c (.int .i64 0))⟩]) (.cond (.t 17) (.seq (.reg [⟨some 4, none, .mv (.c (.int .i64 (-(0 + 1))))⟩]) .ret) .skip)) (.seq (.reg [⟨some 18, none, .mv (.t 1)⟩, ⟨some 4, none, .mv (.t 18)⟩]) .ret))))))
theorem k_laws_szTerm : codeOf Tryz.prog 33 = some ⟨19, c_laws_szTerm, [(.tmp 4)]⟩ := by kernel_rfl
theorem m_laws_szTerm : modes 33 = ⟨[], .asis, none, false⟩ := by unfold modes; rfl
def c_laws_szTermS : SC := (.seq (.reg [⟨some 4, none, .mv (.c (.int .i64 0))⟩]) (.seq (.reg [⟨some 6, none, .mv (.t 1)⟩, ⟨some 7, none, .mv (.t 0)⟩, ⟨some 8, none, .len false (.t 7)⟩, ⟨some 9, none, .bin .sub false (.t 6) (.t 8)⟩, ⟨some 1, none, .mv (.t 9)⟩]) (.seq (.seq (.reg [⟨some 10, none, .mv (.t 1)⟩, ⟨some 11, none, .bin .lss false (.t 10) (.c (.int .i64 0))⟩]) (.cond (.t 11) (.seq (.reg [⟨some 4, none, .mv (.c (.int .i64 (-(0 + 1))))⟩]) .ret) .skip)) (.seq (.seq (.reg [⟨some 5, none, .mv (.c (.int .i64 0))⟩]) (.block 0 (.loop [1, 1, 0, 0, 0, 1, 0, 0, 0, 0, 0, 0, 0, 0, 0, 0, 0, 0, 0, 0, 0, 0, 0, 0, 0, 0, 0] (.seq (.seq (.reg [⟨some 12, none, .mv (.t 5)⟩, ⟨some 13, none, .mv (.t 0)⟩, ⟨some 14, none, .len false (.t 13)⟩, ⟨some 15, none, .bin .lss false (.t 12) (.t 14)⟩]) (.cond (.t 15) .skip (.exit 0))) (.seq (.block 1 (.seq (.reg [⟨some 18, none, .mv (.t 0)⟩, ⟨some 19, none, .mv (.t 5)⟩, ⟨some 20, none, .iaddr 2 (.t 18) (.t 19)⟩, ⟨some 21, none, .load true 2 (.t 20)⟩, ⟨some 22, none, .mv (.t 1)⟩, ⟨some 23, none, .call 33 [(.t 21), (.t 22)]⟩, ⟨some 1, none, .mv (.t 23)⟩]) (.seq (.reg [⟨some 24, none, .mv (.t 1)⟩, ⟨some 25, none, .bin .lss false (.t 24) (.c (.int .i64 0))⟩]) (.cond (.t 25) (.seq (.reg [⟨some 4, none, .mv (.c (.int .i64 (-(0 + 1))))⟩]) .ret) .skip)))) (.reg [⟨some 16, none, .mv (.t 5)⟩, ⟨some 17, none, .bin .add false (.t 16) (.c (.int .i64 1))⟩, ⟨some 5, none, .mv (.t 17)⟩])))))) (.seq (.reg [⟨some 26, none, .mv (.t 1)⟩, ⟨some 4, none, .mv (.t 26)⟩]) .ret)))))
theorem k_laws_szTermS : codeOf Tryz.prog 72 = some ⟨27, c_laws_szTermS, [(.tmp 4)]⟩ := by kernel_rfl
theorem m_laws_szTermS : modes 72 = ⟨[], .asis, none, false⟩ := by unfold modes; rfl
abbrev SzT_Term (x : Tm) : Prop := D.fits x.d → ∀ left : Int, 0 ≤ left → left ≤ 1048576 → E 33 [x.sv, .int .i64 left] [] = some (.int .i64 (szR left x.bulk), [])
abbrev SzTS_Term (xs : List Tm) : Prop := D.fit (.arr (xs.map Tm.d)) → ∀ left : Int, 0 ≤ left → left ≤ 1048576 → E 72 [.arr (xs.map Tm.d), .int .i64 left] [] = some (.int .i64 (szR left (xs.length + Tm.sumB xs : Nat)), [])
set_option maxHeartbeats 1000000 in
theorem szTS_Term_of (xs : List Tm) (h : ∀ x ∈ xs, SzT_Term x) : SzTS_Term xs := by
  intro hfit left h0 h1
  simp only [D.fit, List.length_map] at hfit
  have q0 := szR_spec left (xs.length + Tm.sumB xs)
  refine E_walk k_laws_szTermS m_laws_szTermS (of_decide_eq_true rfl) ?_
  simp (disch := omega) only [c_laws_szTermS, go_sem, go_cond, zA, zB, zC, zD, zE, zF, zG, zH, ↓reduceIte, zI, reduceCtorEq, zJ, zK]
  repeat' (refine boolP_split (fun hq => ?_) (fun hq => ?_) <;> (first | replace hq := dec_iff.1 hq | replace hq := dec_not.1 hq) <;> (try simp (disch := omega) only [go_sem, go_cond, zA, zB, zC, zD, zE, zF, zG, zH, ↓reduceIte, zI, reduceCtorEq, zJ, zK]))
  · omega
  refine go_loop (α := Int × Int) (fun a => ⟨slots 27 0 [(0, .arr (xs.map Tm.d)), (1, .int .i64 a.2), (5, .int .i64 a.1)], []⟩) (fun a => ∃ k : Nat, a.1 = k ∧ k ≤ xs.length ∧ 0 ≤ a.2 ∧ a.2 ≤ 1048576 ∧ szR a.2 (Tm.sumB (xs.drop k)) = szR left (xs.length + Tm.sumB xs : Nat)) (fun a => xs.length - a.1.toNat) (0, left - xs.length) ⟨0, rfl, Nat.zero_le _, by omega, by omega, ?_⟩ (by simp (disch := omega) only [go_sem, go_cond, zA, zB, zC, zD, zE, zF, zG, zH, ↓reduceIte, zI, reduceCtorEq, zJ, zK]) ?_
  · have q1 := szR_spec (left - xs.length) (Tm.sumB xs)
    rw [List.drop_zero]
    dsimp only
    omega
  · rintro ⟨i, l⟩ ⟨k, hi, hk, hl0, hl1, hs⟩
    dsimp only at hi hl0 hl1 hs
    rcases Nat.lt_or_ge k xs.length with hlt | hge
    · have hg := get_at Tm.d hlt
      rw [Tm.d_eq] at hg
      have hd : Tm.sumB (xs.drop k) = xs[k].bulk + Tm.sumB (xs.drop (k + 1)) := by rw [List.drop_eq_getElem_cons hlt, Tm.sumB]
      rw [hd] at hs
      have hc := h xs[k] (List.getElem_mem hlt) (D.fitss_mem hfit.2 _ (List.getElem_mem hlt)) l hl0 hl1
      have q1 := szR_spec l xs[k].bulk
      have q2 := szR_spec l (xs[k].bulk + Tm.sumB (xs.drop (k + 1)))
      have q3 := szR_spec (l - xs[k].bulk) (Tm.sumB (xs.drop (k + 1)))
      have hn : i.toNat = k := by omega
      simp (disch := omega) only [go_sem, go_cond, zA, zB, zC, zD, zE, zF, zG, zH, ↓reduceIte, zI, reduceCtorEq, zJ, zK, hn, hg, hc, m_laws_szTerm]
      repeat' (refine boolP_split (fun hq => ?_) (fun hq => ?_) <;> (first | replace hq := dec_iff.1 hq | replace hq := dec_not.1 hq) <;> (try simp (disch := omega) only [go_sem, go_cond, zA, zB, zC, zD, zE, zF, zG, zH, ↓reduceIte, zI, reduceCtorEq, zJ, zK]))
      · omega
      · refine ⟨(i + 1, l - xs[k].bulk), ⟨k + 1, by dsimp only; omega, hlt, by dsimp only; omega, by dsimp only; omega, by dsimp only; omega⟩, by dsimp only; omega, ?_⟩
        have e : szR l xs[k].bulk = l - xs[k].bulk := by omega
        simp only [e, and_self]
    · have hd : xs.drop k = [] := List.drop_eq_nil_of_le hge
      rw [hd] at hs
      have q1 := szR_spec l (Tm.sumB [])
      simp only [Tm.sumB] at hs q1
      simp (disch := omega) only [go_sem, go_cond, zA, zB, zC, zD, zE, zF, zG, zH, ↓reduceIte, zI, reduceCtorEq, zJ, zK]
      omega
set_option maxHeartbeats 1000000 in
theorem szT_Term_of (x : Tm) (h_args : SzTS_Term x.args) : SzT_Term x := by
  intro hfit left h0 h1
  rw [Tm.d_eq] at hfit
  simp only [D.fits, D.fit] at hfit
  replace h_args := h_args (by simp only [D.fit, List.length_map]; simp only [List.length_map] at hfit; simp only [hfit, and_self])
  have q := szR_spec left x.bulk
  have qb := Tm.bulk_eq x
  have q0 := szR_spec (left - (x.name.size : Int)) ((x.args.length + Tm.sumB x.args))
  refine E_walk k_laws_szTerm m_laws_szTerm (of_decide_eq_true rfl) ?_
  simp (disch := omega) only [c_laws_szTerm, go_sem, go_cond, zA, zB, zC, zD, zE, zF, zG, zH, ↓reduceIte, zI, reduceCtorEq, zJ, zK, h_args, m_laws_szTermS]
  repeat' (refine boolP_split (fun hq => ?_) (fun hq => ?_) <;> (first | replace hq := dec_iff.1 hq | replace hq := dec_not.1 hq) <;> (try simp (disch := omega) only [go_sem, go_cond, zA, zB, zC, zD, zE, zF, zG, zH, ↓reduceIte, zI, reduceCtorEq, zJ, zK, h_args, m_laws_szTermS]))
  all_goals omega
theorem szT_Term (x : Tm) : SzT_Term x := szT_Term_of x (szTS_Term_of x.args fun y hy => szT_Term y)
termination_by SizeOf.sizeOf x
decreasing_by exact Tm.lt_of_mem hy
def c_laws_szFormula : SC := (.seq (.reg [⟨some 2, none, .boxv 27 5 (.t 0)⟩, ⟨some 4, none, .mv (.c (.int .i64 0))⟩]) (.seq (.reg [⟨some 5, none, .faddr 1 (.t 2)⟩, ⟨some 6, none, .load true 2 (.t 5)⟩, ⟨some 7, none, .mv (.t 1)⟩, ⟨some 8, none, .call 33 [(.t 6), (.t 7)]⟩, ⟨some 1, none, .mv (.t 8)⟩]) (.seq (.seq (.reg [⟨some 9, none, .mv (.t 1)⟩, ⟨some 10, none, .bin .lss false (.t 9) (.c (.int .i64 0))⟩]) (.cond (.t 10) (.seq (.reg [⟨some 4, none, .mv (.c (.int .i64 (-(0 + 1))))⟩]) .ret) .skip)) (.seq (.reg [⟨some 11, none, .mv (.t 1)⟩, ⟨some 12, none, .faddr 3 (.t 2)⟩, ⟨some 13, none, .load false 1 (.t 12)⟩, ⟨some 14, none, .len true (.t 13)⟩, ⟨some 15, none, .bin .sub false (.t 11) (.t 14)⟩, ⟨some 1, none, .mv (.t 15)⟩]) (.seq (.seq (.reg [⟨some 16, none, .mv (.t 1)⟩, ⟨some 17, none, .bin .lss false (.t 16) (.c (.int .i64 0))⟩]) (.cond (.t 17) (.seq (.reg [⟨some 4, none, .mv (.c (.int .i64 (-(0 + 1))))⟩]) .ret) .skip)) (.seq (.reg [⟨some 18, none, .faddr 4 (.t 2)⟩, ⟨some 19, none, .load false 1 (.t 18)⟩, ⟨some 20, none, .mv (.t 1)⟩, ⟨some 21, none, .call 34 [(.t 19), (.t 20)]⟩, ⟨some 1, none, .mv (.t 21)⟩]) (.seq (.seq (.reg [⟨some 22, none, .mv (.t 1)⟩, ⟨some 23, none, .bin .lss false (.t 22) (.c (.int .i64 0))⟩]) (.cond (.t 23) (.seq (.reg [⟨some 4, none, .mv (.c (.int .i64 (-(0 + 1))))⟩]) .ret) .skip)) (.seq (.reg [⟨some 24, none, .mv (.t 1)⟩, ⟨some 4, none, .mv (.t 24)⟩]) .ret))))))))
theorem k_laws_szFormula : codeOf Tryz.prog 7 = some ⟨25, c_laws_szFormula, [(.tmp 4)]⟩ := by kernel_rfl
theorem m_laws_szFormula : modes 7 = ⟨[], .asis, none, false⟩ := by unfold modes; rfl
def c_laws_szFormulaS : SC := (.seq (.reg [⟨some 4, none, .mv (.c (.int .i64 0))⟩]) (.seq (.reg [⟨some 6, none, .mv (.t 1)⟩, ⟨some 7, none, .mv (.t 0)⟩, ⟨some 8, none, .len false (.t 7)⟩, ⟨some 9, none, .bin .sub false (.t 6) (.t 8)⟩, ⟨some 1, none, .mv (.t 9)⟩]) (.seq (.seq (.reg [⟨some 10, none, .mv (.t 1)⟩, ⟨some 11, none, .bin .lss false (.t 10) (.c (.int .i64 0))⟩]) (.cond (.t 11) (.seq (.reg [⟨some 4, none, .mv (.c (.int .i64 (-(0 + 1))))⟩]) .ret) .skip)) (.seq (.seq (.reg [⟨some 5, none, .mv (.c (.int .i64 0))⟩]) (.block 0 (.loop [1, 1, 0, 0, 0, 1, 0, 0, 0, 0, 0, 0, 0, 0, 0, 0, 0, 0, 0, 0, 0, 0, 0, 0, 0, 0, 0] (.seq (.seq (.reg [⟨some 12, none, .mv (.t 5)⟩, ⟨some 13, none, .mv (.t 0)⟩, ⟨some 14, none, .len false (.t 13)⟩, ⟨some 15, none, .bin .lss false (.t 12) (.t 14)⟩]) (.cond (.t 15) .skip (.exit 0))) (.seq (.block 1 (.seq (.reg [⟨some 18, none, .mv (.t 0)⟩, ⟨some 19, none, .mv (.t 5)⟩, ⟨some 20, none, .iaddr 5 (.t 18) (.t 19)⟩, ⟨some 21, none, .load true 5 (.t 20)⟩, ⟨some 22, none, .mv (.t 1)⟩, ⟨some 23, none, .call 7 [(.t 21), (.t 22)]⟩, ⟨some 1, none, .mv (.t 23)⟩]) (.seq (.reg [⟨some 24, none, .mv (.t 1)⟩, ⟨some 25, none, .bin .lss false (.t 24) (.c (.int .i64 0))⟩]) (.cond (.t 25) (.seq (.reg [⟨some 4, none, .mv (.c (.int .i64 (-(0 + 1))))⟩]) .ret) .skip)))) (.reg [⟨some 16, none, .mv (.t 5)⟩, ⟨some 17, none, .bin .add false (.t 16) (.c (.int .i64 1))⟩, ⟨some 5, none, .mv (.t 17)⟩])))))) (.seq (.reg [⟨some 26, none, .mv (.t 1)⟩, ⟨some 4, none, .mv (.t 26)⟩]) .ret)))))
theorem k_laws_szFormulaS : codeOf Tryz.prog 34 = some ⟨27, c_laws_szFormulaS, [(.tmp 4)]⟩ := by kernel_rfl
theorem m_laws_szFormulaS : modes 34 = ⟨[], .asis, none, false⟩ := by unfold modes; rfl
abbrev SzT_Formula (x : Fm) : Prop := D.fits x.d → ∀ left : Int, 0 ≤ left → left ≤ 1048576 → E 7 [x.sv, .int .i64 left] [] = some (.int .i64 (szR left x.bulk), [])
abbrev SzTS_Formula (xs : List Fm) : Prop := D.fit (.arr (xs.map Fm.d)) → ∀ left : Int, 0 ≤ left → left ≤ 1048576 → E 34 [.arr (xs.map Fm.d), .int .i64 left] [] = some (.int .i64 (szR left (xs.length + Fm.sumB xs : Nat)), [])
set_option maxHeartbeats 1000000 in
theorem szTS_Formula_of (xs : List Fm) (h : ∀ x ∈ xs, SzT_Formula x) : SzTS_Formula xs := by
  intro hfit left h0 h1
  simp only [D.fit, List.length_map] at hfit
  have q0 := szR_spec left (xs.length + Fm.sumB xs)
  refine E_walk k_laws_szFormulaS m_laws_szFormulaS (of_decide_eq_true rfl) ?_
  simp (disch := omega) only [c_laws_szFormulaS, go_sem, go_cond, zA, zB, zC, zD, zE, zF, zG, zH, ↓reduceIte, zI, reduceCtorEq, zJ, zK]
  repeat' (refine boolP_split (fun hq => ?_) (fun hq => ?_) <;> (first | replace hq := dec_iff.1 hq | replace hq := dec_not.1 hq) <;> (try simp (disch := omega) only [go_sem, go_cond, zA, zB, zC, zD, zE, zF, zG, zH, ↓reduceIte, zI, reduceCtorEq, zJ, zK]))
  · omega
  refine go_loop (α := Int × Int) (fun a => ⟨slots 27 0 [(0, .arr (xs.map Fm.d)), (1, .int .i64 a.2), (5, .int .i64 a.1)], []⟩) (fun a => ∃ k : Nat, a.1 = k ∧ k ≤ xs.length ∧ 0 ≤ a.2 ∧ a.2 ≤ 1048576 ∧ szR a.2 (Fm.sumB (xs.drop k)) = szR left (xs.length + Fm.sumB xs : Nat)) (fun a => xs.length - a.1.toNat) (0, left - xs.length) ⟨0, rfl, Nat.zero_le _, by omega, by omega, ?_⟩ (by simp (disch := omega) only [go_sem, go_cond, zA, zB, zC, zD, zE, zF, zG, zH, ↓reduceIte, zI, reduceCtorEq, zJ, zK]) ?_
  · have q1 := szR_spec (left - xs.length) (Fm.sumB xs)
    rw [List.drop_zero]
    dsimp only
    omega
  · rintro ⟨i, l⟩ ⟨k, hi, hk, hl0, hl1, hs⟩
    dsimp only at hi hl0 hl1 hs
    rcases Nat.lt_or_ge k xs.length with hlt | hge
    · have hg := get_at Fm.d hlt
      rw [Fm.d_eq] at hg
      have hd : Fm.sumB (xs.drop k) = xs[k].bulk + Fm.sumB (xs.drop (k + 1)) := by rw [List.drop_eq_getElem_cons hlt, Fm.sumB]
      rw [hd] at hs
      have hc := h xs[k] (List.getElem_mem hlt) (D.fitss_mem hfit.2 _ (List.getElem_mem hlt)) l hl0 hl1
      have q1 := szR_spec l xs[k].bulk
      have q2 := szR_spec l (xs[k].bulk + Fm.sumB (xs.drop (k + 1)))
      have q3 := szR_spec (l - xs[k].bulk) (Fm.sumB (xs.drop (k + 1)))
      have hn : i.toNat = k := by omega
      simp (disch := omega) only [go_sem, go_cond, zA, zB, zC, zD, zE, zF, zG, zH, ↓reduceIte, zI, reduceCtorEq, zJ, zK, hn, hg, hc, m_laws_szFormula]
      repeat' (refine boolP_split (fun hq => ?_) (fun hq => ?_) <;> (first | replace hq := dec_iff.1 hq | replace hq := dec_not.1 hq) <;> (try simp (disch := omega) only [go_sem, go_cond, zA, zB, zC, zD, zE, zF, zG, zH, ↓reduceIte, zI, reduceCtorEq, zJ, zK]))
      · omega
      · refine ⟨(i + 1, l - xs[k].bulk), ⟨k + 1, by dsimp only; omega, hlt, by dsimp only; omega, by dsimp only; omega, by dsimp only; omega⟩, by dsimp only; omega, ?_⟩
        have e : szR l xs[k].bulk = l - xs[k].bulk := by omega
        simp only [e, and_self]
    · have hd : xs.drop k = [] := List.drop_eq_nil_of_le hge
      rw [hd] at hs
      have q1 := szR_spec l (Fm.sumB [])
      simp only [Fm.sumB] at hs q1
      simp (disch := omega) only [go_sem, go_cond, zA, zB, zC, zD, zE, zF, zG, zH, ↓reduceIte, zI, reduceCtorEq, zJ, zK]
      omega
set_option maxHeartbeats 1000000 in
theorem szT_Formula_of (x : Fm) (h_atom : SzT_Term x.atom) (h_parts : SzTS_Formula x.parts) : SzT_Formula x := by
  intro hfit left h0 h1
  rw [Fm.d_eq] at hfit
  simp only [D.fits, D.fit] at hfit
  replace h_atom := h_atom (by rw [Tm.d_eq]; simp only [D.fits, D.fit, hfit, and_self])
  replace h_parts := h_parts (by simp only [D.fit, List.length_map]; simp only [List.length_map] at hfit; simp only [hfit, and_self])
  have q := szR_spec left x.bulk
  have qb := Fm.bulk_eq x
  have q0 := szR_spec left (x.atom.bulk)
  have q41 := szR_spec ((szR left (x.atom.bulk : Nat)) - (x.var.size : Int)) ((x.parts.length + Fm.sumB x.parts))
  refine E_walk k_laws_szFormula m_laws_szFormula (of_decide_eq_true rfl) ?_
  simp (disch := omega) only [c_laws_szFormula, go_sem, go_cond, zA, zB, zC, zD, zE, zF, zG, zH, ↓reduceIte, zI, reduceCtorEq, zJ, zK, h_atom, m_laws_szTerm, h_parts, m_laws_szFormulaS]
  repeat' (refine boolP_split (fun hq => ?_) (fun hq => ?_) <;> (first | replace hq := dec_iff.1 hq | replace hq := dec_not.1 hq) <;> (try simp (disch := omega) only [go_sem, go_cond, zA, zB, zC, zD, zE, zF, zG, zH, ↓reduceIte, zI, reduceCtorEq, zJ, zK, h_atom, m_laws_szTerm, h_parts, m_laws_szFormulaS]))
  all_goals omega
theorem szT_Formula (x : Fm) : SzT_Formula x := szT_Formula_of x (szT_Term x.atom) (szTS_Formula_of x.parts fun y hy => szT_Formula y)
termination_by SizeOf.sizeOf x
decreasing_by exact Fm.lt_of_mem hy
def c_laws_szAssigned : SC := (.seq (.reg [⟨some 2, none, .boxv 90 2 (.t 0)⟩, ⟨some 4, none, .mv (.c (.int .i64 0))⟩]) (.seq (.reg [⟨some 5, none, .mv (.t 1)⟩, ⟨some 6, none, .faddr 0 (.t 2)⟩, ⟨some 7, none, .load false 1 (.t 6)⟩, ⟨some 8, none, .len true (.t 7)⟩, ⟨some 9, none, .bin .sub false (.t 5) (.t 8)⟩, ⟨some 1, none, .mv (.t 9)⟩]) (.seq (.seq (.reg [⟨some 10, none, .mv (.t 1)⟩, ⟨some 11, none, .bin .lss false (.t 10) (.c (.int .i64 0))⟩]) (.cond (.t 11) (.seq (.reg [⟨some 4, none, .mv (.c (.int .i64 (-(0 + 1))))⟩]) .ret) .skip)) (.seq (.reg [⟨some 12, none, .mv (.t 1)⟩, ⟨some 4, none, .mv (.t 12)⟩]) .ret))))
theorem k_laws_szAssigned : codeOf Tryz.prog 49 = some ⟨13, c_laws_szAssigned, [(.tmp 4)]⟩ := by kernel_rfl
theorem m_laws_szAssigned : modes 49 = ⟨[], .asis, none, false⟩ := by unfold modes; rfl
def c_laws_szAssignedS : SC := (.seq (.reg [⟨some 4, none, .mv (.c (.int .i64 0))⟩]) (.seq (.reg [⟨some 6, none, .mv (.t 1)⟩, ⟨some 7, none, .mv (.t 0)⟩, ⟨some 8, none, .len false (.t 7)⟩, ⟨some 9, none, .bin .sub false (.t 6) (.t 8)⟩, ⟨some 1, none, .mv (.t 9)⟩]) (.seq (.seq (.reg [⟨some 10, none, .mv (.t 1)⟩, ⟨some 11, none, .bin .lss false (.t 10) (.c (.int .i64 0))⟩]) (.cond (.t 11) (.seq (.reg [⟨some 4, none, .mv (.c (.int .i64 (-(0 + 1))))⟩]) .ret) .skip)) (.seq (.seq (.reg [⟨some 5, none, .mv (.c (.int .i64 0))⟩]) (.block 0 (.loop [1, 1, 0, 0, 0, 1, 0, 0, 0, 0, 0, 0, 0, 0, 0, 0, 0, 0, 0, 0, 0, 0, 0, 0, 0, 0, 0] (.seq (.seq (.reg [⟨some 12, none, .mv (.t 5)⟩, ⟨some 13, none, .mv (.t 0)⟩, ⟨some 14, none, .len false (.t 13)⟩, ⟨some 15, none, .bin .lss false (.t 12) (.t 14)⟩]) (.cond (.t 15) .skip (.exit 0))) (.seq (.block 1 (.seq (.reg [⟨some 18, none, .mv (.t 0)⟩, ⟨some 19, none, .mv (.t 5)⟩, ⟨some 20, none, .iaddr 2 (.t 18) (.t 19)⟩, ⟨some 21, none, .load true 2 (.t 20)⟩, ⟨some 22, none, .mv (.t 1)⟩, ⟨some 23, none, .call 49 [(.t 21), (.t 22)]⟩, ⟨some 1, none, .mv (.t 23)⟩]) (.seq (.reg [⟨some 24, none, .mv (.t 1)⟩, ⟨some 25, none, .bin .lss false (.t 24) (.c (.int .i64 0))⟩]) (.cond (.t 25) (.seq (.reg [⟨some 4, none, .mv (.c (.int .i64 (-(0 + 1))))⟩]) .ret) .skip)))) (.reg [⟨some 16, none, .mv (.t 5)⟩, ⟨some 17, none, .bin .add false (.t 16) (.c (.int .i64 1))⟩, ⟨some 5, none, .mv (.t 17)⟩])))))) (.seq (.reg [⟨some 26, none, .mv (.t 1)⟩, ⟨some 4, none, .mv (.t 26)⟩]) .ret)))))
theorem k_laws_szAssignedS : codeOf Tryz.prog 15 = some ⟨27, c_laws_szAssignedS, [(.tmp 4)]⟩ := by kernel_rfl
theorem m_laws_szAssignedS : modes 15 = ⟨[], .asis, none, false⟩ := by unfold modes; rfl
abbrev SzT_Assigned (x : Ag) : Prop := D.fits x.d → ∀ left : Int, 0 ≤ left → left ≤ 1048576 → E 49 [x.sv, .int .i64 left] [] = some (.int .i64 (szR left x.bulk), [])
abbrev SzTS_Assigned (xs : List Ag) : Prop := D.fit (.arr (xs.map Ag.d)) → ∀ left : Int, 0 ≤ left → left ≤ 1048576 → E 15 [.arr (xs.map Ag.d), .int .i64 left] [] = some (.int .i64 (szR left (xs.length + Ag.sumB xs : Nat)), [])
set_option maxHeartbeats 1000000 in
theorem szTS_Assigned_of (xs : List Ag) (h : ∀ x ∈ xs, SzT_Assigned x) : SzTS_Assigned xs := by
  intro hfit left h0 h1
  simp only [D.fit, List.length_map] at hfit
  have q0 := szR_spec left (xs.length + Ag.sumB xs)
  refine E_walk k_laws_szAssignedS m_laws_szAssignedS (of_decide_eq_true rfl) ?_
  simp (disch := omega) only [c_laws_szAssignedS, go_sem, go_cond, zA, zB, zC, zD, zE, zF, zG, zH, ↓reduceIte, zI, reduceCtorEq, zJ, zK]
  repeat' (refine boolP_split (fun hq => ?_) (fun hq => ?_) <;> (first | replace hq := dec_iff.1 hq | replace hq := dec_not.1 hq) <;> (try simp (disch := omega) only [go_sem, go_cond, zA, zB, zC, zD, zE, zF, zG, zH, ↓reduceIte, zI, reduceCtorEq, zJ, zK]))
  · omega
  refine go_loop (α := Int × Int) (fun a => ⟨slots 27 0 [(0, .arr (xs.map Ag.d)), (1, .int .i64 a.2), (5, .int .i64 a.1)], []⟩) (fun a => ∃ k : Nat, a.1 = k ∧ k ≤ xs.length ∧ 0 ≤ a.2 ∧ a.2 ≤ 1048576 ∧ szR a.2 (Ag.sumB (xs.drop k)) = szR left (xs.length + Ag.sumB xs : Nat)) (fun a => xs.length - a.1.toNat) (0, left - xs.length) ⟨0, rfl, Nat.zero_le _, by omega, by omega, ?_⟩ (by simp (disch := omega) only [go_sem, go_cond, zA, zB, zC, zD, zE, zF, zG, zH, ↓reduceIte, zI, reduceCtorEq, zJ, zK]) ?_
  · have q1 := szR_spec (left - xs.length) (Ag.sumB xs)
    rw [List.drop_zero]
    dsimp only
    omega
  · rintro ⟨i, l⟩ ⟨k, hi, hk, hl0, hl1, hs⟩
    dsimp only at hi hl0 hl1 hs
    rcases Nat.lt_or_ge k xs.length with hlt | hge
    · have hg := get_at Ag.d hlt
      rw [Ag.d_eq] at hg
      have hd : Ag.sumB (xs.drop k) = xs[k].bulk + Ag.sumB (xs.drop (k + 1)) := by rw [List.drop_eq_getElem_cons hlt, Ag.sumB]
      rw [hd] at hs
      have hc := h xs[k] (List.getElem_mem hlt) (D.fitss_mem hfit.2 _ (List.getElem_mem hlt)) l hl0 hl1
      have q1 := szR_spec l xs[k].bulk
      have q2 := szR_spec l (xs[k].bulk + Ag.sumB (xs.drop (k + 1)))
      have q3 := szR_spec (l - xs[k].bulk) (Ag.sumB (xs.drop (k + 1)))
      have hn : i.toNat = k := by omega
      simp (disch := omega) only [go_sem, go_cond, zA, zB, zC, zD, zE, zF, zG, zH, ↓reduceIte, zI, reduceCtorEq, zJ, zK, hn, hg, hc, m_laws_szAssigned]
      repeat' (refine boolP_split (fun hq => ?_) (fun hq => ?_) <;> (first | replace hq := dec_iff.1 hq | replace hq := dec_not.1 hq) <;> (try simp (disch := omega) only [go_sem, go_cond, zA, zB, zC, zD, zE, zF, zG, zH, ↓reduceIte, zI, reduceCtorEq, zJ, zK]))
      · omega
      · refine ⟨(i + 1, l - xs[k].bulk), ⟨k + 1, by dsimp only; omega, hlt, by dsimp only; omega, by dsimp only; omega, by dsimp only; omega⟩, by dsimp only; omega, ?_⟩
        have e : szR l xs[k].bulk = l - xs[k].bulk := by omega
        simp only [e, and_self]
    · have hd : xs.drop k = [] := List.drop_eq_nil_of_le hge
      rw [hd] at hs
      have q1 := szR_spec l (Ag.sumB [])
      simp only [Ag.sumB] at hs q1
      simp (disch := omega) only [go_sem, go_cond, zA, zB, zC, zD, zE, zF, zG, zH, ↓reduceIte, zI, reduceCtorEq, zJ, zK]
      omega
set_option maxHeartbeats 1000000 in
theorem szT_Assigned_of (x : Ag) : SzT_Assigned x := by
  intro hfit left h0 h1
  rw [Ag.d_eq] at hfit
  simp only [D.fits, D.fit] at hfit
  have q := szR_spec left x.bulk
  have qb := Ag.bulk_eq x
  refine E_walk k_laws_szAssigned m_laws_szAssigned (of_decide_eq_true rfl) ?_
  simp (disch := omega) only [c_laws_szAssigned, go_sem, go_cond, zA, zB, zC, zD, zE, zF, zG, zH, ↓reduceIte, zI, reduceCtorEq, zJ, zK]
  repeat' (refine boolP_split (fun hq => ?_) (fun hq => ?_) <;> (first | replace hq := dec_iff.1 hq | replace hq := dec_not.1 hq) <;> (try simp (disch := omega) only [go_sem, go_cond, zA, zB, zC, zD, zE, zF, zG, zH, ↓reduceIte, zI, reduceCtorEq, zJ, zK]))
  all_goals omega
theorem szT_Assigned (x : Ag) : SzT_Assigned x := szT_Assigned_of x
theorem szTS_Assigned (xs : List Ag) : SzTS_Assigned xs := szTS_Assigned_of xs fun x _ => szT_Assigned x
def c_laws_szTable : SC := (.seq (.reg [⟨some 2, none, .boxv 131 4 (.t 0)⟩, ⟨some 4, none, .mv (.c (.int .i64 0))⟩]) (.seq (.reg [⟨some 5, none, .mv (.t 1)⟩, ⟨some 6, none, .faddr 0 (.t 2)⟩, ⟨some 7, none, .load false 1 (.t 6)⟩, ⟨some 8, none, .len true (.t 7)⟩, ⟨some 9, none, .bin .sub false (.t 5) (.t 8)⟩, ⟨some 1, none, .mv (.t 9)⟩]) (.seq (.seq (.reg [⟨some 10, none, .mv (.t 1)⟩, ⟨some 11, none, .bin .lss false (.t 10) (.c (.int .i64 0))⟩]) (.cond (.t 11) (.seq (.reg [⟨some 4, none, .mv (.c (.int .i64 (-(0 + 1))))⟩]) .ret) .skip)) (.seq (.reg [⟨some 12, none, .faddr 3 (.t 2)⟩, ⟨some 13, none, .load false 1 (.t 12)⟩, ⟨some 14, none, .mv (.t 1)⟩, ⟨some 15, none, .call 136 [(.t 13), (.t 14)]⟩, ⟨some 1, none, .mv (.t 15)⟩]) (.seq (.seq (.reg [⟨some 16, none, .mv (.t 1)⟩, ⟨some 17, none, .bin .lss false (.t 16) (.c (.int .i64 0))⟩]) (.cond (.t 17) (.seq (.reg [⟨some 4, none, .mv (.c (.int .i64 (-(0 + 1))))⟩]) .ret) .skip)) (.seq (.reg [⟨some 18, none, .mv (.t 1)⟩, ⟨some 4, none, .mv (.t 18)⟩]) .ret))))))
theorem k_laws_szTable : codeOf Tryz.prog 88 = some ⟨19, c_laws_szTable, [(.tmp 4)]⟩ := by kernel_rfl
theorem m_laws_szTable : modes 88 = ⟨[], .asis, none, false⟩ := by unfold modes; rfl
def c_laws_szTableS : SC := (.seq (.reg [⟨some 4, none, .mv (.c (.int .i64 0))⟩]) (.seq (.reg [⟨some 6, none, .mv (.t 1)⟩, ⟨some 7, none, .mv (.t 0)⟩, ⟨some 8, none, .len false (.t 7)⟩, ⟨some 9, none, .bin .sub false (.t 6) (.t 8)⟩, ⟨some 1, none, .mv (.t 9)⟩]) (.seq (.seq (.reg [⟨some 10, none, .mv (.t 1)⟩, ⟨some 11, none, .bin .lss false (.t 10) (.c (.int .i64 0))⟩]) (.cond (.t 11) (.seq (.reg [⟨some 4, none, .mv (.c (.int .i64 (-(0 + 1))))⟩]) .ret) .skip)) (.seq (.seq (.reg [⟨some 5, none, .mv (.c (.int .i64 0))⟩]) (.block 0 (.loop [1, 1, 0, 0, 0, 1, 0, 0, 0, 0, 0, 0, 0, 0, 0, 0, 0, 0, 0, 0, 0, 0, 0, 0, 0, 0, 0] (.seq (.seq (.reg [⟨some 12, none, .mv (.t 5)⟩, ⟨some 13, none, .mv (.t 0)⟩, ⟨some 14, none, .len false (.t 13)⟩, ⟨some 15, none, .bin .lss false (.t 12) (.t 14)⟩]) (.cond (.t 15) .skip (.exit 0))) (.seq (.block 1 (.seq (.reg [⟨some 18, none, .mv (.t 0)⟩, ⟨some 19, none, .mv (.t 5)⟩, ⟨some 20, none, .iaddr 4 (.t 18) (.t 19)⟩, ⟨some 21, none, .load true 4 (.t 20)⟩, ⟨some 22, none, .mv (.t 1)⟩, ⟨some 23, none, .call 88 [(.t 21), (.t 22)]⟩, ⟨some 1, none, .mv (.t 23)⟩]) (.seq (.reg [⟨some 24, none, .mv (.t 1)⟩, ⟨some 25, none, .bin .lss false (.t 24) (.c (.int .i64 0))⟩]) (.cond (.t 25) (.seq (.reg [⟨some 4, none, .mv (.c (.int .i64 (-(0 + 1))))⟩]) .ret) .skip)))) (.reg [⟨some 16, none, .mv (.t 5)⟩, ⟨some 17, none, .bin .add false (.t 16) (.c (.int .i64 1))⟩, ⟨some 5, none, .mv (.t 17)⟩])))))) (.seq (.reg [⟨some 26, none, .mv (.t 1)⟩, ⟨some 4, none, .mv (.t 26)⟩]) .ret)))))
theorem k_laws_szTableS : codeOf Tryz.prog 48 = some ⟨27, c_laws_szTableS, [(.tmp 4)]⟩ := by kernel_rfl
theorem m_laws_szTableS : modes 48 = ⟨[], .asis, none, false⟩ := by unfold modes; rfl
abbrev SzT_Table (x : Tl) : Prop := D.fits x.d → ∀ left : Int, 0 ≤ left → left ≤ 1048576 → E 88 [x.sv, .int .i64 left] [] = some (.int .i64 (szR left x.bulk), [])
abbrev SzTS_Table (xs : List Tl) : Prop := D.fit (.arr (xs.map Tl.d)) → ∀ left : Int, 0 ≤ left → left ≤ 1048576 → E 48 [.arr (xs.map Tl.d), .int .i64 left] [] = some (.int .i64 (szR left (xs.length + Tl.sumB xs : Nat)), [])
set_option maxHeartbeats 1000000 in
theorem szTS_Table_of (xs : List Tl) (h : ∀ x ∈ xs, SzT_Table x) : SzTS_Table xs := by
  intro hfit left h0 h1
  simp only [D.fit, List.length_map] at hfit
  have q0 := szR_spec left (xs.length + Tl.sumB xs)
  refine E_walk k_laws_szTableS m_laws_szTableS (of_decide_eq_true rfl) ?_
  simp (disch := omega) only [c_laws_szTableS, go_sem, go_cond, zA, zB, zC, zD, zE, zF, zG, zH, ↓reduceIte, zI, reduceCtorEq, zJ, zK]
  repeat' (refine boolP_split (fun hq => ?_) (fun hq => ?_) <;> (first | replace hq := dec_iff.1 hq | replace hq := dec_not.1 hq) <;> (try simp (disch := omega) only [go_sem, go_cond, zA, zB, zC, zD, zE, zF, zG, zH, ↓reduceIte, zI, reduceCtorEq, zJ, zK]))
  · omega
  refine go_loop (α := Int × Int) (fun a => ⟨slots 27 0 [(0, .arr (xs.map Tl.d)), (1, .int .i64 a.2), (5, .int .i64 a.1)], []⟩) (fun a => ∃ k : Nat, a.1 = k ∧ k ≤ xs.length ∧ 0 ≤ a.2 ∧ a.2 ≤ 1048576 ∧ szR a.2 (Tl.sumB (xs.drop k)) = szR left (xs.length + Tl.sumB xs : Nat)) (fun a => xs.length - a.1.toNat) (0, left - xs.length) ⟨0, rfl, Nat.zero_le _, by omega, by omega, ?_⟩ (by simp (disch := omega) only [go_sem, go_cond, zA, zB, zC, zD, zE, zF, zG, zH, ↓reduceIte, zI, reduceCtorEq, zJ, zK]) ?_
  · have q1 := szR_spec (left - xs.length) (Tl.sumB xs)
    rw [List.drop_zero]
    dsimp only
    omega
  · rintro ⟨i, l⟩ ⟨k, hi, hk, hl0, hl1, hs⟩
    dsimp only at hi hl0 hl1 hs
    rcases Nat.lt_or_ge k xs.length with hlt | hge
    · have hg := get_at Tl.d hlt
      rw [Tl.d_eq] at hg
      have hd : Tl.sumB (xs.drop k) = xs[k].bulk + Tl.sumB (xs.drop (k + 1)) := by rw [List.drop_eq_getElem_cons hlt, Tl.sumB]
      rw [hd] at hs
      have hc := h xs[k] (List.getElem_mem hlt) (D.fitss_mem hfit.2 _ (List.getElem_mem hlt)) l hl0 hl1
      have q1 := szR_spec l xs[k].bulk
      have q2 := szR_spec l (xs[k].bulk + Tl.sumB (xs.drop (k + 1)))
      have q3 := szR_spec (l - xs[k].bulk) (Tl.sumB (xs.drop (k + 1)))
      have hn : i.toNat = k := by omega
      simp (disch := omega) only [go_sem, go_cond, zA, zB, zC, zD, zE, zF, zG, zH, ↓reduceIte, zI, reduceCtorEq, zJ, zK, hn, hg, hc, m_laws_szTable]
      repeat' (refine boolP_split (fun hq => ?_) (fun hq => ?_) <;> (first | replace hq := dec_iff.1 hq | replace hq := dec_not.1 hq) <;> (try simp (disch := omega) only [go_sem, go_cond, zA, zB, zC, zD, zE, zF, zG, zH, ↓reduceIte, zI, reduceCtorEq, zJ, zK]))
      · omega
      · refine ⟨(i + 1, l - xs[k].bulk), ⟨k + 1, by dsimp only; omega, hlt, by dsimp only; omega, by dsimp only; omega, by dsimp only; omega⟩, by dsimp only; omega, ?_⟩
        have e : szR l xs[k].bulk = l - xs[k].bulk := by omega
        simp only [e, and_self]
    · have hd : xs.drop k = [] := List.drop_eq_nil_of_le hge
      rw [hd] at hs
      have q1 := szR_spec l (Tl.sumB [])
      simp only [Tl.sumB] at hs q1
      simp (disch := omega) only [go_sem, go_cond, zA, zB, zC, zD, zE, zF, zG, zH, ↓reduceIte, zI, reduceCtorEq, zJ, zK]
      omega
set_option maxHeartbeats 1000000 in
theorem szT_Table_of (x : Tl) (h_vals : SzTS_int x.vals) : SzT_Table x := by
  intro hfit left h0 h1
  rw [Tl.d_eq] at hfit
  simp only [D.fits, D.fit] at hfit
  replace h_vals := h_vals (by simp only [D.fit, List.length_map]; simp only [List.length_map] at hfit; simp only [hfit, and_self])
  have q := szR_spec left x.bulk
  have qb := Tl.bulk_eq x
  have q0 := szR_spec (left - (x.name.size : Int)) (x.vals.length)
  refine E_walk k_laws_szTable m_laws_szTable (of_decide_eq_true rfl) ?_
  simp (disch := omega) only [c_laws_szTable, go_sem, go_cond, zA, zB, zC, zD, zE, zF, zG, zH, ↓reduceIte, zI, reduceCtorEq, zJ, zK, h_vals, m_laws_szIntS]
  repeat' (refine boolP_split (fun hq => ?_) (fun hq => ?_) <;> (first | replace hq := dec_iff.1 hq | replace hq := dec_not.1 hq) <;> (try simp (disch := omega) only [go_sem, go_cond, zA, zB, zC, zD, zE, zF, zG, zH, ↓reduceIte, zI, reduceCtorEq, zJ, zK, h_vals, m_laws_szIntS]))
  all_goals omega
theorem szT_Table (x : Tl) : SzT_Table x := szT_Table_of x (szTS_int x.vals)
def c_laws_szInterpretation : SC := (.seq (.reg [⟨some 2, none, .boxv 43 2 (.t 0)⟩, ⟨some 4, none, .mv (.c (.int .i64 0))⟩]) (.seq (.reg [⟨some 5, none, .faddr 1 (.t 2)⟩, ⟨some 6, none, .load false 1 (.t 5)⟩, ⟨some 7, none, .mv (.t 1)⟩, ⟨some 8, none, .call 48 [(.t 6), (.t 7)]⟩, ⟨some 1, none, .mv (.t 8)⟩]) (.seq (.seq (.reg [⟨some 9, none, .mv (.t 1)⟩, ⟨some 10, none, .bin .lss false (.t 9) (.c (.int .i64 0))⟩]) (.cond (.t 10) (.seq (.reg [⟨some 4, none, .mv (.c (.int .i64 (-(0 + 1))))⟩]) .ret) .skip)) (.seq (.reg [⟨some 11, none, .mv (.t 1)⟩, ⟨some 4, none, .mv (.t 11)⟩]) .ret))))
theorem k_laws_szInterpretation : codeOf Tryz.prog 14 = some ⟨12, c_laws_szInterpretation, [(.tmp 4)]⟩ := by kernel_rfl
theorem m_laws_szInterpretation : modes 14 = ⟨[], .asis, none, false⟩ := by unfold modes; rfl
abbrev SzT_Interpretation (x : Ip) : Prop := D.fits x.d → ∀ left : Int, 0 ≤ left → left ≤ 1048576 → E 14 [x.sv, .int .i64 left] [] = some (.int .i64 (szR left x.bulk), [])
set_option maxHeartbeats 1000000 in
theorem szT_Interpretation_of (x : Ip) (h_tables : SzTS_Table x.tables) : SzT_Interpretation x := by
  intro hfit left h0 h1
  rw [Ip.d_eq] at hfit
  simp only [D.fits, D.fit] at hfit
  replace h_tables := h_tables (by simp only [D.fit, List.length_map]; simp only [List.length_map] at hfit; simp only [hfit, and_self])
  have q := szR_spec left x.bulk
  have qb := Ip.bulk_eq x
  have q0 := szR_spec left ((x.tables.length + Tl.sumB x.tables))
  refine E_walk k_laws_szInterpretation m_laws_szInterpretation (of_decide_eq_true rfl) ?_
  simp (disch := omega) only [c_laws_szInterpretation, go_sem, go_cond, zA, zB, zC, zD, zE, zF, zG, zH, ↓reduceIte, zI, reduceCtorEq, zJ, zK, h_tables, m_laws_szTableS]
  repeat' (refine boolP_split (fun hq => ?_) (fun hq => ?_) <;> (first | replace hq := dec_iff.1 hq | replace hq := dec_not.1 hq) <;> (try simp (disch := omega) only [go_sem, go_cond, zA, zB, zC, zD, zE, zF, zG, zH, ↓reduceIte, zI, reduceCtorEq, zJ, zK, h_tables, m_laws_szTableS]))
  all_goals omega
theorem szT_Interpretation (x : Ip) : SzT_Interpretation x := szT_Interpretation_of x (szTS_Table_of x.tables fun y hy => szT_Table y)
def c_laws_toIntS : SC := (.seq (.reg [⟨some 2, none, .mv (.c .nil)⟩]) (.seq (.reg [⟨some 5, none, .mv (.t 0)⟩, ⟨some 6, none, .len false (.t 5)⟩, ⟨some 7, none, .mkslice 3 1 8 [(.int .i64 0)] (.t 6)⟩, ⟨some 3, none, .mv (.t 7)⟩]) (.seq (.seq (.reg [⟨some 4, none, .mv (.c (.int .i64 0))⟩]) (.block 0 (.loop [1, 0, 0, 1, 1, 0, 0, 0, 0, 0, 0, 0, 0, 0, 0, 0, 0, 0, 0, 0, 0, 0] (.seq (.seq (.reg [⟨some 8, none, .mv (.t 4)⟩, ⟨some 9, none, .mv (.t 0)⟩, ⟨some 10, none, .len false (.t 9)⟩, ⟨some 11, none, .bin .lss false (.t 8) (.t 10)⟩]) (.cond (.t 11) .skip (.exit 0))) (.seq (.block 1 (.reg [⟨some 14, none, .mv (.t 3)⟩, ⟨some 15, none, .mv (.t 4)⟩, ⟨some 16, none, .mv (.t 0)⟩, ⟨some 17, none, .mv (.t 4)⟩, ⟨some 18, none, .iaddr 1 (.t 16) (.t 17)⟩, ⟨some 19, none, .load false 1 (.t 18)⟩, ⟨some 20, none, .iaddr 1 (.t 14) (.t 15)⟩, ⟨none, none, (.store 1 (.t 20) (.t 19))⟩])) (.reg [⟨some 12, none, .mv (.t 4)⟩, ⟨some 13, none, .bin .add false (.t 12) (.c (.int .i64 1))⟩, ⟨some 4, none, .mv (.t 13)⟩])))))) (.seq (.reg [⟨some 21, none, .mv (.t 3)⟩, ⟨some 2, none, .mv (.t 21)⟩]) .ret))))
theorem k_laws_toIntS : codeOf Tryz.prog 141 = some ⟨22, c_laws_toIntS, [(.tmp 2)]⟩ := by kernel_rfl
theorem m_laws_toIntS : modes 141 = ⟨[], .asis, none, false⟩ := by unfold modes; rfl
abbrev ToTS_int (xs : List Int) : Prop := xs.length ≤ 1048576 → E 141 [.arr (xs.map (fun s => [D.int s]))] [] = some (.ref 0, [.row 3 1 (xs.map (fun s => [OT.int s]))])
set_option maxHeartbeats 1000000 in
theorem toTS_int (xs : List Int) : ToTS_int xs := by
  intro hb
  refine E_walk k_laws_toIntS m_laws_toIntS (of_decide_eq_true rfl) ?_
  simp (disch := omega) only [c_laws_toIntS, go_sem, go_cond, zA, zB, zC, zD, zE, zF, zG, zH, ↓reduceIte, zI, reduceCtorEq, zJ, zK]
  refine go_loop (α := Int) (fun i => ⟨slots 22 0 [(0, .arr (xs.map (fun s => [D.int s]))), (3, .ref 0), (4, .int .i64 i)], [.row 3 1 (fillR (fun s => [OT.int s]) [.int 0] xs i.toNat)]⟩) (fun i => ∃ k : Nat, i = k ∧ k ≤ xs.length) (fun i => xs.length - i.toNat) 0 ⟨0, rfl, Nat.zero_le _⟩ (by simp (disch := omega) only [go_sem, go_cond, zA, zB, zC, zD, zE, zF, zG, zH, ↓reduceIte, zI, reduceCtorEq, zJ, zK, fillR_zero, Int.toNat_zero]) ?_
  · rintro i ⟨k, rfl, hk⟩
    obtain ⟨i, hi⟩ : ∃ i : Int, i = (k : Int) := ⟨_, rfl⟩
    rw [← hi]
    have hn : i.toNat = k := by omega
    have hn1 : (i + 1).toNat = k + 1 := by omega
    rcases Nat.lt_or_ge k xs.length with hlt | hge
    · have hg := get_at (fun s => [D.int s]) hlt
      have hz := fillR_get (fun s => [OT.int s]) [.int 0] hlt
      have hs := fillR_set (fun s => [OT.int s]) [.int 0] hlt
      simp (disch := omega) only [go_sem, go_cond, zA, zB, zC, zD, zE, zF, zG, zH, ↓reduceIte, zI, reduceCtorEq, zJ, zK, hn, hg, hz, fillR_len]
      refine ⟨i + 1, ⟨k + 1, by omega, hlt⟩, by omega, ?_⟩
      simp (disch := omega) only [go_sem, go_cond, zA, zB, zC, zD, zE, zF, zG, zH, ↓reduceIte, zI, reduceCtorEq, zJ, zK, hn1, hs]
    · obtain rfl : k = xs.length := by omega
      simp (disch := omega) only [go_sem, go_cond, zA, zB, zC, zD, zE, zF, zG, zH, ↓reduceIte, zI, reduceCtorEq, zJ, zK, hn, fillR_end]
def c_laws_toTerm : SC := (.seq (.reg [⟨some 1, none, .boxv 24 2 (.t 0)⟩, ⟨(some 2), none, (.alloc 31 [(.str ⟨#[]⟩), .nil])⟩]) (.seq (.reg [⟨(some 3), none, (.alloc 31 [(.str ⟨#[]⟩), .nil])⟩]) (.seq (.reg [⟨some 4, none, .faddr 0 (.t 1)⟩, ⟨some 5, none, .load false 1 (.t 4)⟩, ⟨some 6, none, .faddr 0 (.t 3)⟩, ⟨none, none, (.store 1 (.t 6) (.t 5))⟩]) (.seq (.reg [⟨some 7, none, .faddr 1 (.t 1)⟩, ⟨some 8, none, .load false 1 (.t 7)⟩, ⟨some 9, none, .call 77 [(.t 8)]⟩, ⟨some 10, none, .faddr 1 (.t 3)⟩, ⟨none, none, (.store 1 (.t 10) (.t 9))⟩]) (.seq (.reg [⟨some 11, none, .load true 2 (.t 3)⟩, ⟨none, none, (.store 2 (.t 2) (.t 11))⟩]) .ret)))))
theorem k_laws_toTerm : codeOf Tryz.prog 37 = some ⟨12, c_laws_toTerm, [(.cell 2 true 2)]⟩ := by kernel_rfl
theorem m_laws_toTerm : modes 37 = ⟨[], .asis, none, false⟩ := by unfold modes; rfl
def c_laws_toTermS : SC := (.seq (.reg [⟨some 2, none, .mv (.c .nil)⟩]) (.seq (.reg [⟨some 5, none, .mv (.t 0)⟩, ⟨some 6, none, .len false (.t 5)⟩, ⟨(some 7), none, (.mkslice 31 2 40 [(.str ⟨#[]⟩), .nil] (.t 6))⟩, ⟨some 3, none, .mv (.t 7)⟩]) (.seq (.seq (.reg [⟨some 4, none, .mv (.c (.int .i64 0))⟩]) (.block 0 (.loop [1, 0, 0, 1, 1, 0, 0, 0, 0, 0, 0, 0, 0, 0, 0, 0, 0, 0, 0, 0, 0, 0, 0] (.seq (.seq (.reg [⟨some 8, none, .mv (.t 4)⟩, ⟨some 9, none, .mv (.t 0)⟩, ⟨some 10, none, .len false (.t 9)⟩, ⟨some 11, none, .bin .lss false (.t 8) (.t 10)⟩]) (.cond (.t 11) .skip (.exit 0))) (.seq (.block 1 (.reg [⟨some 14, none, .mv (.t 3)⟩, ⟨some 15, none, .mv (.t 4)⟩, ⟨some 16, none, .mv (.t 0)⟩, ⟨some 17, none, .mv (.t 4)⟩, ⟨some 18, none, .iaddr 2 (.t 16) (.t 17)⟩, ⟨some 19, none, .load true 2 (.t 18)⟩, ⟨some 20, none, .call 37 [(.t 19)]⟩, ⟨some 21, none, .iaddr 2 (.t 14) (.t 15)⟩, ⟨none, none, (.store 2 (.t 21) (.t 20))⟩])) (.reg [⟨some 12, none, .mv (.t 4)⟩, ⟨some 13, none, .bin .add false (.t 12) (.c (.int .i64 1))⟩, ⟨some 4, none, .mv (.t 13)⟩])))))) (.seq (.reg [⟨some 22, none, .mv (.t 3)⟩, ⟨some 2, none, .mv (.t 22)⟩]) .ret))))
theorem k_laws_toTermS : codeOf Tryz.prog 77 = some ⟨23, c_laws_toTermS, [(.tmp 2)]⟩ := by kernel_rfl
theorem m_laws_toTermS : modes 77 = ⟨[], .asis, none, false⟩ := by unfold modes; rfl
abbrev ToT_Term (x : Tm) : Prop := x.bulk ≤ 1048576 → E 37 [x.sv] [] = some (x.osv, x.obs)
abbrev ToTS_Term (xs : List Tm) : Prop := xs.length + Tm.sumB xs ≤ 1048576 → E 77 [.arr (xs.map Tm.d)] [] = some (.ref 0, [.row 31 2 (xs.map Tm.o)])
set_option maxHeartbeats 1000000 in
theorem toTS_Term_of (xs : List Tm) (h : ∀ x ∈ xs, ToT_Term x) : ToTS_Term xs := by
  intro hb
  refine E_walk k_laws_toTermS m_laws_toTermS (of_decide_eq_true rfl) ?_
  simp (disch := omega) only [c_laws_toTermS, go_sem, go_cond, zA, zB, zC, zD, zE, zF, zG, zH, ↓reduceIte, zI, reduceCtorEq, zJ, zK]
  refine go_loop (α := Int) (fun i => ⟨slots 23 0 [(0, .arr (xs.map Tm.d)), (3, .ref 0), (4, .int .i64 i)], [.row 31 2 (fillR Tm.o [.str ⟨#[]⟩, .ow []] xs i.toNat)]⟩) (fun i => ∃ k : Nat, i = k ∧ k ≤ xs.length) (fun i => xs.length - i.toNat) 0 ⟨0, rfl, Nat.zero_le _⟩ (by simp (disch := omega) only [go_sem, go_cond, zA, zB, zC, zD, zE, zF, zG, zH, ↓reduceIte, zI, reduceCtorEq, zJ, zK, fillR_zero, Int.toNat_zero]) ?_
  · rintro i ⟨k, rfl, hk⟩
    obtain ⟨i, hi⟩ : ∃ i : Int, i = (k : Int) := ⟨_, rfl⟩
    rw [← hi]
    have hn : i.toNat = k := by omega
    have hn1 : (i + 1).toNat = k + 1 := by omega
    rcases Nat.lt_or_ge k xs.length with hlt | hge
    · have hg := get_at Tm.d hlt
      rw [Tm.d_eq] at hg
      have hz := fillR_get Tm.o [.str ⟨#[]⟩, .ow []] hlt
      have hle := Tm.bulk_le xs k hlt
      have hc := h xs[k] (List.getElem_mem hlt) (by omega)
      have hs := fillR_set Tm.o [.str ⟨#[]⟩, .ow []] hlt
      rw [Tm.o_eq] at hs
      simp (disch := omega) only [go_sem, go_cond, zA, zB, zC, zD, zE, zF, zG, zH, ↓reduceIte, zI, reduceCtorEq, zJ, zK, hn, hg, hc, hz, fillR_len, m_laws_toTerm, Tm.osv, Tm.obs]
      refine ⟨i + 1, ⟨k + 1, by omega, hlt⟩, by omega, ?_⟩
      simp (disch := omega) only [go_sem, go_cond, zA, zB, zC, zD, zE, zF, zG, zH, ↓reduceIte, zI, reduceCtorEq, zJ, zK, hn1, hs]
    · obtain rfl : k = xs.length := by omega
      simp (disch := omega) only [go_sem, go_cond, zA, zB, zC, zD, zE, zF, zG, zH, ↓reduceIte, zI, reduceCtorEq, zJ, zK, hn, fillR_end]
set_option maxHeartbeats 1000000 in
theorem toT_Term_of (x : Tm) (h_args : ToTS_Term x.args) : ToT_Term x := by
  intro hb
  have qb := Tm.bulk_eq x
  replace h_args := h_args (by omega)
  refine E_walk k_laws_toTerm m_laws_toTerm (of_decide_eq_true rfl) ?_
  simp (disch := omega) only [c_laws_toTerm, go_sem, go_cond, zA, zB, zC, zD, zE, zF, zG, zH, ↓reduceIte, zI, reduceCtorEq, zJ, zK, h_args, m_laws_toTermS]
theorem toT_Term (x : Tm) : ToT_Term x := toT_Term_of x (toTS_Term_of x.args fun y hy => toT_Term y)
termination_by SizeOf.sizeOf x
decreasing_by exact Tm.lt_of_mem hy
def c_laws_toFormula : SC := (.seq (.reg [⟨some 1, none, .boxv 27 5 (.t 0)⟩, ⟨(some 2), none, (.alloc 34 [(.int .i64 0), (.str ⟨#[]⟩), .nil, (.str ⟨#[]⟩), .nil])⟩]) (.seq (.reg [⟨(some 3), none, (.alloc 34 [(.int .i64 0), (.str ⟨#[]⟩), .nil, (.str ⟨#[]⟩), .nil])⟩]) (.seq (.reg [⟨some 4, none, .faddr 0 (.t 1)⟩, ⟨some 5, none, .load false 1 (.t 4)⟩, ⟨some 6, none, .faddr 0 (.t 3)⟩, ⟨none, none, (.store 1 (.t 6) (.t 5))⟩]) (.seq (.reg [⟨some 7, none, .faddr 1 (.t 1)⟩, ⟨some 8, none, .load true 2 (.t 7)⟩, ⟨some 9, none, .call 37 [(.t 8)]⟩, ⟨some 10, none, .faddr 1 (.t 3)⟩, ⟨none, none, (.store 2 (.t 10) (.t 9))⟩]) (.seq (.reg [⟨some 11, none, .faddr 3 (.t 1)⟩, ⟨some 12, none, .load false 1 (.t 11)⟩, ⟨some 13, none, .faddr 3 (.t 3)⟩, ⟨none, none, (.store 1 (.t 13) (.t 12))⟩]) (.seq (.reg [⟨some 14, none, .faddr 4 (.t 1)⟩, ⟨some 15, none, .load false 1 (.t 14)⟩, ⟨some 16, none, .call 38 [(.t 15)]⟩, ⟨some 17, none, .faddr 4 (.t 3)⟩, ⟨none, none, (.store 1 (.t 17) (.t 16))⟩]) (.seq (.reg [⟨some 18, none, .load true 5 (.t 3)⟩, ⟨none, none, (.store 5 (.t 2) (.t 18))⟩]) .ret)))))))
theorem k_laws_toFormula : codeOf Tryz.prog 9 = some ⟨19, c_laws_toFormula, [(.cell 2 true 5)]⟩ := by kernel_rfl
theorem m_laws_toFormula : modes 9 = ⟨[], .asis, none, false⟩ := by unfold modes; rfl
def c_laws_toFormulaS : SC := (.seq (.reg [⟨some 2, none, .mv (.c .nil)⟩]) (.seq (.reg [⟨some 5, none, .mv (.t 0)⟩, ⟨some 6, none, .len false (.t 5)⟩, ⟨(some 7), none, (.mkslice 34 5 88 [(.int .i64 0), (.str ⟨#[]⟩), .nil, (.str ⟨#[]⟩), .nil] (.t 6))⟩, ⟨some 3, none, .mv (.t 7)⟩]) (.seq (.seq (.reg [⟨some 4, none, .mv (.c (.int .i64 0))⟩]) (.block 0 (.loop [1, 0, 0, 1, 1, 0, 0, 0, 0, 0, 0, 0, 0, 0, 0, 0, 0, 0, 0, 0, 0, 0, 0] (.seq (.seq (.reg [⟨some 8, none, .mv (.t 4)⟩, ⟨some 9, none, .mv (.t 0)⟩, ⟨some 10, none, .len false (.t 9)⟩, ⟨some 11, none, .bin .lss false (.t 8) (.t 10)⟩]) (.cond (.t 11) .skip (.exit 0))) (.seq (.block 1 (.reg [⟨some 14, none, .mv (.t 3)⟩, ⟨some 15, none, .mv (.t 4)⟩, ⟨some 16, none, .mv (.t 0)⟩, ⟨some 17, none, .mv (.t 4)⟩, ⟨some 18, none, .iaddr 5 (.t 16) (.t 17)⟩, ⟨some 19, none, .load true 5 (.t 18)⟩, ⟨some 20, none, .call 9 [(.t 19)]⟩, ⟨some 21, none, .iaddr 5 (.t 14) (.t 15)⟩, ⟨none, none, (.store 5 (.t 21) (.t 20))⟩])) (.reg [⟨some 12, none, .mv (.t 4)⟩, ⟨some 13, none, .bin .add false (.t 12) (.c (.int .i64 1))⟩, ⟨some 4, none, .mv (.t 13)⟩])))))) (.seq (.reg [⟨some 22, none, .mv (.t 3)⟩, ⟨some 2, none, .mv (.t 22)⟩]) .ret))))
theorem k_laws_toFormulaS : codeOf Tryz.prog 38 = some ⟨23, c_laws_toFormulaS, [(.tmp 2)]⟩ := by kernel_rfl
theorem m_laws_toFormulaS : modes 38 = ⟨[], .asis, none, false⟩ := by unfold modes; rfl
abbrev ToT_Formula (x : Fm) : Prop := x.bulk ≤ 1048576 → E 9 [x.sv] [] = some (x.osv, x.obs)
abbrev ToTS_Formula (xs : List Fm) : Prop := xs.length + Fm.sumB xs ≤ 1048576 → E 38 [.arr (xs.map Fm.d)] [] = some (.ref 0, [.row 34 5 (xs.map Fm.o)])
set_option maxHeartbeats 1000000 in
theorem toTS_Formula_of (xs : List Fm) (h : ∀ x ∈ xs, ToT_Formula x) : ToTS_Formula xs := by
  intro hb
  refine E_walk k_laws_toFormulaS m_laws_toFormulaS (of_decide_eq_true rfl) ?_
  simp (disch := omega) only [c_laws_toFormulaS, go_sem, go_cond, zA, zB, zC, zD, zE, zF, zG, zH, ↓reduceIte, zI, reduceCtorEq, zJ, zK]
  refine go_loop (α := Int) (fun i => ⟨slots 23 0 [(0, .arr (xs.map Fm.d)), (3, .ref 0), (4, .int .i64 i)], [.row 34 5 (fillR Fm.o [.int 0, .str ⟨#[]⟩, .ow [], .str ⟨#[]⟩, .ow []] xs i.toNat)]⟩) (fun i => ∃ k : Nat, i = k ∧ k ≤ xs.length) (fun i => xs.length - i.toNat) 0 ⟨0, rfl, Nat.zero_le _⟩ (by simp (disch := omega) only [go_sem, go_cond, zA, zB, zC, zD, zE, zF, zG, zH, ↓reduceIte, zI, reduceCtorEq, zJ, zK, fillR_zero, Int.toNat_zero]) ?_
  · rintro i ⟨k, rfl, hk⟩
    obtain ⟨i, hi⟩ : ∃ i : Int, i = (k : Int) := ⟨_, rfl⟩
    rw [← hi]
    have hn : i.toNat = k := by omega
    have hn1 : (i + 1).toNat = k + 1 := by omega
    rcases Nat.lt_or_ge k xs.length with hlt | hge
    · have hg := get_at Fm.d hlt
      rw [Fm.d_eq] at hg
      have hz := fillR_get Fm.o [.int 0, .str ⟨#[]⟩, .ow [], .str ⟨#[]⟩, .ow []] hlt
      have hle := Fm.bulk_le xs k hlt
      have hc := h xs[k] (List.getElem_mem hlt) (by omega)
      have hs := fillR_set Fm.o [.int 0, .str ⟨#[]⟩, .ow [], .str ⟨#[]⟩, .ow []] hlt
      rw [Fm.o_eq] at hs
      simp (disch := omega) only [go_sem, go_cond, zA, zB, zC, zD, zE, zF, zG, zH, ↓reduceIte, zI, reduceCtorEq, zJ, zK, hn, hg, hc, hz, fillR_len, m_laws_toFormula, Fm.osv, Fm.obs]
      refine ⟨i + 1, ⟨k + 1, by omega, hlt⟩, by omega, ?_⟩
      simp (disch := omega) only [go_sem, go_cond, zA, zB, zC, zD, zE, zF, zG, zH, ↓reduceIte, zI, reduceCtorEq, zJ, zK, hn1, hs]
    · obtain rfl : k = xs.length := by omega
      simp (disch := omega) only [go_sem, go_cond, zA, zB, zC, zD, zE, zF, zG, zH, ↓reduceIte, zI, reduceCtorEq, zJ, zK, hn, fillR_end]
set_option maxHeartbeats 1000000 in
theorem toT_Formula_of (x : Fm) (h_atom : ToT_Term x.atom) (h_parts : ToTS_Formula x.parts) : ToT_Formula x := by
  intro hb
  have qb := Fm.bulk_eq x
  replace h_atom := h_atom (by omega)
  replace h_parts := h_parts (by omega)
  refine E_walk k_laws_toFormula m_laws_toFormula (of_decide_eq_true rfl) ?_
  simp (disch := omega) only [c_laws_toFormula, go_sem, go_cond, zA, zB, zC, zD, zE, zF, zG, zH, ↓reduceIte, zI, reduceCtorEq, zJ, zK, h_atom, m_laws_toTerm, h_parts, m_laws_toFormulaS]
theorem toT_Formula (x : Fm) : ToT_Formula x := toT_Formula_of x (toT_Term x.atom) (toTS_Formula_of x.parts fun y hy => toT_Formula y)
termination_by SizeOf.sizeOf x
decreasing_by exact Fm.lt_of_mem hy
def c_laws_toAssigned : SC := (.seq (.reg [⟨some 1, none, .boxv 90 2 (.t 0)⟩, ⟨(some 2), none, (.alloc 94 [(.str ⟨#[]⟩), (.int .i64 0)])⟩]) (.seq (.reg [⟨(some 3), none, (.alloc 94 [(.str ⟨#[]⟩), (.int .i64 0)])⟩]) (.seq (.reg [⟨some 4, none, .faddr 0 (.t 1)⟩, ⟨some 5, none, .load false 1 (.t 4)⟩, ⟨some 6, none, .faddr 0 (.t 3)⟩, ⟨none, none, (.store 1 (.t 6) (.t 5))⟩]) (.seq (.reg [⟨some 7, none, .faddr 1 (.t 1)⟩, ⟨some 8, none, .load false 1 (.t 7)⟩, ⟨some 9, none, .faddr 1 (.t 3)⟩, ⟨none, none, (.store 1 (.t 9) (.t 8))⟩]) (.seq (.reg [⟨some 10, none, .load true 2 (.t 3)⟩, ⟨none, none, (.store 2 (.t 2) (.t 10))⟩]) .ret)))))
theorem k_laws_toAssigned : codeOf Tryz.prog 54 = some ⟨11, c_laws_toAssigned, [(.cell 2 true 2)]⟩ := by kernel_rfl
theorem m_laws_toAssigned : modes 54 = ⟨[], .asis, none, false⟩ := by unfold modes; rfl
def c_laws_toAssignedS : SC := (.seq (.reg [⟨some 2, none, .mv (.c .nil)⟩]) (.seq (.reg [⟨some 5, none, .mv (.t 0)⟩, ⟨some 6, none, .len false (.t 5)⟩, ⟨(some 7), none, (.mkslice 94 2 24 [(.str ⟨#[]⟩), (.int .i64 0)] (.t 6))⟩, ⟨some 3, none, .mv (.t 7)⟩]) (.seq (.seq (.reg [⟨some 4, none, .mv (.c (.int .i64 0))⟩]) (.block 0 (.loop [1, 0, 0, 1, 1, 0, 0, 0, 0, 0, 0, 0, 0, 0, 0, 0, 0, 0, 0, 0, 0, 0, 0] (.seq (.seq (.reg [⟨some 8, none, .mv (.t 4)⟩, ⟨some 9, none, .mv (.t 0)⟩, ⟨some 10, none, .len false (.t 9)⟩, ⟨some 11, none, .bin .lss false (.t 8) (.t 10)⟩]) (.cond (.t 11) .skip (.exit 0))) (.seq (.block 1 (.reg [⟨some 14, none, .mv (.t 3)⟩, ⟨some 15, none, .mv (.t 4)⟩, ⟨some 16, none, .mv (.t 0)⟩, ⟨some 17, none, .mv (.t 4)⟩, ⟨some 18, none, .iaddr 2 (.t 16) (.t 17)⟩, ⟨some 19, none, .load true 2 (.t 18)⟩, ⟨some 20, none, .call 54 [(.t 19)]⟩, ⟨some 21, none, .iaddr 2 (.t 14) (.t 15)⟩, ⟨none, none, (.store 2 (.t 21) (.t 20))⟩])) (.reg [⟨some 12, none, .mv (.t 4)⟩, ⟨some 13, none, .bin .add false (.t 12) (.c (.int .i64 1))⟩, ⟨some 4, none, .mv (.t 13)⟩])))))) (.seq (.reg [⟨some 22, none, .mv (.t 3)⟩, ⟨some 2, none, .mv (.t 22)⟩]) .ret))))
theorem k_laws_toAssignedS : codeOf Tryz.prog 18 = some ⟨23, c_laws_toAssignedS, [(.tmp 2)]⟩ := by kernel_rfl
theorem m_laws_toAssignedS : modes 18 = ⟨[], .asis, none, false⟩ := by unfold modes; rfl
abbrev ToT_Assigned (x : Ag) : Prop := x.bulk ≤ 1048576 → E 54 [x.sv] [] = some (x.osv, x.obs)
abbrev ToTS_Assigned (xs : List Ag) : Prop := xs.length + Ag.sumB xs ≤ 1048576 → E 18 [.arr (xs.map Ag.d)] [] = some (.ref 0, [.row 94 2 (xs.map Ag.o)])
set_option maxHeartbeats 1000000 in
theorem toTS_Assigned_of (xs : List Ag) (h : ∀ x ∈ xs, ToT_Assigned x) : ToTS_Assigned xs := by
  intro hb
  refine E_walk k_laws_toAssignedS m_laws_toAssignedS (of_decide_eq_true rfl) ?_
  simp (disch := omega) only [c_laws_toAssignedS, go_sem, go_cond, zA, zB, zC, zD, zE, zF, zG, zH, ↓reduceIte, zI, reduceCtorEq, zJ, zK]
  refine go_loop (α := Int) (fun i => ⟨slots 23 0 [(0, .arr (xs.map Ag.d)), (3, .ref 0), (4, .int .i64 i)], [.row 94 2 (fillR Ag.o [.str ⟨#[]⟩, .int 0] xs i.toNat)]⟩) (fun i => ∃ k : Nat, i = k ∧ k ≤ xs.length) (fun i => xs.length - i.toNat) 0 ⟨0, rfl, Nat.zero_le _⟩ (by simp (disch := omega) only [go_sem, go_cond, zA, zB, zC, zD, zE, zF, zG, zH, ↓reduceIte, zI, reduceCtorEq, zJ, zK, fillR_zero, Int.toNat_zero]) ?_
  · rintro i ⟨k, rfl, hk⟩
    obtain ⟨i, hi⟩ : ∃ i : Int, i = (k : Int) := ⟨_, rfl⟩
    rw [← hi]
    have hn : i.toNat = k := by omega
    have hn1 : (i + 1).toNat = k + 1 := by omega
    rcases Nat.lt_or_ge k xs.length with hlt | hge
    · have hg := get_at Ag.d hlt
      rw [Ag.d_eq] at hg
      have hz := fillR_get Ag.o [.str ⟨#[]⟩, .int 0] hlt
      have hle := Ag.bulk_le xs k hlt
      have hc := h xs[k] (List.getElem_mem hlt) (by omega)
      have hs := fillR_set Ag.o [.str ⟨#[]⟩, .int 0] hlt
      rw [Ag.o_eq] at hs
      simp (disch := omega) only [go_sem, go_cond, zA, zB, zC, zD, zE, zF, zG, zH, ↓reduceIte, zI, reduceCtorEq, zJ, zK, hn, hg, hc, hz, fillR_len, m_laws_toAssigned, Ag.osv, Ag.obs]
      refine ⟨i + 1, ⟨k + 1, by omega, hlt⟩, by omega, ?_⟩
      simp (disch := omega) only [go_sem, go_cond, zA, zB, zC, zD, zE, zF, zG, zH, ↓reduceIte, zI, reduceCtorEq, zJ, zK, hn1, hs]
    · obtain rfl : k = xs.length := by omega
      simp (disch := omega) only [go_sem, go_cond, zA, zB, zC, zD, zE, zF, zG, zH, ↓reduceIte, zI, reduceCtorEq, zJ, zK, hn, fillR_end]
set_option maxHeartbeats 1000000 in
theorem toT_Assigned_of (x : Ag) : ToT_Assigned x := by
  intro hb
  have qb := Ag.bulk_eq x
  refine E_walk k_laws_toAssigned m_laws_toAssigned (of_decide_eq_true rfl) ?_
  simp (disch := omega) only [c_laws_toAssigned, go_sem, go_cond, zA, zB, zC, zD, zE, zF, zG, zH, ↓reduceIte, zI, reduceCtorEq, zJ, zK]
theorem toT_Assigned (x : Ag) : ToT_Assigned x := toT_Assigned_of x
theorem toTS_Assigned (xs : List Ag) : ToTS_Assigned xs := toTS_Assigned_of xs fun x _ => toT_Assigned x
def c_laws_toTable : SC := (.seq (.reg [⟨some 1, none, .boxv 131 4 (.t 0)⟩, ⟨(some 2), none, (.alloc 134 [(.str ⟨#[]⟩), (.int .i64 0), (.bool false), .nil])⟩]) (.seq (.reg [⟨(some 3), none, (.alloc 134 [(.str ⟨#[]⟩), (.int .i64 0), (.bool false), .nil])⟩]) (.seq (.reg [⟨some 4, none, .faddr 0 (.t 1)⟩, ⟨some 5, none, .load false 1 (.t 4)⟩, ⟨some 6, none, .faddr 0 (.t 3)⟩, ⟨none, none, (.store 1 (.t 6) (.t 5))⟩]) (.seq (.reg [⟨some 7, none, .faddr 1 (.t 1)⟩, ⟨some 8, none, .load false 1 (.t 7)⟩, ⟨some 9, none, .faddr 1 (.t 3)⟩, ⟨none, none, (.store 1 (.t 9) (.t 8))⟩]) (.seq (.reg [⟨some 10, none, .faddr 2 (.t 1)⟩, ⟨some 11, none, .load false 1 (.t 10)⟩, ⟨some 12, none, .faddr 2 (.t 3)⟩, ⟨none, none, (.store 1 (.t 12) (.t 11))⟩]) (.seq (.reg [⟨some 13, none, .faddr 3 (.t 1)⟩, ⟨some 14, none, .load false 1 (.t 13)⟩, ⟨some 15, none, .call 141 [(.t 14)]⟩, ⟨some 16, none, .faddr 3 (.t 3)⟩, ⟨none, none, (.store 1 (.t 16) (.t 15))⟩]) (.seq (.reg [⟨some 17, none, .load true 4 (.t 3)⟩, ⟨none, none, (.store 4 (.t 2) (.t 17))⟩]) .ret)))))))
theorem k_laws_toTable : codeOf Tryz.prog 95 = some ⟨18, c_laws_toTable, [(.cell 2 true 4)]⟩ := by kernel_rfl
theorem m_laws_toTable : modes 95 = ⟨[], .asis, none, false⟩ := by unfold modes; rfl
def c_laws_toTableS : SC := (.seq (.reg [⟨some 2, none, .mv (.c .nil)⟩]) (.seq (.reg [⟨some 5, none, .mv (.t 0)⟩, ⟨some 6, none, .len false (.t 5)⟩, ⟨(some 7), none, (.mkslice 134 4 56 [(.str ⟨#[]⟩), (.int .i64 0), (.bool false), .nil] (.t 6))⟩, ⟨some 3, none, .mv (.t 7)⟩]) (.seq (.seq (.reg [⟨some 4, none, .mv (.c (.int .i64 0))⟩]) (.block 0 (.loop [1, 0, 0, 1, 1, 0, 0, 0, 0, 0, 0, 0, 0, 0, 0, 0, 0, 0, 0, 0, 0, 0, 0] (.seq (.seq (.reg [⟨some 8, none, .mv (.t 4)⟩, ⟨some 9, none, .mv (.t 0)⟩, ⟨some 10, none, .len false (.t 9)⟩, ⟨some 11, none, .bin .lss false (.t 8) (.t 10)⟩]) (.cond (.t 11) .skip (.exit 0))) (.seq (.block 1 (.reg [⟨some 14, none, .mv (.t 3)⟩, ⟨some 15, none, .mv (.t 4)⟩, ⟨some 16, none, .mv (.t 0)⟩, ⟨some 17, none, .mv (.t 4)⟩, ⟨some 18, none, .iaddr 4 (.t 16) (.t 17)⟩, ⟨some 19, none, .load true 4 (.t 18)⟩, ⟨some 20, none, .call 95 [(.t 19)]⟩, ⟨some 21, none, .iaddr 4 (.t 14) (.t 15)⟩, ⟨none, none, (.store 4 (.t 21) (.t 20))⟩])) (.reg [⟨some 12, none, .mv (.t 4)⟩, ⟨some 13, none, .bin .add false (.t 12) (.c (.int .i64 1))⟩, ⟨some 4, none, .mv (.t 13)⟩])))))) (.seq (.reg [⟨some 22, none, .mv (.t 3)⟩, ⟨some 2, none, .mv (.t 22)⟩]) .ret))))
theorem k_laws_toTableS : codeOf Tryz.prog 53 = some ⟨23, c_laws_toTableS, [(.tmp 2)]⟩ := by kernel_rfl
theorem m_laws_toTableS : modes 53 = ⟨[], .asis, none, false⟩ := by unfold modes; rfl
abbrev ToT_Table (x : Tl) : Prop := x.bulk ≤ 1048576 → E 95 [x.sv] [] = some (x.osv, x.obs)
abbrev ToTS_Table (xs : List Tl) : Prop := xs.length + Tl.sumB xs ≤ 1048576 → E 53 [.arr (xs.map Tl.d)] [] = some (.ref 0, [.row 134 4 (xs.map Tl.o)])
set_option maxHeartbeats 1000000 in
theorem toTS_Table_of (xs : List Tl) (h : ∀ x ∈ xs, ToT_Table x) : ToTS_Table xs := by
  intro hb
  refine E_walk k_laws_toTableS m_laws_toTableS (of_decide_eq_true rfl) ?_
  simp (disch := omega) only [c_laws_toTableS, go_sem, go_cond, zA, zB, zC, zD, zE, zF, zG, zH, ↓reduceIte, zI, reduceCtorEq, zJ, zK]
  refine go_loop (α := Int) (fun i => ⟨slots 23 0 [(0, .arr (xs.map Tl.d)), (3, .ref 0), (4, .int .i64 i)], [.row 134 4 (fillR Tl.o [.str ⟨#[]⟩, .int 0, .bool false, .ow []] xs i.toNat)]⟩) (fun i => ∃ k : Nat, i = k ∧ k ≤ xs.length) (fun i => xs.length - i.toNat) 0 ⟨0, rfl, Nat.zero_le _⟩ (by simp (disch := omega) only [go_sem, go_cond, zA, zB, zC, zD, zE, zF, zG, zH, ↓reduceIte, zI, reduceCtorEq, zJ, zK, fillR_zero, Int.toNat_zero]) ?_
  · rintro i ⟨k, rfl, hk⟩
    obtain ⟨i, hi⟩ : ∃ i : Int, i = (k : Int) := ⟨_, rfl⟩
    rw [← hi]
    have hn : i.toNat = k := by omega
    have hn1 : (i + 1).toNat = k + 1 := by omega
    rcases Nat.lt_or_ge k xs.length with hlt | hge
    · have hg := get_at Tl.d hlt
      rw [Tl.d_eq] at hg
      have hz := fillR_get Tl.o [.str ⟨#[]⟩, .int 0, .bool false, .ow []] hlt
      have hle := Tl.bulk_le xs k hlt
      have hc := h xs[k] (List.getElem_mem hlt) (by omega)
      have hs := fillR_set Tl.o [.str ⟨#[]⟩, .int 0, .bool false, .ow []] hlt
      rw [Tl.o_eq] at hs
      simp (disch := omega) only [go_sem, go_cond, zA, zB, zC, zD, zE, zF, zG, zH, ↓reduceIte, zI, reduceCtorEq, zJ, zK, hn, hg, hc, hz, fillR_len, m_laws_toTable, Tl.osv, Tl.obs]
      refine ⟨i + 1, ⟨k + 1, by omega, hlt⟩, by omega, ?_⟩
      simp (disch := omega) only [go_sem, go_cond, zA, zB, zC, zD, zE, zF, zG, zH, ↓reduceIte, zI, reduceCtorEq, zJ, zK, hn1, hs]
    · obtain rfl : k = xs.length := by omega
      simp (disch := omega) only [go_sem, go_cond, zA, zB, zC, zD, zE, zF, zG, zH, ↓reduceIte, zI, reduceCtorEq, zJ, zK, hn, fillR_end]
set_option maxHeartbeats 1000000 in
theorem toT_Table_of (x : Tl) (h_vals : ToTS_int x.vals) : ToT_Table x := by
  intro hb
  have qb := Tl.bulk_eq x
  replace h_vals := h_vals (by omega)
  refine E_walk k_laws_toTable m_laws_toTable (of_decide_eq_true rfl) ?_
  simp (disch := omega) only [c_laws_toTable, go_sem, go_cond, zA, zB, zC, zD, zE, zF, zG, zH, ↓reduceIte, zI, reduceCtorEq, zJ, zK, h_vals, m_laws_toIntS]
theorem toT_Table (x : Tl) : ToT_Table x := toT_Table_of x (toTS_int x.vals)
def c_laws_toInterpretation : SC := (.seq (.reg [⟨some 1, none, .boxv 43 2 (.t 0)⟩, ⟨some 2, none, .alloc 51 [(.int .i64 0), .nil]⟩]) (.seq (.reg [⟨some 3, none, .alloc 51 [(.int .i64 0), .nil]⟩]) (.seq (.reg [⟨some 4, none, .faddr 0 (.t 1)⟩, ⟨some 5, none, .load false 1 (.t 4)⟩, ⟨some 6, none, .faddr 0 (.t 3)⟩, ⟨none, none, (.store 1 (.t 6) (.t 5))⟩]) (.seq (.reg [⟨some 7, none, .faddr 1 (.t 1)⟩, ⟨some 8, none, .load false 1 (.t 7)⟩, ⟨some 9, none, .call 53 [(.t 8)]⟩, ⟨some 10, none, .faddr 1 (.t 3)⟩, ⟨none, none, (.store 1 (.t 10) (.t 9))⟩]) (.seq (.reg [⟨some 11, none, .load true 2 (.t 3)⟩, ⟨none, none, (.store 2 (.t 2) (.t 11))⟩]) .ret)))))
theorem k_laws_toInterpretation : codeOf Tryz.prog 17 = some ⟨12, c_laws_toInterpretation, [(.cell 2 true 2)]⟩ := by kernel_rfl
theorem m_laws_toInterpretation : modes 17 = ⟨[], .asis, none, false⟩ := by unfold modes; rfl
abbrev ToT_Interpretation (x : Ip) : Prop := x.bulk ≤ 1048576 → E 17 [x.sv] [] = some (x.osv, x.obs)
set_option maxHeartbeats 1000000 in
theorem toT_Interpretation_of (x : Ip) (h_tables : ToTS_Table x.tables) : ToT_Interpretation x := by
  intro hb
  have qb := Ip.bulk_eq x
  replace h_tables := h_tables (by omega)
  refine E_walk k_laws_toInterpretation m_laws_toInterpretation (of_decide_eq_true rfl) ?_
  simp (disch := omega) only [c_laws_toInterpretation, go_sem, go_cond, zA, zB, zC, zD, zE, zF, zG, zH, ↓reduceIte, zI, reduceCtorEq, zJ, zK, h_tables, m_laws_toTableS]
theorem toT_Interpretation (x : Ip) : ToT_Interpretation x := toT_Interpretation_of x (toTS_Table_of x.tables fun y hy => toT_Table y)
def c_laws_eqIntS : SC := (.seq (.reg [⟨some 4, none, .mv (.c (.bool false))⟩]) (.seq (.seq (.reg [⟨some 6, none, .mv (.t 0)⟩, ⟨some 7, none, .len false (.t 6)⟩, ⟨some 8, none, .mv (.t 1)⟩, ⟨some 9, none, .len false (.t 8)⟩, ⟨some 10, none, .bin .neq false (.t 7) (.t 9)⟩]) (.cond (.t 10) (.seq (.reg [⟨some 4, none, .mv (.c (.bool false))⟩]) .ret) .skip)) (.seq (.seq (.reg [⟨some 5, none, .mv (.c (.int .i64 0))⟩]) (.block 0 (.loop [1, 1, 0, 0, 0, 1, 0, 0, 0, 0, 0, 0, 0, 0, 0, 0, 0, 0, 0, 0, 0, 0, 0, 0, 0, 0] (.seq (.seq (.reg [⟨some 11, none, .mv (.t 5)⟩, ⟨some 12, none, .mv (.t 0)⟩, ⟨some 13, none, .len false (.t 12)⟩, ⟨some 14, none, .bin .lss false (.t 11) (.t 13)⟩]) (.cond (.t 14) .skip (.exit 0))) (.seq (.block 1 (.seq (.dreg [[], [], [0, 1], [2, 0, 1], [], [], [4, 5], [6, 4, 5], [3, 2, 0, 1, 7, 6, 4, 5]] [⟨some 17, none, .mv (.t 0)⟩, ⟨some 18, none, .mv (.t 5)⟩, ⟨some 19, none, .iaddr 1 (.t 17) (.t 18)⟩, ⟨some 20, none, .load false 1 (.t 19)⟩, ⟨some 21, none, .mv (.t 1)⟩, ⟨some 22, none, .mv (.t 5)⟩, ⟨some 23, none, .iaddr 1 (.t 21) (.t 22)⟩, ⟨some 24, none, .load false 1 (.t 23)⟩, ⟨some 25, none, .bin .neq false (.t 20) (.t 24)⟩]) (.cond (.t 25) (.seq (.reg [⟨some 4, none, .mv (.c (.bool false))⟩]) .ret) .skip))) (.reg [⟨some 15, none, .mv (.t 5)⟩, ⟨some 16, none, .bin .add false (.t 15) (.c (.int .i64 1))⟩, ⟨some 5, none, .mv (.t 16)⟩])))))) (.seq (.reg [⟨some 4, none, .mv (.c (.bool true))⟩]) .ret))))
theorem k_laws_eqIntS : codeOf Tryz.prog 154 = some ⟨26, c_laws_eqIntS, [(.tmp 4)]⟩ := by kernel_rfl
theorem m_laws_eqIntS : modes 154 = ⟨[], .asis, none, false⟩ := by unfold modes; rfl
abbrev EqTS_int (xs : List Int) : Prop := xs.length ≤ 1048576 → E 154 [.arr (xs.map (fun s => [D.int s])), .arr (xs.map (fun s => [D.int s]))] [] = some (.bool true, [])
set_option maxHeartbeats 1000000 in
theorem eqTS_int (xs : List Int) : EqTS_int xs := by
  intro hb
  refine E_walk k_laws_eqIntS m_laws_eqIntS (of_decide_eq_true rfl) ?_
  simp (disch := omega) only [c_laws_eqIntS, go_sem, go_cond, zA, zB, zC, zD, zE, zF, zG, zH, ↓reduceIte, zI, reduceCtorEq, zJ, zK]
  refine go_loop (α := Int) (fun i => ⟨slots 26 0 [(0, .arr (xs.map (fun s => [D.int s]))), (1, .arr (xs.map (fun s => [D.int s]))), (5, .int .i64 i)], []⟩) (fun i => ∃ k : Nat, i = k ∧ k ≤ xs.length) (fun i => xs.length - i.toNat) 0 ⟨0, rfl, Nat.zero_le _⟩ (by simp (disch := omega) only [go_sem, go_cond, zA, zB, zC, zD, zE, zF, zG, zH, ↓reduceIte, zI, reduceCtorEq, zJ, zK]) ?_
  · rintro i ⟨k, rfl, hk⟩
    obtain ⟨i, hi⟩ : ∃ i : Int, i = (k : Int) := ⟨_, rfl⟩
    rw [← hi]
    have hn : i.toNat = k := by omega
    rcases Nat.lt_or_ge k xs.length with hlt | hge
    · have hg := get_at (fun s => [D.int s]) hlt
      simp (disch := omega) only [go_sem, go_cond, zA, zB, zC, zD, zE, zF, zG, zH, ↓reduceIte, zI, reduceCtorEq, zJ, zK, hn, hg, dec_refl]
      refine ⟨i + 1, ⟨k + 1, by omega, hlt⟩, by omega, ?_⟩
      trivial
    · obtain rfl : k = xs.length := by omega
      simp (disch := omega) only [go_sem, go_cond, zA, zB, zC, zD, zE, zF, zG, zH, ↓reduceIte, zI, reduceCtorEq, zJ, zK, hn]
def c_laws_eqTerm : SC := (.seq (.reg [⟨some 2, none, .boxv 31 2 (.t 0)⟩, ⟨some 3, none, .boxv 31 2 (.t 1)⟩, ⟨some 4, none, .mv (.c (.bool false))⟩]) (.seq (.seq (.reg [⟨some 5, none, .faddr 0 (.t 2)⟩, ⟨some 6, none, .load false 1 (.t 5)⟩, ⟨some 7, none, .faddr 0 (.t 3)⟩, ⟨some 8, none, .load false 1 (.t 7)⟩, ⟨some 9, none, .bin .neq false (.t 6) (.t 8)⟩]) (.cond (.t 9) (.seq (.reg [⟨some 4, none, .mv (.c (.bool false))⟩]) .ret) .skip)) (.seq (.seq (.reg [⟨some 10, none, .faddr 1 (.t 2)⟩, ⟨some 11, none, .load false 1 (.t 10)⟩, ⟨some 12, none, .faddr 1 (.t 3)⟩, ⟨some 13, none, .load false 1 (.t 12)⟩, ⟨some 14, none, .call 84 [(.t 11), (.t 13)]⟩, ⟨some 15, none, .un .not (.t 14)⟩]) (.cond (.t 15) (.seq (.reg [⟨some 4, none, .mv (.c (.bool false))⟩]) .ret) .skip)) (.seq (.reg [⟨some 4, none, .mv (.c (.bool true))⟩]) .ret))))
theorem k_laws_eqTerm : codeOf Tryz.prog 42 = some ⟨16, c_laws_eqTerm, [(.tmp 4)]⟩ := by kernel_rfl
theorem m_laws_eqTerm : modes 42 = ⟨[], .asis, none, false⟩ := by unfold modes; rfl
def c_laws_eqTermS : SC := (.seq (.reg [⟨some 4, none, .mv (.c (.bool false))⟩]) (.seq (.seq (.reg [⟨some 6, none, .mv (.t 0)⟩, ⟨some 7, none, .len false (.t 6)⟩, ⟨some 8, none, .mv (.t 1)⟩, ⟨some 9, none, .len false (.t 8)⟩, ⟨some 10, none, .bin .neq false (.t 7) (.t 9)⟩]) (.cond (.t 10) (.seq (.reg [⟨some 4, none, .mv (.c (.bool false))⟩]) .ret) .skip)) (.seq (.seq (.reg [⟨some 5, none, .mv (.c (.int .i64 0))⟩]) (.block 0 (.loop [1, 1, 0, 0, 0, 1, 0, 0, 0, 0, 0, 0, 0, 0, 0, 0, 0, 0, 0, 0, 0, 0, 0, 0, 0, 0, 0] (.seq (.seq (.reg [⟨some 11, none, .mv (.t 5)⟩, ⟨some 12, none, .mv (.t 0)⟩, ⟨some 13, none, .len false (.t 12)⟩, ⟨some 14, none, .bin .lss false (.t 11) (.t 13)⟩]) (.cond (.t 14) .skip (.exit 0))) (.seq (.block 1 (.seq (.dreg [[], [], [0, 1], [2, 0, 1], [], [], [4, 5], [6, 4, 5], [3, 2, 0, 1, 7, 6, 4, 5], [8, 3, 2, 0, 1, 7, 6, 4, 5]] [⟨some 17, none, .mv (.t 0)⟩, ⟨some 18, none, .mv (.t 5)⟩, ⟨some 19, none, .iaddr 2 (.t 17) (.t 18)⟩, ⟨some 20, none, .load true 2 (.t 19)⟩, ⟨some 21, none, .mv (.t 1)⟩, ⟨some 22, none, .mv (.t 5)⟩, ⟨some 23, none, .iaddr 2 (.t 21) (.t 22)⟩, ⟨some 24, none, .load true 2 (.t 23)⟩, ⟨some 25, none, .call 42 [(.t 20), (.t 24)]⟩, ⟨some 26, none, .un .not (.t 25)⟩]) (.cond (.t 26) (.seq (.reg [⟨some 4, none, .mv (.c (.bool false))⟩]) .ret) .skip))) (.reg [⟨some 15, none, .mv (.t 5)⟩, ⟨some 16, none, .bin .add false (.t 15) (.c (.int .i64 1))⟩, ⟨some 5, none, .mv (.t 16)⟩])))))) (.seq (.reg [⟨some 4, none, .mv (.c (.bool true))⟩]) .ret))))
theorem k_laws_eqTermS : codeOf Tryz.prog 84 = some ⟨27, c_laws_eqTermS, [(.tmp 4)]⟩ := by kernel_rfl
theorem m_laws_eqTermS : modes 84 = ⟨[], .asis, none, false⟩ := by unfold modes; rfl
abbrev EqT_Term (x : Tm) : Prop := x.bulk ≤ 1048576 → E 42 [x.sv, x.sv] [] = some (.bool true, [])
abbrev EqTS_Term (xs : List Tm) : Prop := xs.length + Tm.sumB xs ≤ 1048576 → E 84 [.arr (xs.map Tm.d), .arr (xs.map Tm.d)] [] = some (.bool true, [])
set_option maxHeartbeats 1000000 in
theorem eqTS_Term_of (xs : List Tm) (h : ∀ x ∈ xs, EqT_Term x) : EqTS_Term xs := by
  intro hb
  refine E_walk k_laws_eqTermS m_laws_eqTermS (of_decide_eq_true rfl) ?_
  simp (disch := omega) only [c_laws_eqTermS, go_sem, go_cond, zA, zB, zC, zD, zE, zF, zG, zH, ↓reduceIte, zI, reduceCtorEq, zJ, zK]
  refine go_loop (α := Int) (fun i => ⟨slots 27 0 [(0, .arr (xs.map Tm.d)), (1, .arr (xs.map Tm.d)), (5, .int .i64 i)], []⟩) (fun i => ∃ k : Nat, i = k ∧ k ≤ xs.length) (fun i => xs.length - i.toNat) 0 ⟨0, rfl, Nat.zero_le _⟩ (by simp (disch := omega) only [go_sem, go_cond, zA, zB, zC, zD, zE, zF, zG, zH, ↓reduceIte, zI, reduceCtorEq, zJ, zK]) ?_
  · rintro i ⟨k, rfl, hk⟩
    obtain ⟨i, hi⟩ : ∃ i : Int, i = (k : Int) := ⟨_, rfl⟩
    rw [← hi]
    have hn : i.toNat = k := by omega
    rcases Nat.lt_or_ge k xs.length with hlt | hge
    · have hg := get_at Tm.d hlt
      rw [Tm.d_eq] at hg
      have hle := Tm.bulk_le xs k hlt
      have hc := h xs[k] (List.getElem_mem hlt) (by omega)
      simp (disch := omega) only [go_sem, go_cond, zA, zB, zC, zD, zE, zF, zG, zH, ↓reduceIte, zI, reduceCtorEq, zJ, zK, hn, hg, hc, m_laws_eqTerm]
      refine ⟨i + 1, ⟨k + 1, by omega, hlt⟩, by omega, ?_⟩
      trivial
    · obtain rfl : k = xs.length := by omega
      simp (disch := omega) only [go_sem, go_cond, zA, zB, zC, zD, zE, zF, zG, zH, ↓reduceIte, zI, reduceCtorEq, zJ, zK, hn]
set_option maxHeartbeats 1000000 in
theorem eqT_Term_of (x : Tm) (h_args : EqTS_Term x.args) : EqT_Term x := by
  intro hb
  have qb := Tm.bulk_eq x
  replace h_args := h_args (by omega)
  refine E_walk k_laws_eqTerm m_laws_eqTerm (of_decide_eq_true rfl) ?_
  simp (disch := omega) only [c_laws_eqTerm, go_sem, go_cond, zA, zB, zC, zD, zE, zF, zG, zH, ↓reduceIte, zI, reduceCtorEq, zJ, zK, h_args, m_laws_eqTermS, dec_refl]
theorem eqT_Term (x : Tm) : EqT_Term x := eqT_Term_of x (eqTS_Term_of x.args fun y hy => eqT_Term y)
termination_by SizeOf.sizeOf x
decreasing_by exact Tm.lt_of_mem hy
def c_laws_eqFormula : SC := (.seq (.reg [⟨some 2, none, .boxv 34 5 (.t 0)⟩, ⟨some 3, none, .boxv 34 5 (.t 1)⟩, ⟨some 4, none, .mv (.c (.bool false))⟩]) (.seq (.seq (.reg [⟨some 5, none, .faddr 0 (.t 2)⟩, ⟨some 6, none, .load false 1 (.t 5)⟩, ⟨some 7, none, .faddr 0 (.t 3)⟩, ⟨some 8, none, .load false 1 (.t 7)⟩, ⟨some 9, none, .bin .neq false (.t 6) (.t 8)⟩]) (.cond (.t 9) (.seq (.reg [⟨some 4, none, .mv (.c (.bool false))⟩]) .ret) .skip)) (.seq (.seq (.reg [⟨some 10, none, .faddr 1 (.t 2)⟩, ⟨some 11, none, .load true 2 (.t 10)⟩, ⟨some 12, none, .faddr 1 (.t 3)⟩, ⟨some 13, none, .load true 2 (.t 12)⟩, ⟨some 14, none, .call 42 [(.t 11), (.t 13)]⟩, ⟨some 15, none, .un .not (.t 14)⟩]) (.cond (.t 15) (.seq (.reg [⟨some 4, none, .mv (.c (.bool false))⟩]) .ret) .skip)) (.seq (.seq (.reg [⟨some 16, none, .faddr 3 (.t 2)⟩, ⟨some 17, none, .load false 1 (.t 16)⟩, ⟨some 18, none, .faddr 3 (.t 3)⟩, ⟨some 19, none, .load false 1 (.t 18)⟩, ⟨some 20, none, .bin .neq false (.t 17) (.t 19)⟩]) (.cond (.t 20) (.seq (.reg [⟨some 4, none, .mv (.c (.bool false))⟩]) .ret) .skip)) (.seq (.seq (.reg [⟨some 21, none, .faddr 4 (.t 2)⟩, ⟨some 22, none, .load false 1 (.t 21)⟩, ⟨some 23, none, .faddr 4 (.t 3)⟩, ⟨some 24, none, .load false 1 (.t 23)⟩, ⟨some 25, none, .call 43 [(.t 22), (.t 24)]⟩, ⟨some 26, none, .un .not (.t 25)⟩]) (.cond (.t 26) (.seq (.reg [⟨some 4, none, .mv (.c (.bool false))⟩]) .ret) .skip)) (.seq (.reg [⟨some 4, none, .mv (.c (.bool true))⟩]) .ret))))))
theorem k_laws_eqFormula : codeOf Tryz.prog 11 = some ⟨27, c_laws_eqFormula, [(.tmp 4)]⟩ := by kernel_rfl
theorem m_laws_eqFormula : modes 11 = ⟨[], .asis, none, false⟩ := by unfold modes; rfl
def c_laws_eqFormulaS : SC := (.seq (.reg [⟨some 4, none, .mv (.c (.bool false))⟩]) (.seq (.seq (.reg [⟨some 6, none, .mv (.t 0)⟩, ⟨some 7, none, .len false (.t 6)⟩, ⟨some 8, none, .mv (.t 1)⟩, ⟨some 9, none, .len false (.t 8)⟩, ⟨some 10, none, .bin .neq false (.t 7) (.t 9)⟩]) (.cond (.t 10) (.seq (.reg [⟨some 4, none, .mv (.c (.bool false))⟩]) .ret) .skip)) (.seq (.seq (.reg [⟨some 5, none, .mv (.c (.int .i64 0))⟩]) (.block 0 (.loop [1, 1, 0, 0, 0, 1, 0, 0, 0, 0, 0, 0, 0, 0, 0, 0, 0, 0, 0, 0, 0, 0, 0, 0, 0, 0, 0] (.seq (.seq (.reg [⟨some 11, none, .mv (.t 5)⟩, ⟨some 12, none, .mv (.t 0)⟩, ⟨some 13, none, .len false (.t 12)⟩, ⟨some 14, none, .bin .lss false (.t 11) (.t 13)⟩]) (.cond (.t 14) .skip (.exit 0))) (.seq (.block 1 (.seq (.dreg [[], [], [0, 1], [2, 0, 1], [], [], [4, 5], [6, 4, 5], [3, 2, 0, 1, 7, 6, 4, 5], [8, 3, 2, 0, 1, 7, 6, 4, 5]] [⟨some 17, none, .mv (.t 0)⟩, ⟨some 18, none, .mv (.t 5)⟩, ⟨some 19, none, .iaddr 5 (.t 17) (.t 18)⟩, ⟨some 20, none, .load true 5 (.t 19)⟩, ⟨some 21, none, .mv (.t 1)⟩, ⟨some 22, none, .mv (.t 5)⟩, ⟨some 23, none, .iaddr 5 (.t 21) (.t 22)⟩, ⟨some 24, none, .load true 5 (.t 23)⟩, ⟨some 25, none, .call 11 [(.t 20), (.t 24)]⟩, ⟨some 26, none, .un .not (.t 25)⟩]) (.cond (.t 26) (.seq (.reg [⟨some 4, none, .mv (.c (.bool false))⟩]) .ret) .skip))) (.reg [⟨some 15, none, .mv (.t 5)⟩, ⟨some 16, none, .bin .add false (.t 15) (.c (.int .i64 1))⟩, ⟨some 5, none, .mv (.t 16)⟩])))))) (.seq (.reg [⟨some 4, none, .mv (.c (.bool true))⟩]) .ret))))
theorem k_laws_eqFormulaS : codeOf Tryz.prog 43 = some ⟨27, c_laws_eqFormulaS, [(.tmp 4)]⟩ := by kernel_rfl
theorem m_laws_eqFormulaS : modes 43 = ⟨[], .asis, none, false⟩ := by unfold modes; rfl
abbrev EqT_Formula (x : Fm) : Prop := x.bulk ≤ 1048576 → E 11 [x.sv, x.sv] [] = some (.bool true, [])
abbrev EqTS_Formula (xs : List Fm) : Prop := xs.length + Fm.sumB xs ≤ 1048576 → E 43 [.arr (xs.map Fm.d), .arr (xs.map Fm.d)] [] = some (.bool true, [])
set_option maxHeartbeats 1000000 in
theorem eqTS_Formula_of (xs : List Fm) (h : ∀ x ∈ xs, EqT_Formula x) : EqTS_Formula xs := by
  intro hb
  refine E_walk k_laws_eqFormulaS m_laws_eqFormulaS (of_decide_eq_true rfl) ?_
  simp (disch := omega) only [c_laws_eqFormulaS, go_sem, go_cond, zA, zB, zC, zD, zE, zF, zG, zH, ↓reduceIte, zI, reduceCtorEq, zJ, zK]
  refine go_loop (α := Int) (fun i => ⟨slots 27 0 [(0, .arr (xs.map Fm.d)), (1, .arr (xs.map Fm.d)), (5, .int .i64 i)], []⟩) (fun i => ∃ k : Nat, i = k ∧ k ≤ xs.length) (fun i => xs.length - i.toNat) 0 ⟨0, rfl, Nat.zero_le _⟩ (by simp (disch := omega) only [go_sem, go_cond, zA, zB, zC, zD, zE, zF, zG, zH, ↓reduceIte, zI, reduceCtorEq, zJ, zK]) ?_
  · rintro i ⟨k, rfl, hk⟩
    obtain ⟨i, hi⟩ : ∃ i : Int, i = (k : Int) := ⟨_, rfl⟩
    rw [← hi]
    have hn : i.toNat = k := by omega
    rcases Nat.lt_or_ge k xs.length with hlt | hge
    · have hg := get_at Fm.d hlt
      rw [Fm.d_eq] at hg
      have hle := Fm.bulk_le xs k hlt
      have hc := h xs[k] (List.getElem_mem hlt) (by omega)
      simp (disch := omega) only [go_sem, go_cond, zA, zB, zC, zD, zE, zF, zG, zH, ↓reduceIte, zI, reduceCtorEq, zJ, zK, hn, hg, hc, m_laws_eqFormula]
      refine ⟨i + 1, ⟨k + 1, by omega, hlt⟩, by omega, ?_⟩
      trivial
    · obtain rfl : k = xs.length := by omega
      simp (disch := omega) only [go_sem, go_cond, zA, zB, zC, zD, zE, zF, zG, zH, ↓reduceIte, zI, reduceCtorEq, zJ, zK, hn]
set_option maxHeartbeats 1000000 in
theorem eqT_Formula_of (x : Fm) (h_atom : EqT_Term x.atom) (h_parts : EqTS_Formula x.parts) : EqT_Formula x := by
  intro hb
  have qb := Fm.bulk_eq x
  replace h_atom := h_atom (by omega)
  replace h_parts := h_parts (by omega)
  refine E_walk k_laws_eqFormula m_laws_eqFormula (of_decide_eq_true rfl) ?_
  simp (disch := omega) only [c_laws_eqFormula, go_sem, go_cond, zA, zB, zC, zD, zE, zF, zG, zH, ↓reduceIte, zI, reduceCtorEq, zJ, zK, h_atom, m_laws_eqTerm, h_parts, m_laws_eqFormulaS, dec_refl]
theorem eqT_Formula (x : Fm) : EqT_Formula x := eqT_Formula_of x (eqT_Term x.atom) (eqTS_Formula_of x.parts fun y hy => eqT_Formula y)
termination_by SizeOf.sizeOf x
decreasing_by exact Fm.lt_of_mem hy
def c_laws_eqAssigned : SC := (.seq (.reg [⟨some 2, none, .boxv 94 2 (.t 0)⟩, ⟨some 3, none, .boxv 94 2 (.t 1)⟩, ⟨some 4, none, .mv (.c (.bool false))⟩]) (.seq (.seq (.reg [⟨some 5, none, .faddr 0 (.t 2)⟩, ⟨some 6, none, .load false 1 (.t 5)⟩, ⟨some 7, none, .faddr 0 (.t 3)⟩, ⟨some 8, none, .load false 1 (.t 7)⟩, ⟨some 9, none, .bin .neq false (.t 6) (.t 8)⟩]) (.cond (.t 9) (.seq (.reg [⟨some 4, none, .mv (.c (.bool false))⟩]) .ret) .skip)) (.seq (.seq (.reg [⟨some 10, none, .faddr 1 (.t 2)⟩, ⟨some 11, none, .load false 1 (.t 10)⟩, ⟨some 12, none, .faddr 1 (.t 3)⟩, ⟨some 13, none, .load false 1 (.t 12)⟩, ⟨some 14, none, .bin .neq false (.t 11) (.t 13)⟩]) (.cond (.t 14) (.seq (.reg [⟨some 4, none, .mv (.c (.bool false))⟩]) .ret) .skip)) (.seq (.reg [⟨some 4, none, .mv (.c (.bool true))⟩]) .ret))))
theorem k_laws_eqAssigned : codeOf Tryz.prog 60 = some ⟨15, c_laws_eqAssigned, [(.tmp 4)]⟩ := by kernel_rfl
theorem m_laws_eqAssigned : modes 60 = ⟨[], .asis, none, false⟩ := by unfold modes; rfl
def c_laws_eqAssignedS : SC := (.seq (.reg [⟨some 4, none, .mv (.c (.bool false))⟩]) (.seq (.seq (.reg [⟨some 6, none, .mv (.t 0)⟩, ⟨some 7, none, .len false (.t 6)⟩, ⟨some 8, none, .mv (.t 1)⟩, ⟨some 9, none, .len false (.t 8)⟩, ⟨some 10, none, .bin .neq false (.t 7) (.t 9)⟩]) (.cond (.t 10) (.seq (.reg [⟨some 4, none, .mv (.c (.bool false))⟩]) .ret) .skip)) (.seq (.seq (.reg [⟨some 5, none, .mv (.c (.int .i64 0))⟩]) (.block 0 (.loop [1, 1, 0, 0, 0, 1, 0, 0, 0, 0, 0, 0, 0, 0, 0, 0, 0, 0, 0, 0, 0, 0, 0, 0, 0, 0, 0] (.seq (.seq (.reg [⟨some 11, none, .mv (.t 5)⟩, ⟨some 12, none, .mv (.t 0)⟩, ⟨some 13, none, .len false (.t 12)⟩, ⟨some 14, none, .bin .lss false (.t 11) (.t 13)⟩]) (.cond (.t 14) .skip (.exit 0))) (.seq (.block 1 (.seq (.dreg [[], [], [0, 1], [2, 0, 1], [], [], [4, 5], [6, 4, 5], [3, 2, 0, 1, 7, 6, 4, 5], [8, 3, 2, 0, 1, 7, 6, 4, 5]] [⟨some 17, none, .mv (.t 0)⟩, ⟨some 18, none, .mv (.t 5)⟩, ⟨some 19, none, .iaddr 2 (.t 17) (.t 18)⟩, ⟨some 20, none, .load true 2 (.t 19)⟩, ⟨some 21, none, .mv (.t 1)⟩, ⟨some 22, none, .mv (.t 5)⟩, ⟨some 23, none, .iaddr 2 (.t 21) (.t 22)⟩, ⟨some 24, none, .load true 2 (.t 23)⟩, ⟨some 25, none, .call 60 [(.t 20), (.t 24)]⟩, ⟨some 26, none, .un .not (.t 25)⟩]) (.cond (.t 26) (.seq (.reg [⟨some 4, none, .mv (.c (.bool false))⟩]) .ret) .skip))) (.reg [⟨some 15, none, .mv (.t 5)⟩, ⟨some 16, none, .bin .add false (.t 15) (.c (.int .i64 1))⟩, ⟨some 5, none, .mv (.t 16)⟩])))))) (.seq (.reg [⟨some 4, none, .mv (.c (.bool true))⟩]) .ret))))
theorem k_laws_eqAssignedS : codeOf Tryz.prog 21 = some ⟨27, c_laws_eqAssignedS, [(.tmp 4)]⟩ := by kernel_rfl
theorem m_laws_eqAssignedS : modes 21 = ⟨[], .asis, none, false⟩ := by unfold modes; rfl
abbrev EqT_Assigned (x : Ag) : Prop := x.bulk ≤ 1048576 → E 60 [x.sv, x.sv] [] = some (.bool true, [])
abbrev EqTS_Assigned (xs : List Ag) : Prop := xs.length + Ag.sumB xs ≤ 1048576 → E 21 [.arr (xs.map Ag.d), .arr (xs.map Ag.d)] [] = some (.bool true, [])
set_option maxHeartbeats 1000000 in
theorem eqTS_Assigned_of (xs : List Ag) (h : ∀ x ∈ xs, EqT_Assigned x) : EqTS_Assigned xs := by
  intro hb
  refine E_walk k_laws_eqAssignedS m_laws_eqAssignedS (of_decide_eq_true rfl) ?_
  simp (disch := omega) only [c_laws_eqAssignedS, go_sem, go_cond, zA, zB, zC, zD, zE, zF, zG, zH, ↓reduceIte, zI, reduceCtorEq, zJ, zK]
  refine go_loop (α := Int) (fun i => ⟨slots 27 0 [(0, .arr (xs.map Ag.d)), (1, .arr (xs.map Ag.d)), (5, .int .i64 i)], []⟩) (fun i => ∃ k : Nat, i = k ∧ k ≤ xs.length) (fun i => xs.length - i.toNat) 0 ⟨0, rfl, Nat.zero_le _⟩ (by simp (disch := omega) only [go_sem, go_cond, zA, zB, zC, zD, zE, zF, zG, zH, ↓reduceIte, zI, reduceCtorEq, zJ, zK]) ?_
  · rintro i ⟨k, rfl, hk⟩
    obtain ⟨i, hi⟩ : ∃ i : Int, i = (k : Int) := ⟨_, rfl⟩
    rw [← hi]
    have hn : i.toNat = k := by omega
    rcases Nat.lt_or_ge k xs.length with hlt | hge
    · have hg := get_at Ag.d hlt
      rw [Ag.d_eq] at hg
      have hle := Ag.bulk_le xs k hlt
      have hc := h xs[k] (List.getElem_mem hlt) (by omega)
      simp (disch := omega) only [go_sem, go_cond, zA, zB, zC, zD, zE, zF, zG, zH, ↓reduceIte, zI, reduceCtorEq, zJ, zK, hn, hg, hc, m_laws_eqAssigned]
      refine ⟨i + 1, ⟨k + 1, by omega, hlt⟩, by omega, ?_⟩
      trivial
    · obtain rfl : k = xs.length := by omega
      simp (disch := omega) only [go_sem, go_cond, zA, zB, zC, zD, zE, zF, zG, zH, ↓reduceIte, zI, reduceCtorEq, zJ, zK, hn]
set_option maxHeartbeats 1000000 in
theorem eqT_Assigned_of (x : Ag) : EqT_Assigned x := by
  intro hb
  have qb := Ag.bulk_eq x
  refine E_walk k_laws_eqAssigned m_laws_eqAssigned (of_decide_eq_true rfl) ?_
  simp (disch := omega) only [c_laws_eqAssigned, go_sem, go_cond, zA, zB, zC, zD, zE, zF, zG, zH, ↓reduceIte, zI, reduceCtorEq, zJ, zK, dec_refl]
theorem eqT_Assigned (x : Ag) : EqT_Assigned x := eqT_Assigned_of x
theorem eqTS_Assigned (xs : List Ag) : EqTS_Assigned xs := eqTS_Assigned_of xs fun x _ => eqT_Assigned x
def c_laws_eqTable : SC := (.seq (.reg [⟨some 2, none, .boxv 134 4 (.t 0)⟩, ⟨some 3, none, .boxv 134 4 (.t 1)⟩, ⟨some 4, none, .mv (.c (.bool false))⟩]) (.seq (.seq (.reg [⟨some 5, none, .faddr 0 (.t 2)⟩, ⟨some 6, none, .load false 1 (.t 5)⟩, ⟨some 7, none, .faddr 0 (.t 3)⟩, ⟨some 8, none, .load false 1 (.t 7)⟩, ⟨some 9, none, .bin .neq false (.t 6) (.t 8)⟩]) (.cond (.t 9) (.seq (.reg [⟨some 4, none, .mv (.c (.bool false))⟩]) .ret) .skip)) (.seq (.seq (.reg [⟨some 10, none, .faddr 1 (.t 2)⟩, ⟨some 11, none, .load false 1 (.t 10)⟩, ⟨some 12, none, .faddr 1 (.t 3)⟩, ⟨some 13, none, .load false 1 (.t 12)⟩, ⟨some 14, none, .bin .neq false (.t 11) (.t 13)⟩]) (.cond (.t 14) (.seq (.reg [⟨some 4, none, .mv (.c (.bool false))⟩]) .ret) .skip)) (.seq (.seq (.reg [⟨some 15, none, .faddr 2 (.t 2)⟩, ⟨some 16, none, .load false 1 (.t 15)⟩, ⟨some 17, none, .faddr 2 (.t 3)⟩, ⟨some 18, none, .load false 1 (.t 17)⟩, ⟨some 19, none, .bin .neq true (.t 16) (.t 18)⟩]) (.cond (.t 19) (.seq (.reg [⟨some 4, none, .mv (.c (.bool false))⟩]) .ret) .skip)) (.seq (.seq (.reg [⟨some 20, none, .faddr 3 (.t 2)⟩, ⟨some 21, none, .load false 1 (.t 20)⟩, ⟨some 22, none, .faddr 3 (.t 3)⟩, ⟨some 23, none, .load false 1 (.t 22)⟩, ⟨some 24, none, .call 154 [(.t 21), (.t 23)]⟩, ⟨some 25, none, .un .not (.t 24)⟩]) (.cond (.t 25) (.seq (.reg [⟨some 4, none, .mv (.c (.bool false))⟩]) .ret) .skip)) (.seq (.reg [⟨some 4, none, .mv (.c (.bool true))⟩]) .ret))))))
theorem k_laws_eqTable : codeOf Tryz.prog 111 = some ⟨26, c_laws_eqTable, [(.tmp 4)]⟩ := by kernel_rfl
theorem m_laws_eqTable : modes 111 = ⟨[], .asis, none, false⟩ := by unfold modes; rfl
def c_laws_eqTableS : SC := (.seq (.reg [⟨some 4, none, .mv (.c (.bool false))⟩]) (.seq (.seq (.reg [⟨some 6, none, .mv (.t 0)⟩, ⟨some 7, none, .len false (.t 6)⟩, ⟨some 8, none, .mv (.t 1)⟩, ⟨some 9, none, .len false (.t 8)⟩, ⟨some 10, none, .bin .neq false (.t 7) (.t 9)⟩]) (.cond (.t 10) (.seq (.reg [⟨some 4, none, .mv (.c (.bool false))⟩]) .ret) .skip)) (.seq (.seq (.reg [⟨some 5, none, .mv (.c (.int .i64 0))⟩]) (.block 0 (.loop [1, 1, 0, 0, 0, 1, 0, 0, 0, 0, 0, 0, 0, 0, 0, 0, 0, 0, 0, 0, 0, 0, 0, 0, 0, 0, 0] (.seq (.seq (.reg [⟨some 11, none, .mv (.t 5)⟩, ⟨some 12, none, .mv (.t 0)⟩, ⟨some 13, none, .len false (.t 12)⟩, ⟨some 14, none, .bin .lss false (.t 11) (.t 13)⟩]) (.cond (.t 14) .skip (.exit 0))) (.seq (.block 1 (.seq (.dreg [[], [], [0, 1], [2, 0, 1], [], [], [4, 5], [6, 4, 5], [3, 2, 0, 1, 7, 6, 4, 5], [8, 3, 2, 0, 1, 7, 6, 4, 5]] [⟨some 17, none, .mv (.t 0)⟩, ⟨some 18, none, .mv (.t 5)⟩, ⟨some 19, none, .iaddr 4 (.t 17) (.t 18)⟩, ⟨some 20, none, .load true 4 (.t 19)⟩, ⟨some 21, none, .mv (.t 1)⟩, ⟨some 22, none, .mv (.t 5)⟩, ⟨some 23, none, .iaddr 4 (.t 21) (.t 22)⟩, ⟨some 24, none, .load true 4 (.t 23)⟩, ⟨some 25, none, .call 111 [(.t 20), (.t 24)]⟩, ⟨some 26, none, .un .not (.t 25)⟩]) (.cond (.t 26) (.seq (.reg [⟨some 4, none, .mv (.c (.bool false))⟩]) .ret) .skip))) (.reg [⟨some 15, none, .mv (.t 5)⟩, ⟨some 16, none, .bin .add false (.t 15) (.c (.int .i64 1))⟩, ⟨some 5, none, .mv (.t 16)⟩])))))) (.seq (.reg [⟨some 4, none, .mv (.c (.bool true))⟩]) .ret))))
theorem k_laws_eqTableS : codeOf Tryz.prog 59 = some ⟨27, c_laws_eqTableS, [(.tmp 4)]⟩ := by kernel_rfl
theorem m_laws_eqTableS : modes 59 = ⟨[], .asis, none, false⟩ := by unfold modes; rfl
abbrev EqT_Table (x : Tl) : Prop := x.bulk ≤ 1048576 → E 111 [x.sv, x.sv] [] = some (.bool true, [])
abbrev EqTS_Table (xs : List Tl) : Prop := xs.length + Tl.sumB xs ≤ 1048576 → E 59 [.arr (xs.map Tl.d), .arr (xs.map Tl.d)] [] = some (.bool true, [])
set_option maxHeartbeats 1000000 in
theorem eqTS_Table_of (xs : List Tl) (h : ∀ x ∈ xs, EqT_Table x) : EqTS_Table xs := by
  intro hb
  refine E_walk k_laws_eqTableS m_laws_eqTableS (of_decide_eq_true rfl) ?_
  simp (disch := omega) only [c_laws_eqTableS, go_sem, go_cond, zA, zB, zC, zD, zE, zF, zG, zH, ↓reduceIte, zI, reduceCtorEq, zJ, zK]
  refine go_loop (α := Int) (fun i => ⟨slots 27 0 [(0, .arr (xs.map Tl.d)), (1, .arr (xs.map Tl.d)), (5, .int .i64 i)], []⟩) (fun i => ∃ k : Nat, i = k ∧ k ≤ xs.length) (fun i => xs.length - i.toNat) 0 ⟨0, rfl, Nat.zero_le _⟩ (by simp (disch := omega) only [go_sem, go_cond, zA, zB, zC, zD, zE, zF, zG, zH, ↓reduceIte, zI, reduceCtorEq, zJ, zK]) ?_
  · rintro i ⟨k, rfl, hk⟩
    obtain ⟨i, hi⟩ : ∃ i : Int, i = (k : Int) := ⟨_, rfl⟩
    rw [← hi]
    have hn : i.toNat = k := by omega
    rcases Nat.lt_or_ge k xs.length with hlt | hge
    · have hg := get_at Tl.d hlt
      rw [Tl.d_eq] at hg
      have hle := Tl.bulk_le xs k hlt
      have hc := h xs[k] (List.getElem_mem hlt) (by omega)
      simp (disch := omega) only [go_sem, go_cond, zA, zB, zC, zD, zE, zF, zG, zH, ↓reduceIte, zI, reduceCtorEq, zJ, zK, hn, hg, hc, m_laws_eqTable]
      refine ⟨i + 1, ⟨k + 1, by omega, hlt⟩, by omega, ?_⟩
      trivial
    · obtain rfl : k = xs.length := by omega
      simp (disch := omega) only [go_sem, go_cond, zA, zB, zC, zD, zE, zF, zG, zH, ↓reduceIte, zI, reduceCtorEq, zJ, zK, hn]
set_option maxHeartbeats 1000000 in
theorem eqT_Table_of (x : Tl) (h_vals : EqTS_int x.vals) : EqT_Table x := by
  intro hb
  have qb := Tl.bulk_eq x
  replace h_vals := h_vals (by omega)
  refine E_walk k_laws_eqTable m_laws_eqTable (of_decide_eq_true rfl) ?_
  simp (disch := omega) only [c_laws_eqTable, go_sem, go_cond, zA, zB, zC, zD, zE, zF, zG, zH, ↓reduceIte, zI, reduceCtorEq, zJ, zK, h_vals, m_laws_eqIntS, dec_refl]
theorem eqT_Table (x : Tl) : EqT_Table x := eqT_Table_of x (eqTS_int x.vals)
def c_laws_eqInterpretation : SC := (.seq (.reg [⟨some 2, none, .boxv 51 2 (.t 0)⟩, ⟨some 3, none, .boxv 51 2 (.t 1)⟩, ⟨some 4, none, .mv (.c (.bool false))⟩]) (.seq (.seq (.reg [⟨some 5, none, .faddr 0 (.t 2)⟩, ⟨some 6, none, .load false 1 (.t 5)⟩, ⟨some 7, none, .faddr 0 (.t 3)⟩, ⟨some 8, none, .load false 1 (.t 7)⟩, ⟨some 9, none, .bin .neq false (.t 6) (.t 8)⟩]) (.cond (.t 9) (.seq (.reg [⟨some 4, none, .mv (.c (.bool false))⟩]) .ret) .skip)) (.seq (.seq (.reg [⟨some 10, none, .faddr 1 (.t 2)⟩, ⟨some 11, none, .load false 1 (.t 10)⟩, ⟨some 12, none, .faddr 1 (.t 3)⟩, ⟨some 13, none, .load false 1 (.t 12)⟩, ⟨some 14, none, .call 59 [(.t 11), (.t 13)]⟩, ⟨some 15, none, .un .not (.t 14)⟩]) (.cond (.t 15) (.seq (.reg [⟨some 4, none, .mv (.c (.bool false))⟩]) .ret) .skip)) (.seq (.reg [⟨some 4, none, .mv (.c (.bool true))⟩]) .ret))))
theorem k_laws_eqInterpretation : codeOf Tryz.prog 20 = some ⟨16, c_laws_eqInterpretation, [(.tmp 4)]⟩ := by kernel_rfl
theorem m_laws_eqInterpretation : modes 20 = ⟨[], .asis, none, false⟩ := by unfold modes; rfl
abbrev EqT_Interpretation (x : Ip) : Prop := x.bulk ≤ 1048576 → E 20 [x.sv, x.sv] [] = some (.bool true, [])
set_option maxHeartbeats 1000000 in
theorem eqT_Interpretation_of (x : Ip) (h_tables : EqTS_Table x.tables) : EqT_Interpretation x := by
  intro hb
  have qb := Ip.bulk_eq x
  replace h_tables := h_tables (by omega)
  refine E_walk k_laws_eqInterpretation m_laws_eqInterpretation (of_decide_eq_true rfl) ?_
  simp (disch := omega) only [c_laws_eqInterpretation, go_sem, go_cond, zA, zB, zC, zD, zE, zF, zG, zH, ↓reduceIte, zI, reduceCtorEq, zJ, zK, h_tables, m_laws_eqTableS, dec_refl]
theorem eqT_Interpretation (x : Ip) : EqT_Interpretation x := eqT_Interpretation_of x (eqTS_Table_of x.tables fun y hy => eqT_Table y)
theorem Ip.bulk_tame (m : Ip) (hb : m.bulk ≤ 1048576) : m.tame := by
  rw [Ip.bulk_eq] at hb
  refine ⟨by omega, fun t ht => ?_⟩
  obtain ⟨k, hk, rfl⟩ := List.getElem_of_mem ht
  have h1 := Tl.bulk_le m.tables k hk
  rw [Tl.bulk_eq] at h1
  omega
def c_laws_FnExactEvaluateFormula : SC := (.seq (.reg [⟨some 3, none, .boxv 43 2 (.t 0)⟩, ⟨some 5, none, .boxv 27 5 (.t 2)⟩, ⟨some 6, none, .mv (.c (.bool false))⟩]) (.seq (.reg [⟨some 7, none, .mv (.c (.int .i64 1048576))⟩]) (.seq (.reg [⟨some 15, none, .load true 2 (.t 3)⟩, ⟨some 16, none, .mv (.t 7)⟩, ⟨some 17, none, .call 14 [(.t 15), (.t 16)]⟩, ⟨some 7, none, .mv (.t 17)⟩]) (.seq (.seq (.reg [⟨some 18, none, .mv (.t 7)⟩, ⟨some 19, none, .bin .lss false (.t 18) (.c (.int .i64 0))⟩]) (.cond (.t 19) (.seq (.reg [⟨some 6, none, .mv (.c (.bool true))⟩]) .ret) .skip)) (.seq (.reg [⟨some 20, none, .mv (.t 1)⟩, ⟨some 21, none, .mv (.t 7)⟩, ⟨some 22, none, .call 15 [(.t 20), (.t 21)]⟩, ⟨some 7, none, .mv (.t 22)⟩]) (.seq (.seq (.reg [⟨some 23, none, .mv (.t 7)⟩, ⟨some 24, none, .bin .lss false (.t 23) (.c (.int .i64 0))⟩]) (.cond (.t 24) (.seq (.reg [⟨some 6, none, .mv (.c (.bool true))⟩]) .ret) .skip)) (.seq (.reg [⟨some 25, none, .load true 5 (.t 5)⟩, ⟨some 26, none, .mv (.t 7)⟩, ⟨some 27, none, .call 7 [(.t 25), (.t 26)]⟩, ⟨some 7, none, .mv (.t 27)⟩]) (.seq (.seq (.reg [⟨some 28, none, .mv (.t 7)⟩, ⟨some 29, none, .bin .lss false (.t 28) (.c (.int .i64 0))⟩]) (.cond (.t 29) (.seq (.reg [⟨some 6, none, .mv (.c (.bool true))⟩]) .ret) .skip)) (.seq (.dreg [[], [0], [], [2, 1, 0], [], [4, 3, 2, 1, 0], [1, 0, 3, 2, 5, 4], [6, 1, 0, 3, 2, 5, 4], [7, 6, 1, 0, 3, 2, 5, 4], [7, 6, 1, 0, 3, 2, 5, 4], [8, 7, 6, 1, 0, 3, 2, 5, 4], [9, 7, 6, 1, 0, 3, 2, 5, 4, 10, 8]] [⟨some 31, none, .load true 2 (.t 3)⟩, ⟨some 32, none, .call 17 [(.t 31)]⟩, ⟨some 33, none, .mv (.t 1)⟩, ⟨some 34, none, .call 18 [(.t 33)]⟩, ⟨some 35, none, .load true 5 (.t 5)⟩, ⟨some 36, none, .call 9 [(.t 35)]⟩, ⟨some 37, none, .call 16 [(.t 32), (.t 34), (.t 36)]⟩, ⟨some 30, none, .mv (.t 37)⟩, ⟨some 38, none, .ext (.t 30) 0⟩, ⟨some 39, none, .ext (.t 30) 1⟩, ⟨some 8, none, .mv (.t 38)⟩, ⟨some 9, none, .mv (.t 39)⟩]) (.seq (.reg [⟨some 40, none, .load true 2 (.t 3)⟩, ⟨some 41, none, .call 17 [(.t 40)]⟩, ⟨some 10, none, .alloc 51 [(.int .i64 0), .nil]⟩, ⟨none, none, (.store 2 (.t 10) (.t 41))⟩]) (.seq (.reg [⟨some 42, none, .mv (.t 1)⟩, ⟨some 43, none, .call 18 [(.t 42)]⟩, ⟨some 11, none, .mv (.t 43)⟩]) (.seq (.reg [⟨some 44, none, .load true 5 (.t 5)⟩, ⟨some 45, none, .call 9 [(.t 44)]⟩, ⟨(some 12), none, (.alloc 34 [(.int .i64 0), (.str ⟨#[]⟩), .nil, (.str ⟨#[]⟩), .nil])⟩, ⟨none, none, (.store 5 (.t 12) (.t 45))⟩]) (.seq (.reg [⟨some 47, none, .load true 2 (.t 10)⟩, ⟨some 48, none, .mv (.t 11)⟩, ⟨some 49, none, .load true 5 (.t 12)⟩, ⟨some 50, none, .call 19 [(.t 47), (.t 48), (.t 49)]⟩, ⟨some 46, none, .mv (.t 50)⟩, ⟨some 51, none, .ext (.t 46) 0⟩, ⟨some 52, none, .ext (.t 46) 1⟩, ⟨some 13, none, .mv (.t 51)⟩, ⟨some 14, none, .mv (.t 52)⟩]) (.seq (.seq (.reg [⟨some 53, none, .mv (.t 13)⟩, ⟨some 54, none, .mv (.t 8)⟩, ⟨some 55, none, .bin .neq true (.t 53) (.t 54)⟩, ⟨some 56, none, .mv (.t 55)⟩, ⟨(some 57), (some (56, false)), (.mv (.t 14))⟩, ⟨(some 58), (some (56, false)), (.mv (.t 9))⟩, ⟨(some 59), (some (56, false)), (.bin .neq true (.t 57) (.t 58))⟩, ⟨some 60, none, .pick (.t 56) (.c (.bool true)) (.t 59)⟩]) (.cond (.t 60) (.seq (.reg [⟨some 6, none, .mv (.c (.bool false))⟩]) .ret) .skip)) (.seq (.seq (.dreg [[], [], [1], [0, 2, 1], [3, 0, 2, 1]] [⟨some 61, none, .load true 2 (.t 10)⟩, ⟨some 62, none, .load true 2 (.t 3)⟩, ⟨some 63, none, .call 17 [(.t 62)]⟩, ⟨some 64, none, .call 20 [(.t 61), (.t 63)]⟩, ⟨some 65, none, .un .not (.t 64)⟩]) (.cond (.t 65) (.seq (.reg [⟨some 6, none, .mv (.c (.bool false))⟩]) .ret) .skip)) (.seq (.seq (.reg [⟨some 66, none, .mv (.t 11)⟩, ⟨some 67, none, .mv (.t 1)⟩, ⟨some 68, none, .call 18 [(.t 67)]⟩, ⟨some 69, none, .call 21 [(.t 66), (.t 68)]⟩, ⟨some 70, none, .un .not (.t 69)⟩]) (.cond (.t 70) (.seq (.reg [⟨some 6, none, .mv (.c (.bool false))⟩]) .ret) .skip)) (.seq (.seq (.dreg [[], [], [1], [0, 2, 1], [3, 0, 2, 1]] [⟨some 71, none, .load true 5 (.t 12)⟩, ⟨some 72, none, .load true 5 (.t 5)⟩, ⟨some 73, none, .call 9 [(.t 72)]⟩, ⟨some 74, none, .call 11 [(.t 71), (.t 73)]⟩, ⟨some 75, none, .un .not (.t 74)⟩]) (.cond (.t 75) (.seq (.reg [⟨some 6, none, .mv (.c (.bool false))⟩]) .ret) .skip)) (.seq (.reg [⟨some 6, none, .mv (.c (.bool true))⟩]) .ret))))))))))))))))))
theorem k_laws_FnExactEvaluateFormula : codeOf Tryz.prog 4 = some ⟨76, c_laws_FnExactEvaluateFormula, [(.tmp 6)]⟩ := by kernel_rfl
theorem m_laws_FnExactEvaluateFormula : modes 4 = ⟨[], .asis, none, false⟩ := by unfold modes; rfl
set_option maxHeartbeats 8000000 in
theorem law37_E (m : Ip) (xs : List Ag) (x : Fm) (hfm : D.fits m.d) (hfxs : D.fit (.arr (xs.map Ag.d))) (hfx : D.fits x.d) : E 4 [m.sv, .arr (xs.map Ag.d), x.sv] [] = some (.bool true, []) := by
  have s0 := szT_Interpretation m hfm 1048576 (by omega) (by omega)
  have q0 := szR_spec 1048576 m.bulk
  obtain ⟨l0, hl0⟩ : ∃ l, l = szR 1048576 (m.bulk : Nat) := ⟨_, rfl⟩
  rw [← hl0] at s0 q0
  rcases Int.lt_or_le l0 0 with h0 | h0_0
  · refine E_walk k_laws_FnExactEvaluateFormula m_laws_FnExactEvaluateFormula (of_decide_eq_true rfl) ?_
    simp (disch := omega) only [c_laws_FnExactEvaluateFormula, go_sem, go_cond, zA, zB, zC, zD, zE, zF, zG, zH, ↓reduceIte, zI, reduceCtorEq, zJ, zK, s0, m_laws_szInterpretation]
  have s1 := szTS_Assigned xs hfxs l0 (by omega) (by omega)
  have q1 := szR_spec l0 (xs.length + Ag.sumB xs)
  obtain ⟨l1, hl1⟩ : ∃ l, l = szR l0 ((xs.length + Ag.sumB xs) : Nat) := ⟨_, rfl⟩
  rw [← hl1] at s1 q1
  rcases Int.lt_or_le l1 0 with h0 | h0_1
  · refine E_walk k_laws_FnExactEvaluateFormula m_laws_FnExactEvaluateFormula (of_decide_eq_true rfl) ?_
    simp (disch := omega) only [c_laws_FnExactEvaluateFormula, go_sem, go_cond, zA, zB, zC, zD, zE, zF, zG, zH, ↓reduceIte, zI, reduceCtorEq, zJ, zK, s0, s1, m_laws_szAssignedS, m_laws_szInterpretation]
  have s2 := szT_Formula x hfx l1 (by omega) (by omega)
  have q2 := szR_spec l1 x.bulk
  obtain ⟨l2, hl2⟩ : ∃ l, l = szR l1 (x.bulk : Nat) := ⟨_, rfl⟩
  rw [← hl2] at s2 q2
  rcases Int.lt_or_le l2 0 with h0 | h0_2
  · refine E_walk k_laws_FnExactEvaluateFormula m_laws_FnExactEvaluateFormula (of_decide_eq_true rfl) ?_
    simp (disch := omega) only [c_laws_FnExactEvaluateFormula, go_sem, go_cond, zA, zB, zC, zD, zE, zF, zG, zH, ↓reduceIte, zI, reduceCtorEq, zJ, zK, s0, s1, s2, m_laws_szAssignedS, m_laws_szFormula, m_laws_szInterpretation]
  have hb_m : m.bulk ≤ 1048576 := by omega
  have hb_xs : (xs.length + Ag.sumB xs) ≤ 1048576 := by omega
  have hb_x : x.bulk ≤ 1048576 := by omega
  have t_m := toT_Interpretation m hb_m
  have t_xs := toTS_Assigned xs hb_xs
  have t_x := toT_Formula x hb_x
  have hmt := Ip.bulk_tame m hb_m
  obtain ⟨htx, hnx⟩ := Fm.bulk_tame x hb_x
  have a1 := l10EvaluateFormula_E m hmt xs (by omega) x htx (by omega)
  have a2 := evaluateFormula_E m hmt xs (by omega) x htx (by omega)
  unfold optB at a1 a2
  obtain ⟨r, hr_r⟩ : ∃ r, r = (evF m xs x).getD false := ⟨_, rfl⟩
  rw [← hr_r] at a1 a2
  obtain ⟨o, hr_o⟩ : ∃ r, r = (evF m xs x).isSome := ⟨_, rfl⟩
  rw [← hr_o] at a1 a2
  have eq_m := eqT_Interpretation m (by omega)
  have eq_xs := eqTS_Assigned xs (by omega)
  have eq_x := eqT_Formula x (by omega)
  refine E_walk k_laws_FnExactEvaluateFormula m_laws_FnExactEvaluateFormula (of_decide_eq_true rfl) ?_
  simp (disch := omega) only [c_laws_FnExactEvaluateFormula, go_sem, zA, zB, zC, zD, zE, zF, zG, zH, ↓reduceIte, zI, reduceCtorEq, zJ, zK, s0, s1, s2, t_m, t_xs, t_x, a1, a2, eq_m, eq_xs, eq_x, dec_refl, m_laws_szInterpretation, m_laws_szAssignedS, m_laws_szFormula, m_laws_toInterpretation, m_laws_toAssignedS, m_laws_toFormula, m_laws_eqInterpretation, m_laws_eqAssignedS, m_laws_eqFormula, m_spec_EvaluateFormula, m_impl_EvaluateFormula, Ip.osv, Ip.obs, Tl.osv, Tl.obs, Ag.osv, Ag.obs, Fm.osv, Fm.obs, Tm.osv, Tm.obs, Tl.erss, Tl.noss, Ag.erss, Ag.noss, Tm.erss, Tm.noss, Fm.erss, Fm.noss]
  repeat ((first | (refine go_condT ?_ ?_; (focus (simp (disch := omega) only [go_sem, zA, zB, zC, zD, zE, zF, zG, zH, ↓reduceIte, zI, reduceCtorEq, zJ, zK, s0, s1, s2, t_m, t_xs, t_x, a1, a2, eq_m, eq_xs, eq_x, dec_refl, m_laws_szInterpretation, m_laws_szAssignedS, m_laws_szFormula, m_laws_toInterpretation, m_laws_toAssignedS, m_laws_toFormula, m_laws_eqInterpretation, m_laws_eqAssignedS, m_laws_eqFormula, m_spec_EvaluateFormula, m_impl_EvaluateFormula, Ip.osv, Ip.obs, Tl.osv, Tl.obs, Ag.osv, Ag.obs, Fm.osv, Fm.obs, Tm.osv, Tm.obs, Tl.erss, Tl.noss, Ag.erss, Ag.noss, Tm.erss, Tm.noss, Fm.erss, Fm.noss]; done))) | (refine go_condF ?_ ?_; (focus (simp (disch := omega) only [go_sem, zA, zB, zC, zD, zE, zF, zG, zH, ↓reduceIte, zI, reduceCtorEq, zJ, zK, s0, s1, s2, t_m, t_xs, t_x, a1, a2, eq_m, eq_xs, eq_x, dec_refl, m_laws_szInterpretation, m_laws_szAssignedS, m_laws_szFormula, m_laws_toInterpretation, m_laws_toAssignedS, m_laws_toFormula, m_laws_eqInterpretation, m_laws_eqAssignedS, m_laws_eqFormula, m_spec_EvaluateFormula, m_impl_EvaluateFormula, Ip.osv, Ip.obs, Tl.osv, Tl.obs, Ag.osv, Ag.obs, Fm.osv, Fm.obs, Tm.osv, Tm.obs, Tl.erss, Tl.noss, Ag.erss, Ag.noss, Tm.erss, Tm.noss, Fm.erss, Fm.noss]; done)))); (try simp (disch := omega) only [go_sem, zA, zB, zC, zD, zE, zF, zG, zH, ↓reduceIte, zI, reduceCtorEq, zJ, zK, s0, s1, s2, t_m, t_xs, t_x, a1, a2, eq_m, eq_xs, eq_x, dec_refl, m_laws_szInterpretation, m_laws_szAssignedS, m_laws_szFormula, m_laws_toInterpretation, m_laws_toAssignedS, m_laws_toFormula, m_laws_eqInterpretation, m_laws_eqAssignedS, m_laws_eqFormula, m_spec_EvaluateFormula, m_impl_EvaluateFormula, Ip.osv, Ip.obs, Tl.osv, Tl.obs, Ag.osv, Ag.obs, Fm.osv, Fm.obs, Tm.osv, Tm.obs, Tl.erss, Tl.noss, Ag.erss, Ag.noss, Tm.erss, Tm.noss, Fm.erss, Fm.noss]))
end Go.Proofs.YtihclcmgbkkhfaaGreat
set_option maxRecDepth 100000
set_option linter.unusedSimpArgs false
set_option linter.unusedVariables false
namespace Go.Proofs.YtihclcmgbkkhfaaGreat
open Go.RowKit Go.ChangeShapes Go.WideShapes Go.ChangeAt Go.Deep
section
variable {H : Type} {enc : TypeId × Value → H} {P : Program} {w : World} {base : Nat} {spare : Nat → Bool} {held : Bool}
theorem addr_add_plain {b o k : Nat} : (⟨b, o, none⟩ : Addr).add k = ⟨b, o + k, none⟩ := by
  unfold Addr.add; split
  · subst_vars; rfl
  · rfl
theorem cell_lt {a : Addr} {v : Value} (h : w.cell? a = some v) : a.block < w.heap.size := by
  unfold World.cell? at h
  cases hb : w.heap[a.block]? with
  | none => rw [hb] at h; cases h
  | some o => exact (Array.getElem?_eq_some_iff.1 hb).1
end
section
variable {H : Type} {enc : TypeId × Value → H} {w : World} {base : Nat} {spare : Nat → Bool} {held : Bool}
end
end Go.Proofs.YtihclcmgbkkhfaaGreat
set_option maxRecDepth 100000
set_option linter.unusedSimpArgs false
set_option linter.unusedVariables false
namespace Go.Proofs.YtihclcmgbkkhfaaGreat
open Go.RowKit Go.ChangeShapes Go.WideShapes Go.ChangeAt Go.Deep
section
variable {H : Type} {enc : TypeId × Value → H} {P : Program} {w : World} {base : Nat} {spare : Nat → Bool} {held : Bool}
theorem open_sl' {t e : TypeId} {fuel : Nat} {v : Value} {x : DataW H × List MemPlace} (sz : Nat) (hsz : P.cellsOf e = sz) (h0 : 0 < sz) (ht : P.underlying t = some (.slice e)) (h : DataW.trod enc P w base spare held fuel t [v] = some x) :
    ∃ (a : Option Addr) (len cap : Nat) (f : Nat → Nat → Value), v = .slice a len cap ∧ len ≤ cap ∧ cap ≤ 9223372036854775807 ∧ SlA w 0 sz len f a ∧
      ∀ i, i < len → ∃ n x', n < fuel ∧ DataW.trod enc P w base spare held n e ((List.range sz).map (f i)) = some x' := by
  rcases DataW.trod_slice ht h with ⟨hcs, _⟩ | ⟨a, len, cap, elems, rest, n, hf, hcs, hx, hb, hl, hm, hlen, hel, _, _⟩
  · simp only [List.cons.injEq, and_true] at hcs
    exact ⟨none, 0, 0, fun _ _ => undef, hcs, Nat.le_refl _, by omega, .inl rfl, fun i hi => absurd hi (by omega)⟩
  · have hi : ∀ i, i < len → ∃ cs' x', w.cells? base (a.add (i * sz)) sz = some cs' ∧ DataW.trod enc P w base spare held n e cs' = some x' := by
      intro i hi
      have h1 := hel i hi
      rw [hsz, List.getElem?_eq_getElem (by omega)] at h1
      obtain ⟨cs', h2, h3⟩ := Option.bind_eq_some_iff.1 h1
      exact ⟨cs', _, h2, h3⟩
    have hcell : ∀ i j, i < len → j < sz → ∃ v, w.cell? (a.add (i * sz + j)) = some v := by
      intro i j hil hj
      obtain ⟨cs', x', hc, _⟩ := hi i hil
      obtain ⟨_, hcl, hat⟩ := World.cells?_some hc
      have h1 := hat j hj
      rw [Go.Deep.add_add, List.getElem?_eq_getElem (by omega)] at h1
      exact ⟨_, h1⟩
    simp only [List.cons.injEq, and_true] at hcs
    refine ⟨some a, len, cap, fun i j => (w.cell? (a.add (i * sz + j))).getD undef, hcs, hl, hm, ?_, ?_⟩
    · rcases Nat.eq_zero_or_pos len with h | h
      · exact .inl h
      · obtain ⟨v, hv⟩ := hcell 0 0 h h0
        rw [Nat.zero_mul, Nat.zero_add] at hv
        have hsp : a.spot = none := by simpa [Addr.add] using World.cell?_spot hv
        have hlt := cell_lt hv
        obtain ⟨b, off, spot⟩ := a
        simp only at hsp
        subst hsp
        refine .inr ⟨b, off, rfl, Nat.zero_le _, by simpa [Addr.add] using hlt, fun i j hil hj => ?_⟩
        obtain ⟨v', hv'⟩ := hcell i j hil hj
        rw [addr_add_plain] at hv'
        show _ = some ((w.cell? ((⟨b, off, none⟩ : Addr).add (i * sz + j))).getD undef)
        rw [addr_add_plain, Nat.add_assoc, hv']
        rfl
    · intro i hil
      obtain ⟨cs', x', hc, ht'⟩ := hi i hil
      obtain ⟨_, hcl, hat⟩ := World.cells?_some hc
      refine ⟨n, x', by omega, ?_⟩
      have hcs' : (List.range sz).map (fun j => (w.cell? (a.add (i * sz + j))).getD undef) = cs' := by
        apply List.ext_getElem?
        intro j
        by_cases hj : j < sz
        · rw [List.getElem?_map, List.getElem?_range hj]
          have h1 := hat j hj
          rw [Go.Deep.add_add] at h1
          rw [List.getElem?_eq_getElem (by omega : j < cs'.length)] at h1 ⊢
          simp [h1]
        · rw [List.getElem?_eq_none (by simp; omega), List.getElem?_eq_none (by omega)]
      rw [hcs']
      exact ht'
theorem open_st' {t : TypeId} {fs : Array Field} {fuel : Nat} {cs : List Value} {x : DataW H × List MemPlace} (ht : P.underlying t = some (.struct fs)) (h : DataW.trod enc P w base spare held fuel t cs = some x) :
    ∃ n, n < fuel ∧ cs.length = P.cellsOf t ∧ ∀ (i : Nat) (f : Field), fs[i]? = some f → ∃ y, DataW.trod enc P w base spare held n f.type ((cs.drop f.offset).take (P.cellsOf f.type)) = some y := by
  obtain ⟨xs, n, hn, hx, hlen, hxl, hf⟩ := DataW.trod_struct ht h
  refine ⟨n, by omega, hlen, fun i f hi => ?_⟩
  have hil : i < fs.size := (Array.getElem?_eq_some_iff.1 hi).1
  have h1 := hf i f hi
  rw [List.getElem?_eq_getElem (by omega : i < xs.length)] at h1
  exact ⟨_, h1⟩
end
inductive Lvs (w : World) : List D → List Value → Prop
  | nil : Lvs w [] []
  | cons {d : D} {v : Value} {ds : List D} {vs : List Value} (h : DAt w d v) (hs : Lvs w ds vs) : Lvs w (d :: ds) (v :: vs)
theorem Lvs.len {w : World} {ds : List D} {vs : List Value} (h : Lvs w ds vs) : ds.length = vs.length := by
  induction h with
  | nil => rfl
  | cons h hs ih => simp [ih]
theorem Lvs.get {w : World} {ds : List D} {vs : List Value} (h : Lvs w ds vs) : ∀ j (h1 : j < ds.length) (h2 : j < vs.length), DAt w ds[j] vs[j] := by
  induction h with
  | nil => intro j h1; simp at h1
  | cons h hs ih =>
    intro j h1 h2
    cases j with
    | zero => exact h
    | succ j => exact ih j (by simpa using h1) (by simpa using h2)
theorem open_arr {α : Type} [Inhabited α] (dd : α → List D) {w : World} {m len cap : Nat} {f : Nat → Nat → Value} {a : Option Addr} (hl : len ≤ cap) (hm : cap ≤ 9223372036854775807) (hS : SlA w 0 m len f a)
    (hel : ∀ i, i < len → ∃ X : α, Lvs w (dd X) ((List.range m).map (f i))) : ∃ xs : List α, DAt w (.arr (xs.map dd)) (.slice a len cap) := by
  obtain ⟨g, hg⟩ : ∃ g : Nat → α, ∀ i, i < len → Lvs w (dd (g i)) ((List.range m).map (f i)) :=
    ⟨fun i => if h : i < len then (hel i h).choose else default, fun i hi => by simp only [hi, dif_pos]; exact (hel i hi).choose_spec⟩
  refine ⟨(List.range len).map g, ?_⟩
  have hlen : (((List.range len).map g).map dd).length = len := by simp
  have := DAt.arr_mk (w := w) (es := ((List.range len).map g).map dd) (sz := m) (cap := cap) (a := a) (f := f) (by rw [hlen]; exact hl) hm (by rw [hlen]; exact hS) (fun i hi => by
    rw [hlen] at hi
    have := (hg i hi).len
    simpa using this) (fun i j hi hj => by
    rw [hlen] at hi
    have h1 := hg i hi
    have h2 := h1.len
    simp only [List.length_map, List.length_range] at h2
    simp only [List.getElem_map, List.getElem_range] at hj ⊢
    have := h1.get j hj (by simp; omega)
    simpa using this)
  rw [hlen] at this
  exact this
instance : Inhabited Tm := ⟨Tm.zero⟩
instance : Inhabited Fm := ⟨Fm.zero⟩
section
variable {H : Type} {enc : TypeId × Value → H} {w : World} {base : Nat} {spare : Nat → Bool} {held : Bool}
end
end Go.Proofs.YtihclcmgbkkhfaaGreat
set_option maxRecDepth 100000
set_option linter.unusedSimpArgs false
set_option linter.unusedVariables false
namespace Go.Proofs.YtihclcmgbkkhfaaGreat
open Go.RowKit
theorem DRep.lt_ {own : Bool} {w : World} {S : Nat → Prop} {d : D} {v : Value} (h : DRep own w S d v) : DRep own w (fun b => S b ∧ b < w.heap.size) d v := by
  induction h with
  | int S n => exact .int _ n
  | bool S b => exact .bool _ b
  | str S s h => exact .str _ s h
  | arr S sz es a cap f Sub h1 h2 h3 h4 h5 h6 h7 ih =>
    refine .arr _ sz es a cap f (fun i j x => Sub i j x ∧ x < w.heap.size) h1 h2 ?_ h4 (fun i j x h => ⟨h5 i j x h.1, h.2⟩) (fun ho i j i' j' x h h' => h6 ho i j i' j' x h.1 h'.1) ih
    rcases h3 with h3 | ⟨b, off, ha, hS, hl, hc, ho⟩
    · exact .inl h3
    · exact .inr ⟨b, off, ha, ⟨hS, hl⟩, hl, hc, fun h => ⟨fun i j hx => (ho h).1 i j hx.1, (ho h).2⟩⟩
theorem DAt.rep {w : World} {es : List (List D)} {v : Value} (h : DAt w (.arr es) v) : RepV w (fun b => b < w.heap.size) (fun _ => none) (.arr es) v := by
  simp only [RepV]
  exact (DRep.lt_ h).up fun b hb => hb.2
theorem Fun.yes {f : FuncId} {args : List SV} (h : Fun Tryz.prog f args [] (.bool true) []) {w : World} {vs : List Value} (hvs : RepVs w (fun b => b < w.heap.size) (fun _ => none) args vs) : Calls Tryz.prog f vs.toArray w (Ret w (.bool true)) := by
  have nl : ∀ g, ¬ (geto [] g).live := fun g hg => by simp [geto, Ob.live] at hg
  refine (h w (fun b => b < w.heap.size) (fun _ => none) (fun _ _ => False) vs ⟨fun b hb => hb, fun g hg => absurd hg (nl g), fun g b hg => absurd hg (nl g), fun g b hg => absurd hg (nl g), fun g g' b hg => absurd hg (nl g), fun g _ => rfl⟩ hvs).mono ?_
  rintro e w' ⟨v, I', V', B', rfl, hr, hp⟩
  simp only [RepV] at hr
  subst hr
  exact ⟨rfl, hp.fr.os, hp.fr.tape, hp.fr.output, hp.fr.size, fun b hb => hp.fr.block b hb fun ⟨g, hg, _⟩ => absurd hg (nl g)⟩
theorem lvs_cons {w : World} {d : D} {ds : List D} {v : Value} {vs : List Value} (h : Lvs w (d :: ds) (v :: vs)) : DAt w d v ∧ Lvs w ds vs := by
  cases h with
  | cons h1 h2 => exact ⟨h1, h2⟩
theorem DAt.rep_sv {w : World} {d : D} {v : Value} (h : DAt w d v) : RepV w (fun b => b < w.heap.size) (fun _ => none) d.sv v :=
  D.rep_sv ((DRep.lt_ h).up fun b hb => hb.2)
theorem Lvs.reps {w : World} {ds : List D} {vs : List Value} (h : Lvs w ds vs) : RepVs w (fun b => b < w.heap.size) (fun _ => none) (ds.map D.sv) vs := by
  induction h with
  | nil => simp [RepVs]
  | cons h hs ih => simp only [List.map_cons, RepVs]; exact ⟨_, _, rfl, h.rep_sv, ih⟩
theorem Lvs.agg {w : World} {ds : List D} {vs : List Value} (h : Lvs w ds vs) : RepV w (fun b => b < w.heap.size) (fun _ => none) (.agg (ds.map D.sv)) (.agg vs.toArray) := by
  simp only [RepV]; exact ⟨vs, rfl, h.reps⟩
theorem Lvs.fits {w : World} {ds : List D} {vs : List Value} (h : Lvs w ds vs) : D.fits ds := by
  induction h with
  | nil => trivial
  | cons h hs ih => exact ⟨DRep.fit h, ih⟩
theorem DAt.fit {w : World} {d : D} {v : Value} (h : DAt w d v) : D.fit d := DRep.fit h
theorem args_nil {w : World} {I : Nat → Prop} {V : Nat → Option Value} : RepVs w I V [] [] := by simp [RepVs]
theorem args_more {w : World} {I : Nat → Prop} {V : Nat → Option Value} {x : SV} {xs : List SV} {v : Value} {vs : List Value} (h : RepV w I V x v) (hs : RepVs w I V xs vs) : RepVs w I V (x :: xs) (v :: vs) := by
  simp only [RepVs]; exact ⟨v, vs, rfl, h, hs⟩
instance : Inhabited Lt := ⟨Lt.zero⟩
instance : Inhabited Ag := ⟨Ag.zero⟩
instance : Inhabited Tl := ⟨Tl.zero⟩
section
variable {H : Type} {enc : TypeId × Value → H} {w : World} {base : Nat} {spare : Nat → Bool} {held : Bool}
theorem opnS_int {fuel : Nat} {v : Value} {x : DataW H × List MemPlace} (h : DataW.trod enc Tryz.prog w base spare held fuel 129 [v] = some x) : ∃ xs : List Int, DAt w (.arr (xs.map fun s => [D.int s])) v := by
  obtain ⟨a, len, cap, f, rfl, hl, hm, hS, hr⟩ := open_sl' (P := Tryz.prog) 1 (by kernel_rfl) (by omega) Tryz.underlying129 h
  exact open_arr (fun s => [D.int s]) hl hm hS fun i hi => by
    obtain ⟨n, x', hn, h1⟩ := hr i hi
    obtain ⟨z, q, _, _⟩ := DataW.trod_int Tryz.underlying3 h1
    rw [q]
    exact ⟨z, .cons (.int _ z) .nil⟩
theorem opn_Term_of {fuel : Nat} (ih : ∀ n, n < fuel → ∀ v x, DataW.trod enc Tryz.prog w base spare held n 22 [v] = some x → ∃ xs : List Tm, DAt w (.arr (xs.map Tm.d)) v) {cs : List Value} {x : DataW H × List MemPlace} (h : DataW.trod enc Tryz.prog w base spare held fuel 24 cs = some x) : ∃ X : Tm, Lvs w X.d cs := by
  obtain ⟨n, hn, hlen, hf⟩ := open_st' Tryz.underlying24 h
  rw [show Tryz.prog.cellsOf 24 = 2 by kernel_rfl] at hlen
  match cs, hlen with
  | [c0, c1], _ =>
    obtain ⟨y0, k0⟩ := hf 0 _ rfl
    have e0 : (([c0, c1].drop 0).take (Tryz.prog.cellsOf 9)) = [c0] := by rw [show Tryz.prog.cellsOf 9 = 1 by kernel_rfl]; rfl
    obtain ⟨z0, q0, _, s0⟩ := DataW.trod_string Tryz.underlying9 k0
    have q0' : c0 = .string z0 := by
      have : [c0] = [.string z0] := by rw [← e0]; exact q0
      simpa using this
    obtain ⟨y1, k1⟩ := hf 1 _ rfl
    have e1 : (([c0, c1].drop 1).take (Tryz.prog.cellsOf 22)) = [c1] := by rw [show Tryz.prog.cellsOf 22 = 1 by kernel_rfl]; rfl
    have k1' : DataW.trod enc Tryz.prog w base spare held n 22 [c1] = some y1 := by rw [← e1]; exact k1
    obtain ⟨z1, g1⟩ := ih n hn c1 y1 k1'
    subst q0'
    exact ⟨.mk z0 z1, by rw [Tm.d_eq]; exact (.cons (.str _ z0 s0) (.cons g1 .nil))⟩
theorem opnS_Term_all : ∀ (fuel : Nat) (v : Value) (x : DataW H × List MemPlace), DataW.trod enc Tryz.prog w base spare held fuel 22 [v] = some x → ∃ xs : List Tm, DAt w (.arr (xs.map Tm.d)) v := by
  intro fuel
  induction fuel using Nat.strongRecOn with
  | _ fuel ih =>
    intro v x h
    obtain ⟨a, len, cap, f, rfl, hl, hm, hS, hr⟩ := open_sl' (P := Tryz.prog) 2 (by kernel_rfl) (by omega) Tryz.underlying22 h
    exact open_arr Tm.d hl hm hS fun i hi => by
      obtain ⟨n, x', hn, h1⟩ := hr i hi
      exact opn_Term_of (fun n' hn' => ih n' (by omega)) h1
theorem opn_Term {fuel : Nat} {cs : List Value} {x : DataW H × List MemPlace} (h : DataW.trod enc Tryz.prog w base spare held fuel 24 cs = some x) : ∃ X : Tm, Lvs w X.d cs :=
  opn_Term_of (fun n _ => opnS_Term_all n) h
theorem opn_Formula_of {fuel : Nat} (ih : ∀ n, n < fuel → ∀ v x, DataW.trod enc Tryz.prog w base spare held n 25 [v] = some x → ∃ xs : List Fm, DAt w (.arr (xs.map Fm.d)) v) {cs : List Value} {x : DataW H × List MemPlace} (h : DataW.trod enc Tryz.prog w base spare held fuel 27 cs = some x) : ∃ X : Fm, Lvs w X.d cs := by
  obtain ⟨n, hn, hlen, hf⟩ := open_st' Tryz.underlying27 h
  rw [show Tryz.prog.cellsOf 27 = 5 by kernel_rfl] at hlen
  match cs, hlen with
  | [c0, c1, c2, c3, c4], _ =>
    obtain ⟨y0, k0⟩ := hf 0 _ rfl
    have e0 : (([c0, c1, c2, c3, c4].drop 0).take (Tryz.prog.cellsOf 3)) = [c0] := by rw [show Tryz.prog.cellsOf 3 = 1 by kernel_rfl]; rfl
    obtain ⟨z0, q0, _, _⟩ := DataW.trod_int Tryz.underlying3 k0
    have q0' : c0 = .int .i64 z0 := by
      have : [c0] = [.int .i64 z0] := by rw [← e0]; exact q0
      simpa using this
    obtain ⟨y1, k1⟩ := hf 1 _ rfl
    have e1 : (([c0, c1, c2, c3, c4].drop 1).take (Tryz.prog.cellsOf 24)) = [c1, c2] := by rw [show Tryz.prog.cellsOf 24 = 2 by kernel_rfl]; rfl
    have k1' : DataW.trod enc Tryz.prog w base spare held n 24 [c1, c2] = some y1 := by rw [← e1]; exact k1
    obtain ⟨z1, g1⟩ := opn_Term k1'
    rw [Tm.d_eq] at g1
    obtain ⟨g1_0, g1⟩ := lvs_cons g1
    obtain ⟨g1_1, g1⟩ := lvs_cons g1
    obtain ⟨y2, k2⟩ := hf 2 _ rfl
    have e2 : (([c0, c1, c2, c3, c4].drop 3).take (Tryz.prog.cellsOf 9)) = [c3] := by rw [show Tryz.prog.cellsOf 9 = 1 by kernel_rfl]; rfl
    obtain ⟨z2, q2, _, s2⟩ := DataW.trod_string Tryz.underlying9 k2
    have q2' : c3 = .string z2 := by
      have : [c3] = [.string z2] := by rw [← e2]; exact q2
      simpa using this
    obtain ⟨y3, k3⟩ := hf 3 _ rfl
    have e3 : (([c0, c1, c2, c3, c4].drop 4).take (Tryz.prog.cellsOf 25)) = [c4] := by rw [show Tryz.prog.cellsOf 25 = 1 by kernel_rfl]; rfl
    have k3' : DataW.trod enc Tryz.prog w base spare held n 25 [c4] = some y3 := by rw [← e3]; exact k3
    obtain ⟨z3, g3⟩ := ih n hn c4 y3 k3'
    subst q0' q2'
    exact ⟨.mk z0 z1 z2 z3, by rw [Fm.d_eq]; exact (.cons (.int _ z0) (.cons g1_0 (.cons g1_1 (.cons (.str _ z2 s2) (.cons g3 .nil)))))⟩
theorem opnS_Formula_all : ∀ (fuel : Nat) (v : Value) (x : DataW H × List MemPlace), DataW.trod enc Tryz.prog w base spare held fuel 25 [v] = some x → ∃ xs : List Fm, DAt w (.arr (xs.map Fm.d)) v := by
  intro fuel
  induction fuel using Nat.strongRecOn with
  | _ fuel ih =>
    intro v x h
    obtain ⟨a, len, cap, f, rfl, hl, hm, hS, hr⟩ := open_sl' (P := Tryz.prog) 5 (by kernel_rfl) (by omega) Tryz.underlying25 h
    exact open_arr Fm.d hl hm hS fun i hi => by
      obtain ⟨n, x', hn, h1⟩ := hr i hi
      exact opn_Formula_of (fun n' hn' => ih n' (by omega)) h1
theorem opn_Formula {fuel : Nat} {cs : List Value} {x : DataW H × List MemPlace} (h : DataW.trod enc Tryz.prog w base spare held fuel 27 cs = some x) : ∃ X : Fm, Lvs w X.d cs :=
  opn_Formula_of (fun n _ => opnS_Formula_all n) h
theorem opn_Assigned {fuel : Nat} {cs : List Value} {x : DataW H × List MemPlace} (h : DataW.trod enc Tryz.prog w base spare held fuel 90 cs = some x) : ∃ X : Ag, Lvs w X.d cs := by
  obtain ⟨n, hn, hlen, hf⟩ := open_st' Tryz.underlying90 h
  rw [show Tryz.prog.cellsOf 90 = 2 by kernel_rfl] at hlen
  match cs, hlen with
  | [c0, c1], _ =>
    obtain ⟨y0, k0⟩ := hf 0 _ rfl
    have e0 : (([c0, c1].drop 0).take (Tryz.prog.cellsOf 9)) = [c0] := by rw [show Tryz.prog.cellsOf 9 = 1 by kernel_rfl]; rfl
    obtain ⟨z0, q0, _, s0⟩ := DataW.trod_string Tryz.underlying9 k0
    have q0' : c0 = .string z0 := by
      have : [c0] = [.string z0] := by rw [← e0]; exact q0
      simpa using this
    obtain ⟨y1, k1⟩ := hf 1 _ rfl
    have e1 : (([c0, c1].drop 1).take (Tryz.prog.cellsOf 3)) = [c1] := by rw [show Tryz.prog.cellsOf 3 = 1 by kernel_rfl]; rfl
    obtain ⟨z1, q1, _, _⟩ := DataW.trod_int Tryz.underlying3 k1
    have q1' : c1 = .int .i64 z1 := by
      have : [c1] = [.int .i64 z1] := by rw [← e1]; exact q1
      simpa using this
    subst q0' q1'
    exact ⟨⟨z0, z1⟩, by rw [Ag.d_eq]; exact (.cons (.str _ z0 s0) (.cons (.int _ z1) .nil))⟩
theorem opnS_Assigned {fuel : Nat} {v : Value} {x : DataW H × List MemPlace} (h : DataW.trod enc Tryz.prog w base spare held fuel 44 [v] = some x) : ∃ xs : List Ag, DAt w (.arr (xs.map Ag.d)) v := by
  obtain ⟨a, len, cap, f, rfl, hl, hm, hS, hr⟩ := open_sl' (P := Tryz.prog) 2 (by kernel_rfl) (by omega) Tryz.underlying44 h
  exact open_arr Ag.d hl hm hS fun i hi => by
    obtain ⟨n, x', hn, h1⟩ := hr i hi
    exact opn_Assigned h1
theorem opn_Table {fuel : Nat} {cs : List Value} {x : DataW H × List MemPlace} (h : DataW.trod enc Tryz.prog w base spare held fuel 131 cs = some x) : ∃ X : Tl, Lvs w X.d cs := by
  obtain ⟨n, hn, hlen, hf⟩ := open_st' Tryz.underlying131 h
  rw [show Tryz.prog.cellsOf 131 = 4 by kernel_rfl] at hlen
  match cs, hlen with
  | [c0, c1, c2, c3], _ =>
    obtain ⟨y0, k0⟩ := hf 0 _ rfl
    have e0 : (([c0, c1, c2, c3].drop 0).take (Tryz.prog.cellsOf 9)) = [c0] := by rw [show Tryz.prog.cellsOf 9 = 1 by kernel_rfl]; rfl
    obtain ⟨z0, q0, _, s0⟩ := DataW.trod_string Tryz.underlying9 k0
    have q0' : c0 = .string z0 := by
      have : [c0] = [.string z0] := by rw [← e0]; exact q0
      simpa using this
    obtain ⟨y1, k1⟩ := hf 1 _ rfl
    have e1 : (([c0, c1, c2, c3].drop 1).take (Tryz.prog.cellsOf 3)) = [c1] := by rw [show Tryz.prog.cellsOf 3 = 1 by kernel_rfl]; rfl
    obtain ⟨z1, q1, _, _⟩ := DataW.trod_int Tryz.underlying3 k1
    have q1' : c1 = .int .i64 z1 := by
      have : [c1] = [.int .i64 z1] := by rw [← e1]; exact q1
      simpa using this
    obtain ⟨y2, k2⟩ := hf 2 _ rfl
    have e2 : (([c0, c1, c2, c3].drop 2).take (Tryz.prog.cellsOf 4)) = [c2] := by rw [show Tryz.prog.cellsOf 4 = 1 by kernel_rfl]; rfl
    obtain ⟨z2, q2, _⟩ := DataW.trod_bool Tryz.underlying4 k2
    have q2' : c2 = .bool z2 := by
      have : [c2] = [.bool z2] := by rw [← e2]; exact q2
      simpa using this
    obtain ⟨y3, k3⟩ := hf 3 _ rfl
    have e3 : (([c0, c1, c2, c3].drop 3).take (Tryz.prog.cellsOf 129)) = [c3] := by rw [show Tryz.prog.cellsOf 129 = 1 by kernel_rfl]; rfl
    have k3' : DataW.trod enc Tryz.prog w base spare held n 129 [c3] = some y3 := by rw [← e3]; exact k3
    obtain ⟨z3, g3⟩ := opnS_int k3'
    subst q0' q1' q2'
    exact ⟨⟨z0, z1, z2, z3⟩, by rw [Tl.d_eq]; exact (.cons (.str _ z0 s0) (.cons (.int _ z1) (.cons (.bool _ z2) (.cons g3 .nil))))⟩
theorem opnS_Table {fuel : Nat} {v : Value} {x : DataW H × List MemPlace} (h : DataW.trod enc Tryz.prog w base spare held fuel 41 [v] = some x) : ∃ xs : List Tl, DAt w (.arr (xs.map Tl.d)) v := by
  obtain ⟨a, len, cap, f, rfl, hl, hm, hS, hr⟩ := open_sl' (P := Tryz.prog) 4 (by kernel_rfl) (by omega) Tryz.underlying41 h
  exact open_arr Tl.d hl hm hS fun i hi => by
    obtain ⟨n, x', hn, h1⟩ := hr i hi
    exact opn_Table h1
theorem opn_Interpretation {fuel : Nat} {cs : List Value} {x : DataW H × List MemPlace} (h : DataW.trod enc Tryz.prog w base spare held fuel 43 cs = some x) : ∃ X : Ip, Lvs w X.d cs := by
  obtain ⟨n, hn, hlen, hf⟩ := open_st' Tryz.underlying43 h
  rw [show Tryz.prog.cellsOf 43 = 2 by kernel_rfl] at hlen
  match cs, hlen with
  | [c0, c1], _ =>
    obtain ⟨y0, k0⟩ := hf 0 _ rfl
    have e0 : (([c0, c1].drop 0).take (Tryz.prog.cellsOf 3)) = [c0] := by rw [show Tryz.prog.cellsOf 3 = 1 by kernel_rfl]; rfl
    obtain ⟨z0, q0, _, _⟩ := DataW.trod_int Tryz.underlying3 k0
    have q0' : c0 = .int .i64 z0 := by
      have : [c0] = [.int .i64 z0] := by rw [← e0]; exact q0
      simpa using this
    obtain ⟨y1, k1⟩ := hf 1 _ rfl
    have e1 : (([c0, c1].drop 1).take (Tryz.prog.cellsOf 41)) = [c1] := by rw [show Tryz.prog.cellsOf 41 = 1 by kernel_rfl]; rfl
    have k1' : DataW.trod enc Tryz.prog w base spare held n 41 [c1] = some y1 := by rw [← e1]; exact k1
    obtain ⟨z1, g1⟩ := opnS_Table k1'
    subst q0'
    exact ⟨⟨z0, z1⟩, by rw [Ip.d_eq]; exact (.cons (.int _ z0) (.cons g1 .nil))⟩
end
end Go.Proofs.YtihclcmgbkkhfaaGreat
