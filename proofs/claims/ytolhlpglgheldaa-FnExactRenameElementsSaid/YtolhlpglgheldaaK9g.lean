/-
  This text holds, one behind the other: This text tells what the laws' measuring functions answer. No condition.
  This text tells what the laws' copying functions answer. No condition.
  This text tells what the laws' comparing functions answer. No condition.
  This text tells what the laws' marks answer. No condition.
  This text tells what the laws read of the marks. No condition.
  This text tells what the laws' marks of a record answer. No condition.
  This text tells how much an interpretation of a small bulk holds. No condition.
  This text tells what the law of RenameElements answers. No condition.
  This text opens arguments: slices of integers, of structs, of tables: what is read as data lies in memory as our words say. No condition.
  This text opens arguments: what is read as data, terms and formulas, lies in memory as our words say. No condition.
  This text turns a function's answer into a walk of the kit's form, and opens arguments that are clauses. No condition.
-/
import Derived.Test.YtolhlpglgheldaaK9c
import Derived.Test.YtolhlpglgheldaaK9f
import Derived.ProofKit
import Derived.Deep.Slices
import Derived.Deep.Fields
import Derived.ChangeSame
import Derived.OpenShut
import Derived.ShutString
import Derived.ChangeOld
open Nat renaming reduceAdd → zA, reduceSub → zB, reduceLT → zC, reduceLeDiff → zD, reduceEqDiff → zE, reduceBEq → zF, reduceBneDiff → zG, reduceMul → zH
open Int renaming reduceToNat → zI, reduceNeg → zJ, reduceAdd → zK
set_option maxRecDepth 100000
set_option linter.unusedSimpArgs false
set_option linter.unusedVariables false
namespace Go.Proofs.Ytolhlpglgheldaa
open Go.RowKit
def c_laws_szIntS : SC := (.seq (.reg [⟨some 4, none, .mv (.c (.int .i64 0))⟩]) (.seq (.reg [⟨some 5, none, .mv (.t 1)⟩, ⟨some 6, none, .mv (.t 0)⟩, ⟨some 7, none, .len false (.t 6)⟩, ⟨some 8, none, .bin .sub false (.t 5) (.t 7)⟩, ⟨some 1, none, .mv (.t 8)⟩]) (.seq (.seq (.reg [⟨some 9, none, .mv (.t 1)⟩, ⟨some 10, none, .bin .lss false (.t 9) (.c (.int .i64 0))⟩]) (.cond (.t 10) (.seq (.reg [⟨some 4, none, .mv (.c (.int .i64 (-(0 + 1))))⟩]) .ret) .skip)) (.seq (.reg [⟨some 11, none, .mv (.t 1)⟩, ⟨some 4, none, .mv (.t 11)⟩]) .ret))))
theorem k_laws_szIntS : codeOf Try.prog 133 = some ⟨12, c_laws_szIntS, [(.tmp 4)]⟩ := by kernel_rfl
theorem m_laws_szIntS : modes 133 = ⟨[], .asis, none, false⟩ := by unfold modes; rfl
abbrev SzTS_int (xs : List Int) : Prop := D.fit (.arr (xs.map (fun s => [D.int s]))) → ∀ left : Int, 0 ≤ left → left ≤ 1048576 → E 133 [.arr (xs.map (fun s => [D.int s])), .int .i64 left] [] = some (.int .i64 (szR left (xs.length : Nat)), [])
theorem szTS_int (xs : List Int) : SzTS_int xs := by
  intro hfit left h0 h1
  simp only [D.fit, List.length_map] at hfit
  have q0 := szR_spec left xs.length
  refine E_walk k_laws_szIntS m_laws_szIntS (of_decide_eq_true rfl) ?_
  simp (disch := omega) only [c_laws_szIntS, go_sem, go_cond, zA, zB, zC, zD, zE, zF, zG, zH, ↓reduceIte, zI, reduceCtorEq, zJ, zK]
  repeat' (refine boolP_split (fun hq => ?_) (fun hq => ?_) <;> (first | replace hq := dec_iff.1 hq | replace hq := dec_not.1 hq) <;> (try simp (disch := omega) only [go_sem, go_cond, zA, zB, zC, zD, zE, zF, zG, zH, ↓reduceIte, zI, reduceCtorEq, zJ, zK]))
  all_goals omega
def c_laws_szTable : SC := (.seq (.reg [⟨some 2, none, .boxv 118 4 (.t 0)⟩, ⟨some 4, none, .mv (.c (.int .i64 0))⟩]) (.seq (.reg [⟨some 5, none, .mv (.t 1)⟩, ⟨some 6, none, .faddr 0 (.t 2)⟩, ⟨some 7, none, .load false 1 (.t 6)⟩, ⟨some 8, none, .len true (.t 7)⟩, ⟨some 9, none, .bin .sub false (.t 5) (.t 8)⟩, ⟨some 1, none, .mv (.t 9)⟩]) (.seq (.seq (.reg [⟨some 10, none, .mv (.t 1)⟩, ⟨some 11, none, .bin .lss false (.t 10) (.c (.int .i64 0))⟩]) (.cond (.t 11) (.seq (.reg [⟨some 4, none, .mv (.c (.int .i64 (-(0 + 1))))⟩]) .ret) .skip)) (.seq (.reg [⟨some 12, none, .faddr 3 (.t 2)⟩, ⟨some 13, none, .load false 1 (.t 12)⟩, ⟨some 14, none, .mv (.t 1)⟩, ⟨some 15, none, .call 133 [(.t 13), (.t 14)]⟩, ⟨some 1, none, .mv (.t 15)⟩]) (.seq (.seq (.reg [⟨some 16, none, .mv (.t 1)⟩, ⟨some 17, none, .bin .lss false (.t 16) (.c (.int .i64 0))⟩]) (.cond (.t 17) (.seq (.reg [⟨some 4, none, .mv (.c (.int .i64 (-(0 + 1))))⟩]) .ret) .skip)) (.seq (.reg [⟨some 18, none, .mv (.t 1)⟩, ⟨some 4, none, .mv (.t 18)⟩]) .ret))))))
theorem k_laws_szTable : codeOf Try.prog 80 = some ⟨19, c_laws_szTable, [(.tmp 4)]⟩ := by kernel_rfl
theorem m_laws_szTable : modes 80 = ⟨[], .asis, none, false⟩ := by unfold modes; rfl
def c_laws_szTableS : SC := (.seq (.reg [⟨some 4, none, .mv (.c (.int .i64 0))⟩]) (.seq (.reg [⟨some 6, none, .mv (.t 1)⟩, ⟨some 7, none, .mv (.t 0)⟩, ⟨some 8, none, .len false (.t 7)⟩, ⟨some 9, none, .bin .sub false (.t 6) (.t 8)⟩, ⟨some 1, none, .mv (.t 9)⟩]) (.seq (.seq (.reg [⟨some 10, none, .mv (.t 1)⟩, ⟨some 11, none, .bin .lss false (.t 10) (.c (.int .i64 0))⟩]) (.cond (.t 11) (.seq (.reg [⟨some 4, none, .mv (.c (.int .i64 (-(0 + 1))))⟩]) .ret) .skip)) (.seq (.seq (.reg [⟨some 5, none, .mv (.c (.int .i64 0))⟩]) (.block 0 (.loop [1, 1, 0, 0, 0, 1, 0, 0, 0, 0, 0, 0, 0, 0, 0, 0, 0, 0, 0, 0, 0, 0, 0, 0, 0, 0, 0] (.seq (.seq (.reg [⟨some 12, none, .mv (.t 5)⟩, ⟨some 13, none, .mv (.t 0)⟩, ⟨some 14, none, .len false (.t 13)⟩, ⟨some 15, none, .bin .lss false (.t 12) (.t 14)⟩]) (.cond (.t 15) .skip (.exit 0))) (.seq (.block 1 (.seq (.reg [⟨some 18, none, .mv (.t 0)⟩, ⟨some 19, none, .mv (.t 5)⟩, ⟨some 20, none, .iaddr 4 (.t 18) (.t 19)⟩, ⟨some 21, none, .load true 4 (.t 20)⟩, ⟨some 22, none, .mv (.t 1)⟩, ⟨some 23, none, .call 80 [(.t 21), (.t 22)]⟩, ⟨some 1, none, .mv (.t 23)⟩]) (.seq (.reg [⟨some 24, none, .mv (.t 1)⟩, ⟨some 25, none, .bin .lss false (.t 24) (.c (.int .i64 0))⟩]) (.cond (.t 25) (.seq (.reg [⟨some 4, none, .mv (.c (.int .i64 (-(0 + 1))))⟩]) .ret) .skip)))) (.reg [⟨some 16, none, .mv (.t 5)⟩, ⟨some 17, none, .bin .add false (.t 16) (.c (.int .i64 1))⟩, ⟨some 5, none, .mv (.t 17)⟩])))))) (.seq (.reg [⟨some 26, none, .mv (.t 1)⟩, ⟨some 4, none, .mv (.t 26)⟩]) .ret)))))
theorem k_laws_szTableS : codeOf Try.prog 43 = some ⟨27, c_laws_szTableS, [(.tmp 4)]⟩ := by kernel_rfl
theorem m_laws_szTableS : modes 43 = ⟨[], .asis, none, false⟩ := by unfold modes; rfl
abbrev SzT_Table (x : Tl) : Prop := D.fits x.d → ∀ left : Int, 0 ≤ left → left ≤ 1048576 → E 80 [x.sv, .int .i64 left] [] = some (.int .i64 (szR left x.bulk), [])
abbrev SzTS_Table (xs : List Tl) : Prop := D.fit (.arr (xs.map Tl.d)) → ∀ left : Int, 0 ≤ left → left ≤ 1048576 → E 43 [.arr (xs.map Tl.d), .int .i64 left] [] = some (.int .i64 (szR left (xs.length + Tl.sumB xs : Nat)), [])
set_option maxHeartbeats 1000000 in
theorem szTS_Table_of (xs : List Tl) (h : ∀ x ∈ xs, SzT_Table x) : SzTS_Table xs := by
  intro hfit left h0 h1
  simp only [D.fit, List.length_map] at hfit
  have q0 := szR_spec left (xs.length + Tl.sumB xs)
  refine E_walk k_laws_szTableS m_laws_szTableS (of_decide_eq_true rfl) ?_
  simp (disch := omega) only [c_laws_szTableS, go_sem, go_cond, zA, zB, zC, zD, zE, zF, zG, zH, ↓reduceIte, zI, reduceCtorEq, zJ, zK]
  repeat' (refine boolP_split (fun hq => ?_) (fun hq => ?_) <;> (first | replace hq := dec_iff.1 hq | replace hq := dec_not.1 hq) <;> (try simp (disch := omega) only [go_sem, go_cond, zA, zB, zC, zD, zE, zF, zG, zH, ↓reduceIte, zI, reduceCtorEq, zJ, zK]))
  · omega
  refine go_loop (α := Int × Int) (fun a => ⟨slots 27 0 [(0, .arr (xs.map Tl.d)), (1, .int .i64 a.2), (5, .int .i64 a.1)], []⟩) (fun a => ∃ k : Nat, a.1 = k ∧ k ≤ xs.length ∧ 0 ≤ a.2 ∧ a.2 ≤ 1048576 ∧ szR a.2 (Tl.sumB (xs.drop k)) = szR left (xs.length + Tl.sumB xs : Nat)) (fun a => xs.length - a.1.toNat) (0, left - xs.length) ⟨0, rfl, Nat.zero_le _, by omega, by omega, ?_⟩ (by simp (disch := omega) only [go_sem, go_cond, zA, zB, zC, zD, zE, zF, zG, zH, ↓reduceIte, zI, reduceCtorEq, zJ, zK]) ?_
  · have q1 := szR_spec (left - xs.length) (Tl.sumB xs)
    rw [List.drop_zero]
    dsimp only
    omega
  · rintro ⟨i, l⟩ ⟨k, hi, hk, hl0, hl1, hs⟩
    dsimp only at hi hl0 hl1 hs
    rcases Nat.lt_or_ge k xs.length with hlt | hge
    · have hg := get_at Tl.d hlt
      rw [Tl.d_eq] at hg
      have hd : Tl.sumB (xs.drop k) = xs[k].bulk + Tl.sumB (xs.drop (k + 1)) := by rw [List.drop_eq_getElem_cons hlt, Tl.sumB]
      rw [hd] at hs
      have hc := h xs[k] (List.getElem_mem hlt) (D.fitss_mem hfit.2 _ (List.getElem_mem hlt)) l hl0 hl1
      have q1 := szR_spec l xs[k].bulk
      have q2 := szR_spec l (xs[k].bulk + Tl.sumB (xs.drop (k + 1)))
      have q3 := szR_spec (l - xs[k].bulk) (Tl.sumB (xs.drop (k + 1)))
      have hn : i.toNat = k := by omega
      simp (disch := omega) only [go_sem, go_cond, zA, zB, zC, zD, zE, zF, zG, zH, ↓reduceIte, zI, reduceCtorEq, zJ, zK, hn, hg, hc, m_laws_szTable]
      repeat' (refine boolP_split (fun hq => ?_) (fun hq => ?_) <;> (first | replace hq := dec_iff.1 hq | replace hq := dec_not.1 hq) <;> (try simp (disch := omega) only [go_sem, go_cond, zA, zB, zC, zD, zE, zF, zG, zH, ↓reduceIte, zI, reduceCtorEq, zJ, zK]))
      · omega
      · refine ⟨(i + 1, l - xs[k].bulk), ⟨k + 1, by dsimp only; omega, hlt, by dsimp only; omega, by dsimp only; omega, by dsimp only; omega⟩, by dsimp only; omega, ?_⟩
        have e : szR l xs[k].bulk = l - xs[k].bulk := by omega
        simp only [e, and_self]
    · have hd : xs.drop k = [] := List.drop_eq_nil_of_le hge
      rw [hd] at hs
      have q1 := szR_spec l (Tl.sumB [])
      simp only [Tl.sumB] at hs q1
      simp (disch := omega) only [go_sem, go_cond, zA, zB, zC, zD, zE, zF, zG, zH, ↓reduceIte, zI, reduceCtorEq, zJ, zK]
      omega
set_option maxHeartbeats 1000000 in
theorem szT_Table_of (x : Tl) (h_vals : SzTS_int x.vals) : SzT_Table x := by
  intro hfit left h0 h1
  rw [Tl.d_eq] at hfit
  simp only [D.fits, D.fit] at hfit
  replace h_vals := h_vals (by simp only [D.fit, List.length_map]; simp only [List.length_map] at hfit; simp only [hfit, and_self])
  have q := szR_spec left x.bulk
  have qb := Tl.bulk_eq x
  have q0 := szR_spec (left - (x.name.size : Int)) (x.vals.length)
  refine E_walk k_laws_szTable m_laws_szTable (of_decide_eq_true rfl) ?_
  simp (disch := omega) only [c_laws_szTable, go_sem, go_cond, zA, zB, zC, zD, zE, zF, zG, zH, ↓reduceIte, zI, reduceCtorEq, zJ, zK, h_vals, m_laws_szIntS]
  repeat' (refine boolP_split (fun hq => ?_) (fun hq => ?_) <;> (first | replace hq := dec_iff.1 hq | replace hq := dec_not.1 hq) <;> (try simp (disch := omega) only [go_sem, go_cond, zA, zB, zC, zD, zE, zF, zG, zH, ↓reduceIte, zI, reduceCtorEq, zJ, zK, h_vals, m_laws_szIntS]))
  all_goals omega
theorem szT_Table (x : Tl) : SzT_Table x := szT_Table_of x (szTS_int x.vals)
def c_laws_szInterpretation : SC := (.seq (.reg [⟨some 2, none, .boxv 36 2 (.t 0)⟩, ⟨some 4, none, .mv (.c (.int .i64 0))⟩]) (.seq (.reg [⟨some 5, none, .faddr 1 (.t 2)⟩, ⟨some 6, none, .load false 1 (.t 5)⟩, ⟨some 7, none, .mv (.t 1)⟩, ⟨some 8, none, .call 43 [(.t 6), (.t 7)]⟩, ⟨some 1, none, .mv (.t 8)⟩]) (.seq (.seq (.reg [⟨some 9, none, .mv (.t 1)⟩, ⟨some 10, none, .bin .lss false (.t 9) (.c (.int .i64 0))⟩]) (.cond (.t 10) (.seq (.reg [⟨some 4, none, .mv (.c (.int .i64 (-(0 + 1))))⟩]) .ret) .skip)) (.seq (.reg [⟨some 11, none, .mv (.t 1)⟩, ⟨some 4, none, .mv (.t 11)⟩]) .ret))))
theorem k_laws_szInterpretation : codeOf Try.prog 15 = some ⟨12, c_laws_szInterpretation, [(.tmp 4)]⟩ := by kernel_rfl
theorem m_laws_szInterpretation : modes 15 = ⟨[], .asis, none, false⟩ := by unfold modes; rfl
abbrev SzT_Interpretation (x : Ip) : Prop := D.fits x.d → ∀ left : Int, 0 ≤ left → left ≤ 1048576 → E 15 [x.sv, .int .i64 left] [] = some (.int .i64 (szR left x.bulk), [])
set_option maxHeartbeats 1000000 in
theorem szT_Interpretation_of (x : Ip) (h_tables : SzTS_Table x.tables) : SzT_Interpretation x := by
  intro hfit left h0 h1
  rw [Ip.d_eq] at hfit
  simp only [D.fits, D.fit] at hfit
  replace h_tables := h_tables (by simp only [D.fit, List.length_map]; simp only [List.length_map] at hfit; simp only [hfit, and_self])
  have q := szR_spec left x.bulk
  have qb := Ip.bulk_eq x
  have q0 := szR_spec left ((x.tables.length + Tl.sumB x.tables))
  refine E_walk k_laws_szInterpretation m_laws_szInterpretation (of_decide_eq_true rfl) ?_
  simp (disch := omega) only [c_laws_szInterpretation, go_sem, go_cond, zA, zB, zC, zD, zE, zF, zG, zH, ↓reduceIte, zI, reduceCtorEq, zJ, zK, h_tables, m_laws_szTableS]
  repeat' (refine boolP_split (fun hq => ?_) (fun hq => ?_) <;> (first | replace hq := dec_iff.1 hq | replace hq := dec_not.1 hq) <;> (try simp (disch := omega) only [go_sem, go_cond, zA, zB, zC, zD, zE, zF, zG, zH, ↓reduceIte, zI, reduceCtorEq, zJ, zK, h_tables, m_laws_szTableS]))
  all_goals omega
theorem szT_Interpretation (x : Ip) : SzT_Interpretation x := szT_Interpretation_of x (szTS_Table_of x.tables fun y hy => szT_Table y)
def c_laws_toIntS : SC := (.seq (.reg [⟨some 2, none, .mv (.c .nil)⟩]) (.seq (.reg [⟨some 5, none, .mv (.t 0)⟩, ⟨some 6, none, .len false (.t 5)⟩, ⟨some 7, none, .mkslice 3 1 8 [(.int .i64 0)] (.t 6)⟩, ⟨some 3, none, .mv (.t 7)⟩]) (.seq (.seq (.reg [⟨some 4, none, .mv (.c (.int .i64 0))⟩]) (.block 0 (.loop [1, 0, 0, 1, 1, 0, 0, 0, 0, 0, 0, 0, 0, 0, 0, 0, 0, 0, 0, 0, 0, 0] (.seq (.seq (.reg [⟨some 8, none, .mv (.t 4)⟩, ⟨some 9, none, .mv (.t 0)⟩, ⟨some 10, none, .len false (.t 9)⟩, ⟨some 11, none, .bin .lss false (.t 8) (.t 10)⟩]) (.cond (.t 11) .skip (.exit 0))) (.seq (.block 1 (.reg [⟨some 14, none, .mv (.t 3)⟩, ⟨some 15, none, .mv (.t 4)⟩, ⟨some 16, none, .mv (.t 0)⟩, ⟨some 17, none, .mv (.t 4)⟩, ⟨some 18, none, .iaddr 1 (.t 16) (.t 17)⟩, ⟨some 19, none, .load false 1 (.t 18)⟩, ⟨some 20, none, .iaddr 1 (.t 14) (.t 15)⟩, ⟨none, none, (.store 1 (.t 20) (.t 19))⟩])) (.reg [⟨some 12, none, .mv (.t 4)⟩, ⟨some 13, none, .bin .add false (.t 12) (.c (.int .i64 1))⟩, ⟨some 4, none, .mv (.t 13)⟩])))))) (.seq (.reg [⟨some 21, none, .mv (.t 3)⟩, ⟨some 2, none, .mv (.t 21)⟩]) .ret))))
theorem k_laws_toIntS : codeOf Try.prog 18 = some ⟨22, c_laws_toIntS, [(.tmp 2)]⟩ := by kernel_rfl
theorem m_laws_toIntS : modes 18 = ⟨[], .asis, none, false⟩ := by unfold modes; rfl
abbrev ToTS_int (xs : List Int) : Prop := xs.length ≤ 1048576 → E 18 [.arr (xs.map (fun s => [D.int s]))] [] = some (.ref 0, [.row 3 1 (xs.map (fun s => [OT.int s]))])
set_option maxHeartbeats 1000000 in
theorem toTS_int (xs : List Int) : ToTS_int xs := by
  intro hb
  refine E_walk k_laws_toIntS m_laws_toIntS (of_decide_eq_true rfl) ?_
  simp (disch := omega) only [c_laws_toIntS, go_sem, go_cond, zA, zB, zC, zD, zE, zF, zG, zH, ↓reduceIte, zI, reduceCtorEq, zJ, zK]
  refine go_loop (α := Int) (fun i => ⟨slots 22 0 [(0, .arr (xs.map (fun s => [D.int s]))), (3, .ref 0), (4, .int .i64 i)], [.row 3 1 (fillR (fun s => [OT.int s]) [.int 0] xs i.toNat)]⟩) (fun i => ∃ k : Nat, i = k ∧ k ≤ xs.length) (fun i => xs.length - i.toNat) 0 ⟨0, rfl, Nat.zero_le _⟩ (by simp (disch := omega) only [go_sem, go_cond, zA, zB, zC, zD, zE, zF, zG, zH, ↓reduceIte, zI, reduceCtorEq, zJ, zK, fillR_zero, Int.toNat_zero]) ?_
  · rintro i ⟨k, rfl, hk⟩
    obtain ⟨i, hi⟩ : ∃ i : Int, i = (k : Int) := ⟨_, rfl⟩
    rw [← hi]
    have hn : i.toNat = k := by omega
    have hn1 : (i + 1).toNat = k + 1 := by omega
    rcases Nat.lt_or_ge k xs.length with hlt | hge
    · have hg := get_at (fun s => [D.int s]) hlt
      have hz := fillR_get (fun s => [OT.int s]) [.int 0] hlt
      have hs := fillR_set (fun s => [OT.int s]) [.int 0] hlt
      simp (disch := omega) only [go_sem, go_cond, zA, zB, zC, zD, zE, zF, zG, zH, ↓reduceIte, zI, reduceCtorEq, zJ, zK, hn, hg, hz, fillR_len]
      refine ⟨i + 1, ⟨k + 1, by omega, hlt⟩, by omega, ?_⟩
      simp (disch := omega) only [go_sem, go_cond, zA, zB, zC, zD, zE, zF, zG, zH, ↓reduceIte, zI, reduceCtorEq, zJ, zK, hn1, hs]
    · obtain rfl : k = xs.length := by omega
      simp (disch := omega) only [go_sem, go_cond, zA, zB, zC, zD, zE, zF, zG, zH, ↓reduceIte, zI, reduceCtorEq, zJ, zK, hn, fillR_end]
def c_laws_toTable : SC := (.seq (.reg [⟨some 1, none, .boxv 118 4 (.t 0)⟩, ⟨(some 2), none, (.alloc 80 [(.str ⟨#[]⟩), (.int .i64 0), (.bool false), .nil])⟩]) (.seq (.reg [⟨(some 3), none, (.alloc 80 [(.str ⟨#[]⟩), (.int .i64 0), (.bool false), .nil])⟩]) (.seq (.reg [⟨some 4, none, .faddr 0 (.t 1)⟩, ⟨some 5, none, .load false 1 (.t 4)⟩, ⟨some 6, none, .faddr 0 (.t 3)⟩, ⟨none, none, (.store 1 (.t 6) (.t 5))⟩]) (.seq (.reg [⟨some 7, none, .faddr 1 (.t 1)⟩, ⟨some 8, none, .load false 1 (.t 7)⟩, ⟨some 9, none, .faddr 1 (.t 3)⟩, ⟨none, none, (.store 1 (.t 9) (.t 8))⟩]) (.seq (.reg [⟨some 10, none, .faddr 2 (.t 1)⟩, ⟨some 11, none, .load false 1 (.t 10)⟩, ⟨some 12, none, .faddr 2 (.t 3)⟩, ⟨none, none, (.store 1 (.t 12) (.t 11))⟩]) (.seq (.reg [⟨some 13, none, .faddr 3 (.t 1)⟩, ⟨some 14, none, .load false 1 (.t 13)⟩, ⟨some 15, none, .call 18 [(.t 14)]⟩, ⟨some 16, none, .faddr 3 (.t 3)⟩, ⟨none, none, (.store 1 (.t 16) (.t 15))⟩]) (.seq (.reg [⟨some 17, none, .load true 4 (.t 3)⟩, ⟨none, none, (.store 4 (.t 2) (.t 17))⟩]) .ret)))))))
theorem k_laws_toTable : codeOf Try.prog 83 = some ⟨18, c_laws_toTable, [(.cell 2 true 4)]⟩ := by kernel_rfl
theorem m_laws_toTable : modes 83 = ⟨[], .asis, none, false⟩ := by unfold modes; rfl
def c_laws_toTableS : SC := (.seq (.reg [⟨some 2, none, .mv (.c .nil)⟩]) (.seq (.reg [⟨some 5, none, .mv (.t 0)⟩, ⟨some 6, none, .len false (.t 5)⟩, ⟨(some 7), none, (.mkslice 80 4 56 [(.str ⟨#[]⟩), (.int .i64 0), (.bool false), .nil] (.t 6))⟩, ⟨some 3, none, .mv (.t 7)⟩]) (.seq (.seq (.reg [⟨some 4, none, .mv (.c (.int .i64 0))⟩]) (.block 0 (.loop [1, 0, 0, 1, 1, 0, 0, 0, 0, 0, 0, 0, 0, 0, 0, 0, 0, 0, 0, 0, 0, 0, 0] (.seq (.seq (.reg [⟨some 8, none, .mv (.t 4)⟩, ⟨some 9, none, .mv (.t 0)⟩, ⟨some 10, none, .len false (.t 9)⟩, ⟨some 11, none, .bin .lss false (.t 8) (.t 10)⟩]) (.cond (.t 11) .skip (.exit 0))) (.seq (.block 1 (.reg [⟨some 14, none, .mv (.t 3)⟩, ⟨some 15, none, .mv (.t 4)⟩, ⟨some 16, none, .mv (.t 0)⟩, ⟨some 17, none, .mv (.t 4)⟩, ⟨some 18, none, .iaddr 4 (.t 16) (.t 17)⟩, ⟨some 19, none, .load true 4 (.t 18)⟩, ⟨some 20, none, .call 83 [(.t 19)]⟩, ⟨some 21, none, .iaddr 4 (.t 14) (.t 15)⟩, ⟨none, none, (.store 4 (.t 21) (.t 20))⟩])) (.reg [⟨some 12, none, .mv (.t 4)⟩, ⟨some 13, none, .bin .add false (.t 12) (.c (.int .i64 1))⟩, ⟨some 4, none, .mv (.t 13)⟩])))))) (.seq (.reg [⟨some 22, none, .mv (.t 3)⟩, ⟨some 2, none, .mv (.t 22)⟩]) .ret))))
theorem k_laws_toTableS : codeOf Try.prog 47 = some ⟨23, c_laws_toTableS, [(.tmp 2)]⟩ := by kernel_rfl
theorem m_laws_toTableS : modes 47 = ⟨[], .asis, none, false⟩ := by unfold modes; rfl
abbrev ToT_Table (x : Tl) : Prop := x.bulk ≤ 1048576 → E 83 [x.sv] [] = some (x.osv, x.obs)
abbrev ToTS_Table (xs : List Tl) : Prop := xs.length + Tl.sumB xs ≤ 1048576 → E 47 [.arr (xs.map Tl.d)] [] = some (.ref 0, [.row 80 4 (xs.map Tl.o)])
set_option maxHeartbeats 1000000 in
theorem toTS_Table_of (xs : List Tl) (h : ∀ x ∈ xs, ToT_Table x) : ToTS_Table xs := by
  intro hb
  refine E_walk k_laws_toTableS m_laws_toTableS (of_decide_eq_true rfl) ?_
  simp (disch := omega) only [c_laws_toTableS, go_sem, go_cond, zA, zB, zC, zD, zE, zF, zG, zH, ↓reduceIte, zI, reduceCtorEq, zJ, zK]
  refine go_loop (α := Int) (fun i => ⟨slots 23 0 [(0, .arr (xs.map Tl.d)), (3, .ref 0), (4, .int .i64 i)], [.row 80 4 (fillR Tl.o [.str ⟨#[]⟩, .int 0, .bool false, .ow []] xs i.toNat)]⟩) (fun i => ∃ k : Nat, i = k ∧ k ≤ xs.length) (fun i => xs.length - i.toNat) 0 ⟨0, rfl, Nat.zero_le _⟩ (by simp (disch := omega) only [go_sem, go_cond, zA, zB, zC, zD, zE, zF, zG, zH, ↓reduceIte, zI, reduceCtorEq, zJ, zK, fillR_zero, Int.toNat_zero]) ?_
  · rintro i ⟨k, rfl, hk⟩
    obtain ⟨i, hi⟩ : ∃ i : Int, i = (k : Int) := ⟨_, rfl⟩
    rw [← hi]
    have hn : i.toNat = k := by omega
    have hn1 : (i + 1).toNat = k + 1 := by omega
    rcases Nat.lt_or_ge k xs.length with hlt | hge
    · have hg := get_at Tl.d hlt
      rw [Tl.d_eq] at hg
      have hz := fillR_get Tl.o [.str ⟨#[]⟩, .int 0, .bool false, .ow []] hlt
      have hle := Tl.bulk_le xs k hlt
      have hc := h xs[k] (List.getElem_mem hlt) (by omega)
      have hs := fillR_set Tl.o [.str ⟨#[]⟩, .int 0, .bool false, .ow []] hlt
      rw [Tl.o_eq] at hs
      simp (disch := omega) only [go_sem, go_cond, zA, zB, zC, zD, zE, zF, zG, zH, ↓reduceIte, zI, reduceCtorEq, zJ, zK, hn, hg, hc, hz, fillR_len, m_laws_toTable, Tl.osv, Tl.obs]
      refine ⟨i + 1, ⟨k + 1, by omega, hlt⟩, by omega, ?_⟩
      simp (disch := omega) only [go_sem, go_cond, zA, zB, zC, zD, zE, zF, zG, zH, ↓reduceIte, zI, reduceCtorEq, zJ, zK, hn1, hs]
    · obtain rfl : k = xs.length := by omega
      simp (disch := omega) only [go_sem, go_cond, zA, zB, zC, zD, zE, zF, zG, zH, ↓reduceIte, zI, reduceCtorEq, zJ, zK, hn, fillR_end]
set_option maxHeartbeats 1000000 in
theorem toT_Table_of (x : Tl) (h_vals : ToTS_int x.vals) : ToT_Table x := by
  intro hb
  have qb := Tl.bulk_eq x
  replace h_vals := h_vals (by omega)
  refine E_walk k_laws_toTable m_laws_toTable (of_decide_eq_true rfl) ?_
  simp (disch := omega) only [c_laws_toTable, go_sem, go_cond, zA, zB, zC, zD, zE, zF, zG, zH, ↓reduceIte, zI, reduceCtorEq, zJ, zK, h_vals, m_laws_toIntS]
theorem toT_Table (x : Tl) : ToT_Table x := toT_Table_of x (toTS_int x.vals)
def c_laws_toInterpretation : SC := (.seq (.reg [⟨some 1, none, .boxv 36 2 (.t 0)⟩, ⟨some 2, none, .alloc 40 [(.int .i64 0), .nil]⟩]) (.seq (.reg [⟨some 3, none, .alloc 40 [(.int .i64 0), .nil]⟩]) (.seq (.reg [⟨some 4, none, .faddr 0 (.t 1)⟩, ⟨some 5, none, .load false 1 (.t 4)⟩, ⟨some 6, none, .faddr 0 (.t 3)⟩, ⟨none, none, (.store 1 (.t 6) (.t 5))⟩]) (.seq (.reg [⟨some 7, none, .faddr 1 (.t 1)⟩, ⟨some 8, none, .load false 1 (.t 7)⟩, ⟨some 9, none, .call 47 [(.t 8)]⟩, ⟨some 10, none, .faddr 1 (.t 3)⟩, ⟨none, none, (.store 1 (.t 10) (.t 9))⟩]) (.seq (.reg [⟨some 11, none, .load true 2 (.t 3)⟩, ⟨none, none, (.store 2 (.t 2) (.t 11))⟩]) .ret)))))
theorem k_laws_toInterpretation : codeOf Try.prog 17 = some ⟨12, c_laws_toInterpretation, [(.cell 2 true 2)]⟩ := by kernel_rfl
theorem m_laws_toInterpretation : modes 17 = ⟨[], .asis, none, false⟩ := by unfold modes; rfl
abbrev ToT_Interpretation (x : Ip) : Prop := x.bulk ≤ 1048576 → E 17 [x.sv] [] = some (x.osv, x.obs)
set_option maxHeartbeats 1000000 in
theorem toT_Interpretation_of (x : Ip) (h_tables : ToTS_Table x.tables) : ToT_Interpretation x := by
  intro hb
  have qb := Ip.bulk_eq x
  replace h_tables := h_tables (by omega)
  refine E_walk k_laws_toInterpretation m_laws_toInterpretation (of_decide_eq_true rfl) ?_
  simp (disch := omega) only [c_laws_toInterpretation, go_sem, go_cond, zA, zB, zC, zD, zE, zF, zG, zH, ↓reduceIte, zI, reduceCtorEq, zJ, zK, h_tables, m_laws_toTableS]
theorem toT_Interpretation (x : Ip) : ToT_Interpretation x := toT_Interpretation_of x (toTS_Table_of x.tables fun y hy => toT_Table y)
def c_laws_eqIntS : SC := (.seq (.reg [⟨some 4, none, .mv (.c (.bool false))⟩]) (.seq (.seq (.reg [⟨some 6, none, .mv (.t 0)⟩, ⟨some 7, none, .len false (.t 6)⟩, ⟨some 8, none, .mv (.t 1)⟩, ⟨some 9, none, .len false (.t 8)⟩, ⟨some 10, none, .bin .neq false (.t 7) (.t 9)⟩]) (.cond (.t 10) (.seq (.reg [⟨some 4, none, .mv (.c (.bool false))⟩]) .ret) .skip)) (.seq (.seq (.reg [⟨some 5, none, .mv (.c (.int .i64 0))⟩]) (.block 0 (.loop [1, 1, 0, 0, 0, 1, 0, 0, 0, 0, 0, 0, 0, 0, 0, 0, 0, 0, 0, 0, 0, 0, 0, 0, 0, 0] (.seq (.seq (.reg [⟨some 11, none, .mv (.t 5)⟩, ⟨some 12, none, .mv (.t 0)⟩, ⟨some 13, none, .len false (.t 12)⟩, ⟨some 14, none, .bin .lss false (.t 11) (.t 13)⟩]) (.cond (.t 14) .skip (.exit 0))) (.seq (.block 1 (.seq (.dreg [[], [], [0, 1], [2, 0, 1], [], [], [4, 5], [6, 4, 5], [3, 2, 0, 1, 7, 6, 4, 5]] [⟨some 17, none, .mv (.t 0)⟩, ⟨some 18, none, .mv (.t 5)⟩, ⟨some 19, none, .iaddr 1 (.t 17) (.t 18)⟩, ⟨some 20, none, .load false 1 (.t 19)⟩, ⟨some 21, none, .mv (.t 1)⟩, ⟨some 22, none, .mv (.t 5)⟩, ⟨some 23, none, .iaddr 1 (.t 21) (.t 22)⟩, ⟨some 24, none, .load false 1 (.t 23)⟩, ⟨some 25, none, .bin .neq false (.t 20) (.t 24)⟩]) (.cond (.t 25) (.seq (.reg [⟨some 4, none, .mv (.c (.bool false))⟩]) .ret) .skip))) (.reg [⟨some 15, none, .mv (.t 5)⟩, ⟨some 16, none, .bin .add false (.t 15) (.c (.int .i64 1))⟩, ⟨some 5, none, .mv (.t 16)⟩])))))) (.seq (.reg [⟨some 4, none, .mv (.c (.bool true))⟩]) .ret))))
theorem k_laws_eqIntS : codeOf Try.prog 21 = some ⟨26, c_laws_eqIntS, [(.tmp 4)]⟩ := by kernel_rfl
theorem m_laws_eqIntS : modes 21 = ⟨[], .asis, none, false⟩ := by unfold modes; rfl
abbrev EqTS_int (xs : List Int) : Prop := xs.length ≤ 1048576 → E 21 [.arr (xs.map (fun s => [D.int s])), .arr (xs.map (fun s => [D.int s]))] [] = some (.bool true, [])
set_option maxHeartbeats 1000000 in
theorem eqTS_int (xs : List Int) : EqTS_int xs := by
  intro hb
  refine E_walk k_laws_eqIntS m_laws_eqIntS (of_decide_eq_true rfl) ?_
  simp (disch := omega) only [c_laws_eqIntS, go_sem, go_cond, zA, zB, zC, zD, zE, zF, zG, zH, ↓reduceIte, zI, reduceCtorEq, zJ, zK]
  refine go_loop (α := Int) (fun i => ⟨slots 26 0 [(0, .arr (xs.map (fun s => [D.int s]))), (1, .arr (xs.map (fun s => [D.int s]))), (5, .int .i64 i)], []⟩) (fun i => ∃ k : Nat, i = k ∧ k ≤ xs.length) (fun i => xs.length - i.toNat) 0 ⟨0, rfl, Nat.zero_le _⟩ (by simp (disch := omega) only [go_sem, go_cond, zA, zB, zC, zD, zE, zF, zG, zH, ↓reduceIte, zI, reduceCtorEq, zJ, zK]) ?_
  · rintro i ⟨k, rfl, hk⟩
    obtain ⟨i, hi⟩ : ∃ i : Int, i = (k : Int) := ⟨_, rfl⟩
    rw [← hi]
    have hn : i.toNat = k := by omega
    rcases Nat.lt_or_ge k xs.length with hlt | hge
    · have hg := get_at (fun s => [D.int s]) hlt
      simp (disch := omega) only [go_sem, go_cond, zA, zB, zC, zD, zE, zF, zG, zH, ↓reduceIte, zI, reduceCtorEq, zJ, zK, hn, hg, dec_refl]
      refine ⟨i + 1, ⟨k + 1, by omega, hlt⟩, by omega, ?_⟩
      trivial
    · obtain rfl : k = xs.length := by omega
      simp (disch := omega) only [go_sem, go_cond, zA, zB, zC, zD, zE, zF, zG, zH, ↓reduceIte, zI, reduceCtorEq, zJ, zK, hn]
def c_laws_eqTable : SC := (.seq (.reg [⟨some 2, none, .boxv 80 4 (.t 0)⟩, ⟨some 3, none, .boxv 80 4 (.t 1)⟩, ⟨some 4, none, .mv (.c (.bool false))⟩]) (.seq (.seq (.reg [⟨some 5, none, .faddr 0 (.t 2)⟩, ⟨some 6, none, .load false 1 (.t 5)⟩, ⟨some 7, none, .faddr 0 (.t 3)⟩, ⟨some 8, none, .load false 1 (.t 7)⟩, ⟨some 9, none, .bin .neq false (.t 6) (.t 8)⟩]) (.cond (.t 9) (.seq (.reg [⟨some 4, none, .mv (.c (.bool false))⟩]) .ret) .skip)) (.seq (.seq (.reg [⟨some 10, none, .faddr 1 (.t 2)⟩, ⟨some 11, none, .load false 1 (.t 10)⟩, ⟨some 12, none, .faddr 1 (.t 3)⟩, ⟨some 13, none, .load false 1 (.t 12)⟩, ⟨some 14, none, .bin .neq false (.t 11) (.t 13)⟩]) (.cond (.t 14) (.seq (.reg [⟨some 4, none, .mv (.c (.bool false))⟩]) .ret) .skip)) (.seq (.seq (.reg [⟨some 15, none, .faddr 2 (.t 2)⟩, ⟨some 16, none, .load false 1 (.t 15)⟩, ⟨some 17, none, .faddr 2 (.t 3)⟩, ⟨some 18, none, .load false 1 (.t 17)⟩, ⟨some 19, none, .bin .neq true (.t 16) (.t 18)⟩]) (.cond (.t 19) (.seq (.reg [⟨some 4, none, .mv (.c (.bool false))⟩]) .ret) .skip)) (.seq (.seq (.reg [⟨some 20, none, .faddr 3 (.t 2)⟩, ⟨some 21, none, .load false 1 (.t 20)⟩, ⟨some 22, none, .faddr 3 (.t 3)⟩, ⟨some 23, none, .load false 1 (.t 22)⟩, ⟨some 24, none, .call 21 [(.t 21), (.t 23)]⟩, ⟨some 25, none, .un .not (.t 24)⟩]) (.cond (.t 25) (.seq (.reg [⟨some 4, none, .mv (.c (.bool false))⟩]) .ret) .skip)) (.seq (.reg [⟨some 4, none, .mv (.c (.bool true))⟩]) .ret))))))
theorem k_laws_eqTable : codeOf Try.prog 38 = some ⟨26, c_laws_eqTable, [(.tmp 4)]⟩ := by kernel_rfl
theorem m_laws_eqTable : modes 38 = ⟨[], .asis, none, false⟩ := by unfold modes; rfl
def c_laws_eqTableS : SC := (.seq (.reg [⟨some 4, none, .mv (.c (.bool false))⟩]) (.seq (.seq (.reg [⟨some 6, none, .mv (.t 0)⟩, ⟨some 7, none, .len false (.t 6)⟩, ⟨some 8, none, .mv (.t 1)⟩, ⟨some 9, none, .len false (.t 8)⟩, ⟨some 10, none, .bin .neq false (.t 7) (.t 9)⟩]) (.cond (.t 10) (.seq (.reg [⟨some 4, none, .mv (.c (.bool false))⟩]) .ret) .skip)) (.seq (.seq (.reg [⟨some 5, none, .mv (.c (.int .i64 0))⟩]) (.block 0 (.loop [1, 1, 0, 0, 0, 1, 0, 0, 0, 0, 0, 0, 0, 0, 0, 0, 0, 0, 0, 0, 0, 0, 0, 0, 0, 0, 0] (.seq (.seq (.reg [⟨some 11, none, .mv (.t 5)⟩, ⟨some 12, none, .mv (.t 0)⟩, ⟨some 13, none, .len false (.t 12)⟩, ⟨some 14, none, .bin .lss false (.t 11) (.t 13)⟩]) (.cond (.t 14) .skip (.exit 0))) (.seq (.block 1 (.seq (.dreg [[], [], [0, 1], [2, 0, 1], [], [], [4, 5], [6, 4, 5], [3, 2, 0, 1, 7, 6, 4, 5], [8, 3, 2, 0, 1, 7, 6, 4, 5]] [⟨some 17, none, .mv (.t 0)⟩, ⟨some 18, none, .mv (.t 5)⟩, ⟨some 19, none, .iaddr 4 (.t 17) (.t 18)⟩, ⟨some 20, none, .load true 4 (.t 19)⟩, ⟨some 21, none, .mv (.t 1)⟩, ⟨some 22, none, .mv (.t 5)⟩, ⟨some 23, none, .iaddr 4 (.t 21) (.t 22)⟩, ⟨some 24, none, .load true 4 (.t 23)⟩, ⟨some 25, none, .call 38 [(.t 20), (.t 24)]⟩, ⟨some 26, none, .un .not (.t 25)⟩]) (.cond (.t 26) (.seq (.reg [⟨some 4, none, .mv (.c (.bool false))⟩]) .ret) .skip))) (.reg [⟨some 15, none, .mv (.t 5)⟩, ⟨some 16, none, .bin .add false (.t 15) (.c (.int .i64 1))⟩, ⟨some 5, none, .mv (.t 16)⟩])))))) (.seq (.reg [⟨some 4, none, .mv (.c (.bool true))⟩]) .ret))))
theorem k_laws_eqTableS : codeOf Try.prog 10 = some ⟨27, c_laws_eqTableS, [(.tmp 4)]⟩ := by kernel_rfl
theorem m_laws_eqTableS : modes 10 = ⟨[], .asis, none, false⟩ := by unfold modes; rfl
abbrev EqT_Table (x : Tl) : Prop := x.bulk ≤ 1048576 → E 38 [x.sv, x.sv] [] = some (.bool true, [])
abbrev EqTS_Table (xs : List Tl) : Prop := xs.length + Tl.sumB xs ≤ 1048576 → E 10 [.arr (xs.map Tl.d), .arr (xs.map Tl.d)] [] = some (.bool true, [])
set_option maxHeartbeats 1000000 in
theorem eqTS_Table_of (xs : List Tl) (h : ∀ x ∈ xs, EqT_Table x) : EqTS_Table xs := by
  intro hb
  refine E_walk k_laws_eqTableS m_laws_eqTableS (of_decide_eq_true rfl) ?_
  simp (disch := omega) only [c_laws_eqTableS, go_sem, go_cond, zA, zB, zC, zD, zE, zF, zG, zH, ↓reduceIte, zI, reduceCtorEq, zJ, zK]
  refine go_loop (α := Int) (fun i => ⟨slots 27 0 [(0, .arr (xs.map Tl.d)), (1, .arr (xs.map Tl.d)), (5, .int .i64 i)], []⟩) (fun i => ∃ k : Nat, i = k ∧ k ≤ xs.length) (fun i => xs.length - i.toNat) 0 ⟨0, rfl, Nat.zero_le _⟩ (by simp (disch := omega) only [go_sem, go_cond, zA, zB, zC, zD, zE, zF, zG, zH, ↓reduceIte, zI, reduceCtorEq, zJ, zK]) ?_
  · rintro i ⟨k, rfl, hk⟩
    obtain ⟨i, hi⟩ : ∃ i : Int, i = (k : Int) := ⟨_, rfl⟩
    rw [← hi]
    have hn : i.toNat = k := by omega
    rcases Nat.lt_or_ge k xs.length with hlt | hge
    · have hg := get_at Tl.d hlt
      rw [Tl.d_eq] at hg
      have hle := Tl.bulk_le xs k hlt
      have hc := h xs[k] (List.getElem_mem hlt) (by omega)
      simp (disch := omega) only [go_sem, go_cond, zA, zB, zC, zD, zE, zF, zG, zH, ↓reduceIte, zI, reduceCtorEq, zJ, zK, hn, hg, hc, m_laws_eqTable]
      refine ⟨i + 1, ⟨k + 1, by omega, hlt⟩, by omega, ?_⟩
      trivial
    · obtain rfl : k = xs.length := by omega
      simp (disch := omega) only [go_sem, go_cond, zA, zB, zC, zD, zE, zF, zG, zH, ↓reduceIte, zI, reduceCtorEq, zJ, zK, hn]
set_option maxHeartbeats 1000000 in
theorem eqT_Table_of (x : Tl) (h_vals : EqTS_int x.vals) : EqT_Table x := by
  intro hb
  have qb := Tl.bulk_eq x
  replace h_vals := h_vals (by omega)
  refine E_walk k_laws_eqTable m_laws_eqTable (of_decide_eq_true rfl) ?_
  simp (disch := omega) only [c_laws_eqTable, go_sem, go_cond, zA, zB, zC, zD, zE, zF, zG, zH, ↓reduceIte, zI, reduceCtorEq, zJ, zK, h_vals, m_laws_eqIntS, dec_refl]
theorem eqT_Table (x : Tl) : EqT_Table x := eqT_Table_of x (eqTS_int x.vals)
def c_laws_eqInterpretation : SC := (.seq (.reg [⟨some 2, none, .boxv 40 2 (.t 0)⟩, ⟨some 3, none, .boxv 40 2 (.t 1)⟩, ⟨some 4, none, .mv (.c (.bool false))⟩]) (.seq (.seq (.reg [⟨some 5, none, .faddr 0 (.t 2)⟩, ⟨some 6, none, .load false 1 (.t 5)⟩, ⟨some 7, none, .faddr 0 (.t 3)⟩, ⟨some 8, none, .load false 1 (.t 7)⟩, ⟨some 9, none, .bin .neq false (.t 6) (.t 8)⟩]) (.cond (.t 9) (.seq (.reg [⟨some 4, none, .mv (.c (.bool false))⟩]) .ret) .skip)) (.seq (.seq (.reg [⟨some 10, none, .faddr 1 (.t 2)⟩, ⟨some 11, none, .load false 1 (.t 10)⟩, ⟨some 12, none, .faddr 1 (.t 3)⟩, ⟨some 13, none, .load false 1 (.t 12)⟩, ⟨some 14, none, .call 10 [(.t 11), (.t 13)]⟩, ⟨some 15, none, .un .not (.t 14)⟩]) (.cond (.t 15) (.seq (.reg [⟨some 4, none, .mv (.c (.bool false))⟩]) .ret) .skip)) (.seq (.reg [⟨some 4, none, .mv (.c (.bool true))⟩]) .ret))))
theorem k_laws_eqInterpretation : codeOf Try.prog 20 = some ⟨16, c_laws_eqInterpretation, [(.tmp 4)]⟩ := by kernel_rfl
theorem m_laws_eqInterpretation : modes 20 = ⟨[], .asis, none, false⟩ := by unfold modes; rfl
abbrev EqT_Interpretation (x : Ip) : Prop := x.bulk ≤ 1048576 → E 20 [x.sv, x.sv] [] = some (.bool true, [])
set_option maxHeartbeats 1000000 in
theorem eqT_Interpretation_of (x : Ip) (h_tables : EqTS_Table x.tables) : EqT_Interpretation x := by
  intro hb
  have qb := Ip.bulk_eq x
  replace h_tables := h_tables (by omega)
  refine E_walk k_laws_eqInterpretation m_laws_eqInterpretation (of_decide_eq_true rfl) ?_
  simp (disch := omega) only [c_laws_eqInterpretation, go_sem, go_cond, zA, zB, zC, zD, zE, zF, zG, zH, ↓reduceIte, zI, reduceCtorEq, zJ, zK, h_tables, m_laws_eqTableS, dec_refl]
theorem eqT_Interpretation (x : Ip) : EqT_Interpretation x := eqT_Interpretation_of x (eqTS_Table_of x.tables fun y hy => eqT_Table y)
def In.wtS (xs : List Int) : Nat := xs.length
noncomputable def In.mkS : List Int → Int → List Int × Int
  | [], k => ([], k)
  | _ :: xs, k => (k :: (In.mkS xs (k + 1)).1, (In.mkS xs (k + 1)).2)
theorem In.mkS_end : ∀ (xs : List Int) (k : Int), (In.mkS xs k).2 = k + In.wtS xs
  | [], k => by simp [In.mkS, In.wtS]
  | x :: xs, k => by
    have h := In.mkS_end xs (k + 1)
    unfold In.wtS at h ⊢
    rw [In.mkS]
    simp only [List.length_cons]
    omega
theorem In.mkS_len : ∀ (xs : List Int) (k : Int), (In.mkS xs k).1.length = xs.length
  | [], k => by rw [In.mkS]
  | x :: xs, k => by rw [In.mkS]; simp only [List.length_cons]; rw [In.mkS_len xs]
theorem In.wtS_bulk (xs : List Int) : In.wtS xs ≤ 5 * xs.length := by
  unfold In.wtS
  omega
def c_laws_markIntS : SC := (.seq (.reg [⟨some 4, none, .mv (.c (.int .i64 0))⟩]) (.seq (.seq (.reg [⟨some 5, none, .mv (.c (.int .i64 0))⟩]) (.block 0 (.loop [1, 1, 0, 0, 0, 1, 0, 0, 0, 0, 0, 0, 0, 0, 0, 0, 0, 0, 0] (.seq (.seq (.reg [⟨some 6, none, .mv (.t 5)⟩, ⟨some 7, none, .mv (.t 0)⟩, ⟨some 8, none, .len false (.t 7)⟩, ⟨some 9, none, .bin .lss false (.t 6) (.t 8)⟩]) (.cond (.t 9) .skip (.exit 0))) (.seq (.block 1 (.seq (.reg [⟨some 12, none, .mv (.t 0)⟩, ⟨some 13, none, .mv (.t 5)⟩, ⟨some 14, none, .mv (.t 1)⟩, ⟨some 15, none, .iaddr 1 (.t 12) (.t 13)⟩, ⟨none, none, (.store 1 (.t 15) (.t 14))⟩]) (.reg [⟨some 16, none, .mv (.t 1)⟩, ⟨some 17, none, .bin .add false (.t 16) (.c (.int .i64 1))⟩, ⟨some 1, none, .mv (.t 17)⟩]))) (.reg [⟨some 10, none, .mv (.t 5)⟩, ⟨some 11, none, .bin .add false (.t 10) (.c (.int .i64 1))⟩, ⟨some 5, none, .mv (.t 11)⟩])))))) (.seq (.reg [⟨some 18, none, .mv (.t 1)⟩, ⟨some 4, none, .mv (.t 18)⟩]) .ret)))
theorem k_laws_markIntS : codeOf Try.prog 23 = some ⟨19, c_laws_markIntS, [(.tmp 4)]⟩ := by kernel_rfl
theorem m_laws_markIntS : modes 23 = ⟨[true], .asis, none, true⟩ := by unfold modes; rfl
abbrev MarkTS_int (xs : List Int) : Prop := ∀ (k : Int) (ob : List Ob), 1 ≤ k → k + In.wtS xs ≤ 1099511627776 → toTree ob = [.tree (xs.map (fun s => [OT.int s])) []] → E 23 [.ref 0, .int .i64 k] ob = some (.int .i64 (In.mkS xs k).2, [.tree ((In.mkS xs k).1.map (fun s => [OT.int s])) []])
set_option maxHeartbeats 2000000 in
theorem markTS_int (xs : List Int) : MarkTS_int xs := by
  intro k0 ob h1 h2 hob
  have hlen : ob.length = 1 := by rw [← toTree_len, hob]; rfl
  have hwt : In.wtS xs = xs.length := rfl
  refine E_walk k_laws_markIntS m_laws_markIntS (of_decide_eq_true rfl) ?_
  simp (disch := omega) only [c_laws_markIntS, go_sem, go_cond, zA, zB, zC, zD, zE, zF, zG, zH, ↓reduceIte, zI, reduceCtorEq, zJ, zK, hob, hlen]
  refine go_loop (α := Int × (Int) × (List Int)) (fun a => ⟨slots 19 0 [(0, .ref 0), (1, .int .i64 (a.2.1)), (5, .int .i64 (a.1))], [.tree (((a.2.2) ++ xs.drop (a.1).toNat).map (fun s => [OT.int s])) []]⟩) (fun a => ∃ k : Nat, a.1 = k ∧ k ≤ (xs).length ∧ (a.2.2).length = k ∧ (a.2.1) = k0 + k ∧ In.mkS xs k0 = ((a.2.2) ++ (In.mkS (xs.drop k) (a.2.1)).1, (In.mkS (xs.drop k) (a.2.1)).2)) (fun a => (xs).length - (a.1).toNat) (0, k0, []) ⟨0, rfl, Nat.zero_le _, rfl, by simp, by simp⟩ (by simp (disch := omega) only [go_sem, go_cond, zA, zB, zC, zD, zE, zF, zG, zH, ↓reduceIte, zI, reduceCtorEq, zJ, zK, Int.toNat_zero]) ?_
  rintro ⟨i, kk, dn⟩ ⟨k, hi, hk, hR⟩
  dsimp only at hi hR
  have hni : i.toNat = k := by omega
  have hni1 : (i + 1).toNat = k + 1 := by omega
  rcases Nat.lt_or_ge k (xs).length with hlt | hge
  · obtain ⟨hd, hk1, hm⟩ := hR
    have hdr : xs.drop k = xs[k] :: xs.drop (k + 1) := List.drop_eq_getElem_cons hlt
    have hel : (dn ++ xs.drop k).length = xs.length := by simp; omega
    have hg : (List.map (fun s => [OT.int s]) (dn ++ xs.drop k))[k]? = some [OT.int xs[k]] := by
      rw [hdr, List.getElem?_map, List.getElem?_append_right (by omega), hd, Nat.sub_self]; rfl
    rw [hdr, In.mkS] at hm
    have hs := map_set_mid (fun s => [OT.int s]) dn (xs.drop (k + 1)) xs[k] (kk) hd
    rw [← hdr] at hs
    have hgs : ∀ a, ((List.map (fun s => [OT.int s]) (dn ++ xs.drop k)).set k a)[k]? = some a := fun a => List.getElem?_set_self (by rw [List.length_map, hel]; exact hlt)
    simp (disch := omega) only [go_sem, go_cond, zA, zB, zC, zD, zE, zF, zG, zH, ↓reduceIte, zI, reduceCtorEq, zJ, zK, hni, hel, hg, hgs, List.length_set, List.set_set, hs]
    refine ⟨(i + 1, kk + 1, dn ++ [kk]), ⟨k + 1, by dsimp only; omega, hlt, by dsimp only; simp [hd], by dsimp only; omega, by rw [hm]; simp⟩, by dsimp only; omega, ?_⟩
    dsimp only
    rw [hni1]
    try first | rfl | simp only [and_self]
  · obtain ⟨hd, hk1, hm⟩ := hR
    have hdr : xs.drop k = [] := List.drop_eq_nil_of_le hge
    rw [hdr, In.mkS] at hm
    rw [hm]
    simp (disch := omega) only [go_sem, go_cond, zA, zB, zC, zD, zE, zF, zG, zH, ↓reduceIte, zI, reduceCtorEq, zJ, zK, hni, hdr, List.append_nil]
mutual
def Tm.wt : Tm → Nat
  | .mk name args => 1 + Tm.wtS args
def Tm.wtS : List Tm → Nat
  | [] => 0
  | x :: xs => Tm.wt x + Tm.wtS xs
end
theorem Tm.wt_eq (x : Tm) : x.wt = 1 + Tm.wtS x.args := by
  obtain ⟨name, args⟩ := x
  rw [Tm.wt]; rfl
mutual
noncomputable def Tm.mk1 : Tm → Int → Tm × Int
  | .mk name args, k => ((Tm.mk (markT k) ((Tm.mkS args (k + 1)).1)), (Tm.mkS args (k + 1)).2)
noncomputable def Tm.mkS : List Tm → Int → List Tm × Int
  | [], k => ([], k)
  | x :: xs, k => ((Tm.mk1 x k).1 :: (Tm.mkS xs (Tm.mk1 x k).2).1, (Tm.mkS xs (Tm.mk1 x k).2).2)
end
theorem Tm.mk1_eq (x : Tm) (k : Int) : x.mk1 k = ((Tm.mk (markT k) ((Tm.mkS x.args (k + 1)).1)), (Tm.mkS x.args (k + 1)).2) := by
  obtain ⟨name, args⟩ := x
  rw [Tm.mk1]; rfl
theorem Tm.mk1_d (x : Tm) (k : Int) : Tm.d (x.mk1 k).1 = [.str (markT k), .arr ((Tm.mkS x.args (k + 1)).1.map Tm.d)] := by
  rw [Tm.mk1_eq, Tm.d_eq]
  try rfl
theorem Tm.mk1_o (x : Tm) (k : Int) : Tm.o (x.mk1 k).1 = [.str (markT k), .ow ((Tm.mkS x.args (k + 1)).1.map Tm.o)] := by
  rw [Tm.mk1_eq, Tm.o_eq]
  try rfl
theorem Tm.mkS_end_of : ∀ (xs : List Tm) (k : Int), (∀ x ∈ xs, ∀ k, (x.mk1 k).2 = k + x.wt) → (Tm.mkS xs k).2 = k + Tm.wtS xs
  | [], k, _ => by simp [Tm.mkS, Tm.wtS]
  | x :: xs, k, h => by
    rw [Tm.mkS, Tm.wtS]
    have h1 := h x (by simp) k
    have h2 := Tm.mkS_end_of xs (x.mk1 k).2 fun y hy => h y (by simp [hy])
    dsimp only
    omega
theorem Tm.mk1_end (x : Tm) (k : Int) : (x.mk1 k).2 = k + x.wt := by
  rw [Tm.mk1_eq, Tm.wt_eq]
  have h := fun k => Tm.mkS_end_of x.args k fun y hy k => Tm.mk1_end y k
  simp only [h]
  omega
termination_by SizeOf.sizeOf x
decreasing_by exact Tm.lt_of_mem hy
theorem Tm.mkS_end (xs : List Tm) (k : Int) : (Tm.mkS xs k).2 = k + Tm.wtS xs := Tm.mkS_end_of xs k fun x _ k => Tm.mk1_end x k
theorem Tm.wtS_of : ∀ xs : List Tm, (∀ x ∈ xs, x.wt ≤ 5 * (1 + x.bulk)) → Tm.wtS xs ≤ 5 * (xs.length + Tm.sumB xs)
  | [], _ => by simp [Tm.wtS]
  | x :: xs, h => by
    have h1 := h x (by simp)
    have h2 := Tm.wtS_of xs fun y hy => h y (by simp [hy])
    rw [Tm.wtS, Tm.sumB]; simp only [List.length_cons]; omega
theorem Tm.wt_bulk (x : Tm) : x.wt ≤ 5 * (1 + x.bulk) := by
  rw [Tm.wt_eq, Tm.bulk_eq]
  have h := Tm.wtS_of x.args fun y hy => Tm.wt_bulk y
  omega
termination_by SizeOf.sizeOf x
decreasing_by exact Tm.lt_of_mem hy
theorem Tm.wtS_bulk (xs : List Tm) : Tm.wtS xs ≤ 5 * (xs.length + Tm.sumB xs) := Tm.wtS_of xs fun x _ => Tm.wt_bulk x
theorem Tm.length_wt : ∀ xs : List Tm, xs.length ≤ Tm.wtS xs
  | [] => Nat.le_refl _
  | x :: xs => by
    have := Tm.length_wt xs
    have := Tm.wt_eq x
    rw [Tm.wtS]; simp only [List.length_cons]; omega
def Lt.wt (x : Lt) : Nat := 2 + Tm.wtS x.atom.args
theorem Lt.wt_eq (x : Lt) : x.wt = 2 + Tm.wtS x.atom.args := rfl
noncomputable def Lt.mk1 (x : Lt) (k : Int) : Lt × Int := ((Lt.mk (dec (k.tmod 3 = 0)) (Tm.mk (markT (k + 1)) ((Tm.mkS x.atom.args (k + 1 + 1)).1))), (Tm.mkS x.atom.args (k + 1 + 1)).2)
theorem Lt.mk1_eq (x : Lt) (k : Int) : x.mk1 k = ((Lt.mk (dec (k.tmod 3 = 0)) (Tm.mk (markT (k + 1)) ((Tm.mkS x.atom.args (k + 1 + 1)).1))), (Tm.mkS x.atom.args (k + 1 + 1)).2) := rfl
def Lt.wtS : List Lt → Nat
  | [] => 0
  | x :: xs => Lt.wt x + Lt.wtS xs
noncomputable def Lt.mkS : List Lt → Int → List Lt × Int
  | [], k => ([], k)
  | x :: xs, k => ((Lt.mk1 x k).1 :: (Lt.mkS xs (Lt.mk1 x k).2).1, (Lt.mkS xs (Lt.mk1 x k).2).2)
theorem Lt.mk1_d (x : Lt) (k : Int) : Lt.d (x.mk1 k).1 = [.bool (dec (k.tmod 3 = 0)), .str (markT (k + 1)), .arr ((Tm.mkS x.atom.args (k + 1 + 1)).1.map Tm.d)] := by
  rw [Lt.mk1_eq, Lt.d_eq]
  try rfl
theorem Lt.mk1_o (x : Lt) (k : Int) : Lt.o (x.mk1 k).1 = [.bool (dec (k.tmod 3 = 0)), .str (markT (k + 1)), .ow ((Tm.mkS x.atom.args (k + 1 + 1)).1.map Tm.o)] := by
  rw [Lt.mk1_eq, Lt.o_eq]
  try rfl
theorem Lt.mk1_end (x : Lt) (k : Int) : (x.mk1 k).2 = k + x.wt := by
  rw [Lt.mk1_eq, Lt.wt_eq]
  first
    | omega
    | (simp only [Tm.mkS_end]; done)
    | (simp only [Tm.mkS_end]; omega)
    | simp
theorem Lt.mkS_end : ∀ (xs : List Lt) (k : Int), (Lt.mkS xs k).2 = k + Lt.wtS xs
  | [], k => by simp [Lt.mkS, Lt.wtS]
  | x :: xs, k => by
    rw [Lt.mkS, Lt.wtS]
    have h1 := Lt.mk1_end x k
    have h2 := Lt.mkS_end xs (x.mk1 k).2
    dsimp only
    omega
theorem Lt.wt_bulk (x : Lt) : x.wt ≤ 5 * (1 + x.bulk) := by
  rw [Lt.wt_eq, Lt.bulk_eq]
  have h0 := Tm.wtS_bulk x.atom.args
  have q1 := Tm.bulk_eq x.atom
  omega
theorem Lt.wtS_bulk : ∀ xs : List Lt, Lt.wtS xs ≤ 5 * (xs.length + Lt.sumB xs)
  | [] => by simp [Lt.wtS]
  | x :: xs => by
    have h1 := Lt.wt_bulk x
    have h2 := Lt.wtS_bulk xs
    rw [Lt.wtS, Lt.sumB]; simp only [List.length_cons]; omega
theorem Lt.length_wt : ∀ xs : List Lt, xs.length ≤ Lt.wtS xs
  | [] => Nat.le_refl _
  | x :: xs => by
    have := Lt.length_wt xs
    have := Lt.wt_eq x
    rw [Lt.wtS]; simp only [List.length_cons]; omega
mutual
def Fm.wt : Fm → Nat
  | .mk op atom var parts => 3 + Tm.wtS atom.args + Fm.wtS parts
def Fm.wtS : List Fm → Nat
  | [] => 0
  | x :: xs => Fm.wt x + Fm.wtS xs
end
theorem Fm.wt_eq (x : Fm) : x.wt = 3 + Tm.wtS x.atom.args + Fm.wtS x.parts := by
  obtain ⟨op, atom, var, parts⟩ := x
  rw [Fm.wt]; rfl
mutual
noncomputable def Fm.mk1 : Fm → Int → Fm × Int
  | .mk op atom var parts, k => ((Fm.mk (k) (Tm.mk (markT (k + 1)) ((Tm.mkS atom.args (k + 1 + 1)).1)) (markT (Tm.mkS atom.args (k + 1 + 1)).2) ((Fm.mkS parts ((Tm.mkS atom.args (k + 1 + 1)).2 + 1)).1)), (Fm.mkS parts ((Tm.mkS atom.args (k + 1 + 1)).2 + 1)).2)
noncomputable def Fm.mkS : List Fm → Int → List Fm × Int
  | [], k => ([], k)
  | x :: xs, k => ((Fm.mk1 x k).1 :: (Fm.mkS xs (Fm.mk1 x k).2).1, (Fm.mkS xs (Fm.mk1 x k).2).2)
end
theorem Fm.mk1_eq (x : Fm) (k : Int) : x.mk1 k = ((Fm.mk (k) (Tm.mk (markT (k + 1)) ((Tm.mkS x.atom.args (k + 1 + 1)).1)) (markT (Tm.mkS x.atom.args (k + 1 + 1)).2) ((Fm.mkS x.parts ((Tm.mkS x.atom.args (k + 1 + 1)).2 + 1)).1)), (Fm.mkS x.parts ((Tm.mkS x.atom.args (k + 1 + 1)).2 + 1)).2) := by
  obtain ⟨op, atom, var, parts⟩ := x
  rw [Fm.mk1]; rfl
theorem Fm.mk1_d (x : Fm) (k : Int) : Fm.d (x.mk1 k).1 = [.int k, .str (markT (k + 1)), .arr ((Tm.mkS x.atom.args (k + 1 + 1)).1.map Tm.d), .str (markT (Tm.mkS x.atom.args (k + 1 + 1)).2), .arr ((Fm.mkS x.parts ((Tm.mkS x.atom.args (k + 1 + 1)).2 + 1)).1.map Fm.d)] := by
  rw [Fm.mk1_eq, Fm.d_eq]
  try rfl
theorem Fm.mk1_o (x : Fm) (k : Int) : Fm.o (x.mk1 k).1 = [.int k, .str (markT (k + 1)), .ow ((Tm.mkS x.atom.args (k + 1 + 1)).1.map Tm.o), .str (markT (Tm.mkS x.atom.args (k + 1 + 1)).2), .ow ((Fm.mkS x.parts ((Tm.mkS x.atom.args (k + 1 + 1)).2 + 1)).1.map Fm.o)] := by
  rw [Fm.mk1_eq, Fm.o_eq]
  try rfl
theorem Fm.mkS_end_of : ∀ (xs : List Fm) (k : Int), (∀ x ∈ xs, ∀ k, (x.mk1 k).2 = k + x.wt) → (Fm.mkS xs k).2 = k + Fm.wtS xs
  | [], k, _ => by simp [Fm.mkS, Fm.wtS]
  | x :: xs, k, h => by
    rw [Fm.mkS, Fm.wtS]
    have h1 := h x (by simp) k
    have h2 := Fm.mkS_end_of xs (x.mk1 k).2 fun y hy => h y (by simp [hy])
    dsimp only
    omega
theorem Fm.mk1_end (x : Fm) (k : Int) : (x.mk1 k).2 = k + x.wt := by
  rw [Fm.mk1_eq, Fm.wt_eq]
  have h := fun k => Fm.mkS_end_of x.parts k fun y hy k => Fm.mk1_end y k
  simp only [h, Tm.mkS_end]
  omega
termination_by SizeOf.sizeOf x
decreasing_by exact Fm.lt_of_mem hy
theorem Fm.mkS_end (xs : List Fm) (k : Int) : (Fm.mkS xs k).2 = k + Fm.wtS xs := Fm.mkS_end_of xs k fun x _ k => Fm.mk1_end x k
theorem Fm.wtS_of : ∀ xs : List Fm, (∀ x ∈ xs, x.wt ≤ 5 * (1 + x.bulk)) → Fm.wtS xs ≤ 5 * (xs.length + Fm.sumB xs)
  | [], _ => by simp [Fm.wtS]
  | x :: xs, h => by
    have h1 := h x (by simp)
    have h2 := Fm.wtS_of xs fun y hy => h y (by simp [hy])
    rw [Fm.wtS, Fm.sumB]; simp only [List.length_cons]; omega
theorem Fm.wt_bulk (x : Fm) : x.wt ≤ 5 * (1 + x.bulk) := by
  rw [Fm.wt_eq, Fm.bulk_eq]
  have h := Fm.wtS_of x.parts fun y hy => Fm.wt_bulk y
  have h0 := Tm.wtS_bulk x.atom.args
  have q1 := Tm.bulk_eq x.atom
  omega
termination_by SizeOf.sizeOf x
decreasing_by exact Fm.lt_of_mem hy
theorem Fm.wtS_bulk (xs : List Fm) : Fm.wtS xs ≤ 5 * (xs.length + Fm.sumB xs) := Fm.wtS_of xs fun x _ => Fm.wt_bulk x
theorem Fm.length_wt : ∀ xs : List Fm, xs.length ≤ Fm.wtS xs
  | [] => Nat.le_refl _
  | x :: xs => by
    have := Fm.length_wt xs
    have := Fm.wt_eq x
    rw [Fm.wtS]; simp only [List.length_cons]; omega
def Tl.wt (x : Tl) : Nat := 3 + In.wtS x.vals
theorem Tl.wt_eq (x : Tl) : x.wt = 3 + In.wtS x.vals := rfl
noncomputable def Tl.mk1 (x : Tl) (k : Int) : Tl × Int := ((Tl.mk (markT k) ((k + 1)) (dec ((k + 1 + 1).tmod 3 = 0)) ((In.mkS x.vals (k + 1 + 1 + 1)).1)), (In.mkS x.vals (k + 1 + 1 + 1)).2)
theorem Tl.mk1_eq (x : Tl) (k : Int) : x.mk1 k = ((Tl.mk (markT k) ((k + 1)) (dec ((k + 1 + 1).tmod 3 = 0)) ((In.mkS x.vals (k + 1 + 1 + 1)).1)), (In.mkS x.vals (k + 1 + 1 + 1)).2) := rfl
def Tl.wtS : List Tl → Nat
  | [] => 0
  | x :: xs => Tl.wt x + Tl.wtS xs
noncomputable def Tl.mkS : List Tl → Int → List Tl × Int
  | [], k => ([], k)
  | x :: xs, k => ((Tl.mk1 x k).1 :: (Tl.mkS xs (Tl.mk1 x k).2).1, (Tl.mkS xs (Tl.mk1 x k).2).2)
theorem Tl.mk1_d (x : Tl) (k : Int) : Tl.d (x.mk1 k).1 = [.str (markT k), .int (k + 1), .bool (dec ((k + 1 + 1).tmod 3 = 0)), .arr ((In.mkS x.vals (k + 1 + 1 + 1)).1.map (fun n => [D.int n]))] := by
  rw [Tl.mk1_eq, Tl.d_eq]
  try rfl
theorem Tl.mk1_o (x : Tl) (k : Int) : Tl.o (x.mk1 k).1 = [.str (markT k), .int (k + 1), .bool (dec ((k + 1 + 1).tmod 3 = 0)), .ow ((In.mkS x.vals (k + 1 + 1 + 1)).1.map (fun n => [OT.int n]))] := by
  rw [Tl.mk1_eq, Tl.o_eq]
  try rfl
theorem Tl.mk1_end (x : Tl) (k : Int) : (x.mk1 k).2 = k + x.wt := by
  rw [Tl.mk1_eq, Tl.wt_eq]
  first
    | omega
    | (simp only [In.mkS_end]; done)
    | (simp only [In.mkS_end]; omega)
    | simp
theorem Tl.mkS_end : ∀ (xs : List Tl) (k : Int), (Tl.mkS xs k).2 = k + Tl.wtS xs
  | [], k => by simp [Tl.mkS, Tl.wtS]
  | x :: xs, k => by
    rw [Tl.mkS, Tl.wtS]
    have h1 := Tl.mk1_end x k
    have h2 := Tl.mkS_end xs (x.mk1 k).2
    dsimp only
    omega
theorem Tl.wt_bulk (x : Tl) : x.wt ≤ 5 * (1 + x.bulk) := by
  rw [Tl.wt_eq, Tl.bulk_eq]
  have h0 := In.wtS_bulk x.vals
  omega
theorem Tl.wtS_bulk : ∀ xs : List Tl, Tl.wtS xs ≤ 5 * (xs.length + Tl.sumB xs)
  | [] => by simp [Tl.wtS]
  | x :: xs => by
    have h1 := Tl.wt_bulk x
    have h2 := Tl.wtS_bulk xs
    rw [Tl.wtS, Tl.sumB]; simp only [List.length_cons]; omega
theorem Tl.length_wt : ∀ xs : List Tl, xs.length ≤ Tl.wtS xs
  | [] => Nat.le_refl _
  | x :: xs => by
    have := Tl.length_wt xs
    have := Tl.wt_eq x
    rw [Tl.wtS]; simp only [List.length_cons]; omega
def c_laws_markTableS : SC := (.seq (.reg [⟨some 4, none, .mv (.c (.int .i64 0))⟩]) (.seq (.seq (.reg [⟨some 5, none, .mv (.c (.int .i64 0))⟩]) (.block 0 (.loop [1, 1, 0, 0, 0, 1, 0, 0, 0, 0, 0, 0, 0, 0, 0, 0, 0, 0, 0, 0, 0, 0, 0, 0, 0, 0, 0, 0, 0, 0, 0, 0, 0, 0, 0, 0, 0, 0, 0, 0, 0, 0, 0, 0] (.seq (.seq (.reg [⟨some 6, none, .mv (.t 5)⟩, ⟨some 7, none, .mv (.t 0)⟩, ⟨some 8, none, .len false (.t 7)⟩, ⟨some 9, none, .bin .lss false (.t 6) (.t 8)⟩]) (.cond (.t 9) .skip (.exit 0))) (.seq (.block 1 (.seq (.reg [⟨some 12, none, .mv (.t 0)⟩, ⟨some 13, none, .mv (.t 5)⟩, ⟨some 14, none, .mv (.t 1)⟩, ⟨some 15, none, .call 41 [(.t 14)]⟩, ⟨some 16, none, .iaddr 4 (.t 12) (.t 13)⟩, ⟨some 17, none, .faddr 0 (.t 16)⟩, ⟨none, none, (.store 1 (.t 17) (.t 15))⟩]) (.seq (.reg [⟨some 18, none, .mv (.t 1)⟩, ⟨some 19, none, .bin .add false (.t 18) (.c (.int .i64 1))⟩, ⟨some 1, none, .mv (.t 19)⟩]) (.seq (.reg [⟨some 20, none, .mv (.t 0)⟩, ⟨some 21, none, .mv (.t 5)⟩, ⟨some 22, none, .mv (.t 1)⟩, ⟨some 23, none, .iaddr 4 (.t 20) (.t 21)⟩, ⟨some 24, none, .faddr 1 (.t 23)⟩, ⟨none, none, (.store 1 (.t 24) (.t 22))⟩]) (.seq (.reg [⟨some 25, none, .mv (.t 1)⟩, ⟨some 26, none, .bin .add false (.t 25) (.c (.int .i64 1))⟩, ⟨some 1, none, .mv (.t 26)⟩]) (.seq (.reg [⟨some 27, none, .mv (.t 0)⟩, ⟨some 28, none, .mv (.t 5)⟩, ⟨some 29, none, .mv (.t 1)⟩, ⟨some 30, none, .bin .rem false (.t 29) (.c (.int .i64 3))⟩, ⟨some 31, none, .bin .eql false (.t 30) (.c (.int .i64 0))⟩, ⟨some 32, none, .iaddr 4 (.t 27) (.t 28)⟩, ⟨some 33, none, .faddr 2 (.t 32)⟩, ⟨none, none, (.store 1 (.t 33) (.t 31))⟩]) (.seq (.reg [⟨some 34, none, .mv (.t 1)⟩, ⟨some 35, none, .bin .add false (.t 34) (.c (.int .i64 1))⟩, ⟨some 1, none, .mv (.t 35)⟩]) (.reg [⟨some 36, none, .mv (.t 0)⟩, ⟨some 37, none, .mv (.t 5)⟩, ⟨some 38, none, .iaddr 4 (.t 36) (.t 37)⟩, ⟨some 39, none, .faddr 3 (.t 38)⟩, ⟨some 40, none, .load false 1 (.t 39)⟩, ⟨some 41, none, .mv (.t 1)⟩, ⟨some 42, none, .call 23 [(.t 40), (.t 41)]⟩, ⟨some 1, none, .mv (.t 42)⟩])))))))) (.reg [⟨some 10, none, .mv (.t 5)⟩, ⟨some 11, none, .bin .add false (.t 10) (.c (.int .i64 1))⟩, ⟨some 5, none, .mv (.t 11)⟩])))))) (.seq (.reg [⟨some 43, none, .mv (.t 1)⟩, ⟨some 4, none, .mv (.t 43)⟩]) .ret)))
theorem k_laws_markTableS : codeOf Try.prog 13 = some ⟨44, c_laws_markTableS, [(.tmp 4)]⟩ := by kernel_rfl
theorem m_laws_markTableS : modes 13 = ⟨[true], .asis, none, true⟩ := by unfold modes; rfl
abbrev MarkTS_Table (xs : List Tl) : Prop := ∀ (k : Int) (ob : List Ob), 1 ≤ k → k + Tl.wtS xs ≤ 1099511627776 → toTree ob = [.tree (xs.map Tl.o) []] → E 13 [.ref 0, .int .i64 k] ob = some (.int .i64 (Tl.mkS xs k).2, [.tree ((Tl.mkS xs k).1.map Tl.o) []])
set_option maxHeartbeats 2000000 in
theorem markTS_Table_of (xs : List Tl) : MarkTS_Table xs := by
  intro k0 ob h1 h2 hob
  have hlen : ob.length = 1 := by rw [← toTree_len, hob]; rfl
  have hL := Tl.length_wt xs
  refine E_walk k_laws_markTableS m_laws_markTableS (of_decide_eq_true rfl) ?_
  simp (disch := omega) only [c_laws_markTableS, go_sem, go_cond, zA, zB, zC, zD, zE, zF, zG, zH, ↓reduceIte, zI, reduceCtorEq, zJ, zK, hob, hlen]
  refine go_loop (α := Int × (Int) × (List Tl)) (fun a => ⟨slots 44 0 [(0, .ref 0), (1, .int .i64 (a.2.1)), (5, .int .i64 (a.1))], [.tree (((a.2.2) ++ xs.drop (a.1).toNat).map Tl.o) []]⟩) (fun a => ∃ k : Nat, a.1 = k ∧ k ≤ (xs).length ∧ (a.2.2).length = k ∧ 1 ≤ (a.2.1) ∧ (a.2.1) + Tl.wtS (xs.drop k) = k0 + Tl.wtS xs ∧ Tl.mkS xs k0 = ((a.2.2) ++ (Tl.mkS (xs.drop k) (a.2.1)).1, (Tl.mkS (xs.drop k) (a.2.1)).2)) (fun a => (xs).length - (a.1).toNat) (0, k0, []) ⟨0, rfl, Nat.zero_le _, rfl, h1, by rw [List.drop_zero], by simp⟩ (by simp (disch := omega) only [go_sem, go_cond, zA, zB, zC, zD, zE, zF, zG, zH, ↓reduceIte, zI, reduceCtorEq, zJ, zK, Int.toNat_zero]) ?_
  rintro ⟨i, kk, dn⟩ ⟨k, hi, hk, hR⟩
  dsimp only at hi hR
  have hni : i.toNat = k := by omega
  have hni1 : (i + 1).toNat = k + 1 := by omega
  rcases Nat.lt_or_ge k (xs).length with hlt | hge
  · obtain ⟨hd, hk1, hkn, hm⟩ := hR
    have hdr : xs.drop k = xs[k] :: xs.drop (k + 1) := List.drop_eq_getElem_cons hlt
    have hel : (dn ++ xs.drop k).length = xs.length := by simp; omega
    have hg : (List.map Tl.o (dn ++ xs.drop k))[k]? = some [.str xs[k].name, .int xs[k].arity, .bool xs[k].pred, .ow (xs[k].vals.map fun n => [OT.int n])] := by
      rw [← Tl.o_eq, hdr, List.getElem?_map, List.getElem?_append_right (by omega), hd, Nat.sub_self]; rfl
    rw [hdr, Tl.wtS] at hkn
    rw [hdr, Tl.mkS] at hm
    have hn1 := Tl.wt_eq xs[k]
    have e3 := In.mkS_end xs[k].vals ((kk + 1 + 1 + 1))
    have t0 := markText_E (k := kk) (by omega) (by omega)
    have c58 := markTS_int xs[k].vals ((kk + 1 + 1 + 1)) [.tree (xs[k].vals.map (fun n => [OT.int n])) []] (by omega) (by omega) rfl
    have hs := map_set_mid Tl.o dn (xs.drop (k + 1)) xs[k] (xs[k].mk1 kk).1 hd
    rw [Tl.mk1_o, ← hdr] at hs
    have hgs : ∀ a, ((List.map Tl.o (dn ++ xs.drop k)).set k a)[k]? = some a := fun a => List.getElem?_set_self (by rw [List.length_map, hel]; exact hlt)
    have he := Tl.mk1_end xs[k] kk
    have three : ∀ z : Int, dec ((3 : Int) = 0) = false := fun _ => dec_f (by omega)
    simp (disch := omega) only [go_sem, go_cond, zA, zB, zC, zD, zE, zF, zG, zH, ↓reduceIte, zI, reduceCtorEq, zJ, zK, hni, hel, hg, t0, c58, m_laws_markIntS, m_laws_markText, hgs, List.length_set, List.set_set, hs, three 0]
    refine ⟨(i + 1, (xs[k].mk1 kk).2, dn ++ [(xs[k].mk1 kk).1]), ⟨k + 1, by dsimp only; omega, hlt, by dsimp only; simp [hd], by dsimp only; omega, by dsimp only; omega, by rw [hm]; simp⟩, by dsimp only; omega, ?_⟩
    dsimp only
    rw [hni1, Tl.mk1_eq]
    refine ⟨⟨?_, rfl⟩, rfl⟩
    first | rfl | omega
  · obtain ⟨hd, hk1, hkn, hm⟩ := hR
    have hdr : xs.drop k = [] := List.drop_eq_nil_of_le hge
    rw [hdr, Tl.mkS] at hm
    rw [hm]
    simp (disch := omega) only [go_sem, go_cond, zA, zB, zC, zD, zE, zF, zG, zH, ↓reduceIte, zI, reduceCtorEq, zJ, zK, hni, hdr, List.append_nil]
theorem markTS_Table (xs : List Tl) : MarkTS_Table xs := markTS_Table_of xs
def c_laws_heldIntS : SC := (.seq (.reg [⟨some 4, none, .mv (.c (.int .i64 0))⟩]) (.seq (.seq (.reg [⟨some 5, none, .mv (.c (.int .i64 0))⟩]) (.block 0 (.loop [1, 1, 0, 0, 0, 1, 0, 0, 0, 0, 0, 0, 0, 0, 0, 0, 0, 0, 0, 0, 0] (.seq (.seq (.reg [⟨some 6, none, .mv (.t 5)⟩, ⟨some 7, none, .mv (.t 0)⟩, ⟨some 8, none, .len false (.t 7)⟩, ⟨some 9, none, .bin .lss false (.t 6) (.t 8)⟩]) (.cond (.t 9) .skip (.exit 0))) (.seq (.block 1 (.seq (.seq (.reg [⟨some 12, none, .mv (.t 0)⟩, ⟨some 13, none, .mv (.t 5)⟩, ⟨some 14, none, .iaddr 1 (.t 12) (.t 13)⟩, ⟨some 15, none, .load false 1 (.t 14)⟩, ⟨some 16, none, .mv (.t 1)⟩, ⟨some 17, none, .bin .neq false (.t 15) (.t 16)⟩]) (.cond (.t 17) (.seq (.reg [⟨some 4, none, .mv (.c (.int .i64 (-(0 + 1))))⟩]) .ret) .skip)) (.reg [⟨some 18, none, .mv (.t 1)⟩, ⟨some 19, none, .bin .add false (.t 18) (.c (.int .i64 1))⟩, ⟨some 1, none, .mv (.t 19)⟩]))) (.reg [⟨some 10, none, .mv (.t 5)⟩, ⟨some 11, none, .bin .add false (.t 10) (.c (.int .i64 1))⟩, ⟨some 5, none, .mv (.t 11)⟩])))))) (.seq (.reg [⟨some 20, none, .mv (.t 1)⟩, ⟨some 4, none, .mv (.t 20)⟩]) .ret)))
theorem k_laws_heldIntS : codeOf Try.prog 42 = some ⟨21, c_laws_heldIntS, [(.tmp 4)]⟩ := by kernel_rfl
theorem m_laws_heldIntS : modes 42 = ⟨[], .asis, none, false⟩ := by unfold modes; rfl
set_option maxHeartbeats 2000000 in
theorem heldTS_int (xs : List Int) : ∀ k : Int, 1 ≤ k → k + In.wtS xs ≤ 1099511627776 → E 42 [.arr ((In.mkS xs k).1.map (fun s => [D.int s])), .int .i64 k] [] = some (.int .i64 (In.mkS xs k).2, []) := by
  intro k0 h1 h2
  obtain ⟨ys, hys⟩ : ∃ ys, ys = (In.mkS xs k0).1 := ⟨_, rfl⟩
  have hyl : ys.length = xs.length := by rw [hys, In.mkS_len]
  rw [← hys]
  have hwt : In.wtS xs = xs.length := rfl
  refine E_walk k_laws_heldIntS m_laws_heldIntS (of_decide_eq_true rfl) ?_
  simp (disch := omega) only [c_laws_heldIntS, go_sem, go_cond, zA, zB, zC, zD, zE, zF, zG, zH, ↓reduceIte, zI, reduceCtorEq, zJ, zK]
  refine go_loop (α := Int × (Int)) (fun a => ⟨slots 21 0 [(0, .arr (ys.map (fun s => [D.int s]))), (1, .int .i64 (a.2)), (5, .int .i64 (a.1))], []⟩) (fun a => ∃ k : Nat, a.1 = k ∧ k ≤ (ys).length ∧ (a.2) = k0 + k ∧ ys.drop k = (In.mkS (xs.drop k) (a.2)).1 ∧ (In.mkS xs k0).2 = (In.mkS (xs.drop k) (a.2)).2) (fun a => (ys).length - (a.1).toNat) (0, k0) ⟨0, rfl, Nat.zero_le _, by simp, by rw [List.drop_zero, List.drop_zero, hys], by rw [List.drop_zero]⟩ (by simp (disch := omega) only [go_sem, go_cond, zA, zB, zC, zD, zE, zF, zG, zH, ↓reduceIte, zI, reduceCtorEq, zJ, zK]) ?_
  rintro ⟨i, kk⟩ ⟨k, hi, hk, hR⟩
  dsimp only at hi hR
  have hni : i.toNat = k := by omega
  have hni1 : (i + 1).toNat = k + 1 := by omega
  rcases Nat.lt_or_ge k (ys).length with hlt | hge
  · obtain ⟨hk1, hy, hm⟩ := hR
    have hlx : k < xs.length := by omega
    have hdr : xs.drop k = xs[k] :: xs.drop (k + 1) := List.drop_eq_getElem_cons hlx
    have hdy := List.drop_eq_getElem_cons hlt
    rw [hdr, In.mkS] at hm
    rw [hdr, In.mkS, hdy] at hy
    dsimp only at hy hm
    obtain ⟨hy1, hy2⟩ := List.cons.inj hy
    have hg := get_at (fun s => [D.int s]) hlt
    rw [hy1] at hg
    simp (disch := omega) only [go_sem, go_cond, zA, zB, zC, zD, zE, zF, zG, zH, ↓reduceIte, zI, reduceCtorEq, zJ, zK, hni, hg, dec_refl]
    exact ⟨(i + 1, kk + 1), ⟨k + 1, by dsimp only; omega, hlt, by dsimp only; omega, hy2, hm⟩, by dsimp only; omega, by first | trivial | rfl | exact ⟨rfl, rfl⟩⟩
  · obtain ⟨hk1, hy, hm⟩ := hR
    have hdr : xs.drop k = [] := List.drop_eq_nil_of_le (by omega)
    rw [hdr, In.mkS] at hm
    rw [hm]
    simp (disch := omega) only [go_sem, go_cond, zA, zB, zC, zD, zE, zF, zG, zH, ↓reduceIte, zI, reduceCtorEq, zJ, zK, hni]
theorem Tm.mkS_len : ∀ (xs : List Tm) (k : Int), (Tm.mkS xs k).1.length = xs.length
  | [], k => by rw [Tm.mkS]
  | x :: xs, k => by rw [Tm.mkS]; simp only [List.length_cons]; rw [Tm.mkS_len xs]
theorem Fm.mkS_len : ∀ (xs : List Fm) (k : Int), (Fm.mkS xs k).1.length = xs.length
  | [], k => by rw [Fm.mkS]
  | x :: xs, k => by rw [Fm.mkS]; simp only [List.length_cons]; rw [Fm.mkS_len xs]
def c_laws_heldTableS : SC := (.seq (.reg [⟨some 4, none, .mv (.c (.int .i64 0))⟩]) (.seq (.seq (.reg [⟨some 5, none, .mv (.c (.int .i64 0))⟩]) (.block 0 (.loop [1, 1, 0, 0, 0, 1, 0, 0, 0, 0, 0, 0, 0, 0, 0, 0, 0, 0, 0, 0, 0, 0, 0, 0, 0, 0, 0, 0, 0, 0, 0, 0, 0, 0, 0, 0, 0, 0, 0, 0, 0, 0, 0, 0, 0, 0, 0, 0, 0, 0, 0, 0] (.seq (.seq (.reg [⟨some 6, none, .mv (.t 5)⟩, ⟨some 7, none, .mv (.t 0)⟩, ⟨some 8, none, .len false (.t 7)⟩, ⟨some 9, none, .bin .lss false (.t 6) (.t 8)⟩]) (.cond (.t 9) .skip (.exit 0))) (.seq (.block 1 (.seq (.seq (.dreg [[], [], [0, 1], [2, 0, 1], [3, 2, 0, 1], [], [5], [4, 3, 2, 0, 1, 6, 5]] [⟨some 12, none, .mv (.t 0)⟩, ⟨some 13, none, .mv (.t 5)⟩, ⟨some 14, none, .iaddr 4 (.t 12) (.t 13)⟩, ⟨some 15, none, .faddr 0 (.t 14)⟩, ⟨some 16, none, .load false 1 (.t 15)⟩, ⟨some 17, none, .mv (.t 1)⟩, ⟨some 18, none, .call 41 [(.t 17)]⟩, ⟨some 19, none, .bin .neq false (.t 16) (.t 18)⟩]) (.cond (.t 19) (.seq (.reg [⟨some 4, none, .mv (.c (.int .i64 (-(0 + 1))))⟩]) .ret) .skip)) (.seq (.reg [⟨some 20, none, .mv (.t 1)⟩, ⟨some 21, none, .bin .add false (.t 20) (.c (.int .i64 1))⟩, ⟨some 1, none, .mv (.t 21)⟩]) (.seq (.seq (.reg [⟨some 22, none, .mv (.t 0)⟩, ⟨some 23, none, .mv (.t 5)⟩, ⟨some 24, none, .iaddr 4 (.t 22) (.t 23)⟩, ⟨some 25, none, .faddr 1 (.t 24)⟩, ⟨some 26, none, .load false 1 (.t 25)⟩, ⟨some 27, none, .mv (.t 1)⟩, ⟨some 28, none, .bin .neq false (.t 26) (.t 27)⟩]) (.cond (.t 28) (.seq (.reg [⟨some 4, none, .mv (.c (.int .i64 (-(0 + 1))))⟩]) .ret) .skip)) (.seq (.reg [⟨some 29, none, .mv (.t 1)⟩, ⟨some 30, none, .bin .add false (.t 29) (.c (.int .i64 1))⟩, ⟨some 1, none, .mv (.t 30)⟩]) (.seq (.seq (.reg [⟨some 31, none, .mv (.t 0)⟩, ⟨some 32, none, .mv (.t 5)⟩, ⟨some 33, none, .iaddr 4 (.t 31) (.t 32)⟩, ⟨some 34, none, .faddr 2 (.t 33)⟩, ⟨some 35, none, .load false 1 (.t 34)⟩, ⟨some 36, none, .mv (.t 1)⟩, ⟨some 37, none, .bin .rem false (.t 36) (.c (.int .i64 3))⟩, ⟨some 38, none, .bin .eql false (.t 37) (.c (.int .i64 0))⟩, ⟨some 39, none, .bin .neq true (.t 35) (.t 38)⟩]) (.cond (.t 39) (.seq (.reg [⟨some 4, none, .mv (.c (.int .i64 (-(0 + 1))))⟩]) .ret) .skip)) (.seq (.reg [⟨some 40, none, .mv (.t 1)⟩, ⟨some 41, none, .bin .add false (.t 40) (.c (.int .i64 1))⟩, ⟨some 1, none, .mv (.t 41)⟩]) (.seq (.reg [⟨some 42, none, .mv (.t 0)⟩, ⟨some 43, none, .mv (.t 5)⟩, ⟨some 44, none, .iaddr 4 (.t 42) (.t 43)⟩, ⟨some 45, none, .faddr 3 (.t 44)⟩, ⟨some 46, none, .load false 1 (.t 45)⟩, ⟨some 47, none, .mv (.t 1)⟩, ⟨some 48, none, .call 42 [(.t 46), (.t 47)]⟩, ⟨some 1, none, .mv (.t 48)⟩]) (.seq (.reg [⟨some 49, none, .mv (.t 1)⟩, ⟨some 50, none, .bin .lss false (.t 49) (.c (.int .i64 0))⟩]) (.cond (.t 50) (.seq (.reg [⟨some 4, none, .mv (.c (.int .i64 (-(0 + 1))))⟩]) .ret) .skip)))))))))) (.reg [⟨some 10, none, .mv (.t 5)⟩, ⟨some 11, none, .bin .add false (.t 10) (.c (.int .i64 1))⟩, ⟨some 5, none, .mv (.t 11)⟩])))))) (.seq (.reg [⟨some 51, none, .mv (.t 1)⟩, ⟨some 4, none, .mv (.t 51)⟩]) .ret)))
theorem k_laws_heldTableS : codeOf Try.prog 14 = some ⟨52, c_laws_heldTableS, [(.tmp 4)]⟩ := by kernel_rfl
theorem m_laws_heldTableS : modes 14 = ⟨[], .asis, none, false⟩ := by unfold modes; rfl
theorem Tl.mkS_len : ∀ (xs : List Tl) (k : Int), (Tl.mkS xs k).1.length = xs.length
  | [], k => by rw [Tl.mkS]
  | x :: xs, k => by rw [Tl.mkS]; simp only [List.length_cons]; rw [Tl.mkS_len xs]
abbrev HeldTS_Table (xs : List Tl) : Prop := ∀ k : Int, 1 ≤ k → k + Tl.wtS xs ≤ 1099511627776 → E 14 [.arr ((Tl.mkS xs k).1.map Tl.d), .int .i64 k] [] = some (.int .i64 (Tl.mkS xs k).2, [])
set_option maxHeartbeats 2000000 in
theorem heldTS_Table_of (xs : List Tl) : HeldTS_Table xs := by
  intro k0 h1 h2
  obtain ⟨ys, hys⟩ : ∃ ys, ys = (Tl.mkS xs k0).1 := ⟨_, rfl⟩
  have hyl : ys.length = xs.length := by rw [hys, Tl.mkS_len]
  rw [← hys]
  have hL := Tl.length_wt xs
  refine E_walk k_laws_heldTableS m_laws_heldTableS (of_decide_eq_true rfl) ?_
  simp (disch := omega) only [c_laws_heldTableS, go_sem, go_cond, zA, zB, zC, zD, zE, zF, zG, zH, ↓reduceIte, zI, reduceCtorEq, zJ, zK]
  refine go_loop (α := Int × (Int)) (fun a => ⟨slots 52 0 [(0, .arr (ys.map Tl.d)), (1, .int .i64 (a.2)), (5, .int .i64 (a.1))], []⟩) (fun a => ∃ k : Nat, a.1 = k ∧ k ≤ (ys).length ∧ 1 ≤ (a.2) ∧ (a.2) + Tl.wtS (xs.drop k) = k0 + Tl.wtS xs ∧ ys.drop k = (Tl.mkS (xs.drop k) (a.2)).1 ∧ (Tl.mkS xs k0).2 = (Tl.mkS (xs.drop k) (a.2)).2) (fun a => (ys).length - (a.1).toNat) (0, k0) ⟨0, rfl, Nat.zero_le _, h1, by rw [List.drop_zero], by rw [List.drop_zero, List.drop_zero, hys], by rw [List.drop_zero]⟩ (by simp (disch := omega) only [go_sem, go_cond, zA, zB, zC, zD, zE, zF, zG, zH, ↓reduceIte, zI, reduceCtorEq, zJ, zK]) ?_
  rintro ⟨i, kk⟩ ⟨k, hi, hk, hR⟩
  dsimp only at hi hR
  have hni : i.toNat = k := by omega
  have hni1 : (i + 1).toNat = k + 1 := by omega
  rcases Nat.lt_or_ge k (ys).length with hlt | hge
  · obtain ⟨hk1, hkn, hy, hm⟩ := hR
    have hlx : k < xs.length := by omega
    have hdr : xs.drop k = xs[k] :: xs.drop (k + 1) := List.drop_eq_getElem_cons hlx
    have hdy := List.drop_eq_getElem_cons hlt
    rw [hdr, Tl.wtS] at hkn
    rw [hdr, Tl.mkS] at hm
    rw [hdr, Tl.mkS, hdy] at hy
    dsimp only at hy hm
    obtain ⟨hy1, hy2⟩ := List.cons.inj hy
    have hg := get_at Tl.d hlt
    rw [hy1, Tl.mk1_d] at hg
    have hn1 := Tl.wt_eq xs[k]
    have e3 := In.mkS_end xs[k].vals ((kk + 1 + 1 + 1))
    have t0 := markText_E (k := kk) (by omega) (by omega)
    have c58 := heldTS_int xs[k].vals ((kk + 1 + 1 + 1)) (by omega) (by omega)
    have he := Tl.mk1_end xs[k] kk
    simp (disch := omega) only [go_sem, go_cond, zA, zB, zC, zD, zE, zF, zG, zH, ↓reduceIte, zI, reduceCtorEq, zJ, zK, hni, hg, m_laws_markText, dec_refl, t0, c58, m_laws_heldIntS]
    refine ⟨(i + 1, (xs[k].mk1 kk).2), ⟨k + 1, by dsimp only; omega, hlt, by dsimp only; omega, by dsimp only; omega, hy2, hm⟩, by dsimp only; omega, ?_⟩
    dsimp only
    rw [Tl.mk1_eq]
    simp only [and_self, and_true, true_and]
    try omega
  · obtain ⟨hk1, hkn, hy, hm⟩ := hR
    have hdr : xs.drop k = [] := List.drop_eq_nil_of_le (by omega)
    rw [hdr, Tl.mkS] at hm
    rw [hm]
    simp (disch := omega) only [go_sem, go_cond, zA, zB, zC, zD, zE, zF, zG, zH, ↓reduceIte, zI, reduceCtorEq, zJ, zK, hni]
theorem heldTS_Table (xs : List Tl) : HeldTS_Table xs := heldTS_Table_of xs
theorem toTree1 {o : Ob} {es : List (List OT)} (h : toTree [o] = [.tree es []]) : (∃ a b, o = .row a b es) ∨ o = .tree es [] := by
  cases o with
  | row a b e => obtain ⟨h1, h2⟩ := List.cons.inj h; cases h1; exact .inl ⟨a, b, rfl⟩
  | tree e hs => obtain ⟨h1, h2⟩ := List.cons.inj h; cases h1; exact .inr rfl
  | _ => simp [toTree] at h
noncomputable def Tm.mkr (x : Tm) (k : Int) : Tm × Int := ((Tm.mk (x.name) ((Tm.mkS x.args k).1)), (Tm.mkS x.args k).2)
noncomputable def Fm.mkr (x : Fm) (k : Int) : Fm × Int := ((Fm.mk (x.op) (Tm.mk (x.atom.name) ((Tm.mkS x.atom.args k).1)) (x.var) ((Fm.mkS x.parts (Tm.mkS x.atom.args k).2).1)), (Fm.mkS x.parts (Tm.mkS x.atom.args k).2).2)
noncomputable def Ip.mkr (x : Ip) (k : Int) : Ip × Int := ((Ip.mk (x.size) ((Tl.mkS x.tables k).1)), (Tl.mkS x.tables k).2)
def c_laws_markInterpretation : SC := (.seq (.reg [⟨some 2, none, .boxv 40 2 (.t 0)⟩, ⟨some 4, none, .mv (.c (.int .i64 0))⟩]) (.seq (.reg [⟨some 5, none, .faddr 1 (.t 2)⟩, ⟨some 6, none, .load false 1 (.t 5)⟩, ⟨some 7, none, .mv (.t 1)⟩, ⟨some 8, none, .call 13 [(.t 6), (.t 7)]⟩, ⟨some 1, none, .mv (.t 8)⟩]) (.seq (.reg [⟨some 9, none, .mv (.t 1)⟩, ⟨some 4, none, .mv (.t 9)⟩]) .ret)))
theorem k_laws_markInterpretation : codeOf Try.prog 22 = some ⟨10, c_laws_markInterpretation, [(.tmp 4)]⟩ := by kernel_rfl
theorem m_laws_markInterpretation : modes 22 = ⟨[true], .asis, none, false⟩ := by unfold modes; rfl
set_option maxHeartbeats 1000000 in
theorem markT_Interpretation (x : Ip) (k : Int) (o0 : Ob) (h1 : 1 ≤ k) (h2 : k + (Tl.wtS x.tables : Nat) ≤ 1099511627776) (t0 : toTree [o0] = [.tree (x.tables.map Tl.o) []]) : E 22 [.agg [.int .i64 x.size, .ref 0], .int .i64 k] [o0] = some (.int .i64 (x.mkr k).2, [.tree ((Tl.mkS x.tables k).1.map Tl.o) []]) := by
  have e0 := Tl.mkS_end x.tables k
  rw [Ip.mkr]
  dsimp only
  have c0 := markTS_Table x.tables k [o0] (by omega) (by omega) t0
  rcases toTree1 t0 with ⟨a0, b0, rfl⟩ | rfl <;>
   (
    refine E_walk k_laws_markInterpretation m_laws_markInterpretation (of_decide_eq_true rfl) ?_
    simp (disch := omega) only [c_laws_markInterpretation, go_sem, go_cond, zA, zB, zC, zD, zE, zF, zG, zH, ↓reduceIte, zI, reduceCtorEq, zJ, zK, c0, m_laws_markTableS])
def c_laws_heldInterpretation : SC := (.seq (.reg [⟨some 2, none, .boxv 40 2 (.t 0)⟩, ⟨some 4, none, .mv (.c (.int .i64 0))⟩]) (.seq (.reg [⟨some 5, none, .faddr 1 (.t 2)⟩, ⟨some 6, none, .load false 1 (.t 5)⟩, ⟨some 7, none, .mv (.t 1)⟩, ⟨some 8, none, .call 14 [(.t 6), (.t 7)]⟩, ⟨some 1, none, .mv (.t 8)⟩]) (.seq (.seq (.reg [⟨some 9, none, .mv (.t 1)⟩, ⟨some 10, none, .bin .lss false (.t 9) (.c (.int .i64 0))⟩]) (.cond (.t 10) (.seq (.reg [⟨some 4, none, .mv (.c (.int .i64 (-(0 + 1))))⟩]) .ret) .skip)) (.seq (.reg [⟨some 11, none, .mv (.t 1)⟩, ⟨some 4, none, .mv (.t 11)⟩]) .ret))))
theorem k_laws_heldInterpretation : codeOf Try.prog 24 = some ⟨12, c_laws_heldInterpretation, [(.tmp 4)]⟩ := by kernel_rfl
theorem m_laws_heldInterpretation : modes 24 = ⟨[], .asis, none, false⟩ := by unfold modes; rfl
set_option maxHeartbeats 1000000 in
theorem heldT_Interpretation (x : Ip) (k : Int) (h1 : 1 ≤ k) (h2 : k + (Tl.wtS x.tables : Nat) ≤ 1099511627776) : E 24 [.agg [.int .i64 x.size, .arr ((Tl.mkS x.tables k).1.map Tl.d)], .int .i64 k] [] = some (.int .i64 (x.mkr k).2, []) := by
  have e0 := Tl.mkS_end x.tables k
  rw [Ip.mkr]
  dsimp only
  have c0 := heldTS_Table x.tables k (by omega) (by omega)
  refine E_walk k_laws_heldInterpretation m_laws_heldInterpretation (of_decide_eq_true rfl) ?_
  simp (disch := omega) only [c_laws_heldInterpretation, go_sem, go_cond, zA, zB, zC, zD, zE, zF, zG, zH, ↓reduceIte, zI, reduceCtorEq, zJ, zK, c0, m_laws_heldTableS]
theorem Ip.bulk_tame (m : Ip) (hb : m.bulk ≤ 1048576) : m.tame := by
  rw [Ip.bulk_eq] at hb
  refine ⟨by omega, fun t ht => ?_⟩
  obtain ⟨k, hk, rfl⟩ := List.getElem_of_mem ht
  have h1 := Tl.bulk_le m.tables k hk
  rw [Tl.bulk_eq] at h1
  omega
def c_laws_FnExactRenameElements : SC := (.seq (.reg [⟨some 2, none, .boxv 36 2 (.t 0)⟩, ⟨some 4, none, .mv (.c (.bool false))⟩]) (.seq (.seq (.reg [⟨some 17, none, .mv (.t 1)⟩, ⟨some 18, none, .len false (.t 17)⟩, ⟨some 19, none, .bin .gtr false (.t 18) (.c (.int .i64 1048576))⟩]) (.cond (.t 19) (.seq (.reg [⟨some 4, none, .mv (.c (.bool true))⟩]) .ret) .skip)) (.seq (.reg [⟨some 5, none, .mv (.c (.int .i64 1048576))⟩]) (.seq (.reg [⟨some 20, none, .load true 2 (.t 2)⟩, ⟨some 21, none, .mv (.t 5)⟩, ⟨some 22, none, .call 15 [(.t 20), (.t 21)]⟩, ⟨some 5, none, .mv (.t 22)⟩]) (.seq (.seq (.reg [⟨some 23, none, .mv (.t 5)⟩, ⟨some 24, none, .bin .lss false (.t 23) (.c (.int .i64 0))⟩]) (.cond (.t 24) (.seq (.reg [⟨some 4, none, .mv (.c (.bool true))⟩]) .ret) .skip)) (.seq (.reg [⟨some 26, none, .load true 2 (.t 2)⟩, ⟨some 27, none, .call 17 [(.t 26)]⟩, ⟨some 28, none, .mv (.t 1)⟩, ⟨some 29, none, .call 18 [(.t 28)]⟩, ⟨some 30, none, .call 16 [(.t 27), (.t 29)]⟩, ⟨some 25, none, .mv (.t 30)⟩, ⟨some 31, none, .ext (.t 25) 0⟩, ⟨some 32, none, .ext (.t 25) 1⟩, ⟨some 6, none, .alloc 40 [(.int .i64 0), .nil]⟩, ⟨none, none, (.store 2 (.t 6) (.t 31))⟩, ⟨some 7, none, .mv (.t 32)⟩]) (.seq (.reg [⟨some 33, none, .load true 2 (.t 2)⟩, ⟨some 34, none, .call 17 [(.t 33)]⟩, ⟨some 8, none, .alloc 40 [(.int .i64 0), .nil]⟩, ⟨none, none, (.store 2 (.t 8) (.t 34))⟩]) (.seq (.reg [⟨some 35, none, .mv (.t 1)⟩, ⟨some 36, none, .call 18 [(.t 35)]⟩, ⟨some 9, none, .mv (.t 36)⟩]) (.seq (.reg [⟨some 38, none, .load true 2 (.t 8)⟩, ⟨some 39, none, .mv (.t 9)⟩, ⟨some 40, none, .call 19 [(.t 38), (.t 39)]⟩, ⟨some 37, none, .mv (.t 40)⟩, ⟨some 41, none, .ext (.t 37) 0⟩, ⟨some 42, none, .ext (.t 37) 1⟩, ⟨some 10, none, .alloc 40 [(.int .i64 0), .nil]⟩, ⟨none, none, (.store 2 (.t 10) (.t 41))⟩, ⟨some 11, none, .mv (.t 42)⟩]) (.seq (.seq (.reg [⟨some 43, none, .load true 2 (.t 10)⟩, ⟨some 44, none, .load true 2 (.t 6)⟩, ⟨some 45, none, .call 20 [(.t 43), (.t 44)]⟩, ⟨some 46, none, .un .not (.t 45)⟩, ⟨some 47, none, .mv (.t 46)⟩, ⟨(some 48), (some (47, false)), (.mv (.t 11))⟩, ⟨(some 49), (some (47, false)), (.mv (.t 7))⟩, ⟨(some 50), (some (47, false)), (.bin .neq true (.t 48) (.t 49))⟩, ⟨some 51, none, .pick (.t 47) (.c (.bool true)) (.t 50)⟩]) (.cond (.t 51) (.seq (.reg [⟨some 4, none, .mv (.c (.bool false))⟩]) .ret) .skip)) (.seq (.seq (.dreg [[], [], [1], [0, 2, 1], [3, 0, 2, 1]] [⟨some 52, none, .load true 2 (.t 8)⟩, ⟨some 53, none, .load true 2 (.t 2)⟩, ⟨some 54, none, .call 17 [(.t 53)]⟩, ⟨some 55, none, .call 20 [(.t 52), (.t 54)]⟩, ⟨some 56, none, .un .not (.t 55)⟩]) (.cond (.t 56) (.seq (.reg [⟨some 4, none, .mv (.c (.bool false))⟩]) .ret) .skip)) (.seq (.seq (.reg [⟨some 57, none, .mv (.t 9)⟩, ⟨some 58, none, .mv (.t 1)⟩, ⟨some 59, none, .call 18 [(.t 58)]⟩, ⟨some 60, none, .call 21 [(.t 57), (.t 59)]⟩, ⟨some 61, none, .un .not (.t 60)⟩]) (.cond (.t 61) (.seq (.reg [⟨some 4, none, .mv (.c (.bool false))⟩]) .ret) .skip)) (.seq (.reg [⟨some 12, none, .mv (.c (.int .i64 1))⟩]) (.seq (.reg [⟨some 62, none, .load true 2 (.t 8)⟩, ⟨some 63, none, .mv (.t 12)⟩, ⟨some 64, none, .call 22 [(.t 62), (.t 63)]⟩, ⟨some 12, none, .mv (.t 64)⟩]) (.seq (.reg [⟨some 65, none, .mv (.t 9)⟩, ⟨some 66, none, .mv (.t 12)⟩, ⟨some 67, none, .call 23 [(.t 65), (.t 66)]⟩, ⟨some 12, none, .mv (.t 67)⟩]) (.seq (.seq (.reg [⟨some 68, none, .mv (.t 12)⟩, ⟨some 69, none, .bin .lss false (.t 68) (.c (.int .i64 0))⟩, ⟨some 70, none, .mv (.t 69)⟩, ⟨(some 71), (some (70, false)), (.load true 2 (.t 10))⟩, ⟨(some 72), (some (70, false)), (.load true 2 (.t 6))⟩, ⟨(some 73), (some (70, false)), (.call 20 [(.t 71), (.t 72)])⟩, ⟨(some 74), (some (70, false)), (.un .not (.t 73))⟩, ⟨some 75, none, .pick (.t 70) (.c (.bool true)) (.t 74)⟩, ⟨some 76, none, .mv (.t 75)⟩, ⟨(some 77), (some (76, false)), (.mv (.t 11))⟩, ⟨(some 78), (some (76, false)), (.mv (.t 7))⟩, ⟨(some 79), (some (76, false)), (.bin .neq true (.t 77) (.t 78))⟩, ⟨some 80, none, .pick (.t 76) (.c (.bool true)) (.t 79)⟩]) (.cond (.t 80) (.seq (.reg [⟨some 4, none, .mv (.c (.bool false))⟩]) .ret) .skip)) (.seq (.reg [⟨some 13, none, .mv (.c (.int .i64 1))⟩]) (.seq (.reg [⟨some 81, none, .load true 2 (.t 10)⟩, ⟨some 82, none, .mv (.t 13)⟩, ⟨some 83, none, .call 22 [(.t 81), (.t 82)]⟩, ⟨some 13, none, .mv (.t 83)⟩]) (.seq (.reg [⟨some 14, none, .mv (.c (.int .i64 1))⟩]) (.seq (.reg [⟨some 84, none, .load true 2 (.t 10)⟩, ⟨some 85, none, .mv (.t 14)⟩, ⟨some 86, none, .call 24 [(.t 84), (.t 85)]⟩, ⟨some 14, none, .mv (.t 86)⟩]) (.seq (.seq (.reg [⟨some 87, none, .mv (.t 14)⟩, ⟨some 88, none, .bin .lss false (.t 87) (.c (.int .i64 0))⟩]) (.cond (.t 88) (.seq (.reg [⟨some 4, none, .mv (.c (.bool false))⟩]) .ret) .skip)) (.seq (.seq (.reg [⟨some 89, none, .mv (.t 14)⟩, ⟨some 90, none, .mv (.t 13)⟩, ⟨some 91, none, .bin .neq false (.t 89) (.t 90)⟩]) (.cond (.t 91) (.seq (.reg [⟨some 4, none, .mv (.c (.bool false))⟩]) .ret) .skip)) (.seq (.reg [⟨some 93, none, .load true 2 (.t 2)⟩, ⟨some 94, none, .call 17 [(.t 93)]⟩, ⟨some 95, none, .mv (.t 1)⟩, ⟨some 96, none, .call 18 [(.t 95)]⟩, ⟨some 97, none, .call 19 [(.t 94), (.t 96)]⟩, ⟨some 92, none, .mv (.t 97)⟩, ⟨some 98, none, .ext (.t 92) 0⟩, ⟨some 99, none, .ext (.t 92) 1⟩, ⟨some 15, none, .alloc 40 [(.int .i64 0), .nil]⟩, ⟨none, none, (.store 2 (.t 15) (.t 98))⟩, ⟨some 16, none, .mv (.t 99)⟩]) (.seq (.seq (.reg [⟨some 100, none, .load true 2 (.t 15)⟩, ⟨some 101, none, .load true 2 (.t 6)⟩, ⟨some 102, none, .call 20 [(.t 100), (.t 101)]⟩, ⟨some 103, none, .un .not (.t 102)⟩, ⟨some 104, none, .mv (.t 103)⟩, ⟨(some 105), (some (104, false)), (.mv (.t 16))⟩, ⟨(some 106), (some (104, false)), (.mv (.t 7))⟩, ⟨(some 107), (some (104, false)), (.bin .neq true (.t 105) (.t 106))⟩, ⟨some 108, none, .pick (.t 104) (.c (.bool true)) (.t 107)⟩]) (.cond (.t 108) (.seq (.reg [⟨some 4, none, .mv (.c (.bool false))⟩]) .ret) .skip)) (.seq (.reg [⟨some 14, none, .mv (.c (.int .i64 1))⟩]) (.seq (.reg [⟨some 109, none, .load true 2 (.t 10)⟩, ⟨some 110, none, .mv (.t 14)⟩, ⟨some 111, none, .call 24 [(.t 109), (.t 110)]⟩, ⟨some 14, none, .mv (.t 111)⟩]) (.seq (.seq (.reg [⟨some 112, none, .mv (.t 14)⟩, ⟨some 113, none, .bin .lss false (.t 112) (.c (.int .i64 0))⟩]) (.cond (.t 113) (.seq (.reg [⟨some 4, none, .mv (.c (.bool false))⟩]) .ret) .skip)) (.seq (.seq (.reg [⟨some 114, none, .mv (.t 14)⟩, ⟨some 115, none, .mv (.t 13)⟩, ⟨some 116, none, .bin .neq false (.t 114) (.t 115)⟩]) (.cond (.t 116) (.seq (.reg [⟨some 4, none, .mv (.c (.bool false))⟩]) .ret) .skip)) (.seq (.reg [⟨some 4, none, .mv (.c (.bool true))⟩]) .ret)))))))))))))))))))))))))))))
theorem k_laws_FnExactRenameElements : codeOf Try.prog 4 = some ⟨117, c_laws_FnExactRenameElements, [(.tmp 4)]⟩ := by kernel_rfl
theorem m_laws_FnExactRenameElements : modes 4 = ⟨[], .asis, none, false⟩ := by unfold modes; rfl
theorem rn_sumB (s : Int) (p : List Int) : ∀ ts : List Tl, Tl.sumB (ts.map (Tl.rn s p)) = Tl.sumB ts
  | [] => rfl
  | t :: ts => by
    rw [List.map_cons, Tl.sumB, Tl.sumB, rn_sumB s p ts, Tl.bulk_eq, Tl.bulk_eq]
    show t.name.size + ((List.range t.vals.length).map (atV s p t)).length + _ = _
    rw [List.length_map, List.length_range]
theorem vals_small : ∀ (ts : List Tl) (t : Tl), t ∈ ts → t.vals.length ≤ Tl.sumB ts
  | [], t, h => by cases h
  | x :: ts, t, h => by
    rw [Tl.sumB, Tl.bulk_eq]
    rcases List.mem_cons.1 h with rfl | h
    · omega
    · have := vals_small ts t h; omega
theorem rnTo_bulk (m : Ip) (p : List Int) (h : m.bulk ≤ 1048576) : (rnTo m p).bulk ≤ 1048576 := by
  unfold rnTo
  cases rnOk m p with
  | false => rw [cond_false, Ip.bulk_eq]; simp [Tl.sumB]
  | true =>
    rw [cond_true, Ip.bulk_eq]
    rw [Ip.bulk_eq] at h
    show (m.tables.map (Tl.rn m.size p)).length + Tl.sumB (m.tables.map (Tl.rn m.size p)) ≤ _
    rw [rn_sumB, List.length_map]
    exact h
set_option maxHeartbeats 8000000 in
theorem law9_E (m : Ip) (p : List Int) (hfm : D.fits m.d) (hfp : D.fit (.arr (p.map (fun s => [D.int s])))) : E 4 [m.sv, .arr (p.map (fun s => [D.int s]))] [] = some (.bool true, []) := by
  rcases Nat.lt_or_ge 1048576 p.length with hn_p | hn_p
  · have hq_p : ((1048576 : Int) < (p.length : Int)) = True := eq_true (by omega)
    refine E_walk k_laws_FnExactRenameElements m_laws_FnExactRenameElements (of_decide_eq_true rfl) ?_
    simp (disch := omega) only [c_laws_FnExactRenameElements, go_sem, go_cond, zA, zB, zC, zD, zE, zF, zG, zH, ↓reduceIte, zI, reduceCtorEq, zJ, zK, hq_p]
  have hq_p : ((1048576 : Int) < (p.length : Int)) = False := eq_false (by omega)
  have s0 := szT_Interpretation m hfm 1048576 (by omega) (by omega)
  have q0 := szR_spec 1048576 m.bulk
  obtain ⟨l0, hl0⟩ : ∃ l, l = szR 1048576 (m.bulk : Nat) := ⟨_, rfl⟩
  rw [← hl0] at s0 q0
  rcases Int.lt_or_le l0 0 with h0 | h0_0
  · refine E_walk k_laws_FnExactRenameElements m_laws_FnExactRenameElements (of_decide_eq_true rfl) ?_
    simp (disch := omega) only [c_laws_FnExactRenameElements, go_sem, go_cond, zA, zB, zC, zD, zE, zF, zG, zH, ↓reduceIte, zI, reduceCtorEq, zJ, zK, hq_p, s0, m_laws_szInterpretation]
  have hb_m : m.bulk ≤ 1048576 := by omega
  have hb_p : p.length ≤ 1048576 := by omega
  have t_m := toT_Interpretation m hb_m
  have t_p := toTS_int p hb_p
  have hmt := Ip.bulk_tame m hb_m
  have hsm : m.tables.length ≤ 1048576 ∧ ∀ t ∈ m.tables, t.vals.length ≤ 1048576 := by
    have h := hb_m
    rw [Ip.bulk_eq] at h
    exact ⟨by omega, fun t ht => by have := vals_small m.tables t ht; omega⟩
  have a1 := l10RenameElements_E m hmt p hb_p
  have a2 := renameElements_E m hmt hsm p hb_p
  have hb_r := rnTo_bulk m p hb_m
  obtain ⟨r, hr_r⟩ : ∃ r, r = rnTo m p := ⟨_, rfl⟩
  rw [← hr_r] at a1 a2 hb_r
  obtain ⟨o, hr_o⟩ : ∃ r, r = rnOk m p := ⟨_, rfl⟩
  rw [← hr_o] at a1 a2
  have eq_m := eqT_Interpretation m (by omega)
  have be_m := Ip.bulk_eq m
  have w_m_tables := Tl.wtS_bulk m.tables
  have eq_p := eqTS_int p (by omega)
  have w_p := In.wtS_bulk p
  have eq_r := eqT_Interpretation r (by omega)
  have be_r := Ip.bulk_eq r
  have w_r_tables := Tl.wtS_bulk r.tables
  have k_m_0 := Tl.mkS_end m.tables (1)
  have m_m := markT_Interpretation m (1) (.row 80 4 (m.tables.map Tl.o)) (by omega) (by omega) rfl
  obtain ⟨n_m, hn_m⟩ : ∃ n1, n1 = (m.mkr (1)).2 := ⟨_, rfl⟩
  have hn'_m : n_m = (Tl.mkS m.tables (1)).2 := hn_m
  rw [← hn_m] at m_m
  have k_p := In.mkS_end p (n_m)
  have m_p := markTS_int p (n_m) [.row 3 1 (p.map (fun n => [OT.int n]))] (by omega) (by omega) rfl
  obtain ⟨n_p, hn_p⟩ : ∃ n1, n1 = (In.mkS p (n_m)).2 := ⟨_, rfl⟩
  rw [← hn_p] at k_p m_p
  have k_r_0 := Tl.mkS_end r.tables (1)
  have m_r := markT_Interpretation r (1) (.tree (r.tables.map Tl.o) []) (by omega) (by omega) rfl
  have hd_r := heldT_Interpretation r (1) (by omega) (by omega)
  obtain ⟨n_r, hn_r⟩ : ∃ n1, n1 = (r.mkr (1)).2 := ⟨_, rfl⟩
  have hn'_r : n_r = (Tl.mkS r.tables (1)).2 := hn_r
  rw [← hn_r] at m_r hd_r
  refine E_walk k_laws_FnExactRenameElements m_laws_FnExactRenameElements (of_decide_eq_true rfl) ?_
  simp (disch := omega) only [c_laws_FnExactRenameElements, go_sem, zA, zB, zC, zD, zE, zF, zG, zH, ↓reduceIte, zI, reduceCtorEq, zJ, zK, hq_p, s0, t_m, t_p, a1, a2, eq_m, eq_p, eq_r, m_m, m_p, hd_r, m_r, dec_refl, m_laws_szInterpretation, m_laws_toInterpretation, m_laws_toIntS, m_laws_eqInterpretation, m_laws_eqIntS, m_laws_markInterpretation, m_laws_markIntS, m_laws_heldInterpretation, m_spec_RenameElements, m_impl_RenameElements, Ip.osv, Ip.obs, Tl.osv, Tl.obs, Tl.erss, Tl.noss]
  repeat ((first | (refine go_condT ?_ ?_; (focus (simp (disch := omega) only [go_sem, zA, zB, zC, zD, zE, zF, zG, zH, ↓reduceIte, zI, reduceCtorEq, zJ, zK, hq_p, s0, t_m, t_p, a1, a2, eq_m, eq_p, eq_r, m_m, m_p, hd_r, m_r, dec_refl, m_laws_szInterpretation, m_laws_toInterpretation, m_laws_toIntS, m_laws_eqInterpretation, m_laws_eqIntS, m_laws_markInterpretation, m_laws_markIntS, m_laws_heldInterpretation, m_spec_RenameElements, m_impl_RenameElements, Ip.osv, Ip.obs, Tl.osv, Tl.obs, Tl.erss, Tl.noss]; done))) | (refine go_condF ?_ ?_; (focus (simp (disch := omega) only [go_sem, zA, zB, zC, zD, zE, zF, zG, zH, ↓reduceIte, zI, reduceCtorEq, zJ, zK, hq_p, s0, t_m, t_p, a1, a2, eq_m, eq_p, eq_r, m_m, m_p, hd_r, m_r, dec_refl, m_laws_szInterpretation, m_laws_toInterpretation, m_laws_toIntS, m_laws_eqInterpretation, m_laws_eqIntS, m_laws_markInterpretation, m_laws_markIntS, m_laws_heldInterpretation, m_spec_RenameElements, m_impl_RenameElements, Ip.osv, Ip.obs, Tl.osv, Tl.obs, Tl.erss, Tl.noss]; done)))); (try simp (disch := omega) only [go_sem, zA, zB, zC, zD, zE, zF, zG, zH, ↓reduceIte, zI, reduceCtorEq, zJ, zK, hq_p, s0, t_m, t_p, a1, a2, eq_m, eq_p, eq_r, m_m, m_p, hd_r, m_r, dec_refl, m_laws_szInterpretation, m_laws_toInterpretation, m_laws_toIntS, m_laws_eqInterpretation, m_laws_eqIntS, m_laws_markInterpretation, m_laws_markIntS, m_laws_heldInterpretation, m_spec_RenameElements, m_impl_RenameElements, Ip.osv, Ip.obs, Tl.osv, Tl.obs, Tl.erss, Tl.noss]))
end Go.Proofs.Ytolhlpglgheldaa
set_option maxRecDepth 100000
set_option linter.unusedSimpArgs false
set_option linter.unusedVariables false
namespace Go.Proofs.Ytolhlpglgheldaa
open Go.RowKit Go.ChangeShapes Go.WideShapes Go.ChangeAt Go.Deep
section
variable {H : Type} {enc : TypeId × Value → H} {P : Program} {w : World} {base : Nat} {spare : Nat → Bool} {held : Bool}
theorem addr_add_plain {b o k : Nat} : (⟨b, o, none⟩ : Addr).add k = ⟨b, o + k, none⟩ := by
  unfold Addr.add; split
  · subst_vars; rfl
  · rfl
theorem cell_lt {a : Addr} {v : Value} (h : w.cell? a = some v) : a.block < w.heap.size := by
  unfold World.cell? at h
  cases hb : w.heap[a.block]? with
  | none => rw [hb] at h; cases h
  | some o => exact (Array.getElem?_eq_some_iff.1 hb).1
end
section
variable {H : Type} {enc : TypeId × Value → H} {w : World} {base : Nat} {spare : Nat → Bool} {held : Bool}
end
end Go.Proofs.Ytolhlpglgheldaa
set_option maxRecDepth 100000
set_option linter.unusedSimpArgs false
set_option linter.unusedVariables false
namespace Go.Proofs.Ytolhlpglgheldaa
open Go.RowKit Go.ChangeShapes Go.WideShapes Go.ChangeAt Go.Deep
section
variable {H : Type} {enc : TypeId × Value → H} {P : Program} {w : World} {base : Nat} {spare : Nat → Bool} {held : Bool}
theorem open_sl' {t e : TypeId} {fuel : Nat} {v : Value} {x : DataW H × List MemPlace} (sz : Nat) (hsz : P.cellsOf e = sz) (h0 : 0 < sz) (ht : P.underlying t = some (.slice e)) (h : DataW.trod enc P w base spare held fuel t [v] = some x) :
    ∃ (a : Option Addr) (len cap : Nat) (f : Nat → Nat → Value), v = .slice a len cap ∧ len ≤ cap ∧ cap ≤ 9223372036854775807 ∧ SlA w 0 sz len f a ∧
      ∀ i, i < len → ∃ n x', n < fuel ∧ DataW.trod enc P w base spare held n e ((List.range sz).map (f i)) = some x' := by
  rcases DataW.trod_slice ht h with ⟨hcs, _⟩ | ⟨a, len, cap, elems, rest, n, hf, hcs, hx, hb, hl, hm, hlen, hel, _, _⟩
  · simp only [List.cons.injEq, and_true] at hcs
    exact ⟨none, 0, 0, fun _ _ => undef, hcs, Nat.le_refl _, by omega, .inl rfl, fun i hi => absurd hi (by omega)⟩
  · have hi : ∀ i, i < len → ∃ cs' x', w.cells? base (a.add (i * sz)) sz = some cs' ∧ DataW.trod enc P w base spare held n e cs' = some x' := by
      intro i hi
      have h1 := hel i hi
      rw [hsz, List.getElem?_eq_getElem (by omega)] at h1
      obtain ⟨cs', h2, h3⟩ := Option.bind_eq_some_iff.1 h1
      exact ⟨cs', _, h2, h3⟩
    have hcell : ∀ i j, i < len → j < sz → ∃ v, w.cell? (a.add (i * sz + j)) = some v := by
      intro i j hil hj
      obtain ⟨cs', x', hc, _⟩ := hi i hil
      obtain ⟨_, hcl, hat⟩ := World.cells?_some hc
      have h1 := hat j hj
      rw [Go.Deep.add_add, List.getElem?_eq_getElem (by omega)] at h1
      exact ⟨_, h1⟩
    simp only [List.cons.injEq, and_true] at hcs
    refine ⟨some a, len, cap, fun i j => (w.cell? (a.add (i * sz + j))).getD undef, hcs, hl, hm, ?_, ?_⟩
    · rcases Nat.eq_zero_or_pos len with h | h
      · exact .inl h
      · obtain ⟨v, hv⟩ := hcell 0 0 h h0
        rw [Nat.zero_mul, Nat.zero_add] at hv
        have hsp : a.spot = none := by simpa [Addr.add] using World.cell?_spot hv
        have hlt := cell_lt hv
        obtain ⟨b, off, spot⟩ := a
        simp only at hsp
        subst hsp
        refine .inr ⟨b, off, rfl, Nat.zero_le _, by simpa [Addr.add] using hlt, fun i j hil hj => ?_⟩
        obtain ⟨v', hv'⟩ := hcell i j hil hj
        rw [addr_add_plain] at hv'
        show _ = some ((w.cell? ((⟨b, off, none⟩ : Addr).add (i * sz + j))).getD undef)
        rw [addr_add_plain, Nat.add_assoc, hv']
        rfl
    · intro i hil
      obtain ⟨cs', x', hc, ht'⟩ := hi i hil
      obtain ⟨_, hcl, hat⟩ := World.cells?_some hc
      refine ⟨n, x', by omega, ?_⟩
      have hcs' : (List.range sz).map (fun j => (w.cell? (a.add (i * sz + j))).getD undef) = cs' := by
        apply List.ext_getElem?
        intro j
        by_cases hj : j < sz
        · rw [List.getElem?_map, List.getElem?_range hj]
          have h1 := hat j hj
          rw [Go.Deep.add_add] at h1
          rw [List.getElem?_eq_getElem (by omega : j < cs'.length)] at h1 ⊢
          simp [h1]
        · rw [List.getElem?_eq_none (by simp; omega), List.getElem?_eq_none (by omega)]
      rw [hcs']
      exact ht'
theorem open_st' {t : TypeId} {fs : Array Field} {fuel : Nat} {cs : List Value} {x : DataW H × List MemPlace} (ht : P.underlying t = some (.struct fs)) (h : DataW.trod enc P w base spare held fuel t cs = some x) :
    ∃ n, n < fuel ∧ cs.length = P.cellsOf t ∧ ∀ (i : Nat) (f : Field), fs[i]? = some f → ∃ y, DataW.trod enc P w base spare held n f.type ((cs.drop f.offset).take (P.cellsOf f.type)) = some y := by
  obtain ⟨xs, n, hn, hx, hlen, hxl, hf⟩ := DataW.trod_struct ht h
  refine ⟨n, by omega, hlen, fun i f hi => ?_⟩
  have hil : i < fs.size := (Array.getElem?_eq_some_iff.1 hi).1
  have h1 := hf i f hi
  rw [List.getElem?_eq_getElem (by omega : i < xs.length)] at h1
  exact ⟨_, h1⟩
end
inductive Lvs (w : World) : List D → List Value → Prop
  | nil : Lvs w [] []
  | cons {d : D} {v : Value} {ds : List D} {vs : List Value} (h : DAt w d v) (hs : Lvs w ds vs) : Lvs w (d :: ds) (v :: vs)
theorem Lvs.len {w : World} {ds : List D} {vs : List Value} (h : Lvs w ds vs) : ds.length = vs.length := by
  induction h with
  | nil => rfl
  | cons h hs ih => simp [ih]
theorem Lvs.get {w : World} {ds : List D} {vs : List Value} (h : Lvs w ds vs) : ∀ j (h1 : j < ds.length) (h2 : j < vs.length), DAt w ds[j] vs[j] := by
  induction h with
  | nil => intro j h1; simp at h1
  | cons h hs ih =>
    intro j h1 h2
    cases j with
    | zero => exact h
    | succ j => exact ih j (by simpa using h1) (by simpa using h2)
theorem open_arr {α : Type} [Inhabited α] (dd : α → List D) {w : World} {m len cap : Nat} {f : Nat → Nat → Value} {a : Option Addr} (hl : len ≤ cap) (hm : cap ≤ 9223372036854775807) (hS : SlA w 0 m len f a)
    (hel : ∀ i, i < len → ∃ X : α, Lvs w (dd X) ((List.range m).map (f i))) : ∃ xs : List α, DAt w (.arr (xs.map dd)) (.slice a len cap) := by
  obtain ⟨g, hg⟩ : ∃ g : Nat → α, ∀ i, i < len → Lvs w (dd (g i)) ((List.range m).map (f i)) :=
    ⟨fun i => if h : i < len then (hel i h).choose else default, fun i hi => by simp only [hi, dif_pos]; exact (hel i hi).choose_spec⟩
  refine ⟨(List.range len).map g, ?_⟩
  have hlen : (((List.range len).map g).map dd).length = len := by simp
  have := DAt.arr_mk (w := w) (es := ((List.range len).map g).map dd) (sz := m) (cap := cap) (a := a) (f := f) (by rw [hlen]; exact hl) hm (by rw [hlen]; exact hS) (fun i hi => by
    rw [hlen] at hi
    have := (hg i hi).len
    simpa using this) (fun i j hi hj => by
    rw [hlen] at hi
    have h1 := hg i hi
    have h2 := h1.len
    simp only [List.length_map, List.length_range] at h2
    simp only [List.getElem_map, List.getElem_range] at hj ⊢
    have := h1.get j hj (by simp; omega)
    simpa using this)
  rw [hlen] at this
  exact this
instance : Inhabited Tm := ⟨Tm.zero⟩
instance : Inhabited Fm := ⟨Fm.zero⟩
section
variable {H : Type} {enc : TypeId × Value → H} {w : World} {base : Nat} {spare : Nat → Bool} {held : Bool}
end
end Go.Proofs.Ytolhlpglgheldaa
set_option maxRecDepth 100000
set_option linter.unusedSimpArgs false
set_option linter.unusedVariables false
namespace Go.Proofs.Ytolhlpglgheldaa
open Go.RowKit
theorem DRep.lt_ {own : Bool} {w : World} {S : Nat → Prop} {d : D} {v : Value} (h : DRep own w S d v) : DRep own w (fun b => S b ∧ b < w.heap.size) d v := by
  induction h with
  | int S n => exact .int _ n
  | bool S b => exact .bool _ b
  | str S s h => exact .str _ s h
  | arr S sz es a cap f Sub h1 h2 h3 h4 h5 h6 h7 ih =>
    refine .arr _ sz es a cap f (fun i j x => Sub i j x ∧ x < w.heap.size) h1 h2 ?_ h4 (fun i j x h => ⟨h5 i j x h.1, h.2⟩) (fun ho i j i' j' x h h' => h6 ho i j i' j' x h.1 h'.1) ih
    rcases h3 with h3 | ⟨b, off, ha, hS, hl, hc, ho⟩
    · exact .inl h3
    · exact .inr ⟨b, off, ha, ⟨hS, hl⟩, hl, hc, fun h => ⟨fun i j hx => (ho h).1 i j hx.1, (ho h).2⟩⟩
theorem DAt.rep {w : World} {es : List (List D)} {v : Value} (h : DAt w (.arr es) v) : RepV w (fun b => b < w.heap.size) (fun _ => none) (.arr es) v := by
  simp only [RepV]
  exact (DRep.lt_ h).up fun b hb => hb.2
theorem Fun.yes {f : FuncId} {args : List SV} (h : Fun Try.prog f args [] (.bool true) []) {w : World} {vs : List Value} (hgl : GL w fun b => b < w.heap.size) (hvs : RepVs w (fun b => b < w.heap.size) (fun _ => none) args vs) : Calls Try.prog f vs.toArray w (Ret w (.bool true)) := by
  have nl : ∀ g, ¬ (geto [] g).live := fun g hg => by simp [geto, Ob.live] at hg
  refine (h w (fun b => b < w.heap.size) (fun _ => none) (fun _ _ => False) vs ⟨fun b hb => hb, fun g hg => absurd hg (nl g), fun g b hg => absurd hg (nl g), fun g b hg => absurd hg (nl g), fun g g' b hg => absurd hg (nl g), fun g _ => rfl, hgl⟩ hvs).mono ?_
  rintro e w' ⟨v, I', V', B', rfl, hr, hp⟩
  simp only [RepV] at hr
  subst hr
  exact ⟨rfl, hp.fr.os, hp.fr.tape, hp.fr.output, hp.fr.size, fun b hb => hp.fr.block b hb fun ⟨g, hg, _⟩ => absurd hg (nl g)⟩
theorem DAt.rep_sv {w : World} {d : D} {v : Value} (h : DAt w d v) : RepV w (fun b => b < w.heap.size) (fun _ => none) d.sv v :=
  D.rep_sv ((DRep.lt_ h).up fun b hb => hb.2)
theorem Lvs.reps {w : World} {ds : List D} {vs : List Value} (h : Lvs w ds vs) : RepVs w (fun b => b < w.heap.size) (fun _ => none) (ds.map D.sv) vs := by
  induction h with
  | nil => simp [RepVs]
  | cons h hs ih => simp only [List.map_cons, RepVs]; exact ⟨_, _, rfl, h.rep_sv, ih⟩
theorem Lvs.agg {w : World} {ds : List D} {vs : List Value} (h : Lvs w ds vs) : RepV w (fun b => b < w.heap.size) (fun _ => none) (.agg (ds.map D.sv)) (.agg vs.toArray) := by
  simp only [RepV]; exact ⟨vs, rfl, h.reps⟩
theorem Lvs.fits {w : World} {ds : List D} {vs : List Value} (h : Lvs w ds vs) : D.fits ds := by
  induction h with
  | nil => trivial
  | cons h hs ih => exact ⟨DRep.fit h, ih⟩
theorem DAt.fit {w : World} {d : D} {v : Value} (h : DAt w d v) : D.fit d := DRep.fit h
theorem args_nil {w : World} {I : Nat → Prop} {V : Nat → Option Value} : RepVs w I V [] [] := by simp [RepVs]
theorem args_more {w : World} {I : Nat → Prop} {V : Nat → Option Value} {x : SV} {xs : List SV} {v : Value} {vs : List Value} (h : RepV w I V x v) (hs : RepVs w I V xs vs) : RepVs w I V (x :: xs) (v :: vs) := by
  simp only [RepVs]; exact ⟨v, vs, rfl, h, hs⟩
instance : Inhabited Lt := ⟨Lt.zero⟩
instance : Inhabited Tl := ⟨Tl.zero⟩
instance : Inhabited Cl := ⟨Cl.zero⟩
section
variable {H : Type} {enc : TypeId × Value → H} {w : World} {base : Nat} {spare : Nat → Bool} {held : Bool}
theorem opnS_int {fuel : Nat} {v : Value} {x : DataW H × List MemPlace} (h : DataW.trod enc Try.prog w base spare held fuel 37 [v] = some x) : ∃ xs : List Int, DAt w (.arr (xs.map fun s => [D.int s])) v := by
  obtain ⟨a, len, cap, f, rfl, hl, hm, hS, hr⟩ := open_sl' (P := Try.prog) 1 (by kernel_rfl) (by omega) Try.underlying37 h
  exact open_arr (fun s => [D.int s]) hl hm hS fun i hi => by
    obtain ⟨n, x', hn, h1⟩ := hr i hi
    obtain ⟨z, q, _, _⟩ := DataW.trod_int Try.underlying3 h1
    rw [q]
    exact ⟨z, .cons (.int _ z) .nil⟩
theorem opn_Table {fuel : Nat} {cs : List Value} {x : DataW H × List MemPlace} (h : DataW.trod enc Try.prog w base spare held fuel 118 cs = some x) : ∃ X : Tl, Lvs w X.d cs := by
  obtain ⟨n, hn, hlen, hf⟩ := open_st' Try.underlying118 h
  rw [show Try.prog.cellsOf 118 = 4 by kernel_rfl] at hlen
  match cs, hlen with
  | [c0, c1, c2, c3], _ =>
    obtain ⟨y0, k0⟩ := hf 0 _ rfl
    have e0 : (([c0, c1, c2, c3].drop 0).take (Try.prog.cellsOf 9)) = [c0] := by rw [show Try.prog.cellsOf 9 = 1 by kernel_rfl]; rfl
    obtain ⟨z0, q0, _, s0⟩ := DataW.trod_string Try.underlying9 k0
    have q0' : c0 = .string z0 := by
      have : [c0] = [.string z0] := by rw [← e0]; exact q0
      simpa using this
    obtain ⟨y1, k1⟩ := hf 1 _ rfl
    have e1 : (([c0, c1, c2, c3].drop 1).take (Try.prog.cellsOf 3)) = [c1] := by rw [show Try.prog.cellsOf 3 = 1 by kernel_rfl]; rfl
    obtain ⟨z1, q1, _, _⟩ := DataW.trod_int Try.underlying3 k1
    have q1' : c1 = .int .i64 z1 := by
      have : [c1] = [.int .i64 z1] := by rw [← e1]; exact q1
      simpa using this
    obtain ⟨y2, k2⟩ := hf 2 _ rfl
    have e2 : (([c0, c1, c2, c3].drop 2).take (Try.prog.cellsOf 4)) = [c2] := by rw [show Try.prog.cellsOf 4 = 1 by kernel_rfl]; rfl
    obtain ⟨z2, q2, _⟩ := DataW.trod_bool Try.underlying4 k2
    have q2' : c2 = .bool z2 := by
      have : [c2] = [.bool z2] := by rw [← e2]; exact q2
      simpa using this
    obtain ⟨y3, k3⟩ := hf 3 _ rfl
    have e3 : (([c0, c1, c2, c3].drop 3).take (Try.prog.cellsOf 37)) = [c3] := by rw [show Try.prog.cellsOf 37 = 1 by kernel_rfl]; rfl
    have k3' : DataW.trod enc Try.prog w base spare held n 37 [c3] = some y3 := by rw [← e3]; exact k3
    obtain ⟨z3, g3⟩ := opnS_int k3'
    subst q0' q1' q2'
    exact ⟨⟨z0, z1, z2, z3⟩, by rw [Tl.d_eq]; exact (.cons (.str _ z0 s0) (.cons (.int _ z1) (.cons (.bool _ z2) (.cons g3 .nil))))⟩
theorem opnS_Table {fuel : Nat} {v : Value} {x : DataW H × List MemPlace} (h : DataW.trod enc Try.prog w base spare held fuel 34 [v] = some x) : ∃ xs : List Tl, DAt w (.arr (xs.map Tl.d)) v := by
  obtain ⟨a, len, cap, f, rfl, hl, hm, hS, hr⟩ := open_sl' (P := Try.prog) 4 (by kernel_rfl) (by omega) Try.underlying34 h
  exact open_arr Tl.d hl hm hS fun i hi => by
    obtain ⟨n, x', hn, h1⟩ := hr i hi
    exact opn_Table h1
theorem opn_Interpretation {fuel : Nat} {cs : List Value} {x : DataW H × List MemPlace} (h : DataW.trod enc Try.prog w base spare held fuel 36 cs = some x) : ∃ X : Ip, Lvs w X.d cs := by
  obtain ⟨n, hn, hlen, hf⟩ := open_st' Try.underlying36 h
  rw [show Try.prog.cellsOf 36 = 2 by kernel_rfl] at hlen
  match cs, hlen with
  | [c0, c1], _ =>
    obtain ⟨y0, k0⟩ := hf 0 _ rfl
    have e0 : (([c0, c1].drop 0).take (Try.prog.cellsOf 3)) = [c0] := by rw [show Try.prog.cellsOf 3 = 1 by kernel_rfl]; rfl
    obtain ⟨z0, q0, _, _⟩ := DataW.trod_int Try.underlying3 k0
    have q0' : c0 = .int .i64 z0 := by
      have : [c0] = [.int .i64 z0] := by rw [← e0]; exact q0
      simpa using this
    obtain ⟨y1, k1⟩ := hf 1 _ rfl
    have e1 : (([c0, c1].drop 1).take (Try.prog.cellsOf 34)) = [c1] := by rw [show Try.prog.cellsOf 34 = 1 by kernel_rfl]; rfl
    have k1' : DataW.trod enc Try.prog w base spare held n 34 [c1] = some y1 := by rw [← e1]; exact k1
    obtain ⟨z1, g1⟩ := opnS_Table k1'
    subst q0'
    exact ⟨⟨z0, z1⟩, by rw [Ip.d_eq]; exact (.cons (.int _ z0) (.cons g1 .nil))⟩
end
end Go.Proofs.Ytolhlpglgheldaa
