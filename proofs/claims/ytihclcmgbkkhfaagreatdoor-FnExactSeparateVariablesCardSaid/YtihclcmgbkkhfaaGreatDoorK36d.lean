/-
  This text holds, one behind the other: This text tells what the functions of terms answer in both packages: valid terms and atoms. No condition.
  This text holds plain laws of expressions and of the sizes of terms. No condition.
  This text holds plain laws of formulas: sizes, forms, validity. No condition.
  This text holds plain laws of formulas: what their forms say. No condition.
  This text holds plain laws of the negation normal form. No condition.
  This text tells what the order of terms answers in both packages. No condition.
  This text holds a plain law of atoms. No condition.
  This text tells what the variables of a term answer in both packages. No condition.
  This text tells what the variables of a term answer in the reference. No condition.
  This text holds plain laws of the order of names. No condition.
  This text holds plain laws of sorted names: putting one after the other at its place sorts. No condition.
  This text holds plain laws of formulas: free variables, substituting a variable. No condition.
  This text holds plain laws of giving quantifiers variables of their own. No condition.
  This text tells what copies of terms answer in both packages. No condition.
  This text holds a rule for runs of which a part of the answer is left open. No condition.
  This text tells what renaming the variables of a term answers in both packages. No condition.
  This text tells what the sizes of formulas answer in both packages. No condition.
  This text tells what the forms and the validity of formulas answer in both packages. No condition.
  This text tells what copies of formulas answer in both packages. No condition.
  This text tells what the free variables of a formula answer in the program. No condition.
  This text tells whether a name is in a list of names, in the reference. No condition.
-/
import Derived.Test.YtihclcmgbkkhfaaGreatDoorK36c
open Nat renaming reduceAdd → zA, reduceSub → zB, reduceLT → zC, reduceLeDiff → zD, reduceEqDiff → zE, reduceBEq → zF, reduceBneDiff → zG, reduceMul → zH
open Int renaming reduceToNat → zI, reduceNeg → zJ, reduceAdd → zK
set_option maxRecDepth 100000
set_option linter.unusedSimpArgs false
set_option linter.unusedVariables false
namespace Go.Proofs.YtihclcmgbkkhfaaGreatDoor
open Go.RowKit
def c_impl_isSmall : SC := (.seq (.reg [⟨some 1, none, .boxv 31 2 (.t 0)⟩, ⟨some 2, none, .mv (.c (.bool false))⟩]) (.seq (.reg [⟨some 3, none, .load true 2 (.t 1)⟩, ⟨some 4, none, .call 141 [(.t 3)]⟩, ⟨some 5, none, .bin .leq false (.t 4) (.c (.int .i64 30))⟩, ⟨some 6, none, .mv (.t 5)⟩, ⟨(some 7), (some (6, true)), (.load true 2 (.t 1))⟩, ⟨(some 8), (some (6, true)), (.call 142 [(.t 7)])⟩, ⟨(some 9), (some (6, true)), (.bin .leq false (.t 8) (.c (.int .i64 8)))⟩, ⟨some 10, none, .pick (.t 6) (.t 9) (.c (.bool false))⟩, ⟨some 2, none, .mv (.t 10)⟩]) .ret))
theorem k_impl_isSmall : codeOf Tryz.prog 113 = some ⟨11, c_impl_isSmall, [(.tmp 2)]⟩ := by kernel_rfl
theorem m_impl_isSmall : modes 113 = ⟨[], .asis, none, false⟩ := by unfold modes; rfl
def c_spec_l2Fits : SC := (.seq (.reg [⟨some 1, none, .boxv 31 2 (.t 0)⟩, ⟨some 2, none, .mv (.c (.bool false))⟩]) (.seq (.reg [⟨some 3, none, .load true 2 (.t 1)⟩, ⟨some 4, none, .call 153 [(.t 3), (.c (.int .i64 30))]⟩, ⟨some 5, none, .bin .leq false (.t 4) (.c (.int .i64 30))⟩, ⟨some 6, none, .mv (.t 5)⟩, ⟨(some 7), (some (6, true)), (.load true 2 (.t 1))⟩, ⟨(some 8), (some (6, true)), (.call 154 [(.t 7)])⟩, ⟨(some 9), (some (6, true)), (.bin .leq false (.t 8) (.c (.int .i64 8)))⟩, ⟨some 10, none, .pick (.t 6) (.t 9) (.c (.bool false))⟩, ⟨some 2, none, .mv (.t 10)⟩]) .ret))
theorem k_spec_l2Fits : codeOf Tryz.prog 134 = some ⟨11, c_spec_l2Fits, [(.tmp 2)]⟩ := by kernel_rfl
theorem m_spec_l2Fits : modes 134 = ⟨[], .asis, none, false⟩ := by unfold modes; rfl
def c_impl_IsValidTerm : SC := (.seq (.reg [⟨some 1, none, .boxv 31 2 (.t 0)⟩, ⟨some 2, none, .mv (.c (.bool false))⟩]) (.seq (.reg [⟨some 3, none, .load true 2 (.t 1)⟩, ⟨some 4, none, .call 113 [(.t 3)]⟩, ⟨some 5, none, .mv (.t 4)⟩, ⟨(some 6), (some (5, true)), (.load true 2 (.t 1))⟩, ⟨(some 7), (some (5, true)), (.call 114 [(.t 6)])⟩, ⟨some 8, none, .pick (.t 5) (.t 7) (.c (.bool false))⟩, ⟨some 2, none, .mv (.t 8)⟩]) .ret))
theorem k_impl_IsValidTerm : codeOf Tryz.prog 115 = some ⟨9, c_impl_IsValidTerm, [(.tmp 2)]⟩ := by kernel_rfl
theorem m_impl_IsValidTerm : modes 115 = ⟨[], .asis, none, false⟩ := by unfold modes; rfl
def c_spec_l2Good : SC := (.seq (.reg [⟨some 1, none, .boxv 31 2 (.t 0)⟩, ⟨some 2, none, .mv (.c (.bool false))⟩]) (.seq (.reg [⟨some 3, none, .load true 2 (.t 1)⟩, ⟨some 4, none, .call 134 [(.t 3)]⟩, ⟨some 5, none, .mv (.t 4)⟩, ⟨(some 6), (some (5, true)), (.load true 2 (.t 1))⟩, ⟨(some 7), (some (5, true)), (.call 135 [(.t 6)])⟩, ⟨some 8, none, .pick (.t 5) (.t 7) (.c (.bool false))⟩, ⟨some 2, none, .mv (.t 8)⟩]) .ret))
theorem k_spec_l2Good : codeOf Tryz.prog 137 = some ⟨9, c_spec_l2Good, [(.tmp 2)]⟩ := by kernel_rfl
theorem m_spec_l2Good : modes 137 = ⟨[], .asis, none, false⟩ := by unfold modes; rfl
def c_impl_isEquality : SC := (.seq (.reg [⟨some 1, none, .boxv 31 2 (.t 0)⟩, ⟨some 2, none, .mv (.c (.bool false))⟩]) (.seq (.reg [⟨some 3, none, .faddr 0 (.t 1)⟩, ⟨some 4, none, .load false 1 (.t 3)⟩, ⟨(some 5), none, (.bin .eql false (.t 4) (.c (.str ⟨#[61]⟩)))⟩, ⟨some 2, none, .mv (.t 5)⟩]) .ret))
theorem k_impl_isEquality : codeOf Tryz.prog 112 = some ⟨6, c_impl_isEquality, [(.tmp 2)]⟩ := by kernel_rfl
theorem m_impl_isEquality : modes 112 = ⟨[], .asis, none, false⟩ := by unfold modes; rfl
def c_impl_IsValidAtom : SC := (.seq (.reg [⟨some 1, none, .boxv 31 2 (.t 0)⟩, ⟨some 2, none, .mv (.c (.bool false))⟩]) (.seq (.seq (.reg [⟨some 3, none, .load true 2 (.t 1)⟩, ⟨some 4, none, .call 112 [(.t 3)]⟩]) (.cond (.t 4) (.seq (.reg [⟨some 5, none, .faddr 1 (.t 1)⟩, ⟨some 6, none, .load false 1 (.t 5)⟩, ⟨some 7, none, .len false (.t 6)⟩, ⟨some 8, none, .bin .eql false (.t 7) (.c (.int .i64 2))⟩, ⟨some 9, none, .mv (.t 8)⟩, ⟨(some 10), (some (9, true)), (.load true 2 (.t 1))⟩, ⟨(some 11), (some (9, true)), (.call 113 [(.t 10)])⟩, ⟨some 12, none, .pick (.t 9) (.t 11) (.c (.bool false))⟩, ⟨some 13, none, .mv (.t 12)⟩, ⟨(some 14), (some (13, true)), (.faddr 1 (.t 1))⟩, ⟨(some 15), (some (13, true)), (.load false 1 (.t 14))⟩, ⟨(some 16), (some (13, true)), (.iaddr 2 (.t 15) (.c (.int .i64 0)))⟩, ⟨(some 17), (some (13, true)), (.load true 2 (.t 16))⟩, ⟨(some 18), (some (13, true)), (.call 114 [(.t 17)])⟩, ⟨some 19, none, .pick (.t 13) (.t 18) (.c (.bool false))⟩, ⟨some 20, none, .mv (.t 19)⟩, ⟨(some 21), (some (20, true)), (.faddr 1 (.t 1))⟩, ⟨(some 22), (some (20, true)), (.load false 1 (.t 21))⟩, ⟨(some 23), (some (20, true)), (.iaddr 2 (.t 22) (.c (.int .i64 1)))⟩, ⟨(some 24), (some (20, true)), (.load true 2 (.t 23))⟩, ⟨(some 25), (some (20, true)), (.call 114 [(.t 24)])⟩, ⟨some 26, none, .pick (.t 20) (.t 25) (.c (.bool false))⟩, ⟨some 2, none, .mv (.t 26)⟩]) .ret) .skip)) (.seq (.reg [⟨some 27, none, .faddr 0 (.t 1)⟩, ⟨some 28, none, .load false 1 (.t 27)⟩, ⟨some 29, none, .call 95 [(.t 28)]⟩, ⟨some 30, none, .mv (.t 29)⟩, ⟨(some 31), (some (30, true)), (.load true 2 (.t 1))⟩, ⟨(some 32), (some (30, true)), (.call 115 [(.t 31)])⟩, ⟨some 33, none, .pick (.t 30) (.t 32) (.c (.bool false))⟩, ⟨some 2, none, .mv (.t 33)⟩]) .ret)))
theorem k_impl_IsValidAtom : codeOf Tryz.prog 83 = some ⟨34, c_impl_IsValidAtom, [(.tmp 2)]⟩ := by kernel_rfl
theorem m_impl_IsValidAtom : modes 83 = ⟨[], .asis, none, false⟩ := by unfold modes; rfl
def c_spec_l2Atom : SC := (.seq (.reg [⟨some 1, none, .boxv 31 2 (.t 0)⟩, ⟨some 2, none, .mv (.c (.bool false))⟩]) (.seq (.seq (.reg [⟨some 3, none, .faddr 0 (.t 1)⟩, ⟨some 4, none, .load false 1 (.t 3)⟩, ⟨(some 5), none, (.bin .eql false (.t 4) (.c (.str ⟨#[61]⟩)))⟩]) (.cond (.t 5) (.seq (.reg [⟨some 6, none, .faddr 1 (.t 1)⟩, ⟨some 7, none, .load false 1 (.t 6)⟩, ⟨some 8, none, .len false (.t 7)⟩, ⟨some 9, none, .bin .eql false (.t 8) (.c (.int .i64 2))⟩, ⟨some 10, none, .mv (.t 9)⟩, ⟨(some 11), (some (10, true)), (.load true 2 (.t 1))⟩, ⟨(some 12), (some (10, true)), (.call 134 [(.t 11)])⟩, ⟨some 13, none, .pick (.t 10) (.t 12) (.c (.bool false))⟩, ⟨some 14, none, .mv (.t 13)⟩, ⟨(some 15), (some (14, true)), (.faddr 1 (.t 1))⟩, ⟨(some 16), (some (14, true)), (.load false 1 (.t 15))⟩, ⟨(some 17), (some (14, true)), (.iaddr 2 (.t 16) (.c (.int .i64 0)))⟩, ⟨(some 18), (some (14, true)), (.load true 2 (.t 17))⟩, ⟨(some 19), (some (14, true)), (.call 135 [(.t 18)])⟩, ⟨some 20, none, .pick (.t 14) (.t 19) (.c (.bool false))⟩, ⟨some 21, none, .mv (.t 20)⟩, ⟨(some 22), (some (21, true)), (.faddr 1 (.t 1))⟩, ⟨(some 23), (some (21, true)), (.load false 1 (.t 22))⟩, ⟨(some 24), (some (21, true)), (.iaddr 2 (.t 23) (.c (.int .i64 1)))⟩, ⟨(some 25), (some (21, true)), (.load true 2 (.t 24))⟩, ⟨(some 26), (some (21, true)), (.call 135 [(.t 25)])⟩, ⟨some 27, none, .pick (.t 21) (.t 26) (.c (.bool false))⟩, ⟨some 2, none, .mv (.t 27)⟩]) .ret) .skip)) (.seq (.reg [⟨some 28, none, .faddr 0 (.t 1)⟩, ⟨some 29, none, .load false 1 (.t 28)⟩, ⟨some 30, none, .call 136 [(.t 29)]⟩, ⟨some 31, none, .mv (.t 30)⟩, ⟨(some 32), (some (31, true)), (.load true 2 (.t 1))⟩, ⟨(some 33), (some (31, true)), (.call 137 [(.t 32)])⟩, ⟨some 34, none, .pick (.t 31) (.t 33) (.c (.bool false))⟩, ⟨some 2, none, .mv (.t 34)⟩]) .ret)))
theorem k_spec_l2Atom : codeOf Tryz.prog 102 = some ⟨35, c_spec_l2Atom, [(.tmp 2)]⟩ := by kernel_rfl
theorem m_spec_l2Atom : modes 102 = ⟨[], .asis, none, false⟩ := by unfold modes; rfl
theorem isSmall_E (x : Tm) (hn : x.nodes ≤ 1099511627776) : E 113 [x.sv] [] = some (.bool x.small, []) := by
  have h1 := size_E x hn
  have h2 := depth_E x hn
  have h3 := Tm.cap_spec x
  have h4 := Tm.many_spec x 30
  unfold Tm.small
  rcases Nat.lt_or_ge 30 x.nodes with h5 | h5
  · rw [decide_eq_false (by omega), Bool.false_and]
    refine E_walk k_impl_isSmall m_impl_isSmall (of_decide_eq_true rfl) ?_
    simp (disch := omega) only [c_impl_isSmall, go_sem, go_cond, zA, zB, zC, zD, zE, zF, zG, zH, ↓reduceIte, zI, reduceCtorEq, zJ, zK, h1, h2, m_impl_size, m_impl_depth]
  · rw [decide_eq_true h5, Bool.true_and]
    refine E_walk k_impl_isSmall m_impl_isSmall (of_decide_eq_true rfl) ?_
    simp (disch := omega) only [c_impl_isSmall, go_sem, go_cond, zA, zB, zC, zD, zE, zF, zG, zH, ↓reduceIte, zI, reduceCtorEq, zJ, zK, h1, h2, m_impl_size, m_impl_depth]
    rcases Nat.lt_or_ge 8 x.deep with h6 | h6
    · rw [decide_eq_false (by omega), dec_f (by omega)]
    · rw [decide_eq_true h6, dec_t (by omega)]
theorem l2Fits_E (x : Tm) (hn : x.nodes ≤ 1099511627776) : E 134 [x.sv] [] = some (.bool x.small, []) := by
  have h1 := many_E x 30 (by omega) (by omega) hn
  have h2 := l2Depth_E x hn
  have h3 := Tm.cap_spec x
  have h4 := Tm.many_spec x 30
  unfold Tm.small
  rcases Nat.lt_or_ge 30 x.nodes with h5 | h5
  · rw [decide_eq_false (by omega), Bool.false_and]
    refine E_walk k_spec_l2Fits m_spec_l2Fits (of_decide_eq_true rfl) ?_
    simp (disch := omega) only [c_spec_l2Fits, go_sem, go_cond, zA, zB, zC, zD, zE, zF, zG, zH, ↓reduceIte, zI, reduceCtorEq, zJ, zK, h1, h2, m_spec_l2Many, m_spec_l2Depth]
  · rw [decide_eq_true h5, Bool.true_and]
    refine E_walk k_spec_l2Fits m_spec_l2Fits (of_decide_eq_true rfl) ?_
    simp (disch := omega) only [c_spec_l2Fits, go_sem, go_cond, zA, zB, zC, zD, zE, zF, zG, zH, ↓reduceIte, zI, reduceCtorEq, zJ, zK, h1, h2, m_spec_l2Many, m_spec_l2Depth]
    rcases Nat.lt_or_ge 8 x.deep with h6 | h6
    · rw [decide_eq_false (by omega), dec_f (by omega)]
    · rw [decide_eq_true h6, dec_t (by omega)]
theorem isValidTerm_E (x : Tm) (hn : x.nodes ≤ 1099511627776) : E 115 [x.sv] [] = some (.bool x.valid, []) := by
  have h1 := isSmall_E x hn
  have h2 := hasNames_E x hn
  unfold Tm.valid
  cases h3 : x.small <;> rw [h3] at h1
  · refine E_walk k_impl_IsValidTerm m_impl_IsValidTerm (of_decide_eq_true rfl) ?_
    simp (disch := omega) only [c_impl_IsValidTerm, go_sem, go_cond, zA, zB, zC, zD, zE, zF, zG, zH, ↓reduceIte, zI, reduceCtorEq, zJ, zK, h1, h2, m_impl_isSmall, m_impl_hasNames]
  · refine E_walk k_impl_IsValidTerm m_impl_IsValidTerm (of_decide_eq_true rfl) ?_
    simp (disch := omega) only [c_impl_IsValidTerm, go_sem, go_cond, zA, zB, zC, zD, zE, zF, zG, zH, ↓reduceIte, zI, reduceCtorEq, zJ, zK, h1, h2, m_impl_isSmall, m_impl_hasNames]
theorem l2Good_E (x : Tm) (hn : x.nodes ≤ 1099511627776) : E 137 [x.sv] [] = some (.bool x.valid, []) := by
  have h1 := l2Fits_E x hn
  have h2 := l2Nodes_E x hn
  unfold Tm.valid
  cases h3 : x.small <;> rw [h3] at h1
  · refine E_walk k_spec_l2Good m_spec_l2Good (of_decide_eq_true rfl) ?_
    simp (disch := omega) only [c_spec_l2Good, go_sem, go_cond, zA, zB, zC, zD, zE, zF, zG, zH, ↓reduceIte, zI, reduceCtorEq, zJ, zK, h1, h2, m_spec_l2Fits, m_spec_l2Nodes]
  · refine E_walk k_spec_l2Good m_spec_l2Good (of_decide_eq_true rfl) ?_
    simp (disch := omega) only [c_spec_l2Good, go_sem, go_cond, zA, zB, zC, zD, zE, zF, zG, zH, ↓reduceIte, zI, reduceCtorEq, zJ, zK, h1, h2, m_spec_l2Fits, m_spec_l2Nodes]
theorem isEquality_E (x : Tm) : E 112 [x.sv] [] = some (.bool x.eqn, []) := by
  unfold Tm.eqn
  refine E_walk k_impl_isEquality m_impl_isEquality (of_decide_eq_true rfl) ?_
  simp (disch := omega) only [c_impl_isEquality, go_sem, go_cond, zA, zB, zC, zD, zE, zF, zG, zH, ↓reduceIte, zI, reduceCtorEq, zJ, zK]
set_option maxHeartbeats 1000000 in
theorem isValidAtom_E (x : Tm) (hn : x.nodes ≤ 1099511627776) : E 83 [x.sv] [] = some (.bool x.atom, []) := by
  have hl := Tm.length_le x.args
  have hx := Tm.nodes_eq x
  have h0 := isEquality_E x
  have h1 := isSmall_E x hn
  have h2 := isSymbol_E x.name
  have h3 := isValidTerm_E x hn
  have hE : dec (x.name = ⟨#[61]⟩) = x.eqn := rfl
  unfold Tm.atom
  cases he : x.eqn <;> rw [he] at h0 hE
  · rw [if_neg (by simp)]
    cases hs : symB x.name <;> rw [hs] at h2
    · refine E_walk k_impl_IsValidAtom m_impl_IsValidAtom (of_decide_eq_true rfl) ?_
      simp (disch := omega) only [c_impl_IsValidAtom, go_sem, go_cond, zA, zB, zC, zD, zE, zF, zG, zH, ↓reduceIte, zI, reduceCtorEq, zJ, zK, h0, h1, h2, h3, hE, m_impl_isSmall, m_impl_hasNames, m_impl_isSymbol, m_impl_IsValidTerm, m_impl_isEquality]
    · refine E_walk k_impl_IsValidAtom m_impl_IsValidAtom (of_decide_eq_true rfl) ?_
      simp (disch := omega) only [c_impl_IsValidAtom, go_sem, go_cond, zA, zB, zC, zD, zE, zF, zG, zH, ↓reduceIte, zI, reduceCtorEq, zJ, zK, h0, h1, h2, h3, hE, m_impl_isSmall, m_impl_hasNames, m_impl_isSymbol, m_impl_IsValidTerm, m_impl_isEquality]
  · rw [if_pos rfl]
    by_cases hc : x.args.length = 2
    · have hlt0 : 0 < x.args.length := by omega
      have hlt1 : 1 < x.args.length := by omega
      have hg0 := get_at Tm.d hlt0
      have hg1 := get_at Tm.d hlt1
      rw [Tm.d_eq] at hg0 hg1
      have hb0 := Tm.nodes_le x.args 0 hlt0
      have hb1 := Tm.nodes_le x.args 1 hlt1
      have hn0 := hasNames_E x.args[0] (by omega)
      have hn1 := hasNames_E x.args[1] (by omega)
      rw [nameS_two hc, show (x.args.length == 2) = true by simpa using hc]
      cases hs : x.small <;> rw [hs] at h1
      · refine E_walk k_impl_IsValidAtom m_impl_IsValidAtom (of_decide_eq_true rfl) ?_
        simp (disch := omega) only [c_impl_IsValidAtom, go_sem, go_cond, zA, zB, zC, zD, zE, zF, zG, zH, ↓reduceIte, zI, reduceCtorEq, zJ, zK, h0, h1, h2, h3, hE, hg0, hg1, hn0, hn1, hc, m_impl_isSmall, m_impl_hasNames, m_impl_isSymbol, m_impl_IsValidTerm, m_impl_isEquality]
        try simp
      · cases hq : (x.args[0]'hlt0).names <;> rw [hq] at hn0
        · refine E_walk k_impl_IsValidAtom m_impl_IsValidAtom (of_decide_eq_true rfl) ?_
          simp (disch := omega) only [c_impl_IsValidAtom, go_sem, go_cond, zA, zB, zC, zD, zE, zF, zG, zH, ↓reduceIte, zI, reduceCtorEq, zJ, zK, h0, h1, h2, h3, hE, hg0, hg1, hn0, hn1, hc, m_impl_isSmall, m_impl_hasNames, m_impl_isSymbol, m_impl_IsValidTerm, m_impl_isEquality]
          try simp
        · refine E_walk k_impl_IsValidAtom m_impl_IsValidAtom (of_decide_eq_true rfl) ?_
          simp (disch := omega) only [c_impl_IsValidAtom, go_sem, go_cond, zA, zB, zC, zD, zE, zF, zG, zH, ↓reduceIte, zI, reduceCtorEq, zJ, zK, h0, h1, h2, h3, hE, hg0, hg1, hn0, hn1, hc, m_impl_isSmall, m_impl_hasNames, m_impl_isSymbol, m_impl_IsValidTerm, m_impl_isEquality]
          try simp
    · refine E_walk k_impl_IsValidAtom m_impl_IsValidAtom (of_decide_eq_true rfl) ?_
      simp (disch := omega) only [c_impl_IsValidAtom, go_sem, go_cond, zA, zB, zC, zD, zE, zF, zG, zH, ↓reduceIte, zI, reduceCtorEq, zJ, zK, h0, h1, h2, h3, hE, m_impl_isSmall, m_impl_hasNames, m_impl_isSymbol, m_impl_IsValidTerm, m_impl_isEquality]
      rw [show (x.args.length == 2) = false by simpa using hc]
      try simp
set_option maxHeartbeats 1000000 in
theorem l2Atom_E (x : Tm) (hn : x.nodes ≤ 1099511627776) : E 102 [x.sv] [] = some (.bool x.atom, []) := by
  have hl := Tm.length_le x.args
  have hx := Tm.nodes_eq x
  have h0 := isEquality_E x
  have h1 := l2Fits_E x hn
  have h2 := l2Symbol_E x.name
  have h3 := l2Good_E x hn
  have hE : dec (x.name = ⟨#[61]⟩) = x.eqn := rfl
  unfold Tm.atom
  cases he : x.eqn <;> rw [he] at h0 hE
  · rw [if_neg (by simp)]
    cases hs : symB x.name <;> rw [hs] at h2
    · refine E_walk k_spec_l2Atom m_spec_l2Atom (of_decide_eq_true rfl) ?_
      simp (disch := omega) only [c_spec_l2Atom, go_sem, go_cond, zA, zB, zC, zD, zE, zF, zG, zH, ↓reduceIte, zI, reduceCtorEq, zJ, zK, h0, h1, h2, h3, hE, m_spec_l2Fits, m_spec_l2Nodes, m_spec_l2Symbol, m_spec_l2Good]
    · refine E_walk k_spec_l2Atom m_spec_l2Atom (of_decide_eq_true rfl) ?_
      simp (disch := omega) only [c_spec_l2Atom, go_sem, go_cond, zA, zB, zC, zD, zE, zF, zG, zH, ↓reduceIte, zI, reduceCtorEq, zJ, zK, h0, h1, h2, h3, hE, m_spec_l2Fits, m_spec_l2Nodes, m_spec_l2Symbol, m_spec_l2Good]
  · rw [if_pos rfl]
    by_cases hc : x.args.length = 2
    · have hlt0 : 0 < x.args.length := by omega
      have hlt1 : 1 < x.args.length := by omega
      have hg0 := get_at Tm.d hlt0
      have hg1 := get_at Tm.d hlt1
      rw [Tm.d_eq] at hg0 hg1
      have hb0 := Tm.nodes_le x.args 0 hlt0
      have hb1 := Tm.nodes_le x.args 1 hlt1
      have hn0 := l2Nodes_E x.args[0] (by omega)
      have hn1 := l2Nodes_E x.args[1] (by omega)
      rw [nameS_two hc, show (x.args.length == 2) = true by simpa using hc]
      cases hs : x.small <;> rw [hs] at h1
      · refine E_walk k_spec_l2Atom m_spec_l2Atom (of_decide_eq_true rfl) ?_
        simp (disch := omega) only [c_spec_l2Atom, go_sem, go_cond, zA, zB, zC, zD, zE, zF, zG, zH, ↓reduceIte, zI, reduceCtorEq, zJ, zK, h0, h1, h2, h3, hE, hg0, hg1, hn0, hn1, hc, m_spec_l2Fits, m_spec_l2Nodes, m_spec_l2Symbol, m_spec_l2Good]
        try simp
      · cases hq : (x.args[0]'hlt0).names <;> rw [hq] at hn0
        · refine E_walk k_spec_l2Atom m_spec_l2Atom (of_decide_eq_true rfl) ?_
          simp (disch := omega) only [c_spec_l2Atom, go_sem, go_cond, zA, zB, zC, zD, zE, zF, zG, zH, ↓reduceIte, zI, reduceCtorEq, zJ, zK, h0, h1, h2, h3, hE, hg0, hg1, hn0, hn1, hc, m_spec_l2Fits, m_spec_l2Nodes, m_spec_l2Symbol, m_spec_l2Good]
          try simp
        · refine E_walk k_spec_l2Atom m_spec_l2Atom (of_decide_eq_true rfl) ?_
          simp (disch := omega) only [c_spec_l2Atom, go_sem, go_cond, zA, zB, zC, zD, zE, zF, zG, zH, ↓reduceIte, zI, reduceCtorEq, zJ, zK, h0, h1, h2, h3, hE, hg0, hg1, hn0, hn1, hc, m_spec_l2Fits, m_spec_l2Nodes, m_spec_l2Symbol, m_spec_l2Good]
          try simp
    · refine E_walk k_spec_l2Atom m_spec_l2Atom (of_decide_eq_true rfl) ?_
      simp (disch := omega) only [c_spec_l2Atom, go_sem, go_cond, zA, zB, zC, zD, zE, zF, zG, zH, ↓reduceIte, zI, reduceCtorEq, zJ, zK, h0, h1, h2, h3, hE, m_spec_l2Fits, m_spec_l2Nodes, m_spec_l2Symbol, m_spec_l2Good]
      rw [show (x.args.length == 2) = false by simpa using hc]
      try simp
theorem Tm.nodeS_sumB : ∀ xs : List Tm, (∀ x ∈ xs, x.nodes ≤ 1 + x.bulk) → Tm.nodeS xs ≤ xs.length + Tm.sumB xs
  | [], _ => by simp [Tm.nodeS]
  | x :: xs, h => by
    have h1 := h x (by simp)
    have h2 := Tm.nodeS_sumB xs fun y hy => h y (by simp [hy])
    rw [Tm.nodeS, Tm.sumB]; simp only [List.length_cons]; omega
theorem Tm.nodes_bulk (x : Tm) : x.nodes ≤ 1 + x.bulk := by
  rw [Tm.nodes_eq, Tm.bulk_eq]
  have := Tm.nodeS_sumB x.args fun y hy => Tm.nodes_bulk y
  omega
termination_by SizeOf.sizeOf x
decreasing_by exact Tm.lt_of_mem hy
theorem varB_size {s : ByteArray} (h : varB s = true) : s.size ≤ 6 := by
  unfold varB inB at h
  simp at h
  omega
theorem symB_size {s : ByteArray} (h : symB s = true) : s.size ≤ 6 := by
  unfold symB inB at h
  simp at h
  omega
theorem Tm.sumB_nodes : ∀ xs : List Tm, (∀ x ∈ xs, x.bulk + 1 ≤ 8 * x.nodes) → xs.length + Tm.sumB xs ≤ 8 * Tm.nodeS xs
  | [], _ => by simp [Tm.nodeS, Tm.sumB]
  | x :: xs, h => by
    have h1 := h x (by simp)
    have h2 := Tm.sumB_nodes xs fun y hy => h y (by simp [hy])
    rw [Tm.nodeS, Tm.sumB]; simp only [List.length_cons]; omega
theorem Tm.names_bulk (x : Tm) (h : x.names = true) : x.bulk + 1 ≤ 8 * x.nodes := by
  have h1 := Tm.sumB_nodes x.args fun y hy => Tm.names_bulk y (Tm.names_arg h hy)
  have h2 : x.name.size ≤ 6 := by
    rw [Tm.names_eq] at h
    split at h
    · rename_i hv; exact varB_size hv
    · rw [Bool.and_eq_true, Bool.and_eq_true] at h; exact symB_size h.1.1
  rw [Tm.nodes_eq, Tm.bulk_eq]
  omega
termination_by SizeOf.sizeOf x
decreasing_by exact Tm.lt_of_mem hy
mutual
def Fm.nodes : Fm → Nat
  | .mk _ _ _ args => 1 + Fm.nodeS args
def Fm.nodeS : List Fm → Nat
  | [] => 0
  | x :: xs => Fm.nodes x + Fm.nodeS xs
end
theorem Fm.nodes_eq (x : Fm) : x.nodes = 1 + Fm.nodeS x.parts := by
  obtain ⟨op, atom, var, parts⟩ := x
  rw [Fm.nodes]; rfl
theorem Fm.nodes_pos (x : Fm) : 1 ≤ x.nodes := by rw [Fm.nodes_eq]; omega
theorem Fm.nodes_le : ∀ (xs : List Fm) (k : Nat) (h : k < xs.length), xs[k].nodes ≤ Fm.nodeS xs
  | [], k, h => absurd h (by simp)
  | x :: xs, 0, _ => by rw [Fm.nodeS]; simp
  | x :: xs, k + 1, h => by
    have := Fm.nodes_le xs k (by simpa using h)
    rw [Fm.nodeS]; simp only [List.getElem_cons_succ]; omega
theorem Fm.nodes_mem {xs : List Fm} {y : Fm} (h : y ∈ xs) : y.nodes ≤ Fm.nodeS xs := by
  obtain ⟨k, hk, rfl⟩ := List.getElem_of_mem h
  exact Fm.nodes_le xs k hk
mutual
def Fm.cap : Fm → Int
  | .mk _ _ _ xs => Fm.capL xs 1
def Fm.capL : List Fm → Int → Int
  | [], n => n
  | x :: xs, n => if 40 < n then n else Fm.capL xs (n + Fm.cap x)
end
theorem Fm.cap_eq (x : Fm) : x.cap = Fm.capL x.parts 1 := by
  obtain ⟨op, atom, var, xs⟩ := x
  rw [Fm.cap]; rfl
theorem Fm.capL_spec : ∀ (xs : List Fm) (n : Int), (∀ x ∈ xs, 1 ≤ x.cap ∧ x.cap ≤ x.nodes ∧ (x.cap ≤ 40 → x.cap = x.nodes)) → 1 ≤ n → n ≤ Fm.capL xs n ∧ Fm.capL xs n ≤ n + Fm.nodeS xs ∧ (Fm.capL xs n ≤ 40 → Fm.capL xs n = n + Fm.nodeS xs)
  | [], n, _, h => by simp [Fm.capL, Fm.nodeS]
  | x :: xs, n, hx, h => by
    rw [Fm.capL, Fm.nodeS]
    have h1 := hx x (by simp)
    split
    · omega
    · have := Fm.capL_spec xs (n + x.cap) (fun y hy => hx y (by simp [hy])) (by omega)
      omega
theorem Fm.cap_spec (x : Fm) : 1 ≤ x.cap ∧ x.cap ≤ x.nodes ∧ (x.cap ≤ 40 → x.cap = x.nodes) := by
  rw [Fm.cap_eq, Fm.nodes_eq]
  have := Fm.capL_spec x.parts 1 (fun y hy => Fm.cap_spec y) (by omega)
  omega
termination_by SizeOf.sizeOf x
decreasing_by exact Fm.lt_of_mem hy
mutual
def Fm.many : Fm → Int → Int
  | .mk _ _ _ xs, m => Fm.manyL xs m 1
def Fm.manyL : List Fm → Int → Int → Int
  | [], _, n => n
  | x :: xs, m, n => if n ≤ m then Fm.manyL xs m (n + Fm.many x (m - n)) else n
end
theorem Fm.many_eq (x : Fm) (m : Int) : x.many m = Fm.manyL x.parts m 1 := by
  obtain ⟨op, atom, var, xs⟩ := x
  rw [Fm.many]; rfl
theorem Fm.manyL_spec (m : Int) : ∀ (xs : List Fm) (n : Int), (∀ x ∈ xs, ∀ m, 0 ≤ m → 1 ≤ x.many m ∧ x.many m ≤ x.nodes ∧ (x.many m ≤ m → x.many m = x.nodes)) → 1 ≤ n → n ≤ Fm.manyL xs m n ∧ Fm.manyL xs m n ≤ n + Fm.nodeS xs ∧ (Fm.manyL xs m n ≤ m → Fm.manyL xs m n = n + Fm.nodeS xs)
  | [], n, _, h => by simp [Fm.manyL, Fm.nodeS]
  | x :: xs, n, hx, h => by
    rw [Fm.manyL, Fm.nodeS]
    split
    · have h1 := hx x (by simp) (m - n) (by omega)
      have := Fm.manyL_spec m xs (n + x.many (m - n)) (fun y hy => hx y (by simp [hy])) (by omega)
      omega
    · omega
theorem Fm.many_spec (x : Fm) (m : Int) : 1 ≤ x.many m ∧ x.many m ≤ x.nodes ∧ (x.many m ≤ m → x.many m = x.nodes) := by
  rw [Fm.many_eq, Fm.nodes_eq]
  have := Fm.manyL_spec m x.parts 1 (fun y hy m _ => Fm.many_spec y m) (by omega)
  omega
termination_by SizeOf.sizeOf x
decreasing_by exact Fm.lt_of_mem hy
noncomputable def Tm.isZ (x : Tm) : Bool := dec (x.name = ⟨#[]⟩) && x.args.length == 0
noncomputable def Fm.form (x : Fm) : Bool :=
  if x.op = 1 ∨ x.op = 2 then x.parts.length == 0 && x.atom.isZ && dec (x.var = ⟨#[]⟩)
  else if x.op = 3 then x.parts.length == 0 && x.atom.atom && dec (x.var = ⟨#[]⟩)
  else if x.op = 4 then x.parts.length == 1 && x.atom.isZ && dec (x.var = ⟨#[]⟩)
  else if x.op = 5 ∨ x.op = 6 ∨ x.op = 7 then x.parts.length == 2 && x.atom.isZ && dec (x.var = ⟨#[]⟩)
  else if x.op = 8 ∨ x.op = 9 then x.parts.length == 1 && x.atom.isZ && varB x.var
  else false
theorem op_cases (n : Int) : n = 1 ∨ n = 2 ∨ n = 3 ∨ n = 4 ∨ n = 5 ∨ n = 6 ∨ n = 7 ∨ n = 8 ∨ n = 9 ∨ (n ≠ 1 ∧ n ≠ 2 ∧ n ≠ 3 ∧ n ≠ 4 ∧ n ≠ 5 ∧ n ≠ 6 ∧ n ≠ 7 ∧ n ≠ 8 ∧ n ≠ 9) := by omega
mutual
noncomputable def Fm.forms : Fm → Bool
  | .mk op atom var parts => Fm.form (.mk op atom var parts) && Fm.formS parts
noncomputable def Fm.formS : List Fm → Bool
  | [] => true
  | x :: xs => Fm.forms x && Fm.formS xs
end
theorem Fm.forms_eq (x : Fm) : x.forms = (x.form && Fm.formS x.parts) := by
  obtain ⟨op, atom, var, parts⟩ := x
  rw [Fm.forms]; rfl
theorem Fm.formS_all : ∀ xs : List Fm, Fm.formS xs = xs.all Fm.forms
  | [] => rfl
  | x :: xs => by rw [Fm.formS, Fm.formS_all xs]; rfl
theorem Fm.any_not (xs : List Fm) : (!xs.any fun y => !y.forms) = Fm.formS xs := by
  rw [Fm.formS_all]
  induction xs with
  | nil => rfl
  | cons x xs ih => simp only [List.any_cons, List.all_cons, Bool.not_or, Bool.not_not, ih]
noncomputable def Fm.valid (x : Fm) : Bool := decide (x.nodes ≤ 40) && x.forms
theorem Fm.length_le : ∀ xs : List Fm, xs.length ≤ Fm.nodeS xs
  | [] => by simp
  | x :: xs => by
    have h := Fm.length_le xs
    have h1 := Fm.nodes_pos x
    rw [Fm.nodeS, List.length_cons]; omega
mutual
def Fm.tame : Fm → Prop
  | .mk _ atom _ parts => atom.nodes ≤ 1099511627776 ∧ Fm.tameS parts
def Fm.tameS : List Fm → Prop
  | [] => True
  | x :: xs => Fm.tame x ∧ Fm.tameS xs
end
theorem Fm.tame_eq (x : Fm) : x.tame = (x.atom.nodes ≤ 1099511627776 ∧ Fm.tameS x.parts) := by
  obtain ⟨op, atom, var, parts⟩ := x
  rw [Fm.tame]; rfl
theorem Fm.tameS_mem : ∀ {xs : List Fm}, Fm.tameS xs → ∀ y ∈ xs, y.tame
  | [], _, y, hy => by cases hy
  | x :: xs, h, y, hy => by
    rw [Fm.tameS] at h
    rcases List.mem_cons.1 hy with rfl | hy
    · exact h.1
    · exact Fm.tameS_mem h.2 y hy
theorem Fm.tame_at {x : Fm} (h : x.tame) : x.atom.nodes ≤ 1099511627776 := by rw [Fm.tame_eq] at h; exact h.1
theorem Fm.tame_part {x y : Fm} (h : x.tame) (hy : y ∈ x.parts) : y.tame := by rw [Fm.tame_eq] at h; exact Fm.tameS_mem h.2 y hy
noncomputable def qB (op : Int) : Bool := dec (op = 8) || dec (op = 9)
theorem Tm.isZ_eq {x : Tm} (h : x.isZ = true) : x = .mk ⟨#[]⟩ [] := by
  obtain ⟨n, a⟩ := x
  unfold Tm.isZ at h
  rw [Bool.and_eq_true] at h
  have h1 : n = ⟨#[]⟩ := dec_iff.1 h.1
  have h3 : (a.length == 0) = true := h.2
  have h2 : a = [] := List.eq_nil_of_length_eq_zero (by simpa using h3)
  rw [h1, h2]
theorem Tm.atom_nodes {x : Tm} (h : x.atom = true) : x.nodes ≤ 30 := by
  have key : x.small = true := by
    unfold Tm.atom at h
    split at h
    · rw [Bool.and_eq_true, Bool.and_eq_true] at h; exact h.1.2
    · rw [Bool.and_eq_true] at h
      have h2 := h.2
      unfold Tm.valid at h2
      rw [Bool.and_eq_true] at h2; exact h2.1
  unfold Tm.small at key
  rw [Bool.and_eq_true, decide_eq_true_eq] at key
  exact key.1
theorem Fm.form_atom {x : Fm} (h : x.form = true) (ho : x.op = 3) : x.parts = [] ∧ x.atom.atom = true ∧ x.var = ⟨#[]⟩ := by
  unfold Fm.form at h
  simp only [ho] at h
  simp at h
  exact ⟨h.1.1, h.1.2, dec_iff.1 h.2⟩
theorem Fm.form_other {x : Fm} (h : x.form = true) (ho : ¬ x.op = 3) : x.atom = .mk ⟨#[]⟩ [] := by
  unfold Fm.form at h
  split at h
  · rw [Bool.and_eq_true, Bool.and_eq_true] at h; exact Tm.isZ_eq h.1.2
  · try rw [if_neg ho] at h
    split at h
    · rw [Bool.and_eq_true, Bool.and_eq_true] at h; exact Tm.isZ_eq h.1.2
    · split at h
      · rw [Bool.and_eq_true, Bool.and_eq_true] at h; exact Tm.isZ_eq h.1.2
      · split at h
        · rw [Bool.and_eq_true, Bool.and_eq_true] at h; exact Tm.isZ_eq h.1.2
        · cases h
theorem Fm.form_quant {x : Fm} (h : x.form = true) (ho : qB x.op = true) : varB x.var = true ∧ ∃ p, x.parts = [p] := by
  unfold qB at ho
  rw [Bool.or_eq_true, dec_iff, dec_iff] at ho
  unfold Fm.form at h
  rw [if_neg (by omega), if_neg (by omega), if_neg (by omega), if_neg (by omega), if_pos (by omega), Bool.and_eq_true, Bool.and_eq_true] at h
  refine ⟨h.2, ?_⟩
  have hl : x.parts.length = 1 := by simpa using h.1.1
  match hq : x.parts, hl with
  | [p], _ => exact ⟨p, rfl⟩
theorem Fm.forms_part {x y : Fm} (h : x.forms = true) (hy : y ∈ x.parts) : y.forms = true := by
  rw [Fm.forms_eq, Bool.and_eq_true, Fm.formS_all, List.all_eq_true] at h
  exact h.2 y hy
theorem Fm.forms_form {x : Fm} (h : x.forms = true) : x.form = true := by
  rw [Fm.forms_eq, Bool.and_eq_true] at h
  exact h.1
theorem Fm.atom_le {x : Fm} (h : x.form = true) : x.atom.nodes ≤ 30 := by
  by_cases ho : x.op = 3
  · exact Tm.atom_nodes (Fm.form_atom h ho).2.1
  · rw [Fm.form_other h ho, Tm.nodes_eq]
    simp [Tm.args, Tm.nodeS]
theorem Tm.zero_nodes : Tm.zero.nodes = 1 := by rw [Tm.nodes_eq]; show 1 + Tm.nodeS [] = 1; rw [Tm.nodeS]
theorem Fm.tame_mk {op : Int} {t : Tm} {v : ByteArray} {ps : List Fm} : (Fm.mk op t v ps).tame = (t.nodes ≤ 1099511627776 ∧ Fm.tameS ps) := Fm.tame_eq _
theorem Fm.nodes_mk {op : Int} {t : Tm} {v : ByteArray} {ps : List Fm} : (Fm.mk op t v ps).nodes = 1 + Fm.nodeS ps := Fm.nodes_eq _
def nameC (s : ByteArray) : Bool := decide (0 < s.size) && (uppB (byteZ s 0) == varB s)
mutual
def Tm.cok : Tm → Bool
  | .mk n xs => nameC n && Tm.cokS xs
def Tm.cokS : List Tm → Bool
  | [] => true
  | x :: xs => Tm.cok x && Tm.cokS xs
end
theorem Tm.cok_eq (x : Tm) : x.cok = (nameC x.name && Tm.cokS x.args) := by
  obtain ⟨n, xs⟩ := x
  rw [Tm.cok]; rfl
theorem Tm.cokS_mem {xs : List Tm} (h : Tm.cokS xs = true) {y : Tm} (hy : y ∈ xs) : y.cok = true := by
  induction xs with
  | nil => cases hy
  | cons x xs ih =>
    rw [Tm.cokS, Bool.and_eq_true] at h
    rcases List.mem_cons.1 hy with rfl | hy
    · exact h.1
    · exact ih h.2 hy
theorem loopB_zero {p : Nat → Int → Bool} {s : ByteArray} (h : loopB p s s.size = true) (hs : 0 < s.size) : p 0 (byteZ s 0) = true := by
  unfold loopB at h
  rw [List.all_eq_true] at h
  exact h 0 (List.mem_range.2 hs)
theorem nameC_var {s : ByteArray} (h : varB s = true) : nameC s = true := by
  have h0 := h
  unfold varB inB at h
  rw [Bool.and_eq_true, Bool.and_eq_true, decide_eq_true_eq, decide_eq_true_eq] at h
  have hs : 0 < s.size := by omega
  have h1 := loopB_zero h.1 hs
  unfold varOk at h1
  unfold nameC
  rw [h0]
  simp at h1
  simp [hs, h1]
theorem nameC_not {s : ByteArray} (hs : 0 < s.size) (h : uppB (byteZ s 0) = false) : nameC s = true := by
  have hv : varB s = false := by
    rw [Bool.eq_false_iff]
    intro hv
    unfold varB at hv
    rw [Bool.and_eq_true] at hv
    have h1 := loopB_zero hv.1 hs
    unfold varOk at h1
    rw [h] at h1
    simp at h1
  unfold nameC
  rw [hv, h]
  simp [hs]
theorem nameC_sym {s : ByteArray} (h : symB s = true) : nameC s = true := by
  unfold symB inB at h
  rw [Bool.and_eq_true, Bool.and_eq_true, Bool.and_eq_true, decide_eq_true_eq, decide_eq_true_eq] at h
  have hs : 0 < s.size := by omega
  refine nameC_not hs ?_
  have h1 := loopB_zero h.1.1 hs
  unfold symOk at h1
  simp at h1
  have h2 := h1.1
  unfold lowB at h2
  unfold uppB
  simp at h2 ⊢
  omega
theorem nameC_eqn {s : ByteArray} (h : s.toList = [61]) : nameC s = true := by
  have hs : s.size = 1 := by
    have := congrArg List.length h
    rw [ByteArray.toList_eq] at this
    simpa using this
  refine nameC_not (by omega) ?_
  unfold byteZ
  rw [h]
  rfl
mutual
theorem Tm.cok_names : ∀ x : Tm, x.names = true → x.cok = true
  | .mk n xs, h => by
    rw [Tm.names] at h
    rw [Tm.cok, Bool.and_eq_true]
    split at h
    · rename_i hv
      have : xs = [] := by
        rw [beq_iff_eq] at h
        exact List.eq_nil_of_length_eq_zero h
      subst this
      exact ⟨nameC_var hv, rfl⟩
    · rw [Bool.and_eq_true, Bool.and_eq_true] at h
      exact ⟨nameC_sym h.1.1, Tm.cokS_names xs h.2⟩
theorem Tm.cokS_names : ∀ xs : List Tm, Tm.nameS xs = true → Tm.cokS xs = true
  | [], _ => rfl
  | x :: xs, h => by
    rw [Tm.nameS, Bool.and_eq_true] at h
    rw [Tm.cokS, Bool.and_eq_true]
    exact ⟨Tm.cok_names x h.1, Tm.cokS_names xs h.2⟩
end
theorem Tm.atom_cok {x : Tm} (h : x.atom = true) : x.cok = true := by
  unfold Tm.atom at h
  rcases he : x.eqn with _ | _
  · rw [he, if_neg (by simp), Bool.and_eq_true] at h
    unfold Tm.valid at h
    rw [Bool.and_eq_true] at h
    exact Tm.cok_names x h.2.2
  · rw [he, if_pos rfl, Bool.and_eq_true, Bool.and_eq_true] at h
    unfold Tm.eqn at he
    rw [dec_iff] at he
    rw [Tm.cok_eq, Bool.and_eq_true]
    exact ⟨nameC_eqn (by rw [he, ByteArray.toList_eq]), Tm.cokS_names _ h.2⟩
theorem byteAt_eq {s : ByteArray} {k : Nat} (h : k < s.size) : byteAt s k = byteZ s k := by
  rw [← byteZ_get h]
  unfold byteAt
  rw [show s[k]? = some s[k] from getElem?_pos s k h]; rfl
theorem nameC_upp {s : ByteArray} (h : nameC s = true) : 0 < s.size ∧ (dec (65 ≤ byteAt s 0) && dec (byteAt s 0 ≤ 90)) = varB s := by
  unfold nameC at h
  rw [Bool.and_eq_true, decide_eq_true_eq, beq_iff_eq] at h
  refine ⟨h.1, ?_⟩
  rw [← h.2, byteAt_eq h.1, dec_of, dec_of]
  unfold uppB
  rfl
theorem strLt_self (a : ByteArray) : strLt a a = false := by
  unfold strLt
  have key : ∀ l : List UInt8, Op.bytesLess l l = false := by
    intro l
    induction l with
    | nil => rfl
    | cons x l ih => simp [Op.bytesLess, ih]
  exact key _
def c_impl_isUpper : SC := (.seq (.reg [⟨some 2, none, .mv (.c (.bool false))⟩]) (.seq (.reg [⟨some 3, none, .mv (.t 0)⟩, ⟨some 4, none, .bin .geq false (.t 3) (.c (.int .u8 65))⟩, ⟨some 5, none, .mv (.t 4)⟩, ⟨(some 6), (some (5, true)), (.mv (.t 0))⟩, ⟨(some 7), (some (5, true)), (.bin .leq false (.t 6) (.c (.int .u8 90)))⟩, ⟨some 8, none, .pick (.t 5) (.t 7) (.c (.bool false))⟩, ⟨some 2, none, .mv (.t 8)⟩]) .ret))
theorem k_impl_isUpper : codeOf Tryz.prog 108 = some ⟨9, c_impl_isUpper, [(.tmp 2)]⟩ := by kernel_rfl
theorem m_impl_isUpper : modes 108 = ⟨[], .asis, none, false⟩ := by unfold modes; rfl
def c_impl_isVar : SC := (.seq (.reg [⟨some 1, none, .boxv 31 2 (.t 0)⟩, ⟨some 2, none, .mv (.c (.bool false))⟩]) (.seq (.reg [⟨some 3, none, .faddr 0 (.t 1)⟩, ⟨some 4, none, .load false 1 (.t 3)⟩, ⟨some 5, none, .idx (.t 4) (.c (.int .i64 0))⟩, ⟨some 6, none, .call 108 [(.t 5)]⟩, ⟨some 2, none, .mv (.t 6)⟩]) .ret))
theorem k_impl_isVar : codeOf Tryz.prog 151 = some ⟨7, c_impl_isVar, [(.tmp 2)]⟩ := by kernel_rfl
theorem m_impl_isVar : modes 151 = ⟨[], .asis, none, false⟩ := by unfold modes; rfl
theorem isUpper_E (n : Int) : E 108 [.int .u8 n] [] = some (.bool (dec (65 ≤ n) && dec (n ≤ 90)), []) := by
  cases h1 : dec (65 ≤ n)
  · refine E_walk k_impl_isUpper m_impl_isUpper (of_decide_eq_true rfl) ?_
    simp (disch := omega) only [c_impl_isUpper, go_sem, go_cond, zA, zB, zC, zD, zE, zF, zG, zH, ↓reduceIte, zI, reduceCtorEq, zJ, zK, h1]
  · refine E_walk k_impl_isUpper m_impl_isUpper (of_decide_eq_true rfl) ?_
    simp (disch := omega) only [c_impl_isUpper, go_sem, go_cond, zA, zB, zC, zD, zE, zF, zG, zH, ↓reduceIte, zI, reduceCtorEq, zJ, zK, h1]
theorem isVar_E (x : Tm) (h : x.cok = true) : E 151 [x.sv] [] = some (.bool (varB x.name), []) := by
  rw [Tm.cok_eq, Bool.and_eq_true] at h
  obtain ⟨h1, h2⟩ := nameC_upp h.1
  have h3 := isUpper_E (byteAt x.name 0)
  rw [h2] at h3
  refine E_walk k_impl_isVar m_impl_isVar (of_decide_eq_true rfl) ?_
  simp (disch := omega) only [c_impl_isVar, go_sem, go_cond, zA, zB, zC, zD, zE, zF, zG, zH, ↓reduceIte, zI, reduceCtorEq, zJ, zK, h3, m_impl_isUpper]
theorem Tm.atom_args {x : Tm} (h : x.atom = true) : (varB x.name = true → x.args = []) ∧ ∀ y ∈ x.args, y.names = true := by
  unfold Tm.atom at h
  cases he : x.eqn with
  | true =>
    rw [he, if_pos rfl, Bool.and_eq_true, Bool.and_eq_true] at h
    have h2 := h.2
    rw [Tm.nameS_all, List.all_eq_true] at h2
    refine ⟨fun hv => ?_, h2⟩
    have hn := dec_iff.1 he
    have hnv0 : varB ⟨#[61]⟩ = false := by kernel_rfl
    rw [hn, hnv0] at hv
    cases hv
  | false =>
    rw [he, if_neg (by simp), Bool.and_eq_true] at h
    have hnm : x.names = true := by have h3 := h.2; unfold Tm.valid at h3; rw [Bool.and_eq_true] at h3; exact h3.2
    exact ⟨fun hv => Tm.names_var hnm hv, fun y hy => Tm.names_arg hnm hy⟩
mutual
noncomputable def Tm.vs : Tm → List ByteArray
  | .mk name args => bif varB name then [name] else Tm.vsL args
noncomputable def Tm.vsL : List Tm → List ByteArray
  | [] => []
  | x :: xs => Tm.vs x ++ Tm.vsL xs
end
theorem Tm.vs_eq (x : Tm) : x.vs = bif varB x.name then [x.name] else Tm.vsL x.args := by
  obtain ⟨n, a⟩ := x
  rw [Tm.vs]; rfl
theorem Tm.vsL_len : ∀ xs : List Tm, (∀ x ∈ xs, x.vs.length ≤ x.nodes) → (Tm.vsL xs).length ≤ Tm.nodeS xs
  | [], _ => by simp [Tm.vsL]
  | x :: xs, h => by
    have h1 := h x (by simp)
    have h2 := Tm.vsL_len xs fun y hy => h y (by simp [hy])
    rw [Tm.vsL, Tm.nodeS, List.length_append]; omega
theorem Tm.vs_len (x : Tm) : x.vs.length ≤ x.nodes := by
  have h := Tm.vsL_len x.args fun y hy => Tm.vs_len y
  rw [Tm.vs_eq, Tm.nodes_eq]
  cases varB x.name with
  | true => simp
  | false => simp only [cond_false]; omega
termination_by SizeOf.sizeOf x
decreasing_by exact Tm.lt_of_mem hy
noncomputable def addU (l : List ByteArray) (n : ByteArray) : List ByteArray := bif dec (n ∈ l) then l else l ++ [n]
theorem addU_len (l : List ByteArray) (n : ByteArray) : (addU l n).length ≤ l.length + 1 := by
  unfold addU
  cases dec (n ∈ l) <;> simp
theorem addU_mem {l : List ByteArray} {n m : ByteArray} : m ∈ addU l n ↔ m ∈ l ∨ m = n := by
  unfold addU
  by_cases h : n ∈ l
  · rw [dec_t h, cond_true]
    exact ⟨.inl, fun h' => h'.elim id fun e => e ▸ h⟩
  · rw [dec_f h, cond_false]
    simp
theorem addU_nodup {l : List ByteArray} {n : ByteArray} (h : l.Nodup) : (addU l n).Nodup := by
  unfold addU
  by_cases k : n ∈ l
  · rw [dec_t k]; exact h
  · rw [dec_f k, cond_false, List.nodup_append]
    exact ⟨h, by simp, fun a ha b hb e => by simp at hb; subst hb; subst e; exact k ha⟩
noncomputable def addA (l ns : List ByteArray) : List ByteArray := ns.foldl addU l
theorem addA_len : ∀ (ns l : List ByteArray), (addA l ns).length ≤ l.length + ns.length
  | [], l => by simp [addA]
  | n :: ns, l => by
    have h := addA_len ns (addU l n)
    have h2 := addU_len l n
    simp only [addA, List.foldl_cons, List.length_cons] at h ⊢
    omega
theorem addA_mem : ∀ {ns l : List ByteArray} {m : ByteArray}, m ∈ addA l ns ↔ m ∈ l ∨ m ∈ ns
  | [], l, m => by simp [addA]
  | n :: ns, l, m => by
    have h := addA_mem (ns := ns) (l := addU l n) (m := m)
    simp only [addA, List.foldl_cons] at h ⊢
    rw [h, addU_mem]
    simp only [List.mem_cons]
    exact or_assoc
theorem addA_nodup : ∀ {ns l : List ByteArray}, l.Nodup → (addA l ns).Nodup
  | [], l, h => h
  | n :: ns, l, h => addA_nodup (ns := ns) (addU_nodup h)
theorem addA_app (l a b : List ByteArray) : addA l (a ++ b) = addA (addA l a) b := List.foldl_append
def c_slices_Index_string_string : SC := (.seq (.reg [⟨some 4, none, .mv (.c (.int .i64 0))⟩]) (.seq (.seq (.reg [⟨some 6, none, .mv (.t 0)⟩, ⟨some 7, none, .len false (.t 6)⟩, ⟨some 8, none, .mv (.c (.int .i64 0))⟩]) (.block 0 (.loop [1, 1, 0, 0, 0, 0, 0, 1, 1, 0, 0, 0, 0, 0, 0, 0, 0, 0, 0] (.seq (.reg [⟨some 9, none, .bin .lss false (.t 8) (.t 7)⟩]) (.seq (.cond (.t 9) .skip (.exit 0)) (.seq (.block 1 (.seq (.reg [⟨some 10, none, .mv (.t 8)⟩, ⟨some 5, none, .mv (.t 10)⟩]) (.seq (.reg [⟨some 11, none, .mv (.t 1)⟩, ⟨some 12, none, .mv (.t 0)⟩, ⟨some 13, none, .mv (.t 5)⟩, ⟨some 14, none, .iaddr 1 (.t 12) (.t 13)⟩, ⟨some 15, none, .load false 1 (.t 14)⟩, ⟨some 16, none, .bin .eql false (.t 11) (.t 15)⟩]) (.cond (.t 16) (.seq (.reg [⟨some 17, none, .mv (.t 5)⟩, ⟨some 4, none, .mv (.t 17)⟩]) .ret) .skip)))) (.reg [⟨some 18, none, .bin .add false (.t 8) (.c (.int .i64 1))⟩, ⟨some 8, none, .mv (.t 18)⟩]))))))) (.seq (.reg [⟨some 4, none, .mv (.c (.int .i64 (-(0 + 1))))⟩]) .ret)))
theorem k_slices_Index_string_string : codeOf Tryz.prog 130 = some ⟨19, c_slices_Index_string_string, [(.tmp 4)]⟩ := by kernel_rfl
theorem m_slices_Index_string_string : modes 130 = ⟨[], .asis, none, false⟩ := by unfold modes; rfl
def c_slices_Contains_string_string : SC := (.seq (.reg [⟨some 4, none, .mv (.c (.bool false))⟩]) (.seq (.reg [⟨some 5, none, .mv (.t 0)⟩, ⟨some 6, none, .mv (.t 1)⟩, ⟨some 7, none, .call 130 [(.t 5), (.t 6)]⟩, ⟨some 8, none, .bin .geq false (.t 7) (.c (.int .i64 0))⟩, ⟨some 4, none, .mv (.t 8)⟩]) .ret))
theorem k_slices_Contains_string_string : codeOf Tryz.prog 96 = some ⟨9, c_slices_Contains_string_string, [(.tmp 4)]⟩ := by kernel_rfl
theorem m_slices_Contains_string_string : modes 96 = ⟨[], .asis, none, false⟩ := by unfold modes; rfl
theorem indexS_E (xs : List ByteArray) (n : ByteArray) (hl : xs.length ≤ 1099511627776) : E 130 [.arr (xs.map fun s => [D.str s]), .str n] [] = some (.int .i64 (idxP (fun s => dec (n = s)) xs 0), []) := by
  refine E_walk k_slices_Index_string_string m_slices_Index_string_string (of_decide_eq_true rfl) ?_
  simp (disch := omega) only [c_slices_Index_string_string, go_sem, go_cond, zA, zB, zC, zD, zE, zF, zG, zH, ↓reduceIte, zI, reduceCtorEq, zJ, zK]
  refine go_loop (α := Int) (fun a => ⟨slots 19 0 [(0, .arr (xs.map fun s => [D.str s])), (1, .str n), (7, .int .i64 xs.length), (8, .int .i64 a)], []⟩) (fun a => ∃ k : Nat, a = k ∧ k ≤ (xs).length ∧ idxP (fun s => dec (n = s)) (xs.drop k) a = idxP (fun s => dec (n = s)) xs 0) (fun a => (xs).length - (a).toNat) 0 ⟨0, rfl, Nat.zero_le _, by rw [List.drop_zero]⟩ (by simp (disch := omega) only [go_sem, go_cond, zA, zB, zC, zD, zE, zF, zG, zH, ↓reduceIte, zI, reduceCtorEq, zJ, zK]) ?_
  rintro i ⟨k, hi, hk, hR⟩
  have hni : i.toNat = k := by omega
  have hni1 : (i + 1).toNat = k + 1 := by omega
  rcases Nat.lt_or_ge k (xs).length with hlt | hge
  · have hg := get_at (fun s => [D.str s]) hlt
    rw [List.drop_eq_getElem_cons hlt, idxP] at hR
    cases hp : dec (n = xs[k]) with
    | true =>
      rw [hp] at hR
      simp (disch := omega) only [go_sem, go_cond, zA, zB, zC, zD, zE, zF, zG, zH, ↓reduceIte, zI, reduceCtorEq, zJ, zK, hni, hg, hp]
      simpa using hR
    | false =>
      rw [hp] at hR
      simp (disch := omega) only [go_sem, go_cond, zA, zB, zC, zD, zE, zF, zG, zH, ↓reduceIte, zI, reduceCtorEq, zJ, zK, hni, hg, hp]
      exact ⟨i + 1, ⟨k + 1, by omega, hlt, by simpa using hR⟩, by omega, by first | trivial | rfl⟩
  · rw [List.drop_eq_nil_of_le hge, idxP] at hR
    simp (disch := omega) only [go_sem, go_cond, zA, zB, zC, zD, zE, zF, zG, zH, ↓reduceIte, zI, reduceCtorEq, zJ, zK, hni]
    exact hR
theorem containsS_E (xs : List ByteArray) (n : ByteArray) (hl : xs.length ≤ 1099511627776) : E 96 [.arr (xs.map fun s => [D.str s]), .str n] [] = some (.bool (dec (n ∈ xs)), []) := by
  have h := indexS_E xs n hl
  have e : dec (n ∈ xs) = dec (0 ≤ idxP (fun s => dec (n = s)) xs 0) := by
    rw [idxP_any]
    by_cases hm : n ∈ xs
    · rw [dec_t hm]
      exact (List.any_eq_true.2 ⟨n, hm, dec_t rfl⟩).symm
    · rw [dec_f hm]
      refine Eq.symm (Bool.eq_false_iff.2 fun h => ?_)
      obtain ⟨x, h1, h2⟩ := List.any_eq_true.1 h
      have e := dec_iff.1 h2
      subst e
      exact hm h1
  rw [e]
  refine E_walk k_slices_Contains_string_string m_slices_Contains_string_string (of_decide_eq_true rfl) ?_
  simp (disch := omega) only [c_slices_Contains_string_string, go_sem, go_cond, zA, zB, zC, zD, zE, zF, zG, zH, ↓reduceIte, zI, reduceCtorEq, zJ, zK, h, m_slices_Index_string_string]
theorem addA_grow : ∀ (ns l : List ByteArray), l.length ≤ (addA l ns).length
  | [], l => by simp [addA]
  | n :: ns, l => by
    have h := addA_grow ns (addU l n)
    have h2 : l.length ≤ (addU l n).length := by unfold addU; cases dec (n ∈ l) <;> simp
    simp only [addA, List.foldl_cons] at h ⊢
    omega
def c_impl_collect : SC := (.seq (.reg [⟨some 3, none, .boxv 31 2 (.t 1)⟩, ⟨some 4, none, .mv (.c .nil)⟩]) (.seq (.seq (.reg [⟨some 7, none, .faddr 1 (.t 3)⟩, ⟨some 8, none, .load false 1 (.t 7)⟩, ⟨some 9, none, .len false (.t 8)⟩, ⟨some 10, none, .bin .eql false (.t 9) (.c (.int .i64 0))⟩, ⟨some 11, none, .mv (.t 10)⟩, ⟨(some 12), (some (11, true)), (.load true 2 (.t 3))⟩, ⟨(some 13), (some (11, true)), (.call 151 [(.t 12)])⟩, ⟨some 14, none, .pick (.t 11) (.t 13) (.c (.bool false))⟩]) (.cond (.t 14) (.seq (.seq (.reg [⟨some 15, none, .mv (.t 0)⟩, ⟨some 16, none, .faddr 0 (.t 3)⟩, ⟨some 17, none, .load false 1 (.t 16)⟩, ⟨some 18, none, .call 96 [(.t 15), (.t 17)]⟩, ⟨some 19, none, .un .not (.t 18)⟩]) (.cond (.t 19) (.reg [⟨some 20, none, .mv (.t 0)⟩, ⟨some 21, none, .faddr 0 (.t 3)⟩, ⟨some 22, none, .load false 1 (.t 21)⟩, ⟨(some 23), none, (.mkrow 9 1 [(.str ⟨#[]⟩)] 1 [(0, (.t 22))])⟩, ⟨(some 24), none, (.append 9 1 16 [(.str ⟨#[]⟩)] (.t 20) (.t 23))⟩, ⟨some 0, none, .mv (.t 24)⟩]) .skip)) (.seq (.reg [⟨some 25, none, .mv (.t 0)⟩, ⟨some 4, none, .mv (.t 25)⟩]) .ret)) .skip)) (.seq (.seq (.reg [⟨some 26, none, .faddr 1 (.t 3)⟩, ⟨some 27, none, .load false 1 (.t 26)⟩, ⟨some 28, none, .len false (.t 27)⟩, ⟨some 29, none, .mv (.c (.int .i64 0))⟩]) (.block 0 (.loop [1, 0, 0, 0, 0, 0, 0, 0, 0, 0, 0, 0, 0, 0, 0, 0, 0, 0, 0, 0, 0, 0, 0, 0, 0, 0, 0, 1, 1, 1, 0, 0, 0, 0, 0, 0, 0, 0] (.seq (.reg [⟨some 30, none, .bin .lss false (.t 29) (.t 28)⟩]) (.seq (.cond (.t 30) .skip (.exit 0)) (.seq (.block 1 (.seq (.reg [⟨some 31, none, .iaddr 2 (.t 27) (.t 29)⟩, ⟨some 32, none, .load true 2 (.t 31)⟩, ⟨(some 6), none, (.alloc 31 [(.str ⟨#[]⟩), .nil])⟩, ⟨none, none, (.store 2 (.t 6) (.t 32))⟩]) (.reg [⟨some 33, none, .mv (.t 0)⟩, ⟨some 34, none, .load true 2 (.t 6)⟩, ⟨some 35, none, .call 131 [(.t 33), (.t 34)]⟩, ⟨some 0, none, .mv (.t 35)⟩]))) (.reg [⟨some 36, none, .bin .add false (.t 29) (.c (.int .i64 1))⟩, ⟨some 29, none, .mv (.t 36)⟩]))))))) (.seq (.reg [⟨some 37, none, .mv (.t 0)⟩, ⟨some 4, none, .mv (.t 37)⟩]) .ret))))
theorem k_impl_collect : codeOf Tryz.prog 131 = some ⟨38, c_impl_collect, [(.tmp 4)]⟩ := by kernel_rfl
theorem m_impl_collect : modes 131 = ⟨[true], .asis, none, false⟩ := by unfold modes; rfl
abbrev ColC (x : Tm) : Prop := ∀ l : List ByteArray, l.length + x.nodes ≤ 1048576 → E 131 [.ref 0, x.sv] [.row 9 1 (l.map fun s => [OT.str s])] = some ((bif dec (l.length < (addA l x.vs).length) then .ref 1 else .ref 0), (bif dec (l.length < (addA l x.vs).length) then [.gone, .row 9 1 ((addA l x.vs).map fun s => [OT.str s])] else [.row 9 1 ((addA l x.vs).map fun s => [OT.str s])]))
set_option maxHeartbeats 4000000 in
theorem collect_of (x : Tm) (hva : varB x.name = true → x.args = []) (hc : x.cok = true) (ih : ∀ y ∈ x.args, ColC y) : ColC x := by
  intro l hn
  have hl := Tm.length_le x.args
  have hne := Tm.nodes_eq x
  have hv := isVar_E x hc
  have hvs := Tm.vs_eq x
  rcases Nat.eq_zero_or_pos x.args.length with h0 | h0
  · have hx0 : x.args = [] := List.eq_nil_of_length_eq_zero h0
    have hz : ((x.args.length : Int) = 0) = True := by rw [hx0]; simp
    cases hvv : varB x.name with
    | true =>
      rw [hvv] at hv hvs
      have h1 := containsS_E l x.name (by omega)
      rw [hvs]
      cases hm : dec (x.name ∈ l) with
      | true =>
        have e : addA l [x.name] = l := by simp only [addA, List.foldl_cons, List.foldl_nil, addU, hm, cond_true]
        rw [hm] at h1
        simp only [cond_true, e]
        refine E_walk k_impl_collect m_impl_collect (of_decide_eq_true rfl) ?_
        simp (disch := omega) only [c_impl_collect, go_sem, go_cond, zA, zB, zC, zD, zE, zF, zG, zH, ↓reduceIte, zI, reduceCtorEq, zJ, zK, hz, hv, h1, m_impl_isVar, m_slices_Contains_string_string]
      | false =>
        have e : addA l [x.name] = l ++ [x.name] := by simp only [addA, List.foldl_cons, List.foldl_nil, addU, hm, cond_false]
        have hg : l.length < (l ++ [x.name]).length := by simp
        rw [hm] at h1
        simp only [cond_true, e, dec_t hg]
        refine E_walk k_impl_collect m_impl_collect (of_decide_eq_true rfl) ?_
        simp (disch := omega) only [c_impl_collect, go_sem, go_cond, zA, zB, zC, zD, zE, zF, zG, zH, ↓reduceIte, zI, reduceCtorEq, zJ, zK, hz, hv, h1, m_impl_isVar, m_slices_Contains_string_string]
        simp only [List.map_append, List.map_cons, List.map_nil]
    | false =>
      rw [hvv] at hv hvs
      have e : addA l x.vs = l := by rw [hvs, hx0]; simp only [cond_false, Tm.vsL]; rfl
      rw [e]
      refine E_walk k_impl_collect m_impl_collect (of_decide_eq_true rfl) ?_
      simp (disch := omega) only [c_impl_collect, go_sem, go_cond, zA, zB, zC, zD, zE, zF, zG, zH, ↓reduceIte, zI, reduceCtorEq, zJ, zK, hz, hv, m_impl_isVar]
      refine go_loop (α := Int) (fun a => ⟨slots 38 0 [(0, .ref 0), (27, .arr (x.args.map Tm.d)), (28, .int .i64 x.args.length), (29, .int .i64 a)], [.row 9 1 (l.map fun s => [OT.str s])]⟩) (fun a => ∃ k : Nat, a = k ∧ k ≤ (x.args).length) (fun a => (x.args).length - (a).toNat) 0 ⟨0, rfl, Nat.zero_le _⟩ (by simp (disch := omega) only [go_sem, go_cond, zA, zB, zC, zD, zE, zF, zG, zH, ↓reduceIte, zI, reduceCtorEq, zJ, zK]) ?_
      rintro i ⟨k, hi, hk⟩
      have hni : i.toNat = k := by omega
      have hni1 : (i + 1).toNat = k + 1 := by omega
      rcases Nat.lt_or_ge k (x.args).length with hlt | hge
      · omega
      · simp (disch := omega) only [go_sem, go_cond, zA, zB, zC, zD, zE, zF, zG, zH, ↓reduceIte, zI, reduceCtorEq, zJ, zK, hni]
  · have hz : ((x.args.length : Int) = 0) = False := eq_false (by omega)
    have hvv : varB x.name = false := by
      cases h : varB x.name with
      | false => rfl
      | true => rw [hva h] at h0; simp at h0
    rw [hvv] at hvs
    simp only [cond_false] at hvs
    rw [hvs]
    refine E_walk k_impl_collect m_impl_collect (of_decide_eq_true rfl) ?_
    simp (disch := omega) only [c_impl_collect, go_sem, go_cond, zA, zB, zC, zD, zE, zF, zG, zH, ↓reduceIte, zI, reduceCtorEq, zJ, zK, hz]
    refine go_loop (α := Int × (List ByteArray)) (fun a => ⟨slots 38 0 [(0, (bif dec (l.length < (a.2).length) then .ref 1 else .ref 0)), (27, .arr (x.args.map Tm.d)), (28, .int .i64 x.args.length), (29, .int .i64 (a.1))], (bif dec (l.length < (a.2).length) then [.gone, .row 9 1 ((a.2).map fun s => [OT.str s])] else [.row 9 1 ((a.2).map fun s => [OT.str s])])⟩) (fun a => ∃ k : Nat, a.1 = k ∧ k ≤ (x.args).length ∧ addA (a.2) (Tm.vsL (x.args.drop k)) = addA l (Tm.vsL x.args) ∧ (a.2).length + Tm.nodeS (x.args.drop k) ≤ 1048576 ∧ l.length ≤ (a.2).length) (fun a => (x.args).length - (a.1).toNat) (0, l) ⟨0, rfl, Nat.zero_le _, by rw [List.drop_zero], by rw [List.drop_zero]; dsimp only; omega, Nat.le_refl _⟩ (by simp (disch := omega) only [go_sem, go_cond, zA, zB, zC, zD, zE, zF, zG, zH, ↓reduceIte, zI, reduceCtorEq, zJ, zK]) ?_
    rintro ⟨i, acc⟩ ⟨k, hi, hk, hR⟩
    dsimp only at hi hR
    have hni : i.toNat = k := by omega
    have hni1 : (i + 1).toNat = k + 1 := by omega
    rcases Nat.lt_or_ge k (x.args).length with hlt | hge
    · have hg := get_at Tm.d hlt
      rw [Tm.d_eq] at hg
      obtain ⟨hR1, hR2, hR3⟩ := hR
      rw [List.drop_eq_getElem_cons hlt, Tm.vsL, addA_app] at hR1
      rw [List.drop_eq_getElem_cons hlt, Tm.nodeS] at hR2
      have hc := ih x.args[k] (List.getElem_mem hlt) acc (by omega)
      have hlen := addA_len x.args[k].vs acc
      have hgr := addA_grow x.args[k].vs acc
      have hvl := Tm.vs_len x.args[k]
      obtain ⟨acc2, ha2⟩ : ∃ a, a = addA acc x.args[k].vs := ⟨_, rfl⟩
      rw [← ha2] at hc hlen hgr hR1
      rcases Nat.lt_or_ge l.length acc.length with q1 | q1 <;> rcases Nat.lt_or_ge acc.length acc2.length with q2 | q2
      all_goals
        first
          | rw [dec_t q2] at hc
          | rw [dec_f (Nat.not_lt.2 q2)] at hc
        simp only [cond_true, cond_false] at hc
        simp (disch := omega) only [go_sem, go_cond, zA, zB, zC, zD, zE, zF, zG, zH, ↓reduceIte, zI, reduceCtorEq, zJ, zK, hni, hg, hc, m_impl_collect]
        refine ⟨(i + 1, acc2), ⟨k + 1, by dsimp only; omega, hlt, hR1, by dsimp only; omega, by dsimp only; omega⟩, by dsimp only; omega, ?_⟩
        first | done | simp (disch := omega) only [go_sem, go_cond, zA, zB, zC, zD, zE, zF, zG, zH, ↓reduceIte, zI, reduceCtorEq, zJ, zK]
    · rw [List.drop_eq_nil_of_le hge, Tm.vsL] at hR
      obtain ⟨hR1, hR2, hR3⟩ := hR
      have hR1 : acc = addA l (Tm.vsL x.args) := hR1
      rw [← hR1]
      rcases Nat.lt_or_ge l.length acc.length with q1 | q1
      · simp (disch := omega) only [go_sem, go_cond, zA, zB, zC, zD, zE, zF, zG, zH, ↓reduceIte, zI, reduceCtorEq, zJ, zK, hni]
      · simp (disch := omega) only [go_sem, go_cond, zA, zB, zC, zD, zE, zF, zG, zH, ↓reduceIte, zI, reduceCtorEq, zJ, zK, hni]
theorem collect_E (x : Tm) (hx : x.names = true) (hc : x.cok = true) : ColC x :=
  collect_of x (fun h => Tm.names_var hx h) hc fun y hy => collect_E y (Tm.names_arg hx hy) (by rw [Tm.cok_eq, Bool.and_eq_true] at hc; exact Tm.cokS_mem hc.2 hy)
termination_by SizeOf.sizeOf x
decreasing_by exact Tm.lt_of_mem hy
noncomputable def srtB (l : List ByteArray) : List ByteArray := (srt (l.map (·.toList))).map fun x => ⟨x.toArray⟩
theorem srtB_perm (l : List ByteArray) : (srtB l).Perm l := by
  unfold srtB
  have h : (srt (l.map (·.toList))).Perm (l.map (·.toList)) := List.mergeSort_perm _ _
  have h2 := h.map fun x : List UInt8 => (⟨x.toArray⟩ : ByteArray)
  rw [List.map_map] at h2
  have e : ((fun x : List UInt8 => (⟨x.toArray⟩ : ByteArray)) ∘ fun x : ByteArray => x.toList) = id := by
    funext x
    exact bytes_back x
  rw [e, List.map_id] at h2
  exact h2
theorem m_slices_Sort_string_string : modes 61 = ⟨[true], .asis, some sortStr, false⟩ := by unfold modes; rfl
theorem sortS_E (l : List ByteArray) (hl : l.length ≤ 1099511627776) : E 61 [.ref 0] [.row 9 1 (l.map fun s => [OT.str s])] = some (.tup [], [.row 9 1 ((srtB l).map fun s => [OT.str s])]) := by
  rw [E_extO (g := sortStr) (congrArg FM.ext m_slices_Sort_string_string)]
  unfold sortStr
  simp only
  rw [dec_t ⟨by first | trivial | rfl, fun e he => by obtain ⟨s, _, rfl⟩ := List.mem_map.1 he; exact ⟨s, rfl⟩, by simpa using hl⟩, cond_true]
  have e1 : (l.map fun s => [OT.str s]).map (fun e => (keyB e).toList) = l.map (·.toList) := by rw [List.map_map]; rfl
  rw [e1]
  unfold srtB
  rw [List.map_map]
  rfl
noncomputable def Tm.vars (x : Tm) : List ByteArray := srtB (addA [] x.vs)
def c_impl_variables : SC := (.seq (.reg [⟨some 1, none, .boxv 31 2 (.t 0)⟩, ⟨some 2, none, .mv (.c .nil)⟩]) (.seq (.reg [⟨(some 4), none, (.mkrow 9 1 [(.str ⟨#[]⟩)] 0 [])⟩, ⟨some 5, none, .load true 2 (.t 1)⟩, ⟨some 6, none, .call 131 [(.t 4), (.t 5)]⟩, ⟨some 3, none, .mv (.t 6)⟩]) (.seq (.reg [⟨some 7, none, .mv (.t 3)⟩, ⟨some 8, none, .call 61 [(.t 7)]⟩]) (.seq (.reg [⟨some 9, none, .mv (.t 3)⟩, ⟨some 2, none, .mv (.t 9)⟩]) .ret))))
theorem k_impl_variables : codeOf Tryz.prog 97 = some ⟨10, c_impl_variables, [(.tmp 2)]⟩ := by kernel_rfl
theorem m_impl_variables : modes 97 = ⟨[], .asis, none, false⟩ := by unfold modes; rfl
theorem variables_of (x : Tm) (hcol : ColC x) (hn : x.nodes ≤ 1048576) : E 97 [x.sv] [] = some (.ref 0, [.row 9 1 (x.vars.map fun s => [OT.str s])]) := by
  have h1 := hcol [] (by simpa using hn)
  have hl := addA_len x.vs []
  have hv := Tm.vs_len x
  rw [List.length_nil, Nat.zero_add] at hl
  have h2 := sortS_E (addA [] x.vs) (by omega)
  rw [List.map_nil, List.length_nil] at h1
  unfold Tm.vars
  rcases Nat.lt_or_ge 0 (addA [] x.vs).length with q | q
  · rw [dec_t q] at h1
    simp only [cond_true] at h1
    refine E_walk k_impl_variables m_impl_variables (of_decide_eq_true rfl) ?_
    simp (disch := omega) only [c_impl_variables, go_sem, go_cond, zA, zB, zC, zD, zE, zF, zG, zH, ↓reduceIte, zI, reduceCtorEq, zJ, zK, h1, h2, m_impl_collect, m_slices_Sort_string_string]
  · rw [dec_f (by omega)] at h1
    simp only [cond_false] at h1
    refine E_walk k_impl_variables m_impl_variables (of_decide_eq_true rfl) ?_
    simp (disch := omega) only [c_impl_variables, go_sem, go_cond, zA, zB, zC, zD, zE, zF, zG, zH, ↓reduceIte, zI, reduceCtorEq, zJ, zK, h1, h2, m_impl_collect, m_slices_Sort_string_string]
theorem collectA_E (x : Tm) (h : x.atom = true) : ColC x :=
  collect_of x (Tm.atom_args h).1 (Tm.atom_cok h) fun y hy => collect_E y ((Tm.atom_args h).2 y hy) (Tm.cok_names y ((Tm.atom_args h).2 y hy))
noncomputable def insU : List ByteArray → ByteArray → List ByteArray
  | [], n => [n]
  | x :: xs, n => bif strLt x n then x :: insU xs n else bif dec (x = n) then x :: xs else n :: x :: xs
noncomputable def lowS : List ByteArray → ByteArray → Nat
  | [], _ => 0
  | x :: xs, n => bif strLt x n then lowS xs n + 1 else 0
theorem insU_mem : ∀ {xs : List ByteArray} {n m : ByteArray}, m ∈ insU xs n ↔ m ∈ xs ∨ m = n
  | [], n, m => by simp [insU]
  | x :: xs, n, m => by
    rw [insU]
    cases strLt x n with
    | true => rw [cond_true, List.mem_cons, insU_mem, List.mem_cons, or_assoc]
    | false =>
      rw [cond_false]
      by_cases h : x = n
      · rw [dec_t h, cond_true]
        exact ⟨.inl, fun h' => h'.elim id fun e => by subst e; subst h; simp⟩
      · rw [dec_f h, cond_false, List.mem_cons]
        exact or_comm
theorem insU_len : ∀ (xs : List ByteArray) (n : ByteArray), (insU xs n).length ≤ xs.length + 1
  | [], n => by simp [insU]
  | x :: xs, n => by
    have h := insU_len xs n
    rw [insU]
    cases strLt x n with
    | true => simp only [cond_true, List.length_cons]; omega
    | false =>
      rw [cond_false]
      cases dec (x = n) with
      | true => simp only [cond_true, List.length_cons]; omega
      | false => simp only [cond_false, List.length_cons]; omega
theorem lowS_le : ∀ (xs : List ByteArray) (n : ByteArray), lowS xs n ≤ xs.length
  | [], n => by simp [lowS]
  | x :: xs, n => by
    have h := lowS_le xs n
    rw [lowS]
    cases strLt x n with
    | true => simp only [cond_true, List.length_cons]; omega
    | false => simp only [cond_false, List.length_cons]; omega
theorem insU_there : ∀ {xs : List ByteArray} {n : ByteArray} (h : lowS xs n < xs.length), xs[lowS xs n] = n → insU xs n = xs
  | [], n, h, _ => by simp at h
  | x :: xs, n, h, e => by
    rw [insU]
    cases hq : strLt x n with
    | true =>
      simp only [lowS, hq, cond_true, List.length_cons, List.getElem_cons_succ] at h e
      rw [cond_true, insU_there (by omega) e]
    | false =>
      simp only [lowS, hq, cond_false, List.getElem_cons_zero] at e
      rw [cond_false, dec_t e]; rfl
theorem insU_new : ∀ {xs : List ByteArray} {n : ByteArray}, (∀ h : lowS xs n < xs.length, ¬ xs[lowS xs n] = n) → insU xs n = xs.take (lowS xs n) ++ n :: xs.drop (lowS xs n)
  | [], n, _ => by simp [insU, lowS]
  | x :: xs, n, h => by
    rw [insU]
    cases hq : strLt x n with
    | true =>
      simp only [lowS, hq, cond_true, List.length_cons, List.getElem_cons_succ] at h ⊢
      rw [insU_new fun h' => h (by omega)]
      simp
    | false =>
      simp only [lowS, hq, cond_false, List.getElem_cons_zero] at h ⊢
      rw [dec_f (h (by simp))]
      simp
theorem lowS_drop {xs : List ByteArray} {n : ByteArray} {k : Nat} (h : k + lowS (xs.drop k) n = lowS xs n) (hk : k < xs.length) : (strLt xs[k] n = true ∧ k + 1 + lowS (xs.drop (k + 1)) n = lowS xs n) ∨ (strLt xs[k] n = false ∧ k = lowS xs n) := by
  rw [List.drop_eq_getElem_cons hk, lowS] at h
  cases hq : strLt xs[k] n with
  | true => rw [hq, cond_true] at h; exact .inl ⟨rfl, by omega⟩
  | false => rw [hq, cond_false] at h; exact .inr ⟨rfl, by omega⟩
theorem ot_take (xs : List ByteArray) (k : Nat) : ((xs.map fun s => [D.str s]).take k).map (fun x => x.map D.ot) = (xs.take k).map fun s => [OT.str s] := by
  rw [← List.map_take, List.map_map]; rfl
theorem ot_drop (xs : List ByteArray) (k : Nat) : ((xs.map fun s => [D.str s]).drop k).map (fun x => x.map D.ot) = (xs.drop k).map fun s => [OT.str s] := by
  rw [← List.map_drop, List.map_map]; rfl
theorem al_strs (xs : List ByteArray) : ((xs.map fun s => [OT.str s]).all fun l => l.length == 1) = true := by
  rw [List.all_map, List.all_eq_true]
  intro x _; rfl
theorem al_dstrs (xs : List ByteArray) : ((xs.map fun s => [D.str s]).all fun l => l.length == 1) = true := by
  rw [List.all_map, List.all_eq_true]
  intro x _; rfl
def c_spec_l2Put : SC := (.seq (.reg [⟨some 4, none, .mv (.c .nil)⟩]) (.seq (.reg [⟨some 5, none, .mv (.c (.int .i64 0))⟩]) (.seq (.block 0 (.loop [1, 1, 0, 0, 0, 1, 0, 0, 0, 0, 0, 0, 0, 0, 0, 0, 0, 0, 0, 0, 0, 0, 0, 0, 0, 0, 0, 0, 0, 0, 0, 0, 0, 0, 0, 0, 0, 0, 0, 0, 0, 0, 0, 0, 0] (.seq (.seq (.reg [⟨some 6, none, .mv (.t 5)⟩, ⟨some 7, none, .mv (.t 0)⟩, ⟨some 8, none, .len false (.t 7)⟩, ⟨some 9, none, .bin .lss false (.t 6) (.t 8)⟩, ⟨some 10, none, .mv (.t 9)⟩, ⟨(some 11), (some (10, true)), (.mv (.t 0))⟩, ⟨(some 12), (some (10, true)), (.mv (.t 5))⟩, ⟨(some 13), (some (10, true)), (.iaddr 1 (.t 11) (.t 12))⟩, ⟨(some 14), (some (10, true)), (.load false 1 (.t 13))⟩, ⟨(some 15), (some (10, true)), (.mv (.t 1))⟩, ⟨(some 16), (some (10, true)), (.bin .lss false (.t 14) (.t 15))⟩, ⟨some 17, none, .pick (.t 10) (.t 16) (.c (.bool false))⟩]) (.cond (.t 17) .skip (.exit 0))) (.block 1 (.reg [⟨some 18, none, .mv (.t 5)⟩, ⟨some 19, none, .bin .add false (.t 18) (.c (.int .i64 1))⟩, ⟨some 5, none, .mv (.t 19)⟩]))))) (.seq (.seq (.reg [⟨some 20, none, .mv (.t 5)⟩, ⟨some 21, none, .mv (.t 0)⟩, ⟨some 22, none, .len false (.t 21)⟩, ⟨some 23, none, .bin .lss false (.t 20) (.t 22)⟩, ⟨some 24, none, .mv (.t 23)⟩, ⟨(some 25), (some (24, true)), (.mv (.t 0))⟩, ⟨(some 26), (some (24, true)), (.mv (.t 5))⟩, ⟨(some 27), (some (24, true)), (.iaddr 1 (.t 25) (.t 26))⟩, ⟨(some 28), (some (24, true)), (.load false 1 (.t 27))⟩, ⟨(some 29), (some (24, true)), (.mv (.t 1))⟩, ⟨(some 30), (some (24, true)), (.bin .eql false (.t 28) (.t 29))⟩, ⟨some 31, none, .pick (.t 24) (.t 30) (.c (.bool false))⟩]) (.cond (.t 31) (.seq (.reg [⟨some 32, none, .mv (.t 0)⟩, ⟨some 4, none, .mv (.t 32)⟩]) .ret) .skip)) (.seq (.dreg [[], [], [], [1, 2], [0, 3, 1, 2], [], [5], [4, 0, 3, 1, 2, 6, 5], [], [], [8, 9], [7, 4, 0, 3, 1, 2, 6, 5, 10, 8, 9], [11, 7, 4, 0, 3, 1, 2, 6, 5, 10, 8, 9]] [⟨(some 33), none, (.mkrow 9 1 [(.str ⟨#[]⟩)] 0 [])⟩, ⟨some 34, none, .mv (.t 0)⟩, ⟨some 35, none, .mv (.t 5)⟩, ⟨some 36, none, .slice false 1 (.t 34) none (some (.t 35))⟩, ⟨(some 37), none, (.append 9 1 16 [(.str ⟨#[]⟩)] (.t 33) (.t 36))⟩, ⟨some 38, none, .mv (.t 1)⟩, ⟨(some 39), none, (.mkrow 9 1 [(.str ⟨#[]⟩)] 1 [(0, (.t 38))])⟩, ⟨(some 40), none, (.append 9 1 16 [(.str ⟨#[]⟩)] (.t 37) (.t 39))⟩, ⟨some 41, none, .mv (.t 0)⟩, ⟨some 42, none, .mv (.t 5)⟩, ⟨some 43, none, .slice false 1 (.t 41) (some (.t 42)) none⟩, ⟨(some 44), none, (.append 9 1 16 [(.str ⟨#[]⟩)] (.t 40) (.t 43))⟩, ⟨some 4, none, .mv (.t 44)⟩]) .ret)))))
theorem k_spec_l2Put : codeOf Tryz.prog 107 = some ⟨45, c_spec_l2Put, [(.tmp 4)]⟩ := by kernel_rfl
theorem m_spec_l2Put : modes 107 = ⟨[], .frz, none, false⟩ := by unfold modes; rfl
set_option maxHeartbeats 4000000 in
theorem l2Put_E (xs : List ByteArray) (n : ByteArray) (hl : xs.length ≤ 1048576) : E 107 [.arr (xs.map fun s => [D.str s]), .str n] [] = some (.arr ((insU xs n).map fun s => [D.str s]), []) := by
  have e1 := ot_take xs (lowS xs n)
  have e2 := ot_drop xs (lowS xs n)
  have e3 := al_strs (xs.take (lowS xs n))
  have e4 := al_strs (xs.drop (lowS xs n))
  have e5 := al_dstrs xs
  have l1 := lowS_le xs n
  have e6 : (xs.map fun s => [D.str s]).take xs.length = xs.map fun s => [D.str s] := List.take_of_length_le (by simp)
  have e7 : (xs.take (lowS xs n)).length = lowS xs n := by rw [List.length_take]; omega
  have e8 : (xs.drop (lowS xs n)).length = xs.length - lowS xs n := List.length_drop
  have hf : ∀ ys : List ByteArray, ys = insU xs n → (ys.map fun s => [OT.str s]) = (insU xs n).map fun s => [OT.str s] := fun ys h => by rw [h]
  refine E_walk k_spec_l2Put m_spec_l2Put (of_decide_eq_true rfl) ?_
  simp (disch := omega) only [c_spec_l2Put, go_sem, go_cond, zA, zB, zC, zD, zE, zF, zG, zH, ↓reduceIte, zI, reduceCtorEq, zJ, zK]
  refine go_loop (α := Int) (fun a => ⟨slots 45 0 [(0, .arr (xs.map fun s => [D.str s])), (1, .str n), (5, .int .i64 a)], []⟩) (fun a => ∃ k : Nat, a = k ∧ k ≤ (xs).length ∧ k + lowS (xs.drop k) n = lowS xs n) (fun a => (xs).length - (a).toNat) 0 ⟨0, rfl, Nat.zero_le _, by rw [List.drop_zero, Nat.zero_add]⟩ (by simp (disch := omega) only [go_sem, go_cond, zA, zB, zC, zD, zE, zF, zG, zH, ↓reduceIte, zI, reduceCtorEq, zJ, zK]) ?_
  rintro i ⟨k, hi, hk, hR⟩
  have hni : i.toNat = k := by omega
  have hni1 : (i + 1).toNat = k + 1 := by omega
  rcases Nat.lt_or_ge k (xs).length with hlt | hge
  · have hg := get_at (fun s => [D.str s]) hlt
    rcases lowS_drop hR hlt with ⟨q, hR'⟩ | ⟨q, hk'⟩
    · simp (disch := omega) only [go_sem, go_cond, zA, zB, zC, zD, zE, zF, zG, zH, ↓reduceIte, zI, reduceCtorEq, zJ, zK, hni, hg, q]
      exact ⟨i + 1, ⟨k + 1, by omega, hlt, hR'⟩, by omega, by first | trivial | rfl⟩
    · subst hk'
      by_cases h0 : xs[lowS xs n] = n
      · have hi0 := insU_there hlt h0
        rw [hi0]
        simp (disch := omega) only [go_sem, go_cond, zA, zB, zC, zD, zE, zF, zG, zH, ↓reduceIte, zI, reduceCtorEq, zJ, zK, hni, hg, q, h0, e6, strLt_self, dec_refl]
      · have hi0 := insU_new (fun _ => h0)
        have hx : (xs.take (lowS xs n)).map (fun s => [OT.str s]) ++ ([[OT.str n]] ++ (xs.drop (lowS xs n)).map (fun s => [OT.str s])) = (insU xs n).map fun s => [OT.str s] := by rw [hi0]; simp
        have hx2 : (xs.take (lowS xs n)).map (fun s => [OT.str s]) ++ [[OT.str n]] ++ (xs.drop (lowS xs n)).map (fun s => [OT.str s]) = (insU xs n).map fun s => [OT.str s] := by rw [hi0]; simp
        simp (disch := omega) only [go_sem, go_cond, zA, zB, zC, zD, zE, zF, zG, zH, ↓reduceIte, zI, reduceCtorEq, zJ, zK, hni, hg, q, h0, e1, e2, e3, e4, e5, e6, e7, e8, hx2, List.length_append, Int.toNat_zero]
  · obtain rfl : k = xs.length := by omega
    have hk' : xs.length = lowS xs n := by rw [← hR, List.drop_eq_nil_of_le (Nat.le_refl _)]; simp [lowS]
    have hi0 := insU_new (xs := xs) (n := n) (fun h => by omega)
    have hx2 : (xs.take (lowS xs n)).map (fun s => [OT.str s]) ++ [[OT.str n]] ++ (xs.drop (lowS xs n)).map (fun s => [OT.str s]) = (insU xs n).map fun s => [OT.str s] := by rw [hi0]; simp
    rw [hk'] at hni
    simp (disch := omega) only [go_sem, go_cond, zA, zB, zC, zD, zE, zF, zG, zH, ↓reduceIte, zI, reduceCtorEq, zJ, zK, hni, e1, e2, e3, e4, e5, e6, e7, e8, hx2, List.length_append, Int.toNat_zero]
noncomputable def insA (l ns : List ByteArray) : List ByteArray := ns.foldl insU l
theorem insA_len : ∀ (ns l : List ByteArray), (insA l ns).length ≤ l.length + ns.length
  | [], l => by simp [insA]
  | n :: ns, l => by
    have h := insA_len ns (insU l n)
    have h2 := insU_len l n
    simp only [insA, List.foldl_cons, List.length_cons] at h ⊢
    omega
theorem insA_mem : ∀ {ns l : List ByteArray} {m : ByteArray}, m ∈ insA l ns ↔ m ∈ l ∨ m ∈ ns
  | [], l, m => by simp [insA]
  | n :: ns, l, m => by
    have h := insA_mem (ns := ns) (l := insU l n) (m := m)
    simp only [insA, List.foldl_cons] at h ⊢
    rw [h, insU_mem]
    simp only [List.mem_cons]
    exact or_assoc
theorem insA_app (l a b : List ByteArray) : insA l (a ++ b) = insA (insA l a) b := List.foldl_append
def c_spec_l2Into : SC := (.seq (.reg [⟨some 3, none, .boxv 31 2 (.t 1)⟩, ⟨some 4, none, .mv (.c .nil)⟩]) (.seq (.seq (.reg [⟨some 6, none, .faddr 0 (.t 3)⟩, ⟨some 7, none, .load false 1 (.t 6)⟩, ⟨some 8, none, .call 103 [(.t 7)]⟩]) (.cond (.t 8) (.seq (.reg [⟨some 9, none, .mv (.t 0)⟩, ⟨some 10, none, .faddr 0 (.t 3)⟩, ⟨some 11, none, .load false 1 (.t 10)⟩, ⟨some 12, none, .call 107 [(.t 9), (.t 11)]⟩, ⟨some 4, none, .mv (.t 12)⟩]) .ret) .skip)) (.seq (.seq (.reg [⟨some 5, none, .mv (.c (.int .i64 0))⟩]) (.block 0 (.loop [1, 0, 0, 1, 0, 1, 0, 0, 0, 0, 0, 0, 0, 0, 0, 0, 0, 0, 0, 0, 0, 0, 0, 0, 0, 0, 0, 0] (.seq (.seq (.reg [⟨some 13, none, .mv (.t 5)⟩, ⟨some 14, none, .faddr 1 (.t 3)⟩, ⟨some 15, none, .load false 1 (.t 14)⟩, ⟨some 16, none, .len false (.t 15)⟩, ⟨some 17, none, .bin .lss false (.t 13) (.t 16)⟩]) (.cond (.t 17) .skip (.exit 0))) (.seq (.block 1 (.reg [⟨some 20, none, .mv (.t 0)⟩, ⟨some 21, none, .faddr 1 (.t 3)⟩, ⟨some 22, none, .load false 1 (.t 21)⟩, ⟨some 23, none, .mv (.t 5)⟩, ⟨some 24, none, .iaddr 2 (.t 22) (.t 23)⟩, ⟨some 25, none, .load true 2 (.t 24)⟩, ⟨some 26, none, .call 140 [(.t 20), (.t 25)]⟩, ⟨some 0, none, .mv (.t 26)⟩])) (.reg [⟨some 18, none, .mv (.t 5)⟩, ⟨some 19, none, .bin .add false (.t 18) (.c (.int .i64 1))⟩, ⟨some 5, none, .mv (.t 19)⟩])))))) (.seq (.reg [⟨some 27, none, .mv (.t 0)⟩, ⟨some 4, none, .mv (.t 27)⟩]) .ret))))
theorem k_spec_l2Into : codeOf Tryz.prog 140 = some ⟨28, c_spec_l2Into, [(.tmp 4)]⟩ := by kernel_rfl
theorem m_spec_l2Into : modes 140 = ⟨[], .asis, none, false⟩ := by unfold modes; rfl
def c_spec_l2Vars : SC := (.seq (.reg [⟨some 1, none, .boxv 31 2 (.t 0)⟩, ⟨some 2, none, .mv (.c .nil)⟩]) (.seq (.reg [⟨(some 3), none, (.mkrow 9 1 [(.str ⟨#[]⟩)] 0 [])⟩, ⟨some 4, none, .load true 2 (.t 1)⟩, ⟨some 5, none, .call 140 [(.t 3), (.t 4)]⟩, ⟨some 2, none, .mv (.t 5)⟩]) .ret))
theorem k_spec_l2Vars : codeOf Tryz.prog 106 = some ⟨6, c_spec_l2Vars, [(.tmp 2)]⟩ := by kernel_rfl
theorem m_spec_l2Vars : modes 106 = ⟨[], .frz, none, false⟩ := by unfold modes; rfl
abbrev IntoC (x : Tm) : Prop := ∀ l : List ByteArray, l.length + x.nodes ≤ 1048576 → E 140 [.arr (l.map fun s => [D.str s]), x.sv] [] = some (.arr ((insA l x.vs).map fun s => [D.str s]), [])
set_option maxHeartbeats 4000000 in
theorem l2Into_of (x : Tm) (ih : ∀ y ∈ x.args, IntoC y) : IntoC x := by
  intro l hn
  have hl := Tm.length_le x.args
  have hne := Tm.nodes_eq x
  have hvs := Tm.vs_eq x
  have hp := l2Put_E l x.name (by omega)
  cases hvv : varB x.name with
  | true =>
    rw [hvv] at hvs
    have e : insA l x.vs = insU l x.name := by rw [hvs]; rfl
    rw [e]
    refine E_walk k_spec_l2Into m_spec_l2Into (of_decide_eq_true rfl) ?_
    simp (disch := omega) only [c_spec_l2Into, go_sem, go_cond, zA, zB, zC, zD, zE, zF, zG, zH, ↓reduceIte, zI, reduceCtorEq, zJ, zK, hvv, hp, m_spec_l2Var, l2Var_E, m_spec_l2Put]
  | false =>
    rw [hvv] at hvs
    simp only [cond_false] at hvs
    rw [hvs]
    refine E_walk k_spec_l2Into m_spec_l2Into (of_decide_eq_true rfl) ?_
    simp (disch := omega) only [c_spec_l2Into, go_sem, go_cond, zA, zB, zC, zD, zE, zF, zG, zH, ↓reduceIte, zI, reduceCtorEq, zJ, zK, hvv, m_spec_l2Var, l2Var_E]
    refine go_loop (α := Int × (List ByteArray)) (fun a => ⟨slots 28 0 [(0, .arr ((a.2).map fun s => [D.str s])), (3, .ptr 0 0), (5, .int .i64 (a.1))], [.box 31 [.str x.name, .arr (x.args.map Tm.d)]]⟩) (fun a => ∃ k : Nat, a.1 = k ∧ k ≤ (x.args).length ∧ insA (a.2) (Tm.vsL (x.args.drop k)) = insA l (Tm.vsL x.args) ∧ (a.2).length + Tm.nodeS (x.args.drop k) ≤ 1048576) (fun a => (x.args).length - (a.1).toNat) (0, l) ⟨0, rfl, Nat.zero_le _, by rw [List.drop_zero], by rw [List.drop_zero]; dsimp only; omega⟩ (by simp (disch := omega) only [go_sem, go_cond, zA, zB, zC, zD, zE, zF, zG, zH, ↓reduceIte, zI, reduceCtorEq, zJ, zK]) ?_
    rintro ⟨i, acc⟩ ⟨k, hi, hk, hR⟩
    dsimp only at hi hR
    have hni : i.toNat = k := by omega
    have hni1 : (i + 1).toNat = k + 1 := by omega
    rcases Nat.lt_or_ge k (x.args).length with hlt | hge
    · have hg := get_at Tm.d hlt
      rw [Tm.d_eq] at hg
      obtain ⟨hR1, hR2⟩ := hR
      rw [List.drop_eq_getElem_cons hlt, Tm.vsL, insA_app] at hR1
      rw [List.drop_eq_getElem_cons hlt, Tm.nodeS] at hR2
      have hc := ih x.args[k] (List.getElem_mem hlt) acc (by omega)
      have hlen := insA_len x.args[k].vs acc
      have hvl := Tm.vs_len x.args[k]
      simp (disch := omega) only [go_sem, go_cond, zA, zB, zC, zD, zE, zF, zG, zH, ↓reduceIte, zI, reduceCtorEq, zJ, zK, hni, hg, hc, m_spec_l2Into]
      exact ⟨(i + 1, insA acc x.args[k].vs), ⟨k + 1, by dsimp only; omega, hlt, hR1, by dsimp only; omega⟩, by dsimp only; omega, by first | trivial | rfl⟩
    · rw [List.drop_eq_nil_of_le hge, Tm.vsL] at hR
      obtain ⟨hR1, hR2⟩ := hR
      have hR1 : acc = insA l (Tm.vsL x.args) := hR1
      rw [← hR1]
      simp (disch := omega) only [go_sem, go_cond, zA, zB, zC, zD, zE, zF, zG, zH, ↓reduceIte, zI, reduceCtorEq, zJ, zK, hni]
theorem l2Into_E (x : Tm) : IntoC x := l2Into_of x fun y hy => l2Into_E y
termination_by SizeOf.sizeOf x
decreasing_by exact Tm.lt_of_mem hy
theorem l2Vars_E (x : Tm) (hn : x.nodes ≤ 1048576) : E 106 [x.sv] [] = some (.arr ((insA [] x.vs).map fun s => [D.str s]), []) := by
  have h := l2Into_E x [] (by simpa using hn)
  rw [List.map_nil] at h
  refine E_walk k_spec_l2Vars m_spec_l2Vars (of_decide_eq_true rfl) ?_
  simp (disch := omega) only [c_spec_l2Vars, go_sem, go_cond, zA, zB, zC, zD, zE, zF, zG, zH, ↓reduceIte, zI, reduceCtorEq, zJ, zK, h, m_spec_l2Into]
theorem less_asymm : ∀ x y : List UInt8, Op.bytesLess x y = true → Op.bytesLess y x = false
  | [], [], h => by simp [Op.bytesLess] at h
  | [], _ :: _, _ => rfl
  | _ :: _, [], h => by simp [Op.bytesLess] at h
  | a :: x, b :: y, h => by
    simp only [Op.bytesLess, Bool.or_eq_true, decide_eq_true_eq, Bool.and_eq_true, beq_iff_eq] at h
    simp only [Op.bytesLess, Bool.or_eq_false_iff, decide_eq_false_iff_not]
    rcases h with h | ⟨rfl, h⟩
    · have h2 : ¬ b < a := by intro h3; exact absurd (UInt8.lt_trans h h3) (UInt8.lt_irrefl _)
      have h3 : (b == a) = false := by
        rw [beq_eq_false_iff_ne]; rintro rfl; exact UInt8.lt_irrefl _ h
      exact ⟨h2, by rw [h3]; rfl⟩
    · exact ⟨UInt8.lt_irrefl _, by rw [less_asymm x y h]; simp⟩
theorem less_total : ∀ x y : List UInt8, Op.bytesLess x y = false → Op.bytesLess y x = false → x = y
  | [], [], _, _ => rfl
  | [], _ :: _, h, _ => by simp [Op.bytesLess] at h
  | _ :: _, [], _, h => by simp [Op.bytesLess] at h
  | a :: x, b :: y, h, k => by
    simp only [Op.bytesLess, Bool.or_eq_false_iff, decide_eq_false_iff_not] at h k
    have hab : a = b := by
      have h1 := h.1; have h2 := k.1
      rw [UInt8.lt_iff_toNat_lt] at h1 h2
      exact UInt8.toNat_inj.1 (by omega)
    subst hab
    have h1 : Op.bytesLess x y = false := by simpa using h.2
    have h2 : Op.bytesLess y x = false := by simpa using k.2
    rw [less_total x y h1 h2]
theorem strLt_asymm {a b : ByteArray} (h : strLt a b = true) : strLt b a = false := less_asymm _ _ h
theorem strLt_total {a b : ByteArray} (h : strLt a b = false) (h' : strLt b a = false) : a = b := bytes_ext (less_total _ _ h h')
theorem less_trans : ∀ x y z : List UInt8, Op.bytesLess x y = true → Op.bytesLess y z = true → Op.bytesLess x z = true
  | _, _, [], _, h => by simp [Op.bytesLess] at h
  | [], [], _ :: _, h, _ => by simp [Op.bytesLess] at h
  | [], _ :: _, _ :: _, _, _ => rfl
  | _ :: _, [], _ :: _, h, _ => by simp [Op.bytesLess] at h
  | a :: x, b :: y, c :: z, h, k => by
    simp only [Op.bytesLess, Bool.or_eq_true, decide_eq_true_eq, Bool.and_eq_true, beq_iff_eq] at h k ⊢
    rcases h with h | ⟨rfl, h⟩
    · rcases k with k | ⟨rfl, k⟩
      · exact .inl (UInt8.lt_trans h k)
      · exact .inl h
    · rcases k with k | ⟨rfl, k⟩
      · exact .inl k
      · exact .inr ⟨rfl, less_trans x y z h k⟩
theorem strLt_trans {a b c : ByteArray} (h : strLt a b = true) (k : strLt b c = true) : strLt a c = true := less_trans _ _ _ h k
theorem less_lt : ∀ x y : List UInt8, Op.bytesLess x y = true ↔ x < y
  | [], [] => by simp [Op.bytesLess]
  | [], b :: y => by simp [Op.bytesLess]
  | a :: x, [] => by simp [Op.bytesLess]
  | a :: x, b :: y => by
    have h := less_lt x y
    rw [List.cons_lt_cons_iff, ← h]
    simp only [Op.bytesLess, Bool.or_eq_true, decide_eq_true_eq, Bool.and_eq_true, beq_iff_eq]
theorem strLt_lt (a b : ByteArray) : strLt a b = true ↔ a.toList < b.toList := less_lt _ _
theorem insU_pair (n : ByteArray) : ∀ xs : List ByteArray, xs.Pairwise (fun x y => strLt x y = true) → (insU xs n).Pairwise fun x y => strLt x y = true
  | [], _ => by simp [insU]
  | x :: xs, h => by
    rw [insU]
    rw [List.pairwise_cons] at h
    cases hq : strLt x n with
    | true =>
      rw [cond_true, List.pairwise_cons]
      refine ⟨fun y hy => ?_, insU_pair n xs h.2⟩
      rcases insU_mem.1 hy with hy | rfl
      · exact h.1 y hy
      · exact hq
    | false =>
      rw [cond_false]
      by_cases he : x = n
      · rw [dec_t he, cond_true, List.pairwise_cons]; exact h
      · rw [dec_f he, cond_false, List.pairwise_cons, List.pairwise_cons]
        have hn : strLt n x = true := by
          cases hh : strLt n x with
          | true => rfl
          | false => exact absurd (strLt_total hq hh) he
        refine ⟨fun y hy => ?_, h⟩
        rcases List.mem_cons.1 hy with rfl | hy
        · exact hn
        · exact strLt_trans hn (h.1 y hy)
theorem insA_pair : ∀ (ns xs : List ByteArray), xs.Pairwise (fun x y => strLt x y = true) → (insA xs ns).Pairwise fun x y => strLt x y = true
  | [], xs, h => h
  | n :: ns, xs, h => insA_pair ns (insU xs n) (insU_pair n xs h)
theorem pair_nodup {xs : List ByteArray} (h : xs.Pairwise fun x y => strLt x y = true) : xs.Nodup :=
  h.imp fun {a b} hab e => by rw [e, strLt_self] at hab; cases hab
theorem srtB_pair (l : List ByteArray) : (srtB l).Pairwise fun x y => strLt y x = false := by
  unfold srtB srt
  rw [List.pairwise_map]
  have h := List.pairwise_mergeSort (le := fun x y : List UInt8 => decide (x ≤ y)) (fun a b c h k => by
    rw [decide_eq_true_eq] at h k ⊢; exact List.le_trans h k) (fun a b => by
    rw [Bool.or_eq_true, decide_eq_true_eq, decide_eq_true_eq]; exact List.le_total a b) (l.map (·.toList))
  refine h.imp fun {a b} hab => ?_
  rw [decide_eq_true_eq] at hab
  rw [Bool.eq_false_iff]
  intro hh
  have := (strLt_lt _ _).1 hh
  rw [ByteArray.toList_eq, ByteArray.toList_eq] at this
  exact absurd this (List.not_lt.2 hab)
theorem srtB_insA (ns : List ByteArray) : srtB (addA [] ns) = insA [] ns := by
  have h1 := insA_pair ns [] List.Pairwise.nil
  have n1 := pair_nodup h1
  have n2 : (addA [] ns).Nodup := addA_nodup List.nodup_nil
  have hp : (srtB (addA [] ns)).Perm (insA [] ns) := (srtB_perm _).trans ((List.perm_ext_iff_of_nodup n2 n1).2 fun a => by rw [addA_mem, insA_mem])
  refine List.Perm.eq_of_pairwise (le := fun x y => strLt y x = false) (fun a b _ _ h k => strLt_total k h) (srtB_pair _) (h1.imp fun h => strLt_asymm h) hp
mutual
noncomputable def Fm.fv : Fm → List ByteArray → List ByteArray
  | .mk op atom var parts, b => bif dec (op = 3) then (insA [] atom.vs).filter (fun n => !dec (n ∈ b)) else Fm.fvL parts (bif qB op then b ++ [var] else b)
noncomputable def Fm.fvL : List Fm → List ByteArray → List ByteArray
  | [], _ => []
  | x :: xs, b => Fm.fv x b ++ Fm.fvL xs b
end
theorem Fm.fv_eq (x : Fm) (b : List ByteArray) : x.fv b = bif dec (x.op = 3) then (insA [] x.atom.vs).filter (fun n => !dec (n ∈ b)) else Fm.fvL x.parts (bif qB x.op then b ++ [x.var] else b) := by
  obtain ⟨op, atom, var, parts⟩ := x
  rw [Fm.fv]; rfl
mutual
def Fm.vn : Fm → Nat
  | .mk _ atom _ parts => atom.nodes + Fm.vnS parts
def Fm.vnS : List Fm → Nat
  | [] => 0
  | x :: xs => Fm.vn x + Fm.vnS xs
end
theorem Fm.vn_eq (x : Fm) : x.vn = x.atom.nodes + Fm.vnS x.parts := by
  obtain ⟨op, atom, var, parts⟩ := x
  rw [Fm.vn]; rfl
theorem Fm.fvL_len (b : List ByteArray) : ∀ xs : List Fm, (∀ x ∈ xs, (x.fv b).length ≤ x.vn) → (Fm.fvL xs b).length ≤ Fm.vnS xs
  | [], _ => by simp [Fm.fvL]
  | x :: xs, h => by
    have h1 := h x (by simp)
    have h2 := Fm.fvL_len b xs fun y hy => h y (by simp [hy])
    rw [Fm.fvL, Fm.vnS, List.length_append]; omega
theorem Fm.fv_len (x : Fm) : ∀ b : List ByteArray, (x.fv b).length ≤ x.vn := by
  intro b
  rw [Fm.fv_eq, Fm.vn_eq]
  cases dec (x.op = 3) with
  | true =>
    simp only [cond_true]
    have h1 := List.length_filter_le (fun n => !dec (n ∈ b)) (insA [] x.atom.vs)
    have h2 := insA_len x.atom.vs []
    have h3 := Tm.vs_len x.atom
    simp only [List.length_nil] at h2
    omega
  | false =>
    simp only [cond_false]
    have h := Fm.fvL_len (bif qB x.op then b ++ [x.var] else b) x.parts fun y hy => Fm.fv_len y _
    omega
termination_by SizeOf.sizeOf x
decreasing_by exact Fm.lt_of_mem hy
theorem Fm.vnS_le : ∀ xs : List Fm, (∀ x ∈ xs, x.vn ≤ 30 * x.nodes) → Fm.vnS xs ≤ 30 * Fm.nodeS xs
  | [], _ => by simp [Fm.vnS]
  | x :: xs, h => by
    have h1 := h x (by simp)
    have h2 := Fm.vnS_le xs fun y hy => h y (by simp [hy])
    rw [Fm.vnS, Fm.nodeS]; omega
theorem Fm.vn_le (x : Fm) (h : x.forms = true) : x.vn ≤ 30 * x.nodes := by
  have h1 := Fm.vnS_le x.parts fun y hy => Fm.vn_le y (Fm.forms_part h hy)
  have h2 := Fm.atom_le (Fm.forms_form h)
  rw [Fm.vn_eq, Fm.nodes_eq]; omega
termination_by SizeOf.sizeOf x
decreasing_by exact Fm.lt_of_mem hy
noncomputable def Fm.free (x : Fm) : List ByteArray := insA [] (x.fv [])
def stepL {α β S : Type} (f : α → S → β × S) : List α → S → List β × S
  | [], s => ([], s)
  | x :: xs, s => ((f x s).1 :: (stepL f xs (f x s).2).1, (stepL f xs (f x s).2).2)
def preV : ByteArray := ⟨#[86]⟩
mutual
noncomputable def Fm.sep (tk : List ByteArray) : Fm → SEnv → Int → Fm × Int
  | .mk op atom var parts, e, c => bif dec (op = 3) then (.mk 3 (atom.rn e) ⟨#[]⟩ [], c)
    else bif qB op then (.mk op Tm.zero (pre preV (fresh preV tk c)) (Fm.sepL tk parts (putN e var (pre preV (fresh preV tk c))) (fresh preV tk c)).1, (Fm.sepL tk parts (putN e var (pre preV (fresh preV tk c))) (fresh preV tk c)).2)
    else (.mk op Tm.zero ⟨#[]⟩ (Fm.sepL tk parts e c).1, (Fm.sepL tk parts e c).2)
noncomputable def Fm.sepL (tk : List ByteArray) : List Fm → SEnv → Int → List Fm × Int
  | [], _, c => ([], c)
  | x :: xs, e, c => ((Fm.sep tk x e c).1 :: (Fm.sepL tk xs e (Fm.sep tk x e c).2).1, (Fm.sepL tk xs e (Fm.sep tk x e c).2).2)
end
theorem Fm.sepL_step (tk : List ByteArray) (e : SEnv) : ∀ (xs : List Fm) (c : Int), Fm.sepL tk xs e c = stepL (fun y c => Fm.sep tk y e c) xs c
  | [], c => by rw [Fm.sepL]; rfl
  | x :: xs, c => by rw [Fm.sepL, stepL, Fm.sepL_step tk e xs]
theorem Fm.sep_eq (tk : List ByteArray) (x : Fm) (e : SEnv) (c : Int) : x.sep tk e c = bif dec (x.op = 3) then (.mk 3 (x.atom.rn e) ⟨#[]⟩ [], c)
    else bif qB x.op then (.mk x.op Tm.zero (pre preV (fresh preV tk c)) (stepL (fun y d => Fm.sep tk y (putN e x.var (pre preV (fresh preV tk c))) d) x.parts (fresh preV tk c)).1, (stepL (fun y d => Fm.sep tk y (putN e x.var (pre preV (fresh preV tk c))) d) x.parts (fresh preV tk c)).2)
    else (.mk x.op Tm.zero ⟨#[]⟩ (stepL (fun y c => Fm.sep tk y e c) x.parts c).1, (stepL (fun y c => Fm.sep tk y e c) x.parts c).2) := by
  obtain ⟨op, atom, var, parts⟩ := x
  rw [Fm.sep, Fm.sepL_step, Fm.sepL_step]
  rfl
theorem Fm.sep_count (tk : List ByteArray) (x : Fm) : ∀ (e : SEnv) (c : Int), 0 ≤ c → c ≤ (x.sep tk e c).2 ∧ (x.sep tk e c).2 ≤ c + x.nodes * (tk.length + 2 : Nat) := by
  intro e c hc
  have ih : ∀ y ∈ x.parts, ∀ (e : SEnv) (c : Int), 0 ≤ c → c ≤ (y.sep tk e c).2 ∧ (y.sep tk e c).2 ≤ c + y.nodes * (tk.length + 2 : Nat) := fun y hy => Fm.sep_count tk y
  have key : ∀ (e : SEnv) (xs : List Fm), (∀ y ∈ xs, y ∈ x.parts) → ∀ c : Int, 0 ≤ c → c ≤ (stepL (fun y c => Fm.sep tk y e c) xs c).2 ∧ (stepL (fun y c => Fm.sep tk y e c) xs c).2 ≤ c + Fm.nodeS xs * (tk.length + 2 : Nat) := by
    intro e xs
    induction xs with
    | nil => intro _ c _; rw [stepL, Fm.nodeS]; simp
    | cons y ys ihy =>
      intro hm c h0
      have h1 := ih y (hm y (by simp)) e c h0
      have h2 := ihy (fun z hz => hm z (by simp [hz])) (y.sep tk e c).2 (by omega)
      rw [stepL, Fm.nodeS]
      dsimp only
      rw [Int.natCast_add, Int.add_mul]
      omega
  rw [Fm.sep_eq, Fm.nodes_eq, Int.natCast_add, Int.add_mul]
  have hT : (0 : Int) ≤ (Fm.nodeS x.parts : Int) * (tk.length + 2 : Nat) := Int.mul_nonneg (by omega) (by omega)
  have hO : ((1 : Nat) : Int) * (tk.length + 2 : Nat) = tk.length + 2 := by simp
  rw [hO]
  cases dec (x.op = 3) with
  | true => simp only [cond_true]; omega
  | false =>
    cases qB x.op with
    | true =>
      have hf := fresh_range preV tk c
      have := key (putN e x.var (pre preV (fresh preV tk c))) x.parts (fun y hy => hy) (fresh preV tk c) (by omega)
      simp only [cond_true, cond_false]; omega
    | false =>
      have := key e x.parts (fun y hy => hy) c hc
      simp only [cond_false]; omega
termination_by SizeOf.sizeOf x
decreasing_by exact Fm.lt_of_mem hy
theorem Fm.sep_small (tk : List ByteArray) (x : Fm) (h : x.forms = true) : ∀ (e : SEnv) (c : Int), (x.sep tk e c).1.tame ∧ (x.sep tk e c).1.nodes ≤ x.nodes := by
  intro e c
  have ih : ∀ y ∈ x.parts, ∀ (e : SEnv) (c : Int), (y.sep tk e c).1.tame ∧ (y.sep tk e c).1.nodes ≤ y.nodes := fun y hy => Fm.sep_small tk y (Fm.forms_part h hy)
  have key : ∀ (e : SEnv) (xs : List Fm), (∀ y ∈ xs, y ∈ x.parts) → ∀ c : Int, Fm.tameS (stepL (fun y c => Fm.sep tk y e c) xs c).1 ∧ Fm.nodeS (stepL (fun y c => Fm.sep tk y e c) xs c).1 ≤ Fm.nodeS xs := by
    intro e xs
    induction xs with
    | nil => intro _ c; rw [stepL, Fm.tameS, Fm.nodeS]; exact ⟨trivial, Nat.le_refl _⟩
    | cons y ys ihy =>
      intro hm c
      have h1 := ih y (hm y (by simp)) e c
      have h2 := ihy (fun z hz => hm z (by simp [hz])) (y.sep tk e c).2
      rw [stepL, Fm.tameS, Fm.nodeS, Fm.nodeS]
      exact ⟨⟨h1.1, h2.1⟩, by omega⟩
  have hz : Tm.zero.nodes ≤ 1099511627776 := by rw [Tm.zero_nodes]; omega
  have ha := Fm.atom_le (Fm.forms_form h)
  rw [Fm.sep_eq, Fm.nodes_eq x]
  cases dec (x.op = 3) with
  | true =>
    simp only [cond_true]
    rw [Fm.tame_mk, Fm.nodes_mk, Fm.tameS, Fm.nodeS, Tm.rn_nodes]
    exact ⟨⟨by omega, trivial⟩, by omega⟩
  | false =>
    cases qB x.op with
    | true =>
      have := key (putN e x.var (pre preV (fresh preV tk c))) x.parts (fun y hy => hy) (fresh preV tk c)
      simp only [cond_true, cond_false]
      rw [Fm.tame_mk, Fm.nodes_mk]
      exact ⟨⟨hz, this.1⟩, by omega⟩
    | false =>
      have := key e x.parts (fun y hy => hy) c
      simp only [cond_false]
      rw [Fm.tame_mk, Fm.nodes_mk]
      exact ⟨⟨hz, this.1⟩, by omega⟩
termination_by SizeOf.sizeOf x
decreasing_by exact Fm.lt_of_mem hy
noncomputable def sepF (x : Fm) : Fm := (x.sep x.free (fun _ => none) 0).1
noncomputable def sepOk (x : Fm) : Bool := x.valid && (sepF x).valid
noncomputable def sepTo (x : Fm) : Fm := bif sepOk x then sepF x else Fm.zero
noncomputable def envL : List ByteArray → List ByteArray → SEnv
  | a :: from_, b :: to_, s => match envL from_ to_ s with
    | some n => some n
    | none => bif dec (s = a) then some b else none
  | [], _, _ => none
  | _ :: _, [], _ => none
theorem envL_snoc : ∀ (a b : List ByteArray) (s n : ByteArray), a.length = b.length → envL (a ++ [s]) (b ++ [n]) = putN (envL a b) s n
  | [], [], s, n, _ => by
    funext q
    simp only [List.nil_append, envL, putN]
  | x :: a, y :: b, s, n, h => by
    have ih := envL_snoc a b s n (by simpa using h)
    funext q
    rw [List.cons_append, List.cons_append, envL, ih, putN, putN, envL]
    cases dec (q = s) with
    | true => rfl
    | false => rfl
  | [], y :: b, _, _, h => by simp at h
  | x :: a, [], _, _, h => by simp at h
noncomputable def lastI : List ByteArray → ByteArray → Int
  | [], _ => -1
  | a :: r, s => bif dec (0 ≤ lastI r s) then lastI r s + 1 else bif dec (a = s) then 0 else -1
theorem lastI_range : ∀ (l : List ByteArray) (s : ByteArray), -1 ≤ lastI l s ∧ lastI l s < l.length
  | [], s => by rw [lastI]; simp
  | a :: r, s => by
    have ih := lastI_range r s
    rw [lastI, List.length_cons]
    cases h : dec (0 ≤ lastI r s) with
    | true => rw [cond_true]; omega
    | false =>
      rw [cond_false]
      cases dec (a = s) with
      | true => rw [cond_true]; omega
      | false => rw [cond_false]; omega
theorem envL_last : ∀ (a b : List ByteArray) (s : ByteArray), a.length = b.length → envL a b s = bif dec (0 ≤ lastI a s) then b[(lastI a s).toNat]? else none
  | [], [], s, _ => by rw [envL, lastI, dec_f (by omega)]; rfl
  | x :: a, y :: b, s, h => by
    have ih := envL_last a b s (by simpa using h)
    have hr := lastI_range a s
    have hl : a.length = b.length := by simpa using h
    rw [envL, ih, lastI]
    by_cases h0 : 0 ≤ lastI a s
    · rw [dec_t h0, cond_true, cond_true, dec_t (show 0 ≤ lastI a s + 1 by omega), cond_true]
      have e : (lastI a s + 1).toNat = (lastI a s).toNat + 1 := by omega
      have hlt : (lastI a s).toNat < b.length := by omega
      rw [e, List.getElem?_cons_succ, List.getElem?_eq_getElem hlt]
    · rw [dec_f h0, cond_false, cond_false]
      have e : (s = x) = (x = s) := propext ⟨Eq.symm, Eq.symm⟩
      simp only [e]
      cases dec (x = s) with
      | true => simp only [cond_true]; rw [dec_t (by omega)]; rfl
      | false => simp only [cond_false]; rw [dec_f (by omega)]; rfl
  | [], y :: b, _, h => by simp at h
  | x :: a, [], _, h => by simp at h
def OnV (e : SEnv) : Prop := ∀ s, e s ≠ none → varB s = true
theorem OnV.none : OnV fun _ => Option.none := fun s h => absurd rfl h
theorem OnV.put {e : SEnv} (h : OnV e) {s : ByteArray} (hs : varB s = true) (n : ByteArray) : OnV (putN e s n) := fun q hq => by
  unfold putN at hq
  by_cases he : q = s
  · rw [he]; exact hs
  · rw [dec_f he, cond_false] at hq; exact h q hq
def c_impl_copyTerms : SC := (.seq (.reg [⟨some 2, none, .mv (.c .nil)⟩]) (.seq (.seq (.reg [⟨some 6, none, .mv (.t 0)⟩, ⟨some 7, none, .len false (.t 6)⟩, ⟨some 8, none, .bin .eql false (.t 7) (.c (.int .i64 0))⟩]) (.cond (.t 8) (.seq (.reg [⟨some 2, none, .mv (.c .nil)⟩]) .ret) .skip)) (.seq (.reg [⟨some 9, none, .mv (.t 0)⟩, ⟨some 10, none, .len false (.t 9)⟩, ⟨(some 11), none, (.mkslice 31 2 40 [(.str ⟨#[]⟩), .nil] (.t 10))⟩, ⟨some 3, none, .mv (.t 11)⟩]) (.seq (.seq (.reg [⟨some 12, none, .mv (.t 0)⟩, ⟨some 13, none, .len false (.t 12)⟩, ⟨some 14, none, .mv (.c (.int .i64 0))⟩]) (.block 0 (.loop [0, 0, 0, 1, 0, 0, 0, 0, 0, 0, 0, 0, 1, 1, 1, 0, 0, 0, 0, 0, 0, 0, 0, 0, 0, 0] (.seq (.reg [⟨some 15, none, .bin .lss false (.t 14) (.t 13)⟩]) (.seq (.cond (.t 15) .skip (.exit 0)) (.seq (.block 1 (.seq (.reg [⟨some 16, none, .mv (.t 14)⟩, ⟨some 17, none, .iaddr 2 (.t 12) (.t 14)⟩, ⟨some 18, none, .load true 2 (.t 17)⟩, ⟨(some 5), none, (.alloc 31 [(.str ⟨#[]⟩), .nil])⟩, ⟨some 4, none, .mv (.t 16)⟩, ⟨none, none, (.store 2 (.t 5) (.t 18))⟩]) (.reg [⟨some 19, none, .mv (.t 3)⟩, ⟨some 20, none, .mv (.t 4)⟩, ⟨some 21, none, .load true 2 (.t 5)⟩, ⟨some 22, none, .call 98 [(.t 21)]⟩, ⟨some 23, none, .iaddr 2 (.t 19) (.t 20)⟩, ⟨none, none, (.store 2 (.t 23) (.t 22))⟩]))) (.reg [⟨some 24, none, .bin .add false (.t 14) (.c (.int .i64 1))⟩, ⟨some 14, none, .mv (.t 24)⟩]))))))) (.seq (.reg [⟨some 25, none, .mv (.t 3)⟩, ⟨some 2, none, .mv (.t 25)⟩]) .ret)))))
theorem k_impl_copyTerms : codeOf Tryz.prog 132 = some ⟨26, c_impl_copyTerms, [(.tmp 2)]⟩ := by kernel_rfl
theorem m_impl_copyTerms : modes 132 = ⟨[], .own [some (31, 2)], none, false⟩ := by unfold modes; rfl
def c_impl_copyTerm : SC := (.seq (.reg [⟨some 1, none, .boxv 31 2 (.t 0)⟩, ⟨(some 2), none, (.alloc 31 [(.str ⟨#[]⟩), .nil])⟩]) (.seq (.dreg [[], [0], [], [2], [3, 2], [1, 0, 4, 3, 2], [5, 1, 0, 4, 3, 2]] [⟨some 3, none, .faddr 0 (.t 1)⟩, ⟨some 4, none, .load false 1 (.t 3)⟩, ⟨some 5, none, .faddr 1 (.t 1)⟩, ⟨some 6, none, .load false 1 (.t 5)⟩, ⟨some 7, none, .call 132 [(.t 6)]⟩, ⟨(some 8), none, (.build [(.str ⟨#[]⟩), .nil] [(0, (1, (.t 4))), (1, (1, (.t 7)))])⟩, ⟨none, none, (.store 2 (.t 2) (.t 8))⟩]) .ret))
theorem k_impl_copyTerm : codeOf Tryz.prog 98 = some ⟨9, c_impl_copyTerm, [(.cell 2 true 2)]⟩ := by kernel_rfl
theorem m_impl_copyTerm : modes 98 = ⟨[], .asis, none, false⟩ := by unfold modes; rfl
set_option maxHeartbeats 1000000 in
theorem copyTerms_of (xs : List Tm) (hl : xs.length ≤ 1099511627776) (h : ∀ x ∈ xs, E 98 [x.sv] [] = some (x.osv, x.obs)) : E 132 [.arr (xs.map Tm.d)] [] = some (.ref 0, [.row 31 2 (xs.map Tm.o)]) := by
  cases xs with
  | nil =>
    refine E_walk k_impl_copyTerms m_impl_copyTerms (of_decide_eq_true rfl) ?_
    simp (disch := omega) only [c_impl_copyTerms, go_sem, go_cond, zA, zB, zC, zD, zE, zF, zG, zH, ↓reduceIte, zI, reduceCtorEq, zJ, zK]
  | cons x0 xs0 =>
  generalize hxs : x0 :: xs0 = xs at *
  have hpos : 0 < xs.length := by rw [← hxs]; simp
  refine E_walk k_impl_copyTerms m_impl_copyTerms (of_decide_eq_true rfl) ?_
  simp (disch := omega) only [c_impl_copyTerms, go_sem, go_cond, zA, zB, zC, zD, zE, zF, zG, zH, ↓reduceIte, zI, reduceCtorEq, zJ, zK]
  refine go_loop (α := Int) (fun a => ⟨slots 26 0 [(3, .ref 0), (12, .arr (xs.map Tm.d)), (13, .int .i64 xs.length), (14, .int .i64 a)], [.row 31 2 (fillR Tm.o [.str ⟨#[]⟩, .ow []] xs a.toNat)]⟩) (fun a => ∃ k : Nat, a = k ∧ k ≤ (xs).length) (fun a => (xs).length - (a).toNat) 0 ⟨0, rfl, Nat.zero_le _⟩ (by simp (disch := omega) only [go_sem, go_cond, zA, zB, zC, zD, zE, zF, zG, zH, ↓reduceIte, zI, reduceCtorEq, zJ, zK, fillR_zero, Int.toNat_zero]) ?_
  rintro i ⟨k, hi, hk⟩
  have hni : i.toNat = k := by omega
  have hni1 : (i + 1).toNat = k + 1 := by omega
  rcases Nat.lt_or_ge k (xs).length with hlt | hge
  · have hg := get_at Tm.d hlt
    rw [Tm.d_eq] at hg
    have hz := fillR_get Tm.o [.str ⟨#[]⟩, .ow []] hlt
    have hc := h xs[k] (List.getElem_mem hlt)
    have hs := fillR_set Tm.o [.str ⟨#[]⟩, .ow []] hlt
    rw [Tm.o_eq] at hs
    simp (disch := omega) only [go_sem, go_cond, zA, zB, zC, zD, zE, zF, zG, zH, ↓reduceIte, zI, reduceCtorEq, zJ, zK, hni, hg, hc, hz, fillR_len, m_impl_copyTerm, Tm.osv, Tm.obs]
    refine ⟨i + 1, ⟨k + 1, by omega, hlt⟩, by omega, ?_⟩
    simp (disch := omega) only [go_sem, go_cond, zA, zB, zC, zD, zE, zF, zG, zH, ↓reduceIte, zI, reduceCtorEq, zJ, zK, hni1, hs]
  · obtain rfl : k = xs.length := by omega
    simp (disch := omega) only [go_sem, go_cond, zA, zB, zC, zD, zE, zF, zG, zH, ↓reduceIte, zI, reduceCtorEq, zJ, zK, hni, fillR_end]
set_option maxHeartbeats 1000000 in
theorem copyTerm_of (x : Tm) (h : E 132 [.arr (x.args.map Tm.d)] [] = some (.ref 0, [.row 31 2 (x.args.map Tm.o)])) : E 98 [x.sv] [] = some (x.osv, x.obs) := by
  refine E_walk k_impl_copyTerm m_impl_copyTerm (of_decide_eq_true rfl) ?_
  simp (disch := omega) only [c_impl_copyTerm, go_sem, go_cond, zA, zB, zC, zD, zE, zF, zG, zH, ↓reduceIte, zI, reduceCtorEq, zJ, zK, h, m_impl_copyTerms]
theorem copyTerm_E (x : Tm) (hn : x.nodes ≤ 1099511627776) : E 98 [x.sv] [] = some (x.osv, x.obs) :=
  copyTerm_of x (copyTerms_of x.args (by have := Tm.nodes_eq x; have := Tm.length_le x.args; omega) fun y hy => copyTerm_E y (by have := Tm.nodes_mem hy; have := Tm.nodes_eq x; omega))
termination_by SizeOf.sizeOf x
decreasing_by exact Tm.lt_of_mem hy
def finQ (res : RM) (n0 : Nat) (rs : List RX) (Q : SV × List Ob → Prop) (x : X) (st : St) : Prop := ∃ out, finK res n0 rs out x st ∧ Q out
theorem exq {α : Type} {a : α} {Q : α → Prop} : (∃ out, some a = some out ∧ Q out) = Q a := propext ⟨fun ⟨o, h, q⟩ => by obtain rfl := Option.some.inj h; exact q, fun q => ⟨a, rfl, q⟩⟩
theorem finQ_r {res : RM} {n0 : Nat} {rs : List RX} {Q : SV × List Ob → Prop} {sl : List SV} {ob : List Ob} : finQ res n0 rs Q .ret ⟨sl, ob⟩ = ∃ out, resF1 res n0 ob (resV ⟨sl, ob⟩ rs) = some out ∧ Q out := rfl
theorem finQ_n {res : RM} {n0 : Nat} {rs : List RX} {Q : SV × List Ob → Prop} {sl : List SV} {ob : List Ob} : finQ res n0 rs Q .normal ⟨sl, ob⟩ = ∃ out, resF1 res n0 ob (resV ⟨sl, ob⟩ rs) = some out ∧ Q out := rfl
attribute [go_sem] finQ_r finQ_n exq
def Tm.osh (x : Tm) : List OT := [.str x.name, .sh (x.args.map Tm.d)]
theorem Tm.osh_eq (x : Tm) : x.osh = [.str x.name, .sh (x.args.map Tm.d)] := rfl
theorem Tm.osh_full : ∀ xs : List Tm, OT.fullss (xs.map Tm.osh) = true
  | [] => rfl
  | x :: xs => by rw [List.map_cons, Tm.osh_eq]; simp [OT.fullss, OT.fulls, OT.full, Tm.osh_full xs]
theorem Tm.osh_er : ∀ xs : List Tm, OT.erss (xs.map Tm.osh) = xs.map Tm.d
  | [] => rfl
  | x :: xs => by rw [List.map_cons, List.map_cons, Tm.osh_eq, Tm.d_eq]; simp [OT.erss, OT.ers, OT.er, Tm.osh_er xs]
theorem map_snoc {α β : Type} (f : α → β) {xs : List α} {k : Nat} (h : k < xs.length) : (xs.take k).map f ++ [f xs[k]] = (xs.take (k + 1)).map f := by
  rw [List.take_succ_eq_append_getElem h, List.map_append]; rfl
def c_impl_renamed : SC := (.seq (.reg [⟨some 2, none, .boxv 31 2 (.t 0)⟩, ⟨(some 4), none, (.alloc 31 [(.str ⟨#[]⟩), .nil])⟩]) (.seq (.reg [⟨some 10, none, .faddr 0 (.t 2)⟩, ⟨some 11, none, .load false 1 (.t 10)⟩, ⟨(some 12), none, (.build [(.str ⟨#[]⟩), .nil] [(0, (1, (.t 11)))])⟩, ⟨(some 5), none, (.alloc 31 [(.str ⟨#[]⟩), .nil])⟩, ⟨none, none, (.store 2 (.t 5) (.t 12))⟩]) (.seq (.seq (.reg [⟨some 14, none, .mv (.t 1)⟩, ⟨some 15, none, .faddr 0 (.t 2)⟩, ⟨some 16, none, .load false 1 (.t 15)⟩, ⟨(some 17), none, (.mget true true false [(.str ⟨#[]⟩)] (.t 14) (.t 16))⟩, ⟨some 13, none, .mv (.t 17)⟩, ⟨some 18, none, .ext (.t 13) 0⟩, ⟨some 19, none, .ext (.t 13) 1⟩, ⟨some 6, none, .mv (.t 18)⟩, ⟨some 7, none, .mv (.t 19)⟩]) (.seq (.reg [⟨some 20, none, .mv (.t 7)⟩, ⟨some 21, none, .mv (.t 20)⟩, ⟨(some 22), (some (21, true)), (.faddr 1 (.t 2))⟩, ⟨(some 23), (some (21, true)), (.load false 1 (.t 22))⟩, ⟨(some 24), (some (21, true)), (.len false (.t 23))⟩, ⟨(some 25), (some (21, true)), (.bin .eql false (.t 24) (.c (.int .i64 0)))⟩, ⟨some 26, none, .pick (.t 21) (.t 25) (.c (.bool false))⟩]) (.cond (.t 26) (.reg [⟨some 27, none, .mv (.t 6)⟩, ⟨some 28, none, .faddr 0 (.t 5)⟩, ⟨none, none, (.store 1 (.t 28) (.t 27))⟩]) .skip))) (.seq (.seq (.reg [⟨some 29, none, .faddr 1 (.t 2)⟩, ⟨some 30, none, .load false 1 (.t 29)⟩, ⟨some 31, none, .len false (.t 30)⟩, ⟨some 32, none, .mv (.c (.int .i64 0))⟩]) (.block 0 (.loop [0, 1, 0, 0, 1, 1, 0, 0, 0, 0, 0, 0, 0, 0, 0, 0, 0, 0, 0, 0, 0, 0, 0, 0, 0, 0, 0, 0, 0, 0, 1, 1, 1, 0, 0, 0, 0, 0, 0, 0, 0, 0, 0, 0, 0, 0] (.seq (.reg [⟨some 33, none, .bin .lss false (.t 32) (.t 31)⟩]) (.seq (.cond (.t 33) .skip (.exit 0)) (.seq (.block 1 (.seq (.reg [⟨some 34, none, .iaddr 2 (.t 30) (.t 32)⟩, ⟨some 35, none, .load true 2 (.t 34)⟩, ⟨(some 9), none, (.alloc 31 [(.str ⟨#[]⟩), .nil])⟩, ⟨none, none, (.store 2 (.t 9) (.t 35))⟩]) (.dreg [[], [0], [], [], [2, 3], [4, 2, 3], [1, 0, 5, 4, 2, 3], [0, 1, 2, 3, 4, 5, 6], [7, 0, 1, 2, 3, 4, 5, 6]] [⟨some 36, none, .faddr 1 (.t 5)⟩, ⟨some 37, none, .load false 1 (.t 36)⟩, ⟨some 38, none, .load true 2 (.t 9)⟩, ⟨some 39, none, .mv (.t 1)⟩, ⟨some 40, none, .call 86 [(.t 38), (.t 39)]⟩, ⟨(some 41), none, (.mkrow 31 2 [(.str ⟨#[]⟩), .nil] 1 [(0, (.t 40))])⟩, ⟨(some 42), none, (.append 31 2 40 [(.str ⟨#[]⟩), .nil] (.t 37) (.t 41))⟩, ⟨some 43, none, .faddr 1 (.t 5)⟩, ⟨none, none, (.store 1 (.t 43) (.t 42))⟩]))) (.reg [⟨some 44, none, .bin .add false (.t 32) (.c (.int .i64 1))⟩, ⟨some 32, none, .mv (.t 44)⟩]))))))) (.seq (.reg [⟨some 45, none, .load true 2 (.t 5)⟩, ⟨none, none, (.store 2 (.t 4) (.t 45))⟩]) .ret)))))
theorem k_impl_renamed : codeOf Tryz.prog 86 = some ⟨46, c_impl_renamed, [(.cell 4 true 2)]⟩ := by kernel_rfl
theorem m_impl_renamed : modes 86 = ⟨[], .own [none, some (31, 2)], none, false⟩ := by unfold modes; rfl
abbrev RnC (e : SEnv) (x : Tm) : Prop := E 86 [x.sv, .mp true (senvM e)] [] = some ((x.rn e).osv, (x.rn e).obs)
set_option maxHeartbeats 8000000 in
theorem renamed_of (e : SEnv) (x : Tm) (hn : x.args.length ≤ 1099511627776) (ih : ∀ y ∈ x.args, RnC e y) : RnC e x := by
  unfold RnC
  obtain ⟨nm, hnm⟩ : ∃ nm, nm = bif x.args.isEmpty then (e x.name).getD x.name else x.name := ⟨_, rfl⟩
  have e0 : x.rn e = .mk nm (x.args.map (Tm.rn e)) := by rw [Tm.rn_eq, hnm]
  have e1 : (Tm.mk nm (x.args.map (Tm.rn e))).osv = .agg [.str nm, .ref 0] := rfl
  have e2 : (Tm.mk nm (x.args.map (Tm.rn e))).obs = [.row 31 2 ((x.args.map (Tm.rn e)).map Tm.o)] := rfl
  rw [e0, e1, e2]
  have h10 : ((1 : Int) = 0) = False := by simp
  cases he : e x.name with
  | none =>
    have hme : senvM e (.str x.name) = none := by rw [senvM_str, he]
    have hnn : nm = x.name := by
      rw [hnm, he]
      cases x.args.isEmpty <;> rfl
    rw [hnn]
    clear hnm e0 e1 e2 hnn nm
    obtain ⟨nm, hnm⟩ : ∃ nm, nm = x.name := ⟨_, rfl⟩
    rw [← hnm] at hme ⊢
    refine E_walk k_impl_renamed m_impl_renamed (of_decide_eq_true rfl) ?_
    simp (disch := omega) only [c_impl_renamed, go_sem, go_cond, zA, zB, zC, zD, zE, zF, zG, zH, ↓reduceIte, zI, reduceCtorEq, zJ, zK, hme, ← hnm]
    refine go_loop (α := Int) (fun a => ⟨slots 46 0 [(1, .mp true (senvM e)), (4, .ptr 0 0), (5, .ptr 1 0), (30, .arr (x.args.map Tm.d)), (31, .int .i64 x.args.length), (32, .int .i64 a)], (if a = 0 then [.box 31 [.str ⟨#[]⟩, .nil], .box 31 [.str nm, .nil]] else [.box 31 [.str ⟨#[]⟩, .nil], .box 31 [.str nm, .ref 2], .row 31 2 (((x.args.map (Tm.rn e)).take a.toNat).map Tm.o)])⟩) (fun a => ∃ k : Nat, a = k ∧ k ≤ (x.args).length) (fun a => (x.args).length - (a).toNat) 0 ⟨0, rfl, Nat.zero_le _⟩ (by simp (disch := omega) only [go_sem, go_cond, zA, zB, zC, zD, zE, zF, zG, zH, ↓reduceIte, zI, reduceCtorEq, zJ, zK, eq_self, if_true]) ?_
    rintro i ⟨k, hi, hk⟩
    have hni : i.toNat = k := by omega
    have hni1 : (i + 1).toNat = k + 1 := by omega
    rcases Nat.lt_or_ge k (x.args).length with hlt | hge
    · have hg := get_at Tm.d hlt
      rw [Tm.d_eq] at hg
      have hc := ih x.args[k] (List.getElem_mem hlt)
      have hlm : k < (x.args.map (Tm.rn e)).length := by rw [List.length_map]; exact hlt
      have hs := map_snoc Tm.o hlm
      rw [Tm.o_eq, List.getElem_map] at hs
      rcases Nat.eq_zero_or_pos k with h0 | h0
      · subst h0
        obtain rfl : i = 0 := hi
        rw [List.take_zero, List.map_nil, List.nil_append] at hs
        simp (disch := omega) only [go_sem, go_cond, zA, zB, zC, zD, zE, zF, zG, zH, ↓reduceIte, zI, reduceCtorEq, zJ, zK, hni, hg, hc, Tm.osv, Tm.obs, m_impl_renamed, eq_self, if_true]
        refine ⟨1, ⟨1, rfl, hlt⟩, by omega, ?_⟩
        simp (disch := omega) only [go_sem, go_cond, zA, zB, zC, zD, zE, zF, zG, zH, ↓reduceIte, zI, reduceCtorEq, zJ, zK, h10, if_false, hs]
      · have hi0 : (i = 0) = False := by simp; omega
        have hi1 : (i + 1 = 0) = False := by simp; omega
        have htl : ((x.args.map (Tm.rn e)).take k).length = k := by rw [List.length_take, List.length_map]; omega
        simp (disch := omega) only [go_sem, go_cond, zA, zB, zC, zD, zE, zF, zG, zH, ↓reduceIte, zI, reduceCtorEq, zJ, zK, hni, hg, hc, Tm.osv, Tm.obs, m_impl_renamed, hi0, if_false, htl]
        refine ⟨i + 1, ⟨k + 1, by omega, hlt⟩, by omega, ?_⟩
        simp (disch := omega) only [go_sem, go_cond, zA, zB, zC, zD, zE, zF, zG, zH, ↓reduceIte, zI, reduceCtorEq, zJ, zK, hni1, hi1, if_false, hs]
    · obtain rfl : k = x.args.length := by omega
      have ht : (x.args.map (Tm.rn e)).take x.args.length = x.args.map (Tm.rn e) := by rw [← List.length_map (f := Tm.rn e)]; exact List.take_length
      rcases Nat.eq_zero_or_pos x.args.length with h0 | h0
      · have hx : x.args = [] := List.eq_nil_of_length_eq_zero h0
        obtain rfl : i = 0 := by omega
        first | omega | simp (disch := omega) only [go_sem, go_cond, zA, zB, zC, zD, zE, zF, zG, zH, ↓reduceIte, zI, reduceCtorEq, zJ, zK, hni, hx, eq_self, if_true, List.map_nil, List.length_nil]
      · have hi0 : (i = 0) = False := by simp; omega
        first | omega | simp (disch := omega) only [go_sem, go_cond, zA, zB, zC, zD, zE, zF, zG, zH, ↓reduceIte, zI, reduceCtorEq, zJ, zK, hni, hi0, if_false, ht]
  | some v =>
    have hme : senvM e (.str x.name) = some (false, [.str v]) := by rw [senvM_str, he]
    rcases Nat.eq_zero_or_pos x.args.length with hz | hz
    · have hx : x.args = [] := List.eq_nil_of_length_eq_zero hz
      have hz0 : ((x.args.length : Int) = 0) = True := by rw [hx]; simp
      have hnn : nm = v := by rw [hnm, he, hx]; rfl
      rw [hnn]
      clear hnm e0 e1 e2 hnn nm
      obtain ⟨nm, hnm⟩ : ∃ nm, nm = v := ⟨_, rfl⟩
      rw [← hnm] at hme ⊢
      refine E_walk k_impl_renamed m_impl_renamed (of_decide_eq_true rfl) ?_
      simp (disch := omega) only [c_impl_renamed, go_sem, go_cond, zA, zB, zC, zD, zE, zF, zG, zH, ↓reduceIte, zI, reduceCtorEq, zJ, zK, hme, hz0, dec_T]
      refine go_loop (α := Int) (fun a => ⟨slots 46 0 [(1, .mp true (senvM e)), (4, .ptr 0 0), (5, .ptr 1 0), (30, .arr (x.args.map Tm.d)), (31, .int .i64 x.args.length), (32, .int .i64 a)], (if a = 0 then [.box 31 [.str ⟨#[]⟩, .nil], .box 31 [.str nm, .nil]] else [.box 31 [.str ⟨#[]⟩, .nil], .box 31 [.str nm, .ref 2], .row 31 2 (((x.args.map (Tm.rn e)).take a.toNat).map Tm.o)])⟩) (fun a => ∃ k : Nat, a = k ∧ k ≤ (x.args).length) (fun a => (x.args).length - (a).toNat) 0 ⟨0, rfl, Nat.zero_le _⟩ (by simp (disch := omega) only [go_sem, go_cond, zA, zB, zC, zD, zE, zF, zG, zH, ↓reduceIte, zI, reduceCtorEq, zJ, zK, eq_self, if_true]) ?_
      rintro i ⟨k, hi, hk⟩
      have hni : i.toNat = k := by omega
      have hni1 : (i + 1).toNat = k + 1 := by omega
      rcases Nat.lt_or_ge k (x.args).length with hlt | hge
      · have hg := get_at Tm.d hlt
        rw [Tm.d_eq] at hg
        have hc := ih x.args[k] (List.getElem_mem hlt)
        have hlm : k < (x.args.map (Tm.rn e)).length := by rw [List.length_map]; exact hlt
        have hs := map_snoc Tm.o hlm
        rw [Tm.o_eq, List.getElem_map] at hs
        rcases Nat.eq_zero_or_pos k with h0 | h0
        · subst h0
          obtain rfl : i = 0 := hi
          rw [List.take_zero, List.map_nil, List.nil_append] at hs
          simp (disch := omega) only [go_sem, go_cond, zA, zB, zC, zD, zE, zF, zG, zH, ↓reduceIte, zI, reduceCtorEq, zJ, zK, hni, hg, hc, Tm.osv, Tm.obs, m_impl_renamed, eq_self, if_true]
          refine ⟨1, ⟨1, rfl, hlt⟩, by omega, ?_⟩
          simp (disch := omega) only [go_sem, go_cond, zA, zB, zC, zD, zE, zF, zG, zH, ↓reduceIte, zI, reduceCtorEq, zJ, zK, h10, if_false, hs]
        · have hi0 : (i = 0) = False := by simp; omega
          have hi1 : (i + 1 = 0) = False := by simp; omega
          have htl : ((x.args.map (Tm.rn e)).take k).length = k := by rw [List.length_take, List.length_map]; omega
          simp (disch := omega) only [go_sem, go_cond, zA, zB, zC, zD, zE, zF, zG, zH, ↓reduceIte, zI, reduceCtorEq, zJ, zK, hni, hg, hc, Tm.osv, Tm.obs, m_impl_renamed, hi0, if_false, htl]
          refine ⟨i + 1, ⟨k + 1, by omega, hlt⟩, by omega, ?_⟩
          simp (disch := omega) only [go_sem, go_cond, zA, zB, zC, zD, zE, zF, zG, zH, ↓reduceIte, zI, reduceCtorEq, zJ, zK, hni1, hi1, if_false, hs]
      · obtain rfl : k = x.args.length := by omega
        have ht : (x.args.map (Tm.rn e)).take x.args.length = x.args.map (Tm.rn e) := by rw [← List.length_map (f := Tm.rn e)]; exact List.take_length
        rcases Nat.eq_zero_or_pos x.args.length with h0 | h0
        · have hx : x.args = [] := List.eq_nil_of_length_eq_zero h0
          obtain rfl : i = 0 := by omega
          first | omega | simp (disch := omega) only [go_sem, go_cond, zA, zB, zC, zD, zE, zF, zG, zH, ↓reduceIte, zI, reduceCtorEq, zJ, zK, hni, hx, eq_self, if_true, List.map_nil, List.length_nil]
        · have hi0 : (i = 0) = False := by simp; omega
          first | omega | simp (disch := omega) only [go_sem, go_cond, zA, zB, zC, zD, zE, zF, zG, zH, ↓reduceIte, zI, reduceCtorEq, zJ, zK, hni, hi0, if_false, ht]
    · have hz0 : ((x.args.length : Int) = 0) = False := eq_false (by omega)
      have hnn : nm = x.name := by
        rw [hnm]
        cases hx : x.args with
        | nil => rw [hx] at hz; simp at hz
        | cons a r => rfl
      rw [hnn]
      clear hnm e0 e1 e2 hnn nm
      obtain ⟨nm, hnm⟩ : ∃ nm, nm = x.name := ⟨_, rfl⟩
      rw [← hnm] at hme ⊢
      refine E_walk k_impl_renamed m_impl_renamed (of_decide_eq_true rfl) ?_
      simp (disch := omega) only [c_impl_renamed, go_sem, go_cond, zA, zB, zC, zD, zE, zF, zG, zH, ↓reduceIte, zI, reduceCtorEq, zJ, zK, hme, hz0, dec_F, ← hnm]
      refine go_loop (α := Int) (fun a => ⟨slots 46 0 [(1, .mp true (senvM e)), (4, .ptr 0 0), (5, .ptr 1 0), (30, .arr (x.args.map Tm.d)), (31, .int .i64 x.args.length), (32, .int .i64 a)], (if a = 0 then [.box 31 [.str ⟨#[]⟩, .nil], .box 31 [.str nm, .nil]] else [.box 31 [.str ⟨#[]⟩, .nil], .box 31 [.str nm, .ref 2], .row 31 2 (((x.args.map (Tm.rn e)).take a.toNat).map Tm.o)])⟩) (fun a => ∃ k : Nat, a = k ∧ k ≤ (x.args).length) (fun a => (x.args).length - (a).toNat) 0 ⟨0, rfl, Nat.zero_le _⟩ (by simp (disch := omega) only [go_sem, go_cond, zA, zB, zC, zD, zE, zF, zG, zH, ↓reduceIte, zI, reduceCtorEq, zJ, zK, eq_self, if_true]) ?_
      rintro i ⟨k, hi, hk⟩
      have hni : i.toNat = k := by omega
      have hni1 : (i + 1).toNat = k + 1 := by omega
      rcases Nat.lt_or_ge k (x.args).length with hlt | hge
      · have hg := get_at Tm.d hlt
        rw [Tm.d_eq] at hg
        have hc := ih x.args[k] (List.getElem_mem hlt)
        have hlm : k < (x.args.map (Tm.rn e)).length := by rw [List.length_map]; exact hlt
        have hs := map_snoc Tm.o hlm
        rw [Tm.o_eq, List.getElem_map] at hs
        rcases Nat.eq_zero_or_pos k with h0 | h0
        · subst h0
          obtain rfl : i = 0 := hi
          rw [List.take_zero, List.map_nil, List.nil_append] at hs
          simp (disch := omega) only [go_sem, go_cond, zA, zB, zC, zD, zE, zF, zG, zH, ↓reduceIte, zI, reduceCtorEq, zJ, zK, hni, hg, hc, Tm.osv, Tm.obs, m_impl_renamed, eq_self, if_true]
          refine ⟨1, ⟨1, rfl, hlt⟩, by omega, ?_⟩
          simp (disch := omega) only [go_sem, go_cond, zA, zB, zC, zD, zE, zF, zG, zH, ↓reduceIte, zI, reduceCtorEq, zJ, zK, h10, if_false, hs]
        · have hi0 : (i = 0) = False := by simp; omega
          have hi1 : (i + 1 = 0) = False := by simp; omega
          have htl : ((x.args.map (Tm.rn e)).take k).length = k := by rw [List.length_take, List.length_map]; omega
          simp (disch := omega) only [go_sem, go_cond, zA, zB, zC, zD, zE, zF, zG, zH, ↓reduceIte, zI, reduceCtorEq, zJ, zK, hni, hg, hc, Tm.osv, Tm.obs, m_impl_renamed, hi0, if_false, htl]
          refine ⟨i + 1, ⟨k + 1, by omega, hlt⟩, by omega, ?_⟩
          simp (disch := omega) only [go_sem, go_cond, zA, zB, zC, zD, zE, zF, zG, zH, ↓reduceIte, zI, reduceCtorEq, zJ, zK, hni1, hi1, if_false, hs]
      · obtain rfl : k = x.args.length := by omega
        have ht : (x.args.map (Tm.rn e)).take x.args.length = x.args.map (Tm.rn e) := by rw [← List.length_map (f := Tm.rn e)]; exact List.take_length
        rcases Nat.eq_zero_or_pos x.args.length with h0 | h0
        · have hx : x.args = [] := List.eq_nil_of_length_eq_zero h0
          obtain rfl : i = 0 := by omega
          first | omega | simp (disch := omega) only [go_sem, go_cond, zA, zB, zC, zD, zE, zF, zG, zH, ↓reduceIte, zI, reduceCtorEq, zJ, zK, hni, hx, eq_self, if_true, List.map_nil, List.length_nil]
        · have hi0 : (i = 0) = False := by simp; omega
          first | omega | simp (disch := omega) only [go_sem, go_cond, zA, zB, zC, zD, zE, zF, zG, zH, ↓reduceIte, zI, reduceCtorEq, zJ, zK, hni, hi0, if_false, ht]
theorem renamed_E (e : SEnv) (x : Tm) (hn : x.nodes ≤ 1099511627776) : RnC e x :=
  renamed_of e x (by have := Tm.length_le x.args; have := Tm.nodes_eq x; omega) fun y hy => renamed_E e y (by have := Tm.nodes_mem hy; have := Tm.nodes_eq x; omega)
termination_by SizeOf.sizeOf x
decreasing_by exact Tm.lt_of_mem hy
def c_spec_l1Num : SC := (.seq (.reg [⟨(some 2), none, (.mv (.c (.str ⟨#[]⟩)))⟩]) (.seq (.seq (.reg [⟨some 3, none, .mv (.t 0)⟩, ⟨some 4, none, .bin .lss false (.t 3) (.c (.int .i64 0))⟩]) (.cond (.t 4) (.seq (.reg [⟨some 5, none, .mv (.t 0)⟩, ⟨some 6, none, .un .neg (.t 5)⟩, ⟨some 7, none, .call 105 [(.t 6)]⟩, ⟨(some 8), none, (.bin .add false (.c (.str ⟨#[45]⟩)) (.t 7))⟩, ⟨some 2, none, .mv (.t 8)⟩]) .ret) .skip)) (.seq (.seq (.reg [⟨some 9, none, .mv (.t 0)⟩, ⟨some 10, none, .bin .lss false (.t 9) (.c (.int .i64 10))⟩]) (.cond (.t 10) (.seq (.reg [⟨some 11, none, .mv (.t 0)⟩, ⟨some 12, none, .mv (.t 0)⟩, ⟨some 13, none, .bin .add false (.t 12) (.c (.int .i64 1))⟩, ⟨(some 14), none, (.slice true 0 (.c (.str ⟨#[48, 49, 50, 51, 52, 53, 54, 55, 56, 57]⟩)) (some (.t 11)) (some (.t 13)))⟩, ⟨some 2, none, .mv (.t 14)⟩]) .ret) .skip)) (.seq (.dreg [[], [0], [1, 0], [], [3], [], [5], [6, 5], [4, 3, 7, 6, 5], [2, 1, 0, 8, 4, 3, 7, 6, 5], [9, 2, 1, 0, 8, 4, 3, 7, 6, 5]] [⟨some 15, none, .mv (.t 0)⟩, ⟨some 16, none, .bin .quo false (.t 15) (.c (.int .i64 10))⟩, ⟨some 17, none, .call 105 [(.t 16)]⟩, ⟨some 18, none, .mv (.t 0)⟩, ⟨some 19, none, .bin .rem false (.t 18) (.c (.int .i64 10))⟩, ⟨some 20, none, .mv (.t 0)⟩, ⟨some 21, none, .bin .rem false (.t 20) (.c (.int .i64 10))⟩, ⟨some 22, none, .bin .add false (.t 21) (.c (.int .i64 1))⟩, ⟨(some 23), none, (.slice true 0 (.c (.str ⟨#[48, 49, 50, 51, 52, 53, 54, 55, 56, 57]⟩)) (some (.t 19)) (some (.t 22)))⟩, ⟨some 24, none, .bin .add false (.t 17) (.t 23)⟩, ⟨some 2, none, .mv (.t 24)⟩]) .ret))))
theorem k_spec_l1Num : codeOf Tryz.prog 105 = some ⟨25, c_spec_l1Num, [(.tmp 2)]⟩ := by kernel_rfl
theorem m_spec_l1Num : modes 105 = ⟨[], .asis, none, false⟩ := by unfold modes; rfl
theorem tenth (d : Nat) (h : d < 10) : (⟨#[48, 49, 50, 51, 52, 53, 54, 55, 56, 57]⟩ : ByteArray).extract d (d + 1) = ⟨#[UInt8.ofNat (48 + d)]⟩ := by
  have key : ∀ d : _root_.Fin 10, (⟨#[48, 49, 50, 51, 52, 53, 54, 55, 56, 57]⟩ : ByteArray).extract d.val (d.val + 1) = ⟨#[UInt8.ofNat (48 + d.val)]⟩ := by decide +kernel
  exact key ⟨d, h⟩
set_option maxHeartbeats 2000000 in
theorem l1Num_of (n : Int) (h0 : 0 ≤ n) (h1 : n ≤ 1099511627776) (ih : 10 ≤ n → E 105 [.int .i64 (n.tdiv 10)] [] = some (.str (numB (n.tdiv 10)), [])) : E 105 [.int .i64 n] [] = some (.str (numB n), []) := by
  have hsz : (⟨#[48, 49, 50, 51, 52, 53, 54, 55, 56, 57]⟩ : ByteArray).size = 10 := rfl
  rcases Int.lt_or_le n 10 with h | h
  · have e1 := tenth n.toNat (by omega)
    have e2 : (n + 1).toNat = n.toNat + 1 := by omega
    rw [numB_small h0 h]
    refine E_walk k_spec_l1Num m_spec_l1Num (of_decide_eq_true rfl) ?_
    simp (disch := omega) only [c_spec_l1Num, go_sem, go_cond, zA, zB, zC, zD, zE, zF, zG, zH, ↓reduceIte, zI, reduceCtorEq, zJ, zK, e1, e2, hsz]
  · have hc := ih h
    have hq : n.tdiv 10 = n / 10 := Int.tdiv_eq_ediv_of_nonneg h0
    have hr : n.tmod 10 = n % 10 := Int.tmod_eq_emod_of_nonneg h0
    have hq2 : 0 ≤ n.tdiv 10 ∧ n.tdiv 10 ≤ n := by omega
    have hr2 : 0 ≤ n.tmod 10 ∧ n.tmod 10 < 10 := by omega
    have hs := numB_size hq2.1 (by omega : n.tdiv 10 ≤ 1099511627776)
    have e1 := tenth (n.tmod 10).toNat (by omega)
    have e2 : (n.tmod 10 + 1).toNat = (n.tmod 10).toNat + 1 := by omega
    rw [numB_big h]
    clear hq hr
    have hs1 : (⟨#[UInt8.ofNat (48 + (n.tmod 10).toNat)]⟩ : ByteArray).size = 1 := rfl
    refine E_walk k_spec_l1Num m_spec_l1Num (of_decide_eq_true rfl) ?_
    simp (disch := omega) only [c_spec_l1Num, go_sem, go_cond, zA, zB, zC, zD, zE, zF, zG, zH, ↓reduceIte, zI, reduceCtorEq, zJ, zK, hc, e1, e2, hsz, hs1, m_spec_l1Num]
theorem l1Num_E (n : Int) (h0 : 0 ≤ n) (h1 : n ≤ 1099511627776) : E 105 [.int .i64 n] [] = some (.str (numB n), []) :=
  l1Num_of n h0 h1 fun h => l1Num_E (n.tdiv 10) (by rw [Int.tdiv_eq_ediv_of_nonneg h0]; omega) (by rw [Int.tdiv_eq_ediv_of_nonneg h0]; omega)
termination_by n.toNat
decreasing_by rw [Int.tdiv_eq_ediv_of_nonneg h0]; omega
def c_spec_l8Last : SC := (.seq (.reg [⟨some 4, none, .mv (.c (.int .i64 0))⟩]) (.seq (.seq (.reg [⟨some 6, none, .mv (.t 0)⟩, ⟨some 7, none, .len false (.t 6)⟩, ⟨some 8, none, .bin .sub false (.t 7) (.c (.int .i64 1))⟩, ⟨some 5, none, .mv (.t 8)⟩]) (.block 0 (.loop [1, 1, 0, 0, 0, 1, 0, 0, 0, 0, 0, 0, 0, 0, 0, 0, 0, 0, 0, 0] (.seq (.seq (.reg [⟨some 9, none, .mv (.t 5)⟩, ⟨some 10, none, .bin .geq false (.t 9) (.c (.int .i64 0))⟩]) (.cond (.t 10) .skip (.exit 0))) (.seq (.block 1 (.seq (.reg [⟨some 13, none, .mv (.t 0)⟩, ⟨some 14, none, .mv (.t 5)⟩, ⟨some 15, none, .iaddr 1 (.t 13) (.t 14)⟩, ⟨some 16, none, .load false 1 (.t 15)⟩, ⟨some 17, none, .mv (.t 1)⟩, ⟨some 18, none, .bin .eql false (.t 16) (.t 17)⟩]) (.cond (.t 18) (.seq (.reg [⟨some 19, none, .mv (.t 5)⟩, ⟨some 4, none, .mv (.t 19)⟩]) .ret) .skip))) (.reg [⟨some 11, none, .mv (.t 5)⟩, ⟨some 12, none, .bin .sub false (.t 11) (.c (.int .i64 1))⟩, ⟨some 5, none, .mv (.t 12)⟩])))))) (.seq (.reg [⟨some 4, none, .mv (.c (.int .i64 (-(0 + 1))))⟩]) .ret)))
theorem k_spec_l8Last : codeOf Tryz.prog 104 = some ⟨20, c_spec_l8Last, [(.tmp 4)]⟩ := by kernel_rfl
theorem m_spec_l8Last : modes 104 = ⟨[], .asis, none, false⟩ := by unfold modes; rfl
theorem lastI_snoc (a : ByteArray) (s : ByteArray) : ∀ l : List ByteArray, lastI (l ++ [a]) s = bif dec (a = s) then (l.length : Int) else lastI l s
  | [] => by
    have h1 : lastI [] s = -1 := by rw [lastI]
    rw [List.nil_append, h1, lastI, h1, dec_f (by omega)]; rfl
  | x :: l => by
    have ih := lastI_snoc a s l
    rw [List.cons_append, lastI, ih, lastI, List.length_cons]
    cases dec (a = s) with
    | true => simp only [cond_true]; rw [dec_t (by omega), cond_true]; omega
    | false => simp only [cond_false]
set_option maxHeartbeats 2000000 in
theorem l8Last_E (l : List ByteArray) (hl : l.length ≤ 1099511627776) (s : ByteArray) : E 104 [.arr (l.map fun s => [D.str s]), .str s] [] = some (.int .i64 (lastI l s), []) := by
  refine E_walk k_spec_l8Last m_spec_l8Last (of_decide_eq_true rfl) ?_
  simp (disch := omega) only [c_spec_l8Last, go_sem, go_cond, zA, zB, zC, zD, zE, zF, zG, zH, ↓reduceIte, zI, reduceCtorEq, zJ, zK]
  refine go_loop (α := Int) (fun i => ⟨slots 20 0 [(0, .arr (l.map fun s => [D.str s])), (1, .str s), (5, .int .i64 i)], []⟩) (fun i => ∃ k : Nat, i = (k : Int) - 1 ∧ k ≤ l.length ∧ lastI (l.take k) s = lastI l s) (fun i => (i + 1).toNat) ((l.length : Int) - 1) ⟨l.length, rfl, Nat.le_refl _, by rw [List.take_length]⟩ (by simp (disch := omega) only [go_sem, go_cond, zA, zB, zC, zD, zE, zF, zG, zH, ↓reduceIte, zI, reduceCtorEq, zJ, zK]) ?_
  rintro i ⟨k0, hi, hk, hR⟩
  rcases Nat.eq_zero_or_pos k0 with h0 | h0
  · subst h0
    obtain rfl : i = -1 := by omega
    rw [List.take_zero, lastI] at hR
    rw [← hR]
    simp (disch := omega) only [go_sem, go_cond, zA, zB, zC, zD, zE, zF, zG, zH, ↓reduceIte, zI, reduceCtorEq, zJ, zK]
  · obtain ⟨k, rfl⟩ : ∃ k, k0 = k + 1 := ⟨k0 - 1, by omega⟩
    have hlt : k < l.length := by omega
    have hni : i.toNat = k := by omega
    have hg := get_at (fun s => [D.str s]) hlt
    have hlk : (l.take k).length = k := by rw [List.length_take]; omega
    rw [List.take_succ_eq_append_getElem hlt, lastI_snoc, hlk] at hR
    cases hd : dec (l[k] = s) with
    | true =>
      rw [hd, cond_true] at hR
      have hik : i = (k : Int) := by omega
      rw [← hR, ← hik]
      simp (disch := omega) only [go_sem, go_cond, zA, zB, zC, zD, zE, zF, zG, zH, ↓reduceIte, zI, reduceCtorEq, zJ, zK, hni, hg, hd]
    | false =>
      rw [hd, cond_false] at hR
      simp (disch := omega) only [go_sem, go_cond, zA, zB, zC, zD, zE, zF, zG, zH, ↓reduceIte, zI, reduceCtorEq, zJ, zK, hni, hg, hd]
      exact ⟨i - 1, ⟨k, by omega, by omega, hR⟩, by omega, by first | trivial | rfl | exact ⟨rfl, rfl⟩⟩
def c_spec_l9Term : SC := (.seq (.reg [⟨some 3, none, .boxv 31 2 (.t 0)⟩, ⟨(some 6), none, (.alloc 31 [(.str ⟨#[]⟩), .nil])⟩]) (.seq (.seq (.reg [⟨some 10, none, .faddr 0 (.t 3)⟩, ⟨some 11, none, .load false 1 (.t 10)⟩, ⟨some 12, none, .call 103 [(.t 11)]⟩]) (.cond (.t 12) (.seq (.seq (.reg [⟨some 13, none, .mv (.t 1)⟩, ⟨some 14, none, .faddr 0 (.t 3)⟩, ⟨some 15, none, .load false 1 (.t 14)⟩, ⟨some 16, none, .call 104 [(.t 13), (.t 15)]⟩, ⟨some 7, none, .mv (.t 16)⟩]) (.seq (.reg [⟨some 17, none, .mv (.t 7)⟩, ⟨some 18, none, .bin .geq false (.t 17) (.c (.int .i64 0))⟩]) (.cond (.t 18) (.seq (.reg [⟨some 19, none, .mv (.t 2)⟩, ⟨some 20, none, .mv (.t 7)⟩, ⟨some 21, none, .iaddr 1 (.t 19) (.t 20)⟩, ⟨some 22, none, .load false 1 (.t 21)⟩, ⟨(some 23), none, (.build [(.str ⟨#[]⟩), .nil] [(0, (1, (.t 22)))])⟩, ⟨none, none, (.store 2 (.t 6) (.t 23))⟩]) .ret) .skip))) (.seq (.reg [⟨some 24, none, .faddr 0 (.t 3)⟩, ⟨some 25, none, .load false 1 (.t 24)⟩, ⟨(some 26), none, (.build [(.str ⟨#[]⟩), .nil] [(0, (1, (.t 25)))])⟩, ⟨none, none, (.store 2 (.t 6) (.t 26))⟩]) .ret)) .skip)) (.seq (.reg [⟨some 27, none, .faddr 0 (.t 3)⟩, ⟨some 28, none, .load false 1 (.t 27)⟩, ⟨(some 29), none, (.build [(.str ⟨#[]⟩), .nil] [(0, (1, (.t 28)))])⟩, ⟨(some 8), none, (.alloc 31 [(.str ⟨#[]⟩), .nil])⟩, ⟨none, none, (.store 2 (.t 8) (.t 29))⟩]) (.seq (.seq (.reg [⟨some 9, none, .mv (.c (.int .i64 0))⟩]) (.block 0 (.loop [0, 1, 1, 1, 0, 0, 1, 0, 1, 1, 0, 0, 0, 0, 0, 0, 0, 0, 0, 0, 0, 0, 0, 0, 0, 0, 0, 0, 0, 0, 0, 0, 0, 0, 0, 0, 0, 0, 0, 0, 0, 0, 0, 0, 0, 0, 0, 0, 0, 0, 0] (.seq (.seq (.reg [⟨some 30, none, .mv (.t 9)⟩, ⟨some 31, none, .faddr 1 (.t 3)⟩, ⟨some 32, none, .load false 1 (.t 31)⟩, ⟨some 33, none, .len false (.t 32)⟩, ⟨some 34, none, .bin .lss false (.t 30) (.t 33)⟩]) (.cond (.t 34) .skip (.exit 0))) (.seq (.block 1 (.dreg [[], [0], [], [2], [], [3, 2, 4], [5, 3, 2, 4], [], [], [6, 5, 3, 2, 4, 7, 8], [9, 6, 5, 3, 2, 4, 7, 8], [1, 0, 10, 9, 6, 5, 3, 2, 4, 7, 8], [0, 1, 2, 3, 4, 5, 6, 7, 8, 9, 10, 11], [12, 0, 1, 2, 3, 4, 5, 6, 7, 8, 9, 10, 11]] [⟨some 37, none, .faddr 1 (.t 8)⟩, ⟨some 38, none, .load false 1 (.t 37)⟩, ⟨some 39, none, .faddr 1 (.t 3)⟩, ⟨some 40, none, .load false 1 (.t 39)⟩, ⟨some 41, none, .mv (.t 9)⟩, ⟨some 42, none, .iaddr 2 (.t 40) (.t 41)⟩, ⟨some 43, none, .load true 2 (.t 42)⟩, ⟨some 44, none, .mv (.t 1)⟩, ⟨some 45, none, .mv (.t 2)⟩, ⟨some 46, none, .call 77 [(.t 43), (.t 44), (.t 45)]⟩, ⟨(some 47), none, (.mkrow 31 2 [(.str ⟨#[]⟩), .nil] 1 [(0, (.t 46))])⟩, ⟨(some 48), none, (.append 31 2 40 [(.str ⟨#[]⟩), .nil] (.t 38) (.t 47))⟩, ⟨some 49, none, .faddr 1 (.t 8)⟩, ⟨none, none, (.store 1 (.t 49) (.t 48))⟩])) (.reg [⟨some 35, none, .mv (.t 9)⟩, ⟨some 36, none, .bin .add false (.t 35) (.c (.int .i64 1))⟩, ⟨some 9, none, .mv (.t 36)⟩])))))) (.seq (.reg [⟨some 50, none, .load true 2 (.t 8)⟩, ⟨none, none, (.store 2 (.t 6) (.t 50))⟩]) .ret)))))
theorem k_spec_l9Term : codeOf Tryz.prog 77 = some ⟨51, c_spec_l9Term, [(.cell 6 true 2)]⟩ := by kernel_rfl
theorem m_spec_l9Term : modes 77 = ⟨[], .frz, none, false⟩ := by unfold modes; rfl
abbrev RsC (from_ to_ : List ByteArray) (x : Tm) : Prop := E 77 [x.sv, .arr (from_.map fun s => [D.str s]), .arr (to_.map fun s => [D.str s])] [] = some ((x.rn (envL from_ to_)).sv, [])
set_option maxHeartbeats 8000000 in
theorem l9Term_of (from_ to_ : List ByteArray) (hlen : from_.length = to_.length) (hfl : from_.length ≤ 1099511627776) (hon : OnV (envL from_ to_)) (x : Tm) (hx : varB x.name = true → x.args = []) (hn : x.args.length ≤ 1099511627776) (ih : ∀ y ∈ x.args, RsC from_ to_ y) : RsC from_ to_ x := by
  unfold RsC
  have hv := l2Var_E x.name
  have hla := l8Last_E from_ hfl x.name
  have hlr := lastI_range from_ x.name
  have hev := envL_last from_ to_ x.name hlen
  obtain ⟨e, he⟩ : ∃ e, e = envL from_ to_ := ⟨_, rfl⟩
  rw [← he] at hon hev ⊢
  cases hb : varB x.name with
  | true =>
    rw [hb] at hv
    have hx0 := hx hb
    rcases Int.lt_or_le (lastI from_ x.name) 0 with h0 | h0
    · rw [dec_f (by omega), cond_false] at hev
      have e1 : x.rn e = .mk x.name [] := by rw [Tm.rn_eq, hx0, hev]; rfl
      have e2 : (Tm.mk x.name []).sv = .agg [.str x.name, .arr []] := rfl
      rw [e1, e2]
      refine E_walk k_spec_l9Term m_spec_l9Term (of_decide_eq_true rfl) ?_
      simp (disch := omega) only [c_spec_l9Term, go_sem, go_cond, zA, zB, zC, zD, zE, zF, zG, zH, ↓reduceIte, zI, reduceCtorEq, zJ, zK, hv, hla, m_spec_l2Var, m_spec_l8Last]
    · rw [dec_t h0, cond_true] at hev
      have hlt : (lastI from_ x.name).toNat < to_.length := by omega
      rw [List.getElem?_eq_getElem hlt] at hev
      have hg := get_at (fun s => [D.str s]) hlt
      have e1 : x.rn e = .mk to_[(lastI from_ x.name).toNat] [] := by rw [Tm.rn_eq, hx0, hev]; rfl
      have e2 : (Tm.mk to_[(lastI from_ x.name).toNat] []).sv = .agg [.str to_[(lastI from_ x.name).toNat], .arr []] := rfl
      rw [e1, e2]
      refine E_walk k_spec_l9Term m_spec_l9Term (of_decide_eq_true rfl) ?_
      simp (disch := omega) only [c_spec_l9Term, go_sem, go_cond, zA, zB, zC, zD, zE, zF, zG, zH, ↓reduceIte, zI, reduceCtorEq, zJ, zK, hv, hla, hg, m_spec_l2Var, m_spec_l8Last]
  | false =>
    rw [hb] at hv
    have hen : e x.name = none := by
      cases h : e x.name with
      | none => rfl
      | some v => have := hon x.name (by rw [h]; simp); rw [hb] at this; cases this
    have e1 : x.rn e = .mk x.name (x.args.map (Tm.rn e)) := by
      rw [Tm.rn_eq, hen]
      cases x.args.isEmpty <;> rfl
    have e2 : (Tm.mk x.name (x.args.map (Tm.rn e))).sv = .agg [.str x.name, .arr ((x.args.map (Tm.rn e)).map Tm.d)] := rfl
    rw [e1, e2]
    have h10 : ((1 : Int) = 0) = False := by simp
    have hfu := Tm.osh_full (x.args.map (Tm.rn e))
    have her := Tm.osh_er (x.args.map (Tm.rn e))
    refine E_walk k_spec_l9Term m_spec_l9Term (of_decide_eq_true rfl) ?_
    simp (disch := omega) only [c_spec_l9Term, go_sem, go_cond, zA, zB, zC, zD, zE, zF, zG, zH, ↓reduceIte, zI, reduceCtorEq, zJ, zK, hv, m_spec_l2Var]
    refine go_loop (α := Int) (fun a => ⟨slots 51 0 [(1, .arr (from_.map fun s => [D.str s])), (2, .arr (to_.map fun s => [D.str s])), (3, .ptr 0 0), (6, .ptr 1 0), (8, .ptr 2 0), (9, .int .i64 a)], (if a = 0 then [.box 31 [.str x.name, .arr (x.args.map Tm.d)], .box 31 [.str ⟨#[]⟩, .nil], .box 31 [.str x.name, .nil]] else [.box 31 [.str x.name, .arr (x.args.map Tm.d)], .box 31 [.str ⟨#[]⟩, .nil], .box 31 [.str x.name, .ref 3], .row 31 2 (((x.args.map (Tm.rn e)).take a.toNat).map Tm.osh)])⟩) (fun a => ∃ k : Nat, a = k ∧ k ≤ (x.args).length) (fun a => (x.args).length - (a).toNat) 0 ⟨0, rfl, Nat.zero_le _⟩ (by simp (disch := omega) only [go_sem, go_cond, zA, zB, zC, zD, zE, zF, zG, zH, ↓reduceIte, zI, reduceCtorEq, zJ, zK, eq_self, if_true]) ?_
    rintro i ⟨k, hi, hk⟩
    have hni : i.toNat = k := by omega
    have hni1 : (i + 1).toNat = k + 1 := by omega
    rcases Nat.lt_or_ge k (x.args).length with hlt | hge
    · have hg := get_at Tm.d hlt
      rw [Tm.d_eq] at hg
      have hc := ih x.args[k] (List.getElem_mem hlt)
      unfold RsC at hc
      rw [← he] at hc
      have hlm : k < (x.args.map (Tm.rn e)).length := by rw [List.length_map]; exact hlt
      have hs := map_snoc Tm.osh hlm
      rw [Tm.osh_eq, List.getElem_map] at hs
      rcases Nat.eq_zero_or_pos k with h0 | h0
      · subst h0
        obtain rfl : i = 0 := hi
        rw [List.take_zero, List.map_nil, List.nil_append] at hs
        simp (disch := omega) only [go_sem, go_cond, zA, zB, zC, zD, zE, zF, zG, zH, ↓reduceIte, zI, reduceCtorEq, zJ, zK, hni, hg, hc, m_spec_l9Term, eq_self, if_true]
        refine ⟨1, ⟨1, rfl, hlt⟩, by omega, ?_⟩
        simp (disch := omega) only [go_sem, go_cond, zA, zB, zC, zD, zE, zF, zG, zH, ↓reduceIte, zI, reduceCtorEq, zJ, zK, h10, if_false, hs]
      · have hi0 : (i = 0) = False := by simp; omega
        have hi1 : (i + 1 = 0) = False := by simp; omega
        have htl : ((x.args.map (Tm.rn e)).take k).length = k := by rw [List.length_take, List.length_map]; omega
        simp (disch := omega) only [go_sem, go_cond, zA, zB, zC, zD, zE, zF, zG, zH, ↓reduceIte, zI, reduceCtorEq, zJ, zK, hni, hg, hc, m_spec_l9Term, hi0, if_false, htl]
        refine ⟨i + 1, ⟨k + 1, by omega, hlt⟩, by omega, ?_⟩
        simp (disch := omega) only [go_sem, go_cond, zA, zB, zC, zD, zE, zF, zG, zH, ↓reduceIte, zI, reduceCtorEq, zJ, zK, hni1, hi1, if_false, hs]
    · obtain rfl : k = x.args.length := by omega
      have ht : (x.args.map (Tm.rn e)).take x.args.length = x.args.map (Tm.rn e) := by rw [← List.length_map (f := Tm.rn e)]; exact List.take_length
      rcases Nat.eq_zero_or_pos x.args.length with h0 | h0
      · have hx : x.args = [] := List.eq_nil_of_length_eq_zero h0
        obtain rfl : i = 0 := by omega
        simp (disch := omega) only [go_sem, go_cond, zA, zB, zC, zD, zE, zF, zG, zH, ↓reduceIte, zI, reduceCtorEq, zJ, zK, hni, hx, eq_self, if_true, List.map_nil, List.length_nil]
      · have hi0 : (i = 0) = False := by simp; omega
        simp (disch := omega) only [go_sem, go_cond, zA, zB, zC, zD, zE, zF, zG, zH, ↓reduceIte, zI, reduceCtorEq, zJ, zK, hni, hi0, if_false, ht, hfu, her]
theorem l9Term_E (from_ to_ : List ByteArray) (hlen : from_.length = to_.length) (hfl : from_.length ≤ 1099511627776) (hon : OnV (envL from_ to_)) (x : Tm) (hx : x.names = true) (hn : x.nodes ≤ 1099511627776) : RsC from_ to_ x :=
  l9Term_of from_ to_ hlen hfl hon x (fun h => Tm.names_var hx h) (by have := Tm.length_le x.args; have := Tm.nodes_eq x; omega) fun y hy => l9Term_E from_ to_ hlen hfl hon y (Tm.names_arg hx hy) (by have := Tm.nodes_mem hy; have := Tm.nodes_eq x; omega)
termination_by SizeOf.sizeOf x
decreasing_by exact Tm.lt_of_mem hy
theorem l9TermA_E (from_ to_ : List ByteArray) (hlen : from_.length = to_.length) (hfl : from_.length ≤ 1099511627776) (hon : OnV (envL from_ to_)) (x : Tm) (hx : x.atom = true) : RsC from_ to_ x := by
  have hn := Tm.atom_nodes hx
  have h1 := Tm.nodes_eq x
  have h2 := Tm.length_le x.args
  exact l9Term_of from_ to_ hlen hfl hon x (Tm.atom_args hx).1 (by omega) fun y hy => l9Term_E from_ to_ hlen hfl hon y ((Tm.atom_args hx).2 y hy) (by have := Tm.nodes_mem hy; omega)
def c_impl_sizeOf : SC := (.seq (.reg [⟨some 1, none, .boxv 34 5 (.t 0)⟩, ⟨some 2, none, .mv (.c (.int .i64 0))⟩]) (.seq (.reg [⟨some 3, none, .mv (.c (.int .i64 1))⟩]) (.seq (.seq (.reg [⟨some 6, none, .faddr 4 (.t 1)⟩, ⟨some 7, none, .load false 1 (.t 6)⟩, ⟨some 8, none, .len false (.t 7)⟩, ⟨some 9, none, .mv (.c (.int .i64 0))⟩]) (.block 0 (.loop [0, 0, 0, 1, 0, 0, 0, 1, 1, 1, 0, 0, 0, 0, 0, 0, 0, 0, 0, 0, 0, 0] (.seq (.reg [⟨some 10, none, .bin .lss false (.t 9) (.t 8)⟩]) (.seq (.cond (.t 10) .skip (.exit 0)) (.seq (.block 1 (.seq (.reg [⟨some 11, none, .iaddr 5 (.t 7) (.t 9)⟩, ⟨some 12, none, .load true 5 (.t 11)⟩, ⟨(some 5), none, (.alloc 34 [(.int .i64 0), (.str ⟨#[]⟩), .nil, (.str ⟨#[]⟩), .nil])⟩, ⟨none, none, (.store 5 (.t 5) (.t 12))⟩]) (.seq (.seq (.reg [⟨some 13, none, .mv (.t 3)⟩, ⟨some 14, none, .bin .gtr false (.t 13) (.c (.int .i64 40))⟩]) (.cond (.t 14) (.seq (.reg [⟨some 15, none, .mv (.t 3)⟩, ⟨some 2, none, .mv (.t 15)⟩]) .ret) .skip)) (.reg [⟨some 16, none, .mv (.t 3)⟩, ⟨some 17, none, .load true 5 (.t 5)⟩, ⟨some 18, none, .call 49 [(.t 17)]⟩, ⟨some 19, none, .bin .add false (.t 16) (.t 18)⟩, ⟨some 3, none, .mv (.t 19)⟩])))) (.reg [⟨some 20, none, .bin .add false (.t 9) (.c (.int .i64 1))⟩, ⟨some 9, none, .mv (.t 20)⟩]))))))) (.seq (.reg [⟨some 21, none, .mv (.t 3)⟩, ⟨some 2, none, .mv (.t 21)⟩]) .ret))))
theorem k_impl_sizeOf : codeOf Tryz.prog 49 = some ⟨22, c_impl_sizeOf, [(.tmp 2)]⟩ := by kernel_rfl
theorem m_impl_sizeOf : modes 49 = ⟨[], .asis, none, false⟩ := by unfold modes; rfl
set_option maxHeartbeats 1000000 in
theorem sizeF_of (x : Fm) (hn : x.nodes ≤ 1099511627776) (ih : ∀ y ∈ x.parts, E 49 [y.sv] [] = some (.int .i64 y.cap, [])) : E 49 [x.sv] [] = some (.int .i64 x.cap, []) := by
  have hl := Fm.length_le x.parts
  have hx := Fm.nodes_eq x
  rw [Fm.cap_eq]
  refine E_walk k_impl_sizeOf m_impl_sizeOf (of_decide_eq_true rfl) ?_
  simp (disch := omega) only [c_impl_sizeOf, go_sem, go_cond, zA, zB, zC, zD, zE, zF, zG, zH, ↓reduceIte, zI, reduceCtorEq, zJ, zK]
  refine go_loop (α := Int × Int) (fun a => ⟨slots 22 0 [(3, .int .i64 a.2), (7, .arr (x.parts.map Fm.d)), (8, .int .i64 x.parts.length), (9, .int .i64 a.1)], []⟩) (fun a => ∃ k : Nat, a.1 = k ∧ k ≤ x.parts.length ∧ 1 ≤ a.2 ∧ a.2 + Fm.nodeS (x.parts.drop k) ≤ x.nodes ∧ Fm.capL (x.parts.drop k) a.2 = Fm.capL x.parts 1) (fun a => x.parts.length - a.1.toNat) (0, 1) ⟨0, rfl, Nat.zero_le _, by dsimp only; omega, by rw [List.drop_zero]; dsimp only; omega, rfl⟩ (by simp (disch := omega) only [go_sem, go_cond, zA, zB, zC, zD, zE, zF, zG, zH, ↓reduceIte, zI, reduceCtorEq, zJ, zK]) ?_
  rintro ⟨i, n⟩ ⟨k, hi, hk, hn0, hn1, hs⟩
  dsimp only at hi hn0 hn1 hs
  have hni : i.toNat = k := by omega
  rcases Nat.lt_or_ge k x.parts.length with hlt | hge
  · have hg := get_at Fm.d hlt
    rw [Fm.d_eq] at hg
    have hd : x.parts.drop k = x.parts[k] :: x.parts.drop (k + 1) := List.drop_eq_getElem_cons hlt
    have hc := ih x.parts[k] (List.getElem_mem hlt)
    have hp := Fm.cap_spec x.parts[k]
    rw [hd, Fm.capL] at hs
    rw [hd, Fm.nodeS] at hn1
    rcases Int.lt_or_le 40 n with h30 | h30
    · rw [if_pos h30] at hs
      simp (disch := omega) only [go_sem, go_cond, zA, zB, zC, zD, zE, zF, zG, zH, ↓reduceIte, zI, reduceCtorEq, zJ, zK, hni, hg, hc, m_impl_sizeOf]
      exact hs
    · rw [if_neg (by omega)] at hs
      simp (disch := omega) only [go_sem, go_cond, zA, zB, zC, zD, zE, zF, zG, zH, ↓reduceIte, zI, reduceCtorEq, zJ, zK, hni, hg, hc, m_impl_sizeOf]
      refine ⟨(i + 1, n + x.parts[k].cap), ⟨k + 1, by dsimp only; omega, hlt, by dsimp only; omega, by dsimp only; omega, hs⟩, by dsimp only; omega, ?_⟩
      simp only [and_self]
  · have hd : x.parts.drop k = [] := List.drop_eq_nil_of_le hge
    rw [hd, Fm.capL] at hs
    simp (disch := omega) only [go_sem, go_cond, zA, zB, zC, zD, zE, zF, zG, zH, ↓reduceIte, zI, reduceCtorEq, zJ, zK, hni]
    exact hs
theorem sizeF_E (x : Fm) (hn : x.nodes ≤ 1099511627776) : E 49 [x.sv] [] = some (.int .i64 x.cap, []) :=
  sizeF_of x hn fun y hy => sizeF_E y (by have := Fm.nodes_mem hy; have := Fm.nodes_eq x; omega)
termination_by SizeOf.sizeOf x
decreasing_by exact Fm.lt_of_mem hy
def c_spec_l8Many : SC := (.seq (.reg [⟨some 2, none, .boxv 34 5 (.t 0)⟩, ⟨some 4, none, .mv (.c (.int .i64 0))⟩]) (.seq (.reg [⟨some 5, none, .mv (.c (.int .i64 1))⟩]) (.seq (.seq (.reg [⟨some 6, none, .mv (.c (.int .i64 0))⟩]) (.block 0 (.loop [0, 1, 1, 0, 0, 1, 1, 0, 0, 0, 0, 0, 0, 0, 0, 0, 0, 0, 0, 0, 0, 0, 0, 0, 0, 0, 0, 0, 0, 0, 0] (.seq (.seq (.reg [⟨some 7, none, .mv (.t 6)⟩, ⟨some 8, none, .faddr 4 (.t 2)⟩, ⟨some 9, none, .load false 1 (.t 8)⟩, ⟨some 10, none, .len false (.t 9)⟩, ⟨some 11, none, .bin .lss false (.t 7) (.t 10)⟩, ⟨some 12, none, .mv (.t 11)⟩, ⟨(some 13), (some (12, true)), (.mv (.t 5))⟩, ⟨(some 14), (some (12, true)), (.mv (.t 1))⟩, ⟨(some 15), (some (12, true)), (.bin .leq false (.t 13) (.t 14))⟩, ⟨some 16, none, .pick (.t 12) (.t 15) (.c (.bool false))⟩]) (.cond (.t 16) .skip (.exit 0))) (.seq (.block 1 (.reg [⟨some 19, none, .mv (.t 5)⟩, ⟨some 20, none, .faddr 4 (.t 2)⟩, ⟨some 21, none, .load false 1 (.t 20)⟩, ⟨some 22, none, .mv (.t 6)⟩, ⟨some 23, none, .iaddr 5 (.t 21) (.t 22)⟩, ⟨some 24, none, .load true 5 (.t 23)⟩, ⟨some 25, none, .mv (.t 1)⟩, ⟨some 26, none, .mv (.t 5)⟩, ⟨some 27, none, .bin .sub false (.t 25) (.t 26)⟩, ⟨some 28, none, .call 44 [(.t 24), (.t 27)]⟩, ⟨some 29, none, .bin .add false (.t 19) (.t 28)⟩, ⟨some 5, none, .mv (.t 29)⟩])) (.reg [⟨some 17, none, .mv (.t 6)⟩, ⟨some 18, none, .bin .add false (.t 17) (.c (.int .i64 1))⟩, ⟨some 6, none, .mv (.t 18)⟩])))))) (.seq (.reg [⟨some 30, none, .mv (.t 5)⟩, ⟨some 4, none, .mv (.t 30)⟩]) .ret))))
theorem k_spec_l8Many : codeOf Tryz.prog 44 = some ⟨31, c_spec_l8Many, [(.tmp 4)]⟩ := by kernel_rfl
theorem m_spec_l8Many : modes 44 = ⟨[], .asis, none, false⟩ := by unfold modes; rfl
set_option maxHeartbeats 1000000 in
theorem manyF_of (x : Fm) (m : Int) (hm : 0 ≤ m) (hm1 : m ≤ 1099511627776) (hn : x.nodes ≤ 1099511627776) (ih : ∀ y ∈ x.parts, ∀ m : Int, 0 ≤ m → m ≤ 1099511627776 → E 44 [y.sv, .int .i64 m] [] = some (.int .i64 (y.many m), [])) : E 44 [x.sv, .int .i64 m] [] = some (.int .i64 (x.many m), []) := by
  have hl := Fm.length_le x.parts
  have hx := Fm.nodes_eq x
  rw [Fm.many_eq]
  refine E_walk k_spec_l8Many m_spec_l8Many (of_decide_eq_true rfl) ?_
  simp (disch := omega) only [c_spec_l8Many, go_sem, go_cond, zA, zB, zC, zD, zE, zF, zG, zH, ↓reduceIte, zI, reduceCtorEq, zJ, zK]
  refine go_loop (α := Int × Int) (fun a => ⟨slots 31 0 [(1, .int .i64 m), (2, .ptr 0 0), (5, .int .i64 a.2), (6, .int .i64 a.1)], [.box 34 [.int .i64 x.op, .str x.atom.name, .arr (x.atom.args.map Tm.d), .str x.var, .arr (x.parts.map Fm.d)]]⟩) (fun a => ∃ k : Nat, a.1 = k ∧ k ≤ x.parts.length ∧ 1 ≤ a.2 ∧ a.2 + Fm.nodeS (x.parts.drop k) ≤ x.nodes ∧ Fm.manyL (x.parts.drop k) m a.2 = Fm.manyL x.parts m 1) (fun a => x.parts.length - a.1.toNat) (0, 1) ⟨0, rfl, Nat.zero_le _, by dsimp only; omega, by rw [List.drop_zero]; dsimp only; omega, rfl⟩ (by simp (disch := omega) only [go_sem, go_cond, zA, zB, zC, zD, zE, zF, zG, zH, ↓reduceIte, zI, reduceCtorEq, zJ, zK]) ?_
  rintro ⟨i, n⟩ ⟨k, hi, hk, hn0, hn1, hs⟩
  dsimp only at hi hn0 hn1 hs
  have hni : i.toNat = k := by omega
  rcases Nat.lt_or_ge k x.parts.length with hlt | hge
  · have hg := get_at Fm.d hlt
    rw [Fm.d_eq] at hg
    have hd : x.parts.drop k = x.parts[k] :: x.parts.drop (k + 1) := List.drop_eq_getElem_cons hlt
    rw [hd, Fm.manyL] at hs
    rw [hd, Fm.nodeS] at hn1
    rcases Int.lt_or_le m n with h30 | h30
    · rw [if_neg (by omega)] at hs
      simp (disch := omega) only [go_sem, go_cond, zA, zB, zC, zD, zE, zF, zG, zH, ↓reduceIte, zI, reduceCtorEq, zJ, zK, hni, hg, m_spec_l8Many]
      exact hs
    · rw [if_pos h30] at hs
      have hc := ih x.parts[k] (List.getElem_mem hlt) (m - n) (by omega) (by omega)
      have hp := Fm.many_spec x.parts[k] (m - n)
      simp (disch := omega) only [go_sem, go_cond, zA, zB, zC, zD, zE, zF, zG, zH, ↓reduceIte, zI, reduceCtorEq, zJ, zK, hni, hg, hc, m_spec_l8Many]
      refine ⟨(i + 1, n + x.parts[k].many (m - n)), ⟨k + 1, by dsimp only; omega, hlt, by dsimp only; omega, by dsimp only; omega, hs⟩, by dsimp only; omega, ?_⟩
      simp only [and_self]
  · have hd : x.parts.drop k = [] := List.drop_eq_nil_of_le hge
    rw [hd, Fm.manyL] at hs
    simp (disch := omega) only [go_sem, go_cond, zA, zB, zC, zD, zE, zF, zG, zH, ↓reduceIte, zI, reduceCtorEq, zJ, zK, hni]
    exact hs
theorem manyF_E (x : Fm) (m : Int) (hm : 0 ≤ m) (hm1 : m ≤ 1099511627776) (hn : x.nodes ≤ 1099511627776) : E 44 [x.sv, .int .i64 m] [] = some (.int .i64 (x.many m), []) :=
  manyF_of x m hm hm1 hn fun y hy m hm hm1 => manyF_E y m hm hm1 (by have := Fm.nodes_mem hy; have := Fm.nodes_eq x; omega)
termination_by SizeOf.sizeOf x
decreasing_by exact Fm.lt_of_mem hy
def c_impl_isQuantifier : SC := (.seq (.reg [⟨some 2, none, .mv (.c (.bool false))⟩]) (.seq (.reg [⟨some 3, none, .mv (.t 0)⟩, ⟨some 4, none, .bin .eql false (.t 3) (.c (.int .i64 8))⟩, ⟨some 5, none, .mv (.t 4)⟩, ⟨(some 6), (some (5, false)), (.mv (.t 0))⟩, ⟨(some 7), (some (5, false)), (.bin .eql false (.t 6) (.c (.int .i64 9)))⟩, ⟨some 8, none, .pick (.t 5) (.c (.bool true)) (.t 7)⟩, ⟨some 2, none, .mv (.t 8)⟩]) .ret))
theorem k_impl_isQuantifier : codeOf Tryz.prog 80 = some ⟨9, c_impl_isQuantifier, [(.tmp 2)]⟩ := by kernel_rfl
theorem m_impl_isQuantifier : modes 80 = ⟨[], .asis, none, false⟩ := by unfold modes; rfl
def c_impl_isBinary : SC := (.seq (.reg [⟨some 2, none, .mv (.c (.bool false))⟩]) (.seq (.reg [⟨some 3, none, .mv (.t 0)⟩, ⟨some 4, none, .bin .eql false (.t 3) (.c (.int .i64 5))⟩, ⟨some 5, none, .mv (.t 4)⟩, ⟨(some 6), (some (5, false)), (.mv (.t 0))⟩, ⟨(some 7), (some (5, false)), (.bin .eql false (.t 6) (.c (.int .i64 6)))⟩, ⟨some 8, none, .pick (.t 5) (.c (.bool true)) (.t 7)⟩, ⟨some 9, none, .mv (.t 8)⟩, ⟨(some 10), (some (9, false)), (.mv (.t 0))⟩, ⟨(some 11), (some (9, false)), (.bin .eql false (.t 10) (.c (.int .i64 7)))⟩, ⟨some 12, none, .pick (.t 9) (.c (.bool true)) (.t 11)⟩, ⟨some 2, none, .mv (.t 12)⟩]) .ret))
theorem k_impl_isBinary : codeOf Tryz.prog 81 = some ⟨13, c_impl_isBinary, [(.tmp 2)]⟩ := by kernel_rfl
theorem m_impl_isBinary : modes 81 = ⟨[], .asis, none, false⟩ := by unfold modes; rfl
def c_impl_isZeroTerm : SC := (.seq (.reg [⟨some 1, none, .boxv 31 2 (.t 0)⟩, ⟨some 2, none, .mv (.c (.bool false))⟩]) (.seq (.reg [⟨some 3, none, .faddr 0 (.t 1)⟩, ⟨some 4, none, .load false 1 (.t 3)⟩, ⟨(some 5), none, (.bin .eql false (.t 4) (.c (.str ⟨#[]⟩)))⟩, ⟨some 6, none, .mv (.t 5)⟩, ⟨(some 7), (some (6, true)), (.faddr 1 (.t 1))⟩, ⟨(some 8), (some (6, true)), (.load false 1 (.t 7))⟩, ⟨(some 9), (some (6, true)), (.len false (.t 8))⟩, ⟨(some 10), (some (6, true)), (.bin .eql false (.t 9) (.c (.int .i64 0)))⟩, ⟨some 11, none, .pick (.t 6) (.t 10) (.c (.bool false))⟩, ⟨some 2, none, .mv (.t 11)⟩]) .ret))
theorem k_impl_isZeroTerm : codeOf Tryz.prog 84 = some ⟨12, c_impl_isZeroTerm, [(.tmp 2)]⟩ := by kernel_rfl
theorem m_impl_isZeroTerm : modes 84 = ⟨[], .asis, none, false⟩ := by unfold modes; rfl
def c_spec_l8None : SC := (.seq (.reg [⟨some 1, none, .boxv 31 2 (.t 0)⟩, ⟨some 2, none, .mv (.c (.bool false))⟩]) (.seq (.reg [⟨some 3, none, .faddr 0 (.t 1)⟩, ⟨some 4, none, .load false 1 (.t 3)⟩, ⟨(some 5), none, (.bin .eql false (.t 4) (.c (.str ⟨#[]⟩)))⟩, ⟨some 6, none, .mv (.t 5)⟩, ⟨(some 7), (some (6, true)), (.faddr 1 (.t 1))⟩, ⟨(some 8), (some (6, true)), (.load false 1 (.t 7))⟩, ⟨(some 9), (some (6, true)), (.len false (.t 8))⟩, ⟨(some 10), (some (6, true)), (.bin .eql false (.t 9) (.c (.int .i64 0)))⟩, ⟨some 11, none, .pick (.t 6) (.t 10) (.c (.bool false))⟩, ⟨some 2, none, .mv (.t 11)⟩]) .ret))
theorem k_spec_l8None : codeOf Tryz.prog 101 = some ⟨12, c_spec_l8None, [(.tmp 2)]⟩ := by kernel_rfl
theorem m_spec_l8None : modes 101 = ⟨[], .asis, none, false⟩ := by unfold modes; rfl
def c_slices_IndexFunc_impl_Formula_impl_Formula : SC := (.seq (.reg [⟨some 4, none, .mv (.c (.int .i64 0))⟩]) (.seq (.seq (.reg [⟨some 6, none, .mv (.t 0)⟩, ⟨some 7, none, .len false (.t 6)⟩, ⟨some 8, none, .mv (.c (.int .i64 0))⟩]) (.block 0 (.loop [1, 1, 0, 0, 0, 0, 0, 1, 1, 0, 0, 0, 0, 0, 0, 0, 0, 0, 0] (.seq (.reg [⟨some 9, none, .bin .lss false (.t 8) (.t 7)⟩]) (.seq (.cond (.t 9) .skip (.exit 0)) (.seq (.block 1 (.seq (.reg [⟨some 10, none, .mv (.t 8)⟩, ⟨some 5, none, .mv (.t 10)⟩]) (.seq (.reg [⟨some 11, none, .mv (.t 1)⟩, ⟨some 12, none, .mv (.t 0)⟩, ⟨some 13, none, .mv (.t 5)⟩, ⟨some 14, none, .iaddr 5 (.t 12) (.t 13)⟩, ⟨some 15, none, .load true 5 (.t 14)⟩, ⟨some 16, none, .callv (.t 11) [(.t 15)]⟩]) (.cond (.t 16) (.seq (.reg [⟨some 17, none, .mv (.t 5)⟩, ⟨some 4, none, .mv (.t 17)⟩]) .ret) .skip)))) (.reg [⟨some 18, none, .bin .add false (.t 8) (.c (.int .i64 1))⟩, ⟨some 8, none, .mv (.t 18)⟩]))))))) (.seq (.reg [⟨some 4, none, .mv (.c (.int .i64 (-(0 + 1))))⟩]) .ret)))
theorem k_slices_IndexFunc_impl_Formula_impl_Formula : codeOf Tryz.prog 94 = some ⟨19, c_slices_IndexFunc_impl_Formula_impl_Formula, [(.tmp 4)]⟩ := by kernel_rfl
theorem m_slices_IndexFunc_impl_Formula_impl_Formula : modes 94 = ⟨[], .asis, none, false⟩ := by unfold modes; rfl
def c_slices_ContainsFunc_impl_Formula_impl_Formula : SC := (.seq (.reg [⟨some 4, none, .mv (.c (.bool false))⟩]) (.seq (.reg [⟨some 5, none, .mv (.t 0)⟩, ⟨some 6, none, .mv (.t 1)⟩, ⟨some 7, none, .call 94 [(.t 5), (.t 6)]⟩, ⟨some 8, none, .bin .geq false (.t 7) (.c (.int .i64 0))⟩, ⟨some 4, none, .mv (.t 8)⟩]) .ret))
theorem k_slices_ContainsFunc_impl_Formula_impl_Formula : codeOf Tryz.prog 63 = some ⟨9, c_slices_ContainsFunc_impl_Formula_impl_Formula, [(.tmp 4)]⟩ := by kernel_rfl
theorem m_slices_ContainsFunc_impl_Formula_impl_Formula : modes 63 = ⟨[], .asis, none, false⟩ := by unfold modes; rfl
theorem indexFunc_forms (fid : Nat) (p : Fm → Bool) (xs : List Fm) (hl : xs.length ≤ 1099511627776) (hg : goFn Tryz.prog fid = true) (hm : (modes fid).hand = []) (hE : ∀ x ∈ xs, E fid [x.sv] [] = some (.bool (p x), [])) : E 94 [.arr (xs.map Fm.d), .fn fid []] [] = some (.int .i64 (idxP p xs 0), []) := by
  refine E_walk k_slices_IndexFunc_impl_Formula_impl_Formula m_slices_IndexFunc_impl_Formula_impl_Formula (of_decide_eq_true rfl) ?_
  simp (disch := omega) only [c_slices_IndexFunc_impl_Formula_impl_Formula, go_sem, go_cond, zA, zB, zC, zD, zE, zF, zG, zH, ↓reduceIte, zI, reduceCtorEq, zJ, zK]
  refine go_loop (α := Int) (fun a => ⟨slots 19 0 [(0, .arr (xs.map Fm.d)), (1, .fn fid []), (7, .int .i64 xs.length), (8, .int .i64 a)], []⟩) (fun a => ∃ k : Nat, a = k ∧ k ≤ (xs).length ∧ idxP p (xs.drop k) a = idxP p xs 0) (fun a => (xs).length - (a).toNat) 0 ⟨0, rfl, Nat.zero_le _, by rw [List.drop_zero]⟩ (by simp (disch := omega) only [go_sem, go_cond, zA, zB, zC, zD, zE, zF, zG, zH, ↓reduceIte, zI, reduceCtorEq, zJ, zK]) ?_
  rintro i ⟨k, hi, hk, hR⟩
  have hni : i.toNat = k := by omega
  have hni1 : (i + 1).toNat = k + 1 := by omega
  rcases Nat.lt_or_ge k (xs).length with hlt | hge
  · have hg' := get_at Fm.d hlt
    rw [Fm.d_eq] at hg'
    have hc := hE xs[k] (List.getElem_mem hlt)
    rw [List.drop_eq_getElem_cons hlt, idxP] at hR
    cases hp : p xs[k] with
    | true =>
      rw [hp] at hc hR
      simp (disch := omega) only [go_sem, go_cond, zA, zB, zC, zD, zE, zF, zG, zH, ↓reduceIte, zI, reduceCtorEq, zJ, zK, hni, hg', hc, hg, hm]
      simpa using hR
    | false =>
      rw [hp] at hc hR
      simp (disch := omega) only [go_sem, go_cond, zA, zB, zC, zD, zE, zF, zG, zH, ↓reduceIte, zI, reduceCtorEq, zJ, zK, hni, hg', hc, hg, hm]
      exact ⟨i + 1, ⟨k + 1, by omega, hlt, by simpa using hR⟩, by omega, by first | trivial | rfl⟩
  · rw [List.drop_eq_nil_of_le hge, idxP] at hR
    simp (disch := omega) only [go_sem, go_cond, zA, zB, zC, zD, zE, zF, zG, zH, ↓reduceIte, zI, reduceCtorEq, zJ, zK, hni]
    exact hR
theorem containsFunc_forms (fid : Nat) (p : Fm → Bool) (xs : List Fm) (hl : xs.length ≤ 1099511627776) (hg : goFn Tryz.prog fid = true) (hm : (modes fid).hand = []) (hE : ∀ x ∈ xs, E fid [x.sv] [] = some (.bool (p x), [])) : E 63 [.arr (xs.map Fm.d), .fn fid []] [] = some (.bool (xs.any p), []) := by
  have h := indexFunc_forms fid p xs hl hg hm hE
  refine E_walk k_slices_ContainsFunc_impl_Formula_impl_Formula m_slices_ContainsFunc_impl_Formula_impl_Formula (of_decide_eq_true rfl) ?_
  simp (disch := omega) only [c_slices_ContainsFunc_impl_Formula_impl_Formula, go_sem, go_cond, zA, zB, zC, zD, zE, zF, zG, zH, ↓reduceIte, zI, reduceCtorEq, zJ, zK, h, m_slices_IndexFunc_impl_Formula_impl_Formula]
  rw [idxP_any]
def c_impl_hasForm : SC := (.seq (.reg [⟨some 1, none, .boxv 34 5 (.t 0)⟩, ⟨some 2, none, .mv (.c (.bool false))⟩]) (.seq (.reg [⟨some 3, none, .mv (.c (.int .i64 0))⟩]) (.seq (.block 0 (.seq (.seq (.reg [⟨some 5, none, .faddr 0 (.t 1)⟩, ⟨some 6, none, .load false 1 (.t 5)⟩, ⟨some 7, none, .bin .eql false (.t 6) (.c (.int .i64 1))⟩, ⟨some 4, none, .mv (.t 7)⟩]) (.cond (.t 4) .skip (.seq (.reg [⟨some 8, none, .faddr 0 (.t 1)⟩, ⟨some 9, none, .load false 1 (.t 8)⟩, ⟨some 10, none, .bin .eql false (.t 9) (.c (.int .i64 2))⟩, ⟨some 4, none, .mv (.t 10)⟩]) (.cond (.t 4) .skip (.reg [⟨some 11, none, .faddr 0 (.t 1)⟩, ⟨some 12, none, .load false 1 (.t 11)⟩, ⟨some 13, none, .bin .eql false (.t 12) (.c (.int .i64 3))⟩, ⟨some 4, none, .mv (.t 13)⟩]))))) (.cond (.t 4) .skip (.seq (.seq (.reg [⟨some 15, none, .faddr 0 (.t 1)⟩, ⟨some 16, none, .load false 1 (.t 15)⟩, ⟨some 17, none, .bin .eql false (.t 16) (.c (.int .i64 4))⟩, ⟨some 14, none, .mv (.t 17)⟩]) (.cond (.t 14) .skip (.reg [⟨some 18, none, .faddr 0 (.t 1)⟩, ⟨some 19, none, .load false 1 (.t 18)⟩, ⟨some 20, none, .call 80 [(.t 19)]⟩, ⟨some 14, none, .mv (.t 20)⟩]))) (.cond (.t 14) (.reg [⟨some 3, none, .mv (.c (.int .i64 1))⟩]) (.seq (.reg [⟨some 22, none, .faddr 0 (.t 1)⟩, ⟨some 23, none, .load false 1 (.t 22)⟩, ⟨some 24, none, .call 81 [(.t 23)]⟩, ⟨some 21, none, .mv (.t 24)⟩]) (.cond (.t 21) (.reg [⟨some 3, none, .mv (.c (.int .i64 2))⟩]) (.seq (.reg [⟨some 2, none, .mv (.c (.bool false))⟩]) .ret)))))))) (.seq (.seq (.reg [⟨some 25, none, .faddr 4 (.t 1)⟩, ⟨some 26, none, .load false 1 (.t 25)⟩, ⟨some 27, none, .len false (.t 26)⟩, ⟨some 28, none, .mv (.t 3)⟩, ⟨some 29, none, .bin .neq false (.t 27) (.t 28)⟩, ⟨some 30, none, .mv (.t 29)⟩, ⟨(some 31), (some (30, false)), (.faddr 0 (.t 1))⟩, ⟨(some 32), (some (30, false)), (.load false 1 (.t 31))⟩, ⟨(some 33), (some (30, false)), (.call 80 [(.t 32)])⟩, ⟨(some 34), (some (30, false)), (.mv (.t 33))⟩, ⟨(some 35), (some (34, true)), (.faddr 3 (.t 1))⟩, ⟨(some 36), (some (34, true)), (.load false 1 (.t 35))⟩, ⟨(some 37), (some (34, true)), (.call 82 [(.t 36)])⟩, ⟨(some 38), (some (34, true)), (.un .not (.t 37))⟩, ⟨(some 39), (some (30, false)), (.pick (.t 34) (.t 38) (.c (.bool false)))⟩, ⟨some 40, none, .pick (.t 30) (.c (.bool true)) (.t 39)⟩, ⟨some 41, none, .mv (.t 40)⟩, ⟨(some 42), (some (41, false)), (.faddr 0 (.t 1))⟩, ⟨(some 43), (some (41, false)), (.load false 1 (.t 42))⟩, ⟨(some 44), (some (41, false)), (.call 80 [(.t 43)])⟩, ⟨(some 45), (some (41, false)), (.un .not (.t 44))⟩, ⟨(some 46), (some (41, false)), (.mv (.t 45))⟩, ⟨(some 47), (some (46, true)), (.faddr 3 (.t 1))⟩, ⟨(some 48), (some (46, true)), (.load false 1 (.t 47))⟩, ⟨(some 49), (some (46, true)), (.bin .neq false (.t 48) (.c (.str ⟨#[]⟩)))⟩, ⟨(some 50), (some (41, false)), (.pick (.t 46) (.t 49) (.c (.bool false)))⟩, ⟨some 51, none, .pick (.t 41) (.c (.bool true)) (.t 50)⟩]) (.cond (.t 51) (.seq (.reg [⟨some 2, none, .mv (.c (.bool false))⟩]) .ret) .skip)) (.seq (.seq (.reg [⟨some 52, none, .faddr 0 (.t 1)⟩, ⟨some 53, none, .load false 1 (.t 52)⟩, ⟨some 54, none, .bin .eql false (.t 53) (.c (.int .i64 3))⟩, ⟨some 55, none, .mv (.t 54)⟩, ⟨(some 56), (some (55, true)), (.faddr 1 (.t 1))⟩, ⟨(some 57), (some (55, true)), (.load true 2 (.t 56))⟩, ⟨(some 58), (some (55, true)), (.call 83 [(.t 57)])⟩, ⟨(some 59), (some (55, true)), (.un .not (.t 58))⟩, ⟨some 60, none, .pick (.t 55) (.t 59) (.c (.bool false))⟩, ⟨some 61, none, .mv (.t 60)⟩, ⟨(some 62), (some (61, false)), (.faddr 0 (.t 1))⟩, ⟨(some 63), (some (61, false)), (.load false 1 (.t 62))⟩, ⟨(some 64), (some (61, false)), (.bin .neq false (.t 63) (.c (.int .i64 3)))⟩, ⟨(some 65), (some (61, false)), (.mv (.t 64))⟩, ⟨(some 66), (some (65, true)), (.faddr 1 (.t 1))⟩, ⟨(some 67), (some (65, true)), (.load true 2 (.t 66))⟩, ⟨(some 68), (some (65, true)), (.call 84 [(.t 67)])⟩, ⟨(some 69), (some (65, true)), (.un .not (.t 68))⟩, ⟨(some 70), (some (61, false)), (.pick (.t 65) (.t 69) (.c (.bool false)))⟩, ⟨some 71, none, .pick (.t 61) (.c (.bool true)) (.t 70)⟩]) (.cond (.t 71) (.seq (.reg [⟨some 2, none, .mv (.c (.bool false))⟩]) .ret) .skip)) (.seq (.reg [⟨some 72, none, .faddr 4 (.t 1)⟩, ⟨some 73, none, .load false 1 (.t 72)⟩, ⟨some 74, none, .call 63 [(.t 73), (.c (.fn 85 []))]⟩, ⟨some 75, none, .un .not (.t 74)⟩, ⟨some 2, none, .mv (.t 75)⟩]) .ret))))))
theorem k_impl_hasForm : codeOf Tryz.prog 50 = some ⟨76, c_impl_hasForm, [(.tmp 2)]⟩ := by kernel_rfl
theorem m_impl_hasForm : modes 50 = ⟨[], .asis, none, false⟩ := by unfold modes; rfl
def c_impl_hasForm_1 : SC := (.seq (.reg [⟨some 1, none, .boxv 34 5 (.t 0)⟩, ⟨some 2, none, .mv (.c (.bool false))⟩]) (.seq (.reg [⟨some 3, none, .load true 5 (.t 1)⟩, ⟨some 4, none, .call 50 [(.t 3)]⟩, ⟨some 5, none, .un .not (.t 4)⟩, ⟨some 2, none, .mv (.t 5)⟩]) .ret))
theorem k_impl_hasForm_1 : codeOf Tryz.prog 85 = some ⟨6, c_impl_hasForm_1, [(.tmp 2)]⟩ := by kernel_rfl
theorem m_impl_hasForm_1 : modes 85 = ⟨[], .asis, none, false⟩ := by unfold modes; rfl
theorem g_impl_hasForm_1 : goFn Tryz.prog 85 = true := by kernel_rfl
def c_spec_l8Form : SC := (.seq (.reg [⟨some 1, none, .boxv 34 5 (.t 0)⟩, ⟨some 2, none, .mv (.c (.bool false))⟩]) (.seq (.reg [⟨some 4, none, .faddr 4 (.t 1)⟩, ⟨some 5, none, .load false 1 (.t 4)⟩, ⟨some 6, none, .len false (.t 5)⟩, ⟨some 3, none, .mv (.t 6)⟩]) (.seq (.seq (.reg [⟨some 7, none, .faddr 0 (.t 1)⟩, ⟨some 8, none, .load false 1 (.t 7)⟩]) (.block 0 (.seq (.seq (.reg [⟨some 10, none, .bin .eql false (.t 8) (.c (.int .i64 1))⟩, ⟨some 9, none, .mv (.t 10)⟩]) (.cond (.t 9) .skip (.reg [⟨some 11, none, .bin .eql false (.t 8) (.c (.int .i64 2))⟩, ⟨some 9, none, .mv (.t 11)⟩]))) (.cond (.t 9) (.seq (.reg [⟨some 12, none, .mv (.t 3)⟩, ⟨some 13, none, .bin .eql false (.t 12) (.c (.int .i64 0))⟩, ⟨some 14, none, .mv (.t 13)⟩, ⟨(some 15), (some (14, true)), (.faddr 1 (.t 1))⟩, ⟨(some 16), (some (14, true)), (.load true 2 (.t 15))⟩, ⟨(some 17), (some (14, true)), (.call 101 [(.t 16)])⟩, ⟨some 18, none, .pick (.t 14) (.t 17) (.c (.bool false))⟩, ⟨some 19, none, .mv (.t 18)⟩, ⟨(some 20), (some (19, true)), (.faddr 3 (.t 1))⟩, ⟨(some 21), (some (19, true)), (.load false 1 (.t 20))⟩, ⟨(some 22), (some (19, true)), (.bin .eql false (.t 21) (.c (.str ⟨#[]⟩)))⟩, ⟨some 23, none, .pick (.t 19) (.t 22) (.c (.bool false))⟩, ⟨some 2, none, .mv (.t 23)⟩]) .ret) (.seq (.reg [⟨some 25, none, .bin .eql false (.t 8) (.c (.int .i64 3))⟩, ⟨some 24, none, .mv (.t 25)⟩]) (.cond (.t 24) (.seq (.reg [⟨some 26, none, .mv (.t 3)⟩, ⟨some 27, none, .bin .eql false (.t 26) (.c (.int .i64 0))⟩, ⟨some 28, none, .mv (.t 27)⟩, ⟨(some 29), (some (28, true)), (.faddr 1 (.t 1))⟩, ⟨(some 30), (some (28, true)), (.load true 2 (.t 29))⟩, ⟨(some 31), (some (28, true)), (.call 102 [(.t 30)])⟩, ⟨some 32, none, .pick (.t 28) (.t 31) (.c (.bool false))⟩, ⟨some 33, none, .mv (.t 32)⟩, ⟨(some 34), (some (33, true)), (.faddr 3 (.t 1))⟩, ⟨(some 35), (some (33, true)), (.load false 1 (.t 34))⟩, ⟨(some 36), (some (33, true)), (.bin .eql false (.t 35) (.c (.str ⟨#[]⟩)))⟩, ⟨some 37, none, .pick (.t 33) (.t 36) (.c (.bool false))⟩, ⟨some 2, none, .mv (.t 37)⟩]) .ret) (.seq (.reg [⟨some 39, none, .bin .eql false (.t 8) (.c (.int .i64 4))⟩, ⟨some 38, none, .mv (.t 39)⟩]) (.cond (.t 38) (.seq (.reg [⟨some 40, none, .mv (.t 3)⟩, ⟨some 41, none, .bin .eql false (.t 40) (.c (.int .i64 1))⟩, ⟨some 42, none, .mv (.t 41)⟩, ⟨(some 43), (some (42, true)), (.faddr 1 (.t 1))⟩, ⟨(some 44), (some (42, true)), (.load true 2 (.t 43))⟩, ⟨(some 45), (some (42, true)), (.call 101 [(.t 44)])⟩, ⟨some 46, none, .pick (.t 42) (.t 45) (.c (.bool false))⟩, ⟨some 47, none, .mv (.t 46)⟩, ⟨(some 48), (some (47, true)), (.faddr 3 (.t 1))⟩, ⟨(some 49), (some (47, true)), (.load false 1 (.t 48))⟩, ⟨(some 50), (some (47, true)), (.bin .eql false (.t 49) (.c (.str ⟨#[]⟩)))⟩, ⟨some 51, none, .pick (.t 47) (.t 50) (.c (.bool false))⟩, ⟨some 2, none, .mv (.t 51)⟩]) .ret) (.seq (.seq (.reg [⟨some 53, none, .bin .eql false (.t 8) (.c (.int .i64 5))⟩, ⟨some 52, none, .mv (.t 53)⟩]) (.cond (.t 52) .skip (.seq (.reg [⟨some 54, none, .bin .eql false (.t 8) (.c (.int .i64 6))⟩, ⟨some 52, none, .mv (.t 54)⟩]) (.cond (.t 52) .skip (.reg [⟨some 55, none, .bin .eql false (.t 8) (.c (.int .i64 7))⟩, ⟨some 52, none, .mv (.t 55)⟩]))))) (.cond (.t 52) (.seq (.reg [⟨some 56, none, .mv (.t 3)⟩, ⟨some 57, none, .bin .eql false (.t 56) (.c (.int .i64 2))⟩, ⟨some 58, none, .mv (.t 57)⟩, ⟨(some 59), (some (58, true)), (.faddr 1 (.t 1))⟩, ⟨(some 60), (some (58, true)), (.load true 2 (.t 59))⟩, ⟨(some 61), (some (58, true)), (.call 101 [(.t 60)])⟩, ⟨some 62, none, .pick (.t 58) (.t 61) (.c (.bool false))⟩, ⟨some 63, none, .mv (.t 62)⟩, ⟨(some 64), (some (63, true)), (.faddr 3 (.t 1))⟩, ⟨(some 65), (some (63, true)), (.load false 1 (.t 64))⟩, ⟨(some 66), (some (63, true)), (.bin .eql false (.t 65) (.c (.str ⟨#[]⟩)))⟩, ⟨some 67, none, .pick (.t 63) (.t 66) (.c (.bool false))⟩, ⟨some 2, none, .mv (.t 67)⟩]) .ret) (.seq (.seq (.reg [⟨some 69, none, .bin .eql false (.t 8) (.c (.int .i64 8))⟩, ⟨some 68, none, .mv (.t 69)⟩]) (.cond (.t 68) .skip (.reg [⟨some 70, none, .bin .eql false (.t 8) (.c (.int .i64 9))⟩, ⟨some 68, none, .mv (.t 70)⟩]))) (.cond (.t 68) (.seq (.reg [⟨some 71, none, .mv (.t 3)⟩, ⟨some 72, none, .bin .eql false (.t 71) (.c (.int .i64 1))⟩, ⟨some 73, none, .mv (.t 72)⟩, ⟨(some 74), (some (73, true)), (.faddr 1 (.t 1))⟩, ⟨(some 75), (some (73, true)), (.load true 2 (.t 74))⟩, ⟨(some 76), (some (73, true)), (.call 101 [(.t 75)])⟩, ⟨some 77, none, .pick (.t 73) (.t 76) (.c (.bool false))⟩, ⟨some 78, none, .mv (.t 77)⟩, ⟨(some 79), (some (78, true)), (.faddr 3 (.t 1))⟩, ⟨(some 80), (some (78, true)), (.load false 1 (.t 79))⟩, ⟨(some 81), (some (78, true)), (.call 103 [(.t 80)])⟩, ⟨some 82, none, .pick (.t 78) (.t 81) (.c (.bool false))⟩, ⟨some 2, none, .mv (.t 82)⟩]) .ret) .skip)))))))))))) (.seq (.reg [⟨some 2, none, .mv (.c (.bool false))⟩]) .ret))))
theorem k_spec_l8Form : codeOf Tryz.prog 76 = some ⟨83, c_spec_l8Form, [(.tmp 2)]⟩ := by kernel_rfl
theorem m_spec_l8Form : modes 76 = ⟨[], .asis, none, false⟩ := by unfold modes; rfl
def c_spec_l8Forms : SC := (.seq (.reg [⟨some 1, none, .boxv 34 5 (.t 0)⟩, ⟨some 2, none, .mv (.c (.bool false))⟩]) (.seq (.seq (.reg [⟨some 4, none, .load true 5 (.t 1)⟩, ⟨some 5, none, .call 76 [(.t 4)]⟩, ⟨some 6, none, .un .not (.t 5)⟩]) (.cond (.t 6) (.seq (.reg [⟨some 2, none, .mv (.c (.bool false))⟩]) .ret) .skip)) (.seq (.seq (.reg [⟨some 3, none, .mv (.c (.int .i64 0))⟩]) (.block 0 (.loop [0, 1, 0, 1, 0, 0, 0, 0, 0, 0, 0, 0, 0, 0, 0, 0, 0, 0, 0, 0, 0] (.seq (.seq (.reg [⟨some 7, none, .mv (.t 3)⟩, ⟨some 8, none, .faddr 4 (.t 1)⟩, ⟨some 9, none, .load false 1 (.t 8)⟩, ⟨some 10, none, .len false (.t 9)⟩, ⟨some 11, none, .bin .lss false (.t 7) (.t 10)⟩]) (.cond (.t 11) .skip (.exit 0))) (.seq (.block 1 (.seq (.reg [⟨some 14, none, .faddr 4 (.t 1)⟩, ⟨some 15, none, .load false 1 (.t 14)⟩, ⟨some 16, none, .mv (.t 3)⟩, ⟨some 17, none, .iaddr 5 (.t 15) (.t 16)⟩, ⟨some 18, none, .load true 5 (.t 17)⟩, ⟨some 19, none, .call 45 [(.t 18)]⟩, ⟨some 20, none, .un .not (.t 19)⟩]) (.cond (.t 20) (.seq (.reg [⟨some 2, none, .mv (.c (.bool false))⟩]) .ret) .skip))) (.reg [⟨some 12, none, .mv (.t 3)⟩, ⟨some 13, none, .bin .add false (.t 12) (.c (.int .i64 1))⟩, ⟨some 3, none, .mv (.t 13)⟩])))))) (.seq (.reg [⟨some 2, none, .mv (.c (.bool true))⟩]) .ret))))
theorem k_spec_l8Forms : codeOf Tryz.prog 45 = some ⟨21, c_spec_l8Forms, [(.tmp 2)]⟩ := by kernel_rfl
theorem m_spec_l8Forms : modes 45 = ⟨[], .asis, none, false⟩ := by unfold modes; rfl
def c_impl_IsValidFormula : SC := (.seq (.reg [⟨some 1, none, .boxv 34 5 (.t 0)⟩, ⟨some 2, none, .mv (.c (.bool false))⟩]) (.seq (.reg [⟨some 3, none, .load true 5 (.t 1)⟩, ⟨some 4, none, .call 49 [(.t 3)]⟩, ⟨some 5, none, .bin .leq false (.t 4) (.c (.int .i64 40))⟩, ⟨some 6, none, .mv (.t 5)⟩, ⟨(some 7), (some (6, true)), (.load true 5 (.t 1))⟩, ⟨(some 8), (some (6, true)), (.call 50 [(.t 7)])⟩, ⟨some 9, none, .pick (.t 6) (.t 8) (.c (.bool false))⟩, ⟨some 2, none, .mv (.t 9)⟩]) .ret))
theorem k_impl_IsValidFormula : codeOf Tryz.prog 24 = some ⟨10, c_impl_IsValidFormula, [(.tmp 2)]⟩ := by kernel_rfl
theorem m_impl_IsValidFormula : modes 24 = ⟨[], .asis, none, false⟩ := by unfold modes; rfl
def c_spec_l8Good : SC := (.seq (.reg [⟨some 1, none, .boxv 34 5 (.t 0)⟩, ⟨some 2, none, .mv (.c (.bool false))⟩]) (.seq (.reg [⟨some 3, none, .load true 5 (.t 1)⟩, ⟨some 4, none, .call 44 [(.t 3), (.c (.int .i64 40))]⟩, ⟨some 5, none, .bin .leq false (.t 4) (.c (.int .i64 40))⟩, ⟨some 6, none, .mv (.t 5)⟩, ⟨(some 7), (some (6, true)), (.load true 5 (.t 1))⟩, ⟨(some 8), (some (6, true)), (.call 45 [(.t 7)])⟩, ⟨some 9, none, .pick (.t 6) (.t 8) (.c (.bool false))⟩, ⟨some 2, none, .mv (.t 9)⟩]) .ret))
theorem k_spec_l8Good : codeOf Tryz.prog 20 = some ⟨10, c_spec_l8Good, [(.tmp 2)]⟩ := by kernel_rfl
theorem m_spec_l8Good : modes 20 = ⟨[], .asis, none, false⟩ := by unfold modes; rfl
theorem isQuantifier_E (n : Int) : E 80 [.int .i64 n] [] = some (.bool (dec (n = 8) || dec (n = 9)), []) := by
  cases h1 : dec (n = 8) with
  | true =>
    refine E_walk k_impl_isQuantifier m_impl_isQuantifier (of_decide_eq_true rfl) ?_
    simp (disch := omega) only [c_impl_isQuantifier, go_sem, go_cond, zA, zB, zC, zD, zE, zF, zG, zH, ↓reduceIte, zI, reduceCtorEq, zJ, zK, h1]
  | false =>
    refine E_walk k_impl_isQuantifier m_impl_isQuantifier (of_decide_eq_true rfl) ?_
    simp (disch := omega) only [c_impl_isQuantifier, go_sem, go_cond, zA, zB, zC, zD, zE, zF, zG, zH, ↓reduceIte, zI, reduceCtorEq, zJ, zK, h1]
theorem isBinary_E (n : Int) : E 81 [.int .i64 n] [] = some (.bool (dec (n = 5) || dec (n = 6) || dec (n = 7)), []) := by
  cases h1 : dec (n = 5) <;> cases h2 : dec (n = 6)
  all_goals
    refine E_walk k_impl_isBinary m_impl_isBinary (of_decide_eq_true rfl) ?_
    simp (disch := omega) only [c_impl_isBinary, go_sem, go_cond, zA, zB, zC, zD, zE, zF, zG, zH, ↓reduceIte, zI, reduceCtorEq, zJ, zK, h1, h2]
theorem isZeroTerm_E (x : Tm) : E 84 [x.sv] [] = some (.bool x.isZ, []) := by
  unfold Tm.isZ
  have hl : dec ((x.args.length : Int) = 0) = (x.args.length == 0) := by
    rw [dec_of]
    cases x.args <;> simp <;> omega
  cases h1 : dec (x.name = ⟨#[]⟩) with
  | true =>
    refine E_walk k_impl_isZeroTerm m_impl_isZeroTerm (of_decide_eq_true rfl) ?_
    simp (disch := omega) only [c_impl_isZeroTerm, go_sem, go_cond, zA, zB, zC, zD, zE, zF, zG, zH, ↓reduceIte, zI, reduceCtorEq, zJ, zK, h1]
    try rw [hl]
  | false =>
    refine E_walk k_impl_isZeroTerm m_impl_isZeroTerm (of_decide_eq_true rfl) ?_
    simp (disch := omega) only [c_impl_isZeroTerm, go_sem, go_cond, zA, zB, zC, zD, zE, zF, zG, zH, ↓reduceIte, zI, reduceCtorEq, zJ, zK, h1]
theorem l8None_E (x : Tm) : E 101 [x.sv] [] = some (.bool x.isZ, []) := by
  unfold Tm.isZ
  have hl : dec ((x.args.length : Int) = 0) = (x.args.length == 0) := by
    rw [dec_of]
    cases x.args <;> simp <;> omega
  cases h1 : dec (x.name = ⟨#[]⟩) with
  | true =>
    refine E_walk k_spec_l8None m_spec_l8None (of_decide_eq_true rfl) ?_
    simp (disch := omega) only [c_spec_l8None, go_sem, go_cond, zA, zB, zC, zD, zE, zF, zG, zH, ↓reduceIte, zI, reduceCtorEq, zJ, zK, h1]
    try rw [hl]
  | false =>
    refine E_walk k_spec_l8None m_spec_l8None (of_decide_eq_true rfl) ?_
    simp (disch := omega) only [c_spec_l8None, go_sem, go_cond, zA, zB, zC, zD, zE, zF, zG, zH, ↓reduceIte, zI, reduceCtorEq, zJ, zK, h1]
theorem l8Form_1 (x : Fm) (hn : x.atom.nodes ≤ 1099511627776) (ho : x.op = 1 ∨ x.op = 2) : E 76 [x.sv] [] = some (.bool x.form, []) := by
  have hf : x.form = (x.parts.length == 0 && x.atom.isZ && dec (x.var = ⟨#[]⟩)) := by unfold Fm.form; rcases ho with ho | ho <;> simp [ho]
  rcases ho with ho | ho
  all_goals
    first
      | (have o1 : dec (x.op = 1) = true := dec_t ho)
      | (have o1 : dec (x.op = 1) = false := dec_f (by omega))
    first
      | (have o2 : dec (x.op = 2) = true := dec_t ho)
      | (have o2 : dec (x.op = 2) = false := dec_f (by omega))
    have o3 : dec (x.op = 3) = false := dec_f (by omega)
    have o4 : dec (x.op = 4) = false := dec_f (by omega)
    have o5 : dec (x.op = 5) = false := dec_f (by omega)
    have o6 : dec (x.op = 6) = false := dec_f (by omega)
    have o7 : dec (x.op = 7) = false := dec_f (by omega)
    have o8 : dec (x.op = 8) = false := dec_f (by omega)
    have o9 : dec (x.op = 9) = false := dec_f (by omega)
    have ha := l8None_E x.atom
    have hv := l2Var_E x.var
    rw [hf]
    by_cases hl : x.parts.length = 0
    · have hl2 : dec ((x.parts.length : Int) = 0) = true := dec_t (by omega)
      rw [hl, beq_self_eq_true, Bool.true_and]
      cases hq : x.atom.isZ with
      | true =>
        rw [hq] at ha
        rw [Bool.true_and]
        refine E_walk k_spec_l8Form m_spec_l8Form (of_decide_eq_true rfl) ?_
        simp (disch := omega) only [c_spec_l8Form, go_sem, zA, zB, zC, zD, zE, zF, zG, zH, ↓reduceIte, zI, reduceCtorEq, zJ, zK, o1, o2, o3, o4, o5, o6, o7, o8, o9, hl2, ha, hv, m_spec_l2Atom, m_spec_l8None, m_spec_l2Var]
        repeat ((first | (refine go_condT ?_ ?_; (focus (simp (disch := omega) only [go_sem, zA, zB, zC, zD, zE, zF, zG, zH, ↓reduceIte, zI, reduceCtorEq, zJ, zK, o1, o2, o3, o4, o5, o6, o7, o8, o9, hl2, ha, hv, m_spec_l2Atom, m_spec_l8None, m_spec_l2Var]; done))) | (refine go_condF ?_ ?_; (focus (simp (disch := omega) only [go_sem, zA, zB, zC, zD, zE, zF, zG, zH, ↓reduceIte, zI, reduceCtorEq, zJ, zK, o1, o2, o3, o4, o5, o6, o7, o8, o9, hl2, ha, hv, m_spec_l2Atom, m_spec_l8None, m_spec_l2Var]; done)))); (try simp (disch := omega) only [go_sem, zA, zB, zC, zD, zE, zF, zG, zH, ↓reduceIte, zI, reduceCtorEq, zJ, zK, o1, o2, o3, o4, o5, o6, o7, o8, o9, hl2, ha, hv, m_spec_l2Atom, m_spec_l8None, m_spec_l2Var]))
      | false =>
        rw [hq] at ha
        rw [Bool.false_and]
        refine E_walk k_spec_l8Form m_spec_l8Form (of_decide_eq_true rfl) ?_
        simp (disch := omega) only [c_spec_l8Form, go_sem, zA, zB, zC, zD, zE, zF, zG, zH, ↓reduceIte, zI, reduceCtorEq, zJ, zK, o1, o2, o3, o4, o5, o6, o7, o8, o9, hl2, ha, hv, m_spec_l2Atom, m_spec_l8None, m_spec_l2Var]
        repeat ((first | (refine go_condT ?_ ?_; (focus (simp (disch := omega) only [go_sem, zA, zB, zC, zD, zE, zF, zG, zH, ↓reduceIte, zI, reduceCtorEq, zJ, zK, o1, o2, o3, o4, o5, o6, o7, o8, o9, hl2, ha, hv, m_spec_l2Atom, m_spec_l8None, m_spec_l2Var]; done))) | (refine go_condF ?_ ?_; (focus (simp (disch := omega) only [go_sem, zA, zB, zC, zD, zE, zF, zG, zH, ↓reduceIte, zI, reduceCtorEq, zJ, zK, o1, o2, o3, o4, o5, o6, o7, o8, o9, hl2, ha, hv, m_spec_l2Atom, m_spec_l8None, m_spec_l2Var]; done)))); (try simp (disch := omega) only [go_sem, zA, zB, zC, zD, zE, zF, zG, zH, ↓reduceIte, zI, reduceCtorEq, zJ, zK, o1, o2, o3, o4, o5, o6, o7, o8, o9, hl2, ha, hv, m_spec_l2Atom, m_spec_l8None, m_spec_l2Var]))
    · have hl2 : dec ((x.parts.length : Int) = 0) = false := dec_f (by omega)
      have hl3 : (x.parts.length == 0) = false := by simpa using hl
      rw [hl3, Bool.false_and, Bool.false_and]
      refine E_walk k_spec_l8Form m_spec_l8Form (of_decide_eq_true rfl) ?_
      simp (disch := omega) only [c_spec_l8Form, go_sem, zA, zB, zC, zD, zE, zF, zG, zH, ↓reduceIte, zI, reduceCtorEq, zJ, zK, o1, o2, o3, o4, o5, o6, o7, o8, o9, hl2, ha, hv, m_spec_l2Atom, m_spec_l8None, m_spec_l2Var]
      repeat ((first | (refine go_condT ?_ ?_; (focus (simp (disch := omega) only [go_sem, zA, zB, zC, zD, zE, zF, zG, zH, ↓reduceIte, zI, reduceCtorEq, zJ, zK, o1, o2, o3, o4, o5, o6, o7, o8, o9, hl2, ha, hv, m_spec_l2Atom, m_spec_l8None, m_spec_l2Var]; done))) | (refine go_condF ?_ ?_; (focus (simp (disch := omega) only [go_sem, zA, zB, zC, zD, zE, zF, zG, zH, ↓reduceIte, zI, reduceCtorEq, zJ, zK, o1, o2, o3, o4, o5, o6, o7, o8, o9, hl2, ha, hv, m_spec_l2Atom, m_spec_l8None, m_spec_l2Var]; done)))); (try simp (disch := omega) only [go_sem, zA, zB, zC, zD, zE, zF, zG, zH, ↓reduceIte, zI, reduceCtorEq, zJ, zK, o1, o2, o3, o4, o5, o6, o7, o8, o9, hl2, ha, hv, m_spec_l2Atom, m_spec_l8None, m_spec_l2Var]))
theorem l8Form_3 (x : Fm) (hn : x.atom.nodes ≤ 1099511627776) (ho : x.op = 3) : E 76 [x.sv] [] = some (.bool x.form, []) := by
  have hf : x.form = (x.parts.length == 0 && x.atom.atom && dec (x.var = ⟨#[]⟩)) := by unfold Fm.form; rcases ho with ho <;> simp [ho]
  rcases ho with ho
  all_goals
    have o1 : dec (x.op = 1) = false := dec_f (by omega)
    have o2 : dec (x.op = 2) = false := dec_f (by omega)
    have o3 : dec (x.op = 3) = true := dec_t ho
    have o4 : dec (x.op = 4) = false := dec_f (by omega)
    have o5 : dec (x.op = 5) = false := dec_f (by omega)
    have o6 : dec (x.op = 6) = false := dec_f (by omega)
    have o7 : dec (x.op = 7) = false := dec_f (by omega)
    have o8 : dec (x.op = 8) = false := dec_f (by omega)
    have o9 : dec (x.op = 9) = false := dec_f (by omega)
    have ha := l2Atom_E x.atom (by omega)
    have hv := l2Var_E x.var
    rw [hf]
    by_cases hl : x.parts.length = 0
    · have hl2 : dec ((x.parts.length : Int) = 0) = true := dec_t (by omega)
      rw [hl, beq_self_eq_true, Bool.true_and]
      cases hq : x.atom.atom with
      | true =>
        rw [hq] at ha
        rw [Bool.true_and]
        refine E_walk k_spec_l8Form m_spec_l8Form (of_decide_eq_true rfl) ?_
        simp (disch := omega) only [c_spec_l8Form, go_sem, zA, zB, zC, zD, zE, zF, zG, zH, ↓reduceIte, zI, reduceCtorEq, zJ, zK, o1, o2, o3, o4, o5, o6, o7, o8, o9, hl2, ha, hv, m_spec_l2Atom, m_spec_l8None, m_spec_l2Var]
        repeat ((first | (refine go_condT ?_ ?_; (focus (simp (disch := omega) only [go_sem, zA, zB, zC, zD, zE, zF, zG, zH, ↓reduceIte, zI, reduceCtorEq, zJ, zK, o1, o2, o3, o4, o5, o6, o7, o8, o9, hl2, ha, hv, m_spec_l2Atom, m_spec_l8None, m_spec_l2Var]; done))) | (refine go_condF ?_ ?_; (focus (simp (disch := omega) only [go_sem, zA, zB, zC, zD, zE, zF, zG, zH, ↓reduceIte, zI, reduceCtorEq, zJ, zK, o1, o2, o3, o4, o5, o6, o7, o8, o9, hl2, ha, hv, m_spec_l2Atom, m_spec_l8None, m_spec_l2Var]; done)))); (try simp (disch := omega) only [go_sem, zA, zB, zC, zD, zE, zF, zG, zH, ↓reduceIte, zI, reduceCtorEq, zJ, zK, o1, o2, o3, o4, o5, o6, o7, o8, o9, hl2, ha, hv, m_spec_l2Atom, m_spec_l8None, m_spec_l2Var]))
      | false =>
        rw [hq] at ha
        rw [Bool.false_and]
        refine E_walk k_spec_l8Form m_spec_l8Form (of_decide_eq_true rfl) ?_
        simp (disch := omega) only [c_spec_l8Form, go_sem, zA, zB, zC, zD, zE, zF, zG, zH, ↓reduceIte, zI, reduceCtorEq, zJ, zK, o1, o2, o3, o4, o5, o6, o7, o8, o9, hl2, ha, hv, m_spec_l2Atom, m_spec_l8None, m_spec_l2Var]
        repeat ((first | (refine go_condT ?_ ?_; (focus (simp (disch := omega) only [go_sem, zA, zB, zC, zD, zE, zF, zG, zH, ↓reduceIte, zI, reduceCtorEq, zJ, zK, o1, o2, o3, o4, o5, o6, o7, o8, o9, hl2, ha, hv, m_spec_l2Atom, m_spec_l8None, m_spec_l2Var]; done))) | (refine go_condF ?_ ?_; (focus (simp (disch := omega) only [go_sem, zA, zB, zC, zD, zE, zF, zG, zH, ↓reduceIte, zI, reduceCtorEq, zJ, zK, o1, o2, o3, o4, o5, o6, o7, o8, o9, hl2, ha, hv, m_spec_l2Atom, m_spec_l8None, m_spec_l2Var]; done)))); (try simp (disch := omega) only [go_sem, zA, zB, zC, zD, zE, zF, zG, zH, ↓reduceIte, zI, reduceCtorEq, zJ, zK, o1, o2, o3, o4, o5, o6, o7, o8, o9, hl2, ha, hv, m_spec_l2Atom, m_spec_l8None, m_spec_l2Var]))
    · have hl2 : dec ((x.parts.length : Int) = 0) = false := dec_f (by omega)
      have hl3 : (x.parts.length == 0) = false := by simpa using hl
      rw [hl3, Bool.false_and, Bool.false_and]
      refine E_walk k_spec_l8Form m_spec_l8Form (of_decide_eq_true rfl) ?_
      simp (disch := omega) only [c_spec_l8Form, go_sem, zA, zB, zC, zD, zE, zF, zG, zH, ↓reduceIte, zI, reduceCtorEq, zJ, zK, o1, o2, o3, o4, o5, o6, o7, o8, o9, hl2, ha, hv, m_spec_l2Atom, m_spec_l8None, m_spec_l2Var]
      repeat ((first | (refine go_condT ?_ ?_; (focus (simp (disch := omega) only [go_sem, zA, zB, zC, zD, zE, zF, zG, zH, ↓reduceIte, zI, reduceCtorEq, zJ, zK, o1, o2, o3, o4, o5, o6, o7, o8, o9, hl2, ha, hv, m_spec_l2Atom, m_spec_l8None, m_spec_l2Var]; done))) | (refine go_condF ?_ ?_; (focus (simp (disch := omega) only [go_sem, zA, zB, zC, zD, zE, zF, zG, zH, ↓reduceIte, zI, reduceCtorEq, zJ, zK, o1, o2, o3, o4, o5, o6, o7, o8, o9, hl2, ha, hv, m_spec_l2Atom, m_spec_l8None, m_spec_l2Var]; done)))); (try simp (disch := omega) only [go_sem, zA, zB, zC, zD, zE, zF, zG, zH, ↓reduceIte, zI, reduceCtorEq, zJ, zK, o1, o2, o3, o4, o5, o6, o7, o8, o9, hl2, ha, hv, m_spec_l2Atom, m_spec_l8None, m_spec_l2Var]))
theorem l8Form_4 (x : Fm) (hn : x.atom.nodes ≤ 1099511627776) (ho : x.op = 4) : E 76 [x.sv] [] = some (.bool x.form, []) := by
  have hf : x.form = (x.parts.length == 1 && x.atom.isZ && dec (x.var = ⟨#[]⟩)) := by unfold Fm.form; rcases ho with ho <;> simp [ho]
  rcases ho with ho
  all_goals
    have o1 : dec (x.op = 1) = false := dec_f (by omega)
    have o2 : dec (x.op = 2) = false := dec_f (by omega)
    have o3 : dec (x.op = 3) = false := dec_f (by omega)
    have o4 : dec (x.op = 4) = true := dec_t ho
    have o5 : dec (x.op = 5) = false := dec_f (by omega)
    have o6 : dec (x.op = 6) = false := dec_f (by omega)
    have o7 : dec (x.op = 7) = false := dec_f (by omega)
    have o8 : dec (x.op = 8) = false := dec_f (by omega)
    have o9 : dec (x.op = 9) = false := dec_f (by omega)
    have ha := l8None_E x.atom
    have hv := l2Var_E x.var
    rw [hf]
    by_cases hl : x.parts.length = 1
    · have hl2 : dec ((x.parts.length : Int) = 1) = true := dec_t (by omega)
      rw [hl, beq_self_eq_true, Bool.true_and]
      cases hq : x.atom.isZ with
      | true =>
        rw [hq] at ha
        rw [Bool.true_and]
        refine E_walk k_spec_l8Form m_spec_l8Form (of_decide_eq_true rfl) ?_
        simp (disch := omega) only [c_spec_l8Form, go_sem, zA, zB, zC, zD, zE, zF, zG, zH, ↓reduceIte, zI, reduceCtorEq, zJ, zK, o1, o2, o3, o4, o5, o6, o7, o8, o9, hl2, ha, hv, m_spec_l2Atom, m_spec_l8None, m_spec_l2Var]
        repeat ((first | (refine go_condT ?_ ?_; (focus (simp (disch := omega) only [go_sem, zA, zB, zC, zD, zE, zF, zG, zH, ↓reduceIte, zI, reduceCtorEq, zJ, zK, o1, o2, o3, o4, o5, o6, o7, o8, o9, hl2, ha, hv, m_spec_l2Atom, m_spec_l8None, m_spec_l2Var]; done))) | (refine go_condF ?_ ?_; (focus (simp (disch := omega) only [go_sem, zA, zB, zC, zD, zE, zF, zG, zH, ↓reduceIte, zI, reduceCtorEq, zJ, zK, o1, o2, o3, o4, o5, o6, o7, o8, o9, hl2, ha, hv, m_spec_l2Atom, m_spec_l8None, m_spec_l2Var]; done)))); (try simp (disch := omega) only [go_sem, zA, zB, zC, zD, zE, zF, zG, zH, ↓reduceIte, zI, reduceCtorEq, zJ, zK, o1, o2, o3, o4, o5, o6, o7, o8, o9, hl2, ha, hv, m_spec_l2Atom, m_spec_l8None, m_spec_l2Var]))
      | false =>
        rw [hq] at ha
        rw [Bool.false_and]
        refine E_walk k_spec_l8Form m_spec_l8Form (of_decide_eq_true rfl) ?_
        simp (disch := omega) only [c_spec_l8Form, go_sem, zA, zB, zC, zD, zE, zF, zG, zH, ↓reduceIte, zI, reduceCtorEq, zJ, zK, o1, o2, o3, o4, o5, o6, o7, o8, o9, hl2, ha, hv, m_spec_l2Atom, m_spec_l8None, m_spec_l2Var]
        repeat ((first | (refine go_condT ?_ ?_; (focus (simp (disch := omega) only [go_sem, zA, zB, zC, zD, zE, zF, zG, zH, ↓reduceIte, zI, reduceCtorEq, zJ, zK, o1, o2, o3, o4, o5, o6, o7, o8, o9, hl2, ha, hv, m_spec_l2Atom, m_spec_l8None, m_spec_l2Var]; done))) | (refine go_condF ?_ ?_; (focus (simp (disch := omega) only [go_sem, zA, zB, zC, zD, zE, zF, zG, zH, ↓reduceIte, zI, reduceCtorEq, zJ, zK, o1, o2, o3, o4, o5, o6, o7, o8, o9, hl2, ha, hv, m_spec_l2Atom, m_spec_l8None, m_spec_l2Var]; done)))); (try simp (disch := omega) only [go_sem, zA, zB, zC, zD, zE, zF, zG, zH, ↓reduceIte, zI, reduceCtorEq, zJ, zK, o1, o2, o3, o4, o5, o6, o7, o8, o9, hl2, ha, hv, m_spec_l2Atom, m_spec_l8None, m_spec_l2Var]))
    · have hl2 : dec ((x.parts.length : Int) = 1) = false := dec_f (by omega)
      have hl3 : (x.parts.length == 1) = false := by simpa using hl
      rw [hl3, Bool.false_and, Bool.false_and]
      refine E_walk k_spec_l8Form m_spec_l8Form (of_decide_eq_true rfl) ?_
      simp (disch := omega) only [c_spec_l8Form, go_sem, zA, zB, zC, zD, zE, zF, zG, zH, ↓reduceIte, zI, reduceCtorEq, zJ, zK, o1, o2, o3, o4, o5, o6, o7, o8, o9, hl2, ha, hv, m_spec_l2Atom, m_spec_l8None, m_spec_l2Var]
      repeat ((first | (refine go_condT ?_ ?_; (focus (simp (disch := omega) only [go_sem, zA, zB, zC, zD, zE, zF, zG, zH, ↓reduceIte, zI, reduceCtorEq, zJ, zK, o1, o2, o3, o4, o5, o6, o7, o8, o9, hl2, ha, hv, m_spec_l2Atom, m_spec_l8None, m_spec_l2Var]; done))) | (refine go_condF ?_ ?_; (focus (simp (disch := omega) only [go_sem, zA, zB, zC, zD, zE, zF, zG, zH, ↓reduceIte, zI, reduceCtorEq, zJ, zK, o1, o2, o3, o4, o5, o6, o7, o8, o9, hl2, ha, hv, m_spec_l2Atom, m_spec_l8None, m_spec_l2Var]; done)))); (try simp (disch := omega) only [go_sem, zA, zB, zC, zD, zE, zF, zG, zH, ↓reduceIte, zI, reduceCtorEq, zJ, zK, o1, o2, o3, o4, o5, o6, o7, o8, o9, hl2, ha, hv, m_spec_l2Atom, m_spec_l8None, m_spec_l2Var]))
theorem l8Form_5 (x : Fm) (hn : x.atom.nodes ≤ 1099511627776) (ho : x.op = 5 ∨ x.op = 6 ∨ x.op = 7) : E 76 [x.sv] [] = some (.bool x.form, []) := by
  have hf : x.form = (x.parts.length == 2 && x.atom.isZ && dec (x.var = ⟨#[]⟩)) := by unfold Fm.form; rcases ho with ho | ho | ho <;> simp [ho]
  rcases ho with ho | ho | ho
  all_goals
    have o1 : dec (x.op = 1) = false := dec_f (by omega)
    have o2 : dec (x.op = 2) = false := dec_f (by omega)
    have o3 : dec (x.op = 3) = false := dec_f (by omega)
    have o4 : dec (x.op = 4) = false := dec_f (by omega)
    first
      | (have o5 : dec (x.op = 5) = true := dec_t ho)
      | (have o5 : dec (x.op = 5) = false := dec_f (by omega))
    first
      | (have o6 : dec (x.op = 6) = true := dec_t ho)
      | (have o6 : dec (x.op = 6) = false := dec_f (by omega))
    first
      | (have o7 : dec (x.op = 7) = true := dec_t ho)
      | (have o7 : dec (x.op = 7) = false := dec_f (by omega))
    have o8 : dec (x.op = 8) = false := dec_f (by omega)
    have o9 : dec (x.op = 9) = false := dec_f (by omega)
    have ha := l8None_E x.atom
    have hv := l2Var_E x.var
    rw [hf]
    by_cases hl : x.parts.length = 2
    · have hl2 : dec ((x.parts.length : Int) = 2) = true := dec_t (by omega)
      rw [hl, beq_self_eq_true, Bool.true_and]
      cases hq : x.atom.isZ with
      | true =>
        rw [hq] at ha
        rw [Bool.true_and]
        refine E_walk k_spec_l8Form m_spec_l8Form (of_decide_eq_true rfl) ?_
        simp (disch := omega) only [c_spec_l8Form, go_sem, zA, zB, zC, zD, zE, zF, zG, zH, ↓reduceIte, zI, reduceCtorEq, zJ, zK, o1, o2, o3, o4, o5, o6, o7, o8, o9, hl2, ha, hv, m_spec_l2Atom, m_spec_l8None, m_spec_l2Var]
        repeat ((first | (refine go_condT ?_ ?_; (focus (simp (disch := omega) only [go_sem, zA, zB, zC, zD, zE, zF, zG, zH, ↓reduceIte, zI, reduceCtorEq, zJ, zK, o1, o2, o3, o4, o5, o6, o7, o8, o9, hl2, ha, hv, m_spec_l2Atom, m_spec_l8None, m_spec_l2Var]; done))) | (refine go_condF ?_ ?_; (focus (simp (disch := omega) only [go_sem, zA, zB, zC, zD, zE, zF, zG, zH, ↓reduceIte, zI, reduceCtorEq, zJ, zK, o1, o2, o3, o4, o5, o6, o7, o8, o9, hl2, ha, hv, m_spec_l2Atom, m_spec_l8None, m_spec_l2Var]; done)))); (try simp (disch := omega) only [go_sem, zA, zB, zC, zD, zE, zF, zG, zH, ↓reduceIte, zI, reduceCtorEq, zJ, zK, o1, o2, o3, o4, o5, o6, o7, o8, o9, hl2, ha, hv, m_spec_l2Atom, m_spec_l8None, m_spec_l2Var]))
      | false =>
        rw [hq] at ha
        rw [Bool.false_and]
        refine E_walk k_spec_l8Form m_spec_l8Form (of_decide_eq_true rfl) ?_
        simp (disch := omega) only [c_spec_l8Form, go_sem, zA, zB, zC, zD, zE, zF, zG, zH, ↓reduceIte, zI, reduceCtorEq, zJ, zK, o1, o2, o3, o4, o5, o6, o7, o8, o9, hl2, ha, hv, m_spec_l2Atom, m_spec_l8None, m_spec_l2Var]
        repeat ((first | (refine go_condT ?_ ?_; (focus (simp (disch := omega) only [go_sem, zA, zB, zC, zD, zE, zF, zG, zH, ↓reduceIte, zI, reduceCtorEq, zJ, zK, o1, o2, o3, o4, o5, o6, o7, o8, o9, hl2, ha, hv, m_spec_l2Atom, m_spec_l8None, m_spec_l2Var]; done))) | (refine go_condF ?_ ?_; (focus (simp (disch := omega) only [go_sem, zA, zB, zC, zD, zE, zF, zG, zH, ↓reduceIte, zI, reduceCtorEq, zJ, zK, o1, o2, o3, o4, o5, o6, o7, o8, o9, hl2, ha, hv, m_spec_l2Atom, m_spec_l8None, m_spec_l2Var]; done)))); (try simp (disch := omega) only [go_sem, zA, zB, zC, zD, zE, zF, zG, zH, ↓reduceIte, zI, reduceCtorEq, zJ, zK, o1, o2, o3, o4, o5, o6, o7, o8, o9, hl2, ha, hv, m_spec_l2Atom, m_spec_l8None, m_spec_l2Var]))
    · have hl2 : dec ((x.parts.length : Int) = 2) = false := dec_f (by omega)
      have hl3 : (x.parts.length == 2) = false := by simpa using hl
      rw [hl3, Bool.false_and, Bool.false_and]
      refine E_walk k_spec_l8Form m_spec_l8Form (of_decide_eq_true rfl) ?_
      simp (disch := omega) only [c_spec_l8Form, go_sem, zA, zB, zC, zD, zE, zF, zG, zH, ↓reduceIte, zI, reduceCtorEq, zJ, zK, o1, o2, o3, o4, o5, o6, o7, o8, o9, hl2, ha, hv, m_spec_l2Atom, m_spec_l8None, m_spec_l2Var]
      repeat ((first | (refine go_condT ?_ ?_; (focus (simp (disch := omega) only [go_sem, zA, zB, zC, zD, zE, zF, zG, zH, ↓reduceIte, zI, reduceCtorEq, zJ, zK, o1, o2, o3, o4, o5, o6, o7, o8, o9, hl2, ha, hv, m_spec_l2Atom, m_spec_l8None, m_spec_l2Var]; done))) | (refine go_condF ?_ ?_; (focus (simp (disch := omega) only [go_sem, zA, zB, zC, zD, zE, zF, zG, zH, ↓reduceIte, zI, reduceCtorEq, zJ, zK, o1, o2, o3, o4, o5, o6, o7, o8, o9, hl2, ha, hv, m_spec_l2Atom, m_spec_l8None, m_spec_l2Var]; done)))); (try simp (disch := omega) only [go_sem, zA, zB, zC, zD, zE, zF, zG, zH, ↓reduceIte, zI, reduceCtorEq, zJ, zK, o1, o2, o3, o4, o5, o6, o7, o8, o9, hl2, ha, hv, m_spec_l2Atom, m_spec_l8None, m_spec_l2Var]))
theorem l8Form_8 (x : Fm) (hn : x.atom.nodes ≤ 1099511627776) (ho : x.op = 8 ∨ x.op = 9) : E 76 [x.sv] [] = some (.bool x.form, []) := by
  have hf : x.form = (x.parts.length == 1 && x.atom.isZ && varB x.var) := by unfold Fm.form; rcases ho with ho | ho <;> simp [ho]
  rcases ho with ho | ho
  all_goals
    have o1 : dec (x.op = 1) = false := dec_f (by omega)
    have o2 : dec (x.op = 2) = false := dec_f (by omega)
    have o3 : dec (x.op = 3) = false := dec_f (by omega)
    have o4 : dec (x.op = 4) = false := dec_f (by omega)
    have o5 : dec (x.op = 5) = false := dec_f (by omega)
    have o6 : dec (x.op = 6) = false := dec_f (by omega)
    have o7 : dec (x.op = 7) = false := dec_f (by omega)
    first
      | (have o8 : dec (x.op = 8) = true := dec_t ho)
      | (have o8 : dec (x.op = 8) = false := dec_f (by omega))
    first
      | (have o9 : dec (x.op = 9) = true := dec_t ho)
      | (have o9 : dec (x.op = 9) = false := dec_f (by omega))
    have ha := l8None_E x.atom
    have hv := l2Var_E x.var
    rw [hf]
    by_cases hl : x.parts.length = 1
    · have hl2 : dec ((x.parts.length : Int) = 1) = true := dec_t (by omega)
      rw [hl, beq_self_eq_true, Bool.true_and]
      cases hq : x.atom.isZ with
      | true =>
        rw [hq] at ha
        rw [Bool.true_and]
        refine E_walk k_spec_l8Form m_spec_l8Form (of_decide_eq_true rfl) ?_
        simp (disch := omega) only [c_spec_l8Form, go_sem, zA, zB, zC, zD, zE, zF, zG, zH, ↓reduceIte, zI, reduceCtorEq, zJ, zK, o1, o2, o3, o4, o5, o6, o7, o8, o9, hl2, ha, hv, m_spec_l2Atom, m_spec_l8None, m_spec_l2Var]
        repeat ((first | (refine go_condT ?_ ?_; (focus (simp (disch := omega) only [go_sem, zA, zB, zC, zD, zE, zF, zG, zH, ↓reduceIte, zI, reduceCtorEq, zJ, zK, o1, o2, o3, o4, o5, o6, o7, o8, o9, hl2, ha, hv, m_spec_l2Atom, m_spec_l8None, m_spec_l2Var]; done))) | (refine go_condF ?_ ?_; (focus (simp (disch := omega) only [go_sem, zA, zB, zC, zD, zE, zF, zG, zH, ↓reduceIte, zI, reduceCtorEq, zJ, zK, o1, o2, o3, o4, o5, o6, o7, o8, o9, hl2, ha, hv, m_spec_l2Atom, m_spec_l8None, m_spec_l2Var]; done)))); (try simp (disch := omega) only [go_sem, zA, zB, zC, zD, zE, zF, zG, zH, ↓reduceIte, zI, reduceCtorEq, zJ, zK, o1, o2, o3, o4, o5, o6, o7, o8, o9, hl2, ha, hv, m_spec_l2Atom, m_spec_l8None, m_spec_l2Var]))
      | false =>
        rw [hq] at ha
        rw [Bool.false_and]
        refine E_walk k_spec_l8Form m_spec_l8Form (of_decide_eq_true rfl) ?_
        simp (disch := omega) only [c_spec_l8Form, go_sem, zA, zB, zC, zD, zE, zF, zG, zH, ↓reduceIte, zI, reduceCtorEq, zJ, zK, o1, o2, o3, o4, o5, o6, o7, o8, o9, hl2, ha, hv, m_spec_l2Atom, m_spec_l8None, m_spec_l2Var]
        repeat ((first | (refine go_condT ?_ ?_; (focus (simp (disch := omega) only [go_sem, zA, zB, zC, zD, zE, zF, zG, zH, ↓reduceIte, zI, reduceCtorEq, zJ, zK, o1, o2, o3, o4, o5, o6, o7, o8, o9, hl2, ha, hv, m_spec_l2Atom, m_spec_l8None, m_spec_l2Var]; done))) | (refine go_condF ?_ ?_; (focus (simp (disch := omega) only [go_sem, zA, zB, zC, zD, zE, zF, zG, zH, ↓reduceIte, zI, reduceCtorEq, zJ, zK, o1, o2, o3, o4, o5, o6, o7, o8, o9, hl2, ha, hv, m_spec_l2Atom, m_spec_l8None, m_spec_l2Var]; done)))); (try simp (disch := omega) only [go_sem, zA, zB, zC, zD, zE, zF, zG, zH, ↓reduceIte, zI, reduceCtorEq, zJ, zK, o1, o2, o3, o4, o5, o6, o7, o8, o9, hl2, ha, hv, m_spec_l2Atom, m_spec_l8None, m_spec_l2Var]))
    · have hl2 : dec ((x.parts.length : Int) = 1) = false := dec_f (by omega)
      have hl3 : (x.parts.length == 1) = false := by simpa using hl
      rw [hl3, Bool.false_and, Bool.false_and]
      refine E_walk k_spec_l8Form m_spec_l8Form (of_decide_eq_true rfl) ?_
      simp (disch := omega) only [c_spec_l8Form, go_sem, zA, zB, zC, zD, zE, zF, zG, zH, ↓reduceIte, zI, reduceCtorEq, zJ, zK, o1, o2, o3, o4, o5, o6, o7, o8, o9, hl2, ha, hv, m_spec_l2Atom, m_spec_l8None, m_spec_l2Var]
      repeat ((first | (refine go_condT ?_ ?_; (focus (simp (disch := omega) only [go_sem, zA, zB, zC, zD, zE, zF, zG, zH, ↓reduceIte, zI, reduceCtorEq, zJ, zK, o1, o2, o3, o4, o5, o6, o7, o8, o9, hl2, ha, hv, m_spec_l2Atom, m_spec_l8None, m_spec_l2Var]; done))) | (refine go_condF ?_ ?_; (focus (simp (disch := omega) only [go_sem, zA, zB, zC, zD, zE, zF, zG, zH, ↓reduceIte, zI, reduceCtorEq, zJ, zK, o1, o2, o3, o4, o5, o6, o7, o8, o9, hl2, ha, hv, m_spec_l2Atom, m_spec_l8None, m_spec_l2Var]; done)))); (try simp (disch := omega) only [go_sem, zA, zB, zC, zD, zE, zF, zG, zH, ↓reduceIte, zI, reduceCtorEq, zJ, zK, o1, o2, o3, o4, o5, o6, o7, o8, o9, hl2, ha, hv, m_spec_l2Atom, m_spec_l8None, m_spec_l2Var]))
theorem l8Form_E (x : Fm) (hn : x.atom.nodes ≤ 1099511627776) : E 76 [x.sv] [] = some (.bool x.form, []) := by
  rcases op_cases x.op with h | h | h | h | h | h | h | h | h | h
  · exact l8Form_1 x hn (.inl h)
  · exact l8Form_1 x hn (.inr h)
  · exact l8Form_3 x hn h
  · exact l8Form_4 x hn h
  · exact l8Form_5 x hn (.inl h)
  · exact l8Form_5 x hn (.inr (.inl h))
  · exact l8Form_5 x hn (.inr (.inr h))
  · exact l8Form_8 x hn (.inl h)
  · exact l8Form_8 x hn (.inr h)
  · obtain ⟨h1, h2, h3, h4, h5, h6, h7, h8, h9⟩ := h
    have hf : x.form = false := by unfold Fm.form; simp [h1, h2, h3, h4, h5, h6, h7, h8, h9]
    have o1 := dec_f h1
    have o2 := dec_f h2
    have o3 := dec_f h3
    have o4 := dec_f h4
    have o5 := dec_f h5
    have o6 := dec_f h6
    have o7 := dec_f h7
    have o8 := dec_f h8
    have o9 := dec_f h9
    rw [hf]
    refine E_walk k_spec_l8Form m_spec_l8Form (of_decide_eq_true rfl) ?_
    simp (disch := omega) only [c_spec_l8Form, go_sem, zA, zB, zC, zD, zE, zF, zG, zH, ↓reduceIte, zI, reduceCtorEq, zJ, zK, o1, o2, o3, o4, o5, o6, o7, o8, o9]
    repeat ((first | (refine go_condT ?_ ?_; (focus (simp (disch := omega) only [go_sem, zA, zB, zC, zD, zE, zF, zG, zH, ↓reduceIte, zI, reduceCtorEq, zJ, zK, o1, o2, o3, o4, o5, o6, o7, o8, o9]; done))) | (refine go_condF ?_ ?_; (focus (simp (disch := omega) only [go_sem, zA, zB, zC, zD, zE, zF, zG, zH, ↓reduceIte, zI, reduceCtorEq, zJ, zK, o1, o2, o3, o4, o5, o6, o7, o8, o9]; done)))); (try simp (disch := omega) only [go_sem, zA, zB, zC, zD, zE, zF, zG, zH, ↓reduceIte, zI, reduceCtorEq, zJ, zK, o1, o2, o3, o4, o5, o6, o7, o8, o9]))
set_option maxHeartbeats 1000000 in
theorem l8Forms_of (x : Fm) (ht : x.tame) (hn : x.nodes ≤ 1099511627776) (ih : ∀ y ∈ x.parts, E 45 [y.sv] [] = some (.bool y.forms, [])) : E 45 [x.sv] [] = some (.bool x.forms, []) := by
  have hl := Fm.length_le x.parts
  have hx := Fm.nodes_eq x
  have hf := l8Form_E x (Fm.tame_at ht)
  rw [Fm.forms_eq]
  cases hq : x.form with
  | false =>
    rw [hq] at hf
    rw [Bool.false_and]
    refine E_walk k_spec_l8Forms m_spec_l8Forms (of_decide_eq_true rfl) ?_
    simp (disch := omega) only [c_spec_l8Forms, go_sem, go_cond, zA, zB, zC, zD, zE, zF, zG, zH, ↓reduceIte, zI, reduceCtorEq, zJ, zK, hf, m_spec_l8Form]
  | true =>
    rw [hq] at hf
    rw [Bool.true_and]
    refine E_walk k_spec_l8Forms m_spec_l8Forms (of_decide_eq_true rfl) ?_
    simp (disch := omega) only [c_spec_l8Forms, go_sem, go_cond, zA, zB, zC, zD, zE, zF, zG, zH, ↓reduceIte, zI, reduceCtorEq, zJ, zK, hf, m_spec_l8Form]
    refine go_loop (α := Int) (fun a => ⟨slots 21 0 [(1, .ptr 0 0), (3, .int .i64 a)], [.box 34 [.int .i64 x.op, .str x.atom.name, .arr (x.atom.args.map Tm.d), .str x.var, .arr (x.parts.map Fm.d)]]⟩) (fun a => ∃ k : Nat, a = k ∧ k ≤ (x.parts).length ∧ Fm.formS (x.parts.drop k) = Fm.formS x.parts) (fun a => (x.parts).length - (a).toNat) 0 ⟨0, rfl, Nat.zero_le _, by rw [List.drop_zero]⟩ (by simp (disch := omega) only [go_sem, go_cond, zA, zB, zC, zD, zE, zF, zG, zH, ↓reduceIte, zI, reduceCtorEq, zJ, zK]) ?_
    rintro i ⟨k, hi, hk, hR⟩
    have hni : i.toNat = k := by omega
    have hni1 : (i + 1).toNat = k + 1 := by omega
    rcases Nat.lt_or_ge k (x.parts).length with hlt | hge
    · have hg := get_at Fm.d hlt
      rw [Fm.d_eq] at hg
      have hc := ih x.parts[k] (List.getElem_mem hlt)
      rw [List.drop_eq_getElem_cons hlt, Fm.formS] at hR
      cases hp : x.parts[k].forms with
      | true =>
        rw [hp] at hc hR
        rw [Bool.true_and] at hR
        simp (disch := omega) only [go_sem, go_cond, zA, zB, zC, zD, zE, zF, zG, zH, ↓reduceIte, zI, reduceCtorEq, zJ, zK, hni, hg, hc, m_spec_l8Forms]
        exact ⟨i + 1, ⟨k + 1, by omega, hlt, hR⟩, by omega, by first | trivial | rfl⟩
      | false =>
        rw [hp] at hc hR
        rw [Bool.false_and] at hR
        simp (disch := omega) only [go_sem, go_cond, zA, zB, zC, zD, zE, zF, zG, zH, ↓reduceIte, zI, reduceCtorEq, zJ, zK, hni, hg, hc, m_spec_l8Forms]
        exact hR
    · rw [List.drop_eq_nil_of_le hge, Fm.formS] at hR
      simp (disch := omega) only [go_sem, go_cond, zA, zB, zC, zD, zE, zF, zG, zH, ↓reduceIte, zI, reduceCtorEq, zJ, zK, hni]
      exact hR
theorem l8Forms_E (x : Fm) (ht : x.tame) (hn : x.nodes ≤ 1099511627776) : E 45 [x.sv] [] = some (.bool x.forms, []) :=
  l8Forms_of x ht hn fun y hy => l8Forms_E y (Fm.tame_part ht hy) (by have := Fm.nodes_mem hy; have := Fm.nodes_eq x; omega)
termination_by SizeOf.sizeOf x
decreasing_by exact Fm.lt_of_mem hy
set_option maxHeartbeats 1000000 in
theorem hasForm_1 (x : Fm) (hn : x.atom.nodes ≤ 1099511627776) (hl0 : x.parts.length ≤ 1099511627776) (ho : x.op = 1 ∨ x.op = 2) (h2 : E 63 [.arr (x.parts.map Fm.d), .fn 85 []] [] = some (.bool (x.parts.any fun y => !y.forms), [])) : E 50 [x.sv] [] = some (.bool x.forms, []) := by
  have hf : x.form = (x.parts.length == 0 && x.atom.isZ && dec (x.var = ⟨#[]⟩)) := by unfold Fm.form; rcases ho with ho | ho <;> simp [ho]
  rcases ho with ho | ho
  all_goals
    first
      | (have o1 : dec (x.op = 1) = true := dec_t ho)
      | (have o1 : dec (x.op = 1) = false := dec_f (by omega))
    first
      | (have o2 : dec (x.op = 2) = true := dec_t ho)
      | (have o2 : dec (x.op = 2) = false := dec_f (by omega))
    have o3 : dec (x.op = 3) = false := dec_f (by omega)
    have o4 : dec (x.op = 4) = false := dec_f (by omega)
    have o5 : dec (x.op = 5) = false := dec_f (by omega)
    have o6 : dec (x.op = 6) = false := dec_f (by omega)
    have o7 : dec (x.op = 7) = false := dec_f (by omega)
    have o8 : dec (x.op = 8) = false := dec_f (by omega)
    have o9 : dec (x.op = 9) = false := dec_f (by omega)
    have ha := isZeroTerm_E x.atom
    have hv := isVariable_E x.var
    have hb := isBinary_E x.op
    have hu := isQuantifier_E x.op
    rw [o5, o6, o7] at hb
    rw [o8, o9] at hu
    rw [Fm.forms_eq, hf, ← Fm.any_not]
    by_cases hl : x.parts.length = 0
    · have hl2 : dec ((x.parts.length : Int) = 0) = true := dec_t (by omega)
      rw [hl, beq_self_eq_true, Bool.true_and]
      cases hw : dec (x.var = ⟨#[]⟩) with
      | false =>
        try rw [hw] at hv
        rw [Bool.and_false, Bool.false_and]
        refine E_walk k_impl_hasForm m_impl_hasForm (of_decide_eq_true rfl) ?_
        simp (disch := omega) only [c_impl_hasForm, go_sem, zA, zB, zC, zD, zE, zF, zG, zH, ↓reduceIte, zI, reduceCtorEq, zJ, zK, o1, o2, o3, o4, o5, o6, o7, o8, o9, hl2, ha, hv, hb, hu, hw, h2, m_impl_IsValidAtom, m_impl_isZeroTerm, m_impl_isVariable, m_impl_isQuantifier, m_impl_isBinary, m_slices_ContainsFunc_impl_Formula_impl_Formula]
        repeat ((first | (refine go_condT ?_ ?_; (focus (simp (disch := omega) only [go_sem, zA, zB, zC, zD, zE, zF, zG, zH, ↓reduceIte, zI, reduceCtorEq, zJ, zK, o1, o2, o3, o4, o5, o6, o7, o8, o9, hl2, ha, hv, hb, hu, hw, h2, m_impl_IsValidAtom, m_impl_isZeroTerm, m_impl_isVariable, m_impl_isQuantifier, m_impl_isBinary, m_slices_ContainsFunc_impl_Formula_impl_Formula]; done))) | (refine go_condF ?_ ?_; (focus (simp (disch := omega) only [go_sem, zA, zB, zC, zD, zE, zF, zG, zH, ↓reduceIte, zI, reduceCtorEq, zJ, zK, o1, o2, o3, o4, o5, o6, o7, o8, o9, hl2, ha, hv, hb, hu, hw, h2, m_impl_IsValidAtom, m_impl_isZeroTerm, m_impl_isVariable, m_impl_isQuantifier, m_impl_isBinary, m_slices_ContainsFunc_impl_Formula_impl_Formula]; done)))); (try simp (disch := omega) only [go_sem, zA, zB, zC, zD, zE, zF, zG, zH, ↓reduceIte, zI, reduceCtorEq, zJ, zK, o1, o2, o3, o4, o5, o6, o7, o8, o9, hl2, ha, hv, hb, hu, hw, h2, m_impl_IsValidAtom, m_impl_isZeroTerm, m_impl_isVariable, m_impl_isQuantifier, m_impl_isBinary, m_slices_ContainsFunc_impl_Formula_impl_Formula]))
      | true =>
        try rw [hw] at hv
        rw [Bool.and_true]
        cases hq : x.atom.isZ with
        | true =>
          rw [hq] at ha
          rw [Bool.true_and]
          refine E_walk k_impl_hasForm m_impl_hasForm (of_decide_eq_true rfl) ?_
          simp (disch := omega) only [c_impl_hasForm, go_sem, zA, zB, zC, zD, zE, zF, zG, zH, ↓reduceIte, zI, reduceCtorEq, zJ, zK, o1, o2, o3, o4, o5, o6, o7, o8, o9, hl2, ha, hv, hb, hu, hw, h2, m_impl_IsValidAtom, m_impl_isZeroTerm, m_impl_isVariable, m_impl_isQuantifier, m_impl_isBinary, m_slices_ContainsFunc_impl_Formula_impl_Formula]
          repeat ((first | (refine go_condT ?_ ?_; (focus (simp (disch := omega) only [go_sem, zA, zB, zC, zD, zE, zF, zG, zH, ↓reduceIte, zI, reduceCtorEq, zJ, zK, o1, o2, o3, o4, o5, o6, o7, o8, o9, hl2, ha, hv, hb, hu, hw, h2, m_impl_IsValidAtom, m_impl_isZeroTerm, m_impl_isVariable, m_impl_isQuantifier, m_impl_isBinary, m_slices_ContainsFunc_impl_Formula_impl_Formula]; done))) | (refine go_condF ?_ ?_; (focus (simp (disch := omega) only [go_sem, zA, zB, zC, zD, zE, zF, zG, zH, ↓reduceIte, zI, reduceCtorEq, zJ, zK, o1, o2, o3, o4, o5, o6, o7, o8, o9, hl2, ha, hv, hb, hu, hw, h2, m_impl_IsValidAtom, m_impl_isZeroTerm, m_impl_isVariable, m_impl_isQuantifier, m_impl_isBinary, m_slices_ContainsFunc_impl_Formula_impl_Formula]; done)))); (try simp (disch := omega) only [go_sem, zA, zB, zC, zD, zE, zF, zG, zH, ↓reduceIte, zI, reduceCtorEq, zJ, zK, o1, o2, o3, o4, o5, o6, o7, o8, o9, hl2, ha, hv, hb, hu, hw, h2, m_impl_IsValidAtom, m_impl_isZeroTerm, m_impl_isVariable, m_impl_isQuantifier, m_impl_isBinary, m_slices_ContainsFunc_impl_Formula_impl_Formula]))
        | false =>
          rw [hq] at ha
          rw [Bool.false_and]
          refine E_walk k_impl_hasForm m_impl_hasForm (of_decide_eq_true rfl) ?_
          simp (disch := omega) only [c_impl_hasForm, go_sem, zA, zB, zC, zD, zE, zF, zG, zH, ↓reduceIte, zI, reduceCtorEq, zJ, zK, o1, o2, o3, o4, o5, o6, o7, o8, o9, hl2, ha, hv, hb, hu, hw, h2, m_impl_IsValidAtom, m_impl_isZeroTerm, m_impl_isVariable, m_impl_isQuantifier, m_impl_isBinary, m_slices_ContainsFunc_impl_Formula_impl_Formula]
          repeat ((first | (refine go_condT ?_ ?_; (focus (simp (disch := omega) only [go_sem, zA, zB, zC, zD, zE, zF, zG, zH, ↓reduceIte, zI, reduceCtorEq, zJ, zK, o1, o2, o3, o4, o5, o6, o7, o8, o9, hl2, ha, hv, hb, hu, hw, h2, m_impl_IsValidAtom, m_impl_isZeroTerm, m_impl_isVariable, m_impl_isQuantifier, m_impl_isBinary, m_slices_ContainsFunc_impl_Formula_impl_Formula]; done))) | (refine go_condF ?_ ?_; (focus (simp (disch := omega) only [go_sem, zA, zB, zC, zD, zE, zF, zG, zH, ↓reduceIte, zI, reduceCtorEq, zJ, zK, o1, o2, o3, o4, o5, o6, o7, o8, o9, hl2, ha, hv, hb, hu, hw, h2, m_impl_IsValidAtom, m_impl_isZeroTerm, m_impl_isVariable, m_impl_isQuantifier, m_impl_isBinary, m_slices_ContainsFunc_impl_Formula_impl_Formula]; done)))); (try simp (disch := omega) only [go_sem, zA, zB, zC, zD, zE, zF, zG, zH, ↓reduceIte, zI, reduceCtorEq, zJ, zK, o1, o2, o3, o4, o5, o6, o7, o8, o9, hl2, ha, hv, hb, hu, hw, h2, m_impl_IsValidAtom, m_impl_isZeroTerm, m_impl_isVariable, m_impl_isQuantifier, m_impl_isBinary, m_slices_ContainsFunc_impl_Formula_impl_Formula]))
    · have hl2 : dec ((x.parts.length : Int) = 0) = false := dec_f (by omega)
      have hl3 : (x.parts.length == 0) = false := by simpa using hl
      rw [hl3, Bool.false_and, Bool.false_and, Bool.false_and]
      refine E_walk k_impl_hasForm m_impl_hasForm (of_decide_eq_true rfl) ?_
      simp (disch := omega) only [c_impl_hasForm, go_sem, zA, zB, zC, zD, zE, zF, zG, zH, ↓reduceIte, zI, reduceCtorEq, zJ, zK, o1, o2, o3, o4, o5, o6, o7, o8, o9, hl2, ha, hv, hb, hu,  h2, m_impl_IsValidAtom, m_impl_isZeroTerm, m_impl_isVariable, m_impl_isQuantifier, m_impl_isBinary, m_slices_ContainsFunc_impl_Formula_impl_Formula]
      repeat ((first | (refine go_condT ?_ ?_; (focus (simp (disch := omega) only [go_sem, zA, zB, zC, zD, zE, zF, zG, zH, ↓reduceIte, zI, reduceCtorEq, zJ, zK, o1, o2, o3, o4, o5, o6, o7, o8, o9, hl2, ha, hv, hb, hu,  h2, m_impl_IsValidAtom, m_impl_isZeroTerm, m_impl_isVariable, m_impl_isQuantifier, m_impl_isBinary, m_slices_ContainsFunc_impl_Formula_impl_Formula]; done))) | (refine go_condF ?_ ?_; (focus (simp (disch := omega) only [go_sem, zA, zB, zC, zD, zE, zF, zG, zH, ↓reduceIte, zI, reduceCtorEq, zJ, zK, o1, o2, o3, o4, o5, o6, o7, o8, o9, hl2, ha, hv, hb, hu,  h2, m_impl_IsValidAtom, m_impl_isZeroTerm, m_impl_isVariable, m_impl_isQuantifier, m_impl_isBinary, m_slices_ContainsFunc_impl_Formula_impl_Formula]; done)))); (try simp (disch := omega) only [go_sem, zA, zB, zC, zD, zE, zF, zG, zH, ↓reduceIte, zI, reduceCtorEq, zJ, zK, o1, o2, o3, o4, o5, o6, o7, o8, o9, hl2, ha, hv, hb, hu,  h2, m_impl_IsValidAtom, m_impl_isZeroTerm, m_impl_isVariable, m_impl_isQuantifier, m_impl_isBinary, m_slices_ContainsFunc_impl_Formula_impl_Formula]))
set_option maxHeartbeats 1000000 in
theorem hasForm_3 (x : Fm) (hn : x.atom.nodes ≤ 1099511627776) (hl0 : x.parts.length ≤ 1099511627776) (ho : x.op = 3) (h2 : E 63 [.arr (x.parts.map Fm.d), .fn 85 []] [] = some (.bool (x.parts.any fun y => !y.forms), [])) : E 50 [x.sv] [] = some (.bool x.forms, []) := by
  have hf : x.form = (x.parts.length == 0 && x.atom.atom && dec (x.var = ⟨#[]⟩)) := by unfold Fm.form; rcases ho with ho <;> simp [ho]
  rcases ho with ho
  all_goals
    have o1 : dec (x.op = 1) = false := dec_f (by omega)
    have o2 : dec (x.op = 2) = false := dec_f (by omega)
    have o3 : dec (x.op = 3) = true := dec_t ho
    have o4 : dec (x.op = 4) = false := dec_f (by omega)
    have o5 : dec (x.op = 5) = false := dec_f (by omega)
    have o6 : dec (x.op = 6) = false := dec_f (by omega)
    have o7 : dec (x.op = 7) = false := dec_f (by omega)
    have o8 : dec (x.op = 8) = false := dec_f (by omega)
    have o9 : dec (x.op = 9) = false := dec_f (by omega)
    have ha := isValidAtom_E x.atom (by omega)
    have hv := isVariable_E x.var
    have hb := isBinary_E x.op
    have hu := isQuantifier_E x.op
    rw [o5, o6, o7] at hb
    rw [o8, o9] at hu
    rw [Fm.forms_eq, hf, ← Fm.any_not]
    by_cases hl : x.parts.length = 0
    · have hl2 : dec ((x.parts.length : Int) = 0) = true := dec_t (by omega)
      rw [hl, beq_self_eq_true, Bool.true_and]
      cases hw : dec (x.var = ⟨#[]⟩) with
      | false =>
        try rw [hw] at hv
        rw [Bool.and_false, Bool.false_and]
        refine E_walk k_impl_hasForm m_impl_hasForm (of_decide_eq_true rfl) ?_
        simp (disch := omega) only [c_impl_hasForm, go_sem, zA, zB, zC, zD, zE, zF, zG, zH, ↓reduceIte, zI, reduceCtorEq, zJ, zK, o1, o2, o3, o4, o5, o6, o7, o8, o9, hl2, ha, hv, hb, hu, hw, h2, m_impl_IsValidAtom, m_impl_isZeroTerm, m_impl_isVariable, m_impl_isQuantifier, m_impl_isBinary, m_slices_ContainsFunc_impl_Formula_impl_Formula]
        repeat ((first | (refine go_condT ?_ ?_; (focus (simp (disch := omega) only [go_sem, zA, zB, zC, zD, zE, zF, zG, zH, ↓reduceIte, zI, reduceCtorEq, zJ, zK, o1, o2, o3, o4, o5, o6, o7, o8, o9, hl2, ha, hv, hb, hu, hw, h2, m_impl_IsValidAtom, m_impl_isZeroTerm, m_impl_isVariable, m_impl_isQuantifier, m_impl_isBinary, m_slices_ContainsFunc_impl_Formula_impl_Formula]; done))) | (refine go_condF ?_ ?_; (focus (simp (disch := omega) only [go_sem, zA, zB, zC, zD, zE, zF, zG, zH, ↓reduceIte, zI, reduceCtorEq, zJ, zK, o1, o2, o3, o4, o5, o6, o7, o8, o9, hl2, ha, hv, hb, hu, hw, h2, m_impl_IsValidAtom, m_impl_isZeroTerm, m_impl_isVariable, m_impl_isQuantifier, m_impl_isBinary, m_slices_ContainsFunc_impl_Formula_impl_Formula]; done)))); (try simp (disch := omega) only [go_sem, zA, zB, zC, zD, zE, zF, zG, zH, ↓reduceIte, zI, reduceCtorEq, zJ, zK, o1, o2, o3, o4, o5, o6, o7, o8, o9, hl2, ha, hv, hb, hu, hw, h2, m_impl_IsValidAtom, m_impl_isZeroTerm, m_impl_isVariable, m_impl_isQuantifier, m_impl_isBinary, m_slices_ContainsFunc_impl_Formula_impl_Formula]))
      | true =>
        try rw [hw] at hv
        rw [Bool.and_true]
        cases hq : x.atom.atom with
        | true =>
          rw [hq] at ha
          rw [Bool.true_and]
          refine E_walk k_impl_hasForm m_impl_hasForm (of_decide_eq_true rfl) ?_
          simp (disch := omega) only [c_impl_hasForm, go_sem, zA, zB, zC, zD, zE, zF, zG, zH, ↓reduceIte, zI, reduceCtorEq, zJ, zK, o1, o2, o3, o4, o5, o6, o7, o8, o9, hl2, ha, hv, hb, hu, hw, h2, m_impl_IsValidAtom, m_impl_isZeroTerm, m_impl_isVariable, m_impl_isQuantifier, m_impl_isBinary, m_slices_ContainsFunc_impl_Formula_impl_Formula]
          repeat ((first | (refine go_condT ?_ ?_; (focus (simp (disch := omega) only [go_sem, zA, zB, zC, zD, zE, zF, zG, zH, ↓reduceIte, zI, reduceCtorEq, zJ, zK, o1, o2, o3, o4, o5, o6, o7, o8, o9, hl2, ha, hv, hb, hu, hw, h2, m_impl_IsValidAtom, m_impl_isZeroTerm, m_impl_isVariable, m_impl_isQuantifier, m_impl_isBinary, m_slices_ContainsFunc_impl_Formula_impl_Formula]; done))) | (refine go_condF ?_ ?_; (focus (simp (disch := omega) only [go_sem, zA, zB, zC, zD, zE, zF, zG, zH, ↓reduceIte, zI, reduceCtorEq, zJ, zK, o1, o2, o3, o4, o5, o6, o7, o8, o9, hl2, ha, hv, hb, hu, hw, h2, m_impl_IsValidAtom, m_impl_isZeroTerm, m_impl_isVariable, m_impl_isQuantifier, m_impl_isBinary, m_slices_ContainsFunc_impl_Formula_impl_Formula]; done)))); (try simp (disch := omega) only [go_sem, zA, zB, zC, zD, zE, zF, zG, zH, ↓reduceIte, zI, reduceCtorEq, zJ, zK, o1, o2, o3, o4, o5, o6, o7, o8, o9, hl2, ha, hv, hb, hu, hw, h2, m_impl_IsValidAtom, m_impl_isZeroTerm, m_impl_isVariable, m_impl_isQuantifier, m_impl_isBinary, m_slices_ContainsFunc_impl_Formula_impl_Formula]))
        | false =>
          rw [hq] at ha
          rw [Bool.false_and]
          refine E_walk k_impl_hasForm m_impl_hasForm (of_decide_eq_true rfl) ?_
          simp (disch := omega) only [c_impl_hasForm, go_sem, zA, zB, zC, zD, zE, zF, zG, zH, ↓reduceIte, zI, reduceCtorEq, zJ, zK, o1, o2, o3, o4, o5, o6, o7, o8, o9, hl2, ha, hv, hb, hu, hw, h2, m_impl_IsValidAtom, m_impl_isZeroTerm, m_impl_isVariable, m_impl_isQuantifier, m_impl_isBinary, m_slices_ContainsFunc_impl_Formula_impl_Formula]
          repeat ((first | (refine go_condT ?_ ?_; (focus (simp (disch := omega) only [go_sem, zA, zB, zC, zD, zE, zF, zG, zH, ↓reduceIte, zI, reduceCtorEq, zJ, zK, o1, o2, o3, o4, o5, o6, o7, o8, o9, hl2, ha, hv, hb, hu, hw, h2, m_impl_IsValidAtom, m_impl_isZeroTerm, m_impl_isVariable, m_impl_isQuantifier, m_impl_isBinary, m_slices_ContainsFunc_impl_Formula_impl_Formula]; done))) | (refine go_condF ?_ ?_; (focus (simp (disch := omega) only [go_sem, zA, zB, zC, zD, zE, zF, zG, zH, ↓reduceIte, zI, reduceCtorEq, zJ, zK, o1, o2, o3, o4, o5, o6, o7, o8, o9, hl2, ha, hv, hb, hu, hw, h2, m_impl_IsValidAtom, m_impl_isZeroTerm, m_impl_isVariable, m_impl_isQuantifier, m_impl_isBinary, m_slices_ContainsFunc_impl_Formula_impl_Formula]; done)))); (try simp (disch := omega) only [go_sem, zA, zB, zC, zD, zE, zF, zG, zH, ↓reduceIte, zI, reduceCtorEq, zJ, zK, o1, o2, o3, o4, o5, o6, o7, o8, o9, hl2, ha, hv, hb, hu, hw, h2, m_impl_IsValidAtom, m_impl_isZeroTerm, m_impl_isVariable, m_impl_isQuantifier, m_impl_isBinary, m_slices_ContainsFunc_impl_Formula_impl_Formula]))
    · have hl2 : dec ((x.parts.length : Int) = 0) = false := dec_f (by omega)
      have hl3 : (x.parts.length == 0) = false := by simpa using hl
      rw [hl3, Bool.false_and, Bool.false_and, Bool.false_and]
      refine E_walk k_impl_hasForm m_impl_hasForm (of_decide_eq_true rfl) ?_
      simp (disch := omega) only [c_impl_hasForm, go_sem, zA, zB, zC, zD, zE, zF, zG, zH, ↓reduceIte, zI, reduceCtorEq, zJ, zK, o1, o2, o3, o4, o5, o6, o7, o8, o9, hl2, ha, hv, hb, hu,  h2, m_impl_IsValidAtom, m_impl_isZeroTerm, m_impl_isVariable, m_impl_isQuantifier, m_impl_isBinary, m_slices_ContainsFunc_impl_Formula_impl_Formula]
      repeat ((first | (refine go_condT ?_ ?_; (focus (simp (disch := omega) only [go_sem, zA, zB, zC, zD, zE, zF, zG, zH, ↓reduceIte, zI, reduceCtorEq, zJ, zK, o1, o2, o3, o4, o5, o6, o7, o8, o9, hl2, ha, hv, hb, hu,  h2, m_impl_IsValidAtom, m_impl_isZeroTerm, m_impl_isVariable, m_impl_isQuantifier, m_impl_isBinary, m_slices_ContainsFunc_impl_Formula_impl_Formula]; done))) | (refine go_condF ?_ ?_; (focus (simp (disch := omega) only [go_sem, zA, zB, zC, zD, zE, zF, zG, zH, ↓reduceIte, zI, reduceCtorEq, zJ, zK, o1, o2, o3, o4, o5, o6, o7, o8, o9, hl2, ha, hv, hb, hu,  h2, m_impl_IsValidAtom, m_impl_isZeroTerm, m_impl_isVariable, m_impl_isQuantifier, m_impl_isBinary, m_slices_ContainsFunc_impl_Formula_impl_Formula]; done)))); (try simp (disch := omega) only [go_sem, zA, zB, zC, zD, zE, zF, zG, zH, ↓reduceIte, zI, reduceCtorEq, zJ, zK, o1, o2, o3, o4, o5, o6, o7, o8, o9, hl2, ha, hv, hb, hu,  h2, m_impl_IsValidAtom, m_impl_isZeroTerm, m_impl_isVariable, m_impl_isQuantifier, m_impl_isBinary, m_slices_ContainsFunc_impl_Formula_impl_Formula]))
set_option maxHeartbeats 1000000 in
theorem hasForm_4 (x : Fm) (hn : x.atom.nodes ≤ 1099511627776) (hl0 : x.parts.length ≤ 1099511627776) (ho : x.op = 4) (h2 : E 63 [.arr (x.parts.map Fm.d), .fn 85 []] [] = some (.bool (x.parts.any fun y => !y.forms), [])) : E 50 [x.sv] [] = some (.bool x.forms, []) := by
  have hf : x.form = (x.parts.length == 1 && x.atom.isZ && dec (x.var = ⟨#[]⟩)) := by unfold Fm.form; rcases ho with ho <;> simp [ho]
  rcases ho with ho
  all_goals
    have o1 : dec (x.op = 1) = false := dec_f (by omega)
    have o2 : dec (x.op = 2) = false := dec_f (by omega)
    have o3 : dec (x.op = 3) = false := dec_f (by omega)
    have o4 : dec (x.op = 4) = true := dec_t ho
    have o5 : dec (x.op = 5) = false := dec_f (by omega)
    have o6 : dec (x.op = 6) = false := dec_f (by omega)
    have o7 : dec (x.op = 7) = false := dec_f (by omega)
    have o8 : dec (x.op = 8) = false := dec_f (by omega)
    have o9 : dec (x.op = 9) = false := dec_f (by omega)
    have ha := isZeroTerm_E x.atom
    have hv := isVariable_E x.var
    have hb := isBinary_E x.op
    have hu := isQuantifier_E x.op
    rw [o5, o6, o7] at hb
    rw [o8, o9] at hu
    rw [Fm.forms_eq, hf, ← Fm.any_not]
    by_cases hl : x.parts.length = 1
    · have hl2 : dec ((x.parts.length : Int) = 1) = true := dec_t (by omega)
      rw [hl, beq_self_eq_true, Bool.true_and]
      cases hw : dec (x.var = ⟨#[]⟩) with
      | false =>
        try rw [hw] at hv
        rw [Bool.and_false, Bool.false_and]
        refine E_walk k_impl_hasForm m_impl_hasForm (of_decide_eq_true rfl) ?_
        simp (disch := omega) only [c_impl_hasForm, go_sem, zA, zB, zC, zD, zE, zF, zG, zH, ↓reduceIte, zI, reduceCtorEq, zJ, zK, o1, o2, o3, o4, o5, o6, o7, o8, o9, hl2, ha, hv, hb, hu, hw, h2, m_impl_IsValidAtom, m_impl_isZeroTerm, m_impl_isVariable, m_impl_isQuantifier, m_impl_isBinary, m_slices_ContainsFunc_impl_Formula_impl_Formula]
        repeat ((first | (refine go_condT ?_ ?_; (focus (simp (disch := omega) only [go_sem, zA, zB, zC, zD, zE, zF, zG, zH, ↓reduceIte, zI, reduceCtorEq, zJ, zK, o1, o2, o3, o4, o5, o6, o7, o8, o9, hl2, ha, hv, hb, hu, hw, h2, m_impl_IsValidAtom, m_impl_isZeroTerm, m_impl_isVariable, m_impl_isQuantifier, m_impl_isBinary, m_slices_ContainsFunc_impl_Formula_impl_Formula]; done))) | (refine go_condF ?_ ?_; (focus (simp (disch := omega) only [go_sem, zA, zB, zC, zD, zE, zF, zG, zH, ↓reduceIte, zI, reduceCtorEq, zJ, zK, o1, o2, o3, o4, o5, o6, o7, o8, o9, hl2, ha, hv, hb, hu, hw, h2, m_impl_IsValidAtom, m_impl_isZeroTerm, m_impl_isVariable, m_impl_isQuantifier, m_impl_isBinary, m_slices_ContainsFunc_impl_Formula_impl_Formula]; done)))); (try simp (disch := omega) only [go_sem, zA, zB, zC, zD, zE, zF, zG, zH, ↓reduceIte, zI, reduceCtorEq, zJ, zK, o1, o2, o3, o4, o5, o6, o7, o8, o9, hl2, ha, hv, hb, hu, hw, h2, m_impl_IsValidAtom, m_impl_isZeroTerm, m_impl_isVariable, m_impl_isQuantifier, m_impl_isBinary, m_slices_ContainsFunc_impl_Formula_impl_Formula]))
      | true =>
        try rw [hw] at hv
        rw [Bool.and_true]
        cases hq : x.atom.isZ with
        | true =>
          rw [hq] at ha
          rw [Bool.true_and]
          refine E_walk k_impl_hasForm m_impl_hasForm (of_decide_eq_true rfl) ?_
          simp (disch := omega) only [c_impl_hasForm, go_sem, zA, zB, zC, zD, zE, zF, zG, zH, ↓reduceIte, zI, reduceCtorEq, zJ, zK, o1, o2, o3, o4, o5, o6, o7, o8, o9, hl2, ha, hv, hb, hu, hw, h2, m_impl_IsValidAtom, m_impl_isZeroTerm, m_impl_isVariable, m_impl_isQuantifier, m_impl_isBinary, m_slices_ContainsFunc_impl_Formula_impl_Formula]
          repeat ((first | (refine go_condT ?_ ?_; (focus (simp (disch := omega) only [go_sem, zA, zB, zC, zD, zE, zF, zG, zH, ↓reduceIte, zI, reduceCtorEq, zJ, zK, o1, o2, o3, o4, o5, o6, o7, o8, o9, hl2, ha, hv, hb, hu, hw, h2, m_impl_IsValidAtom, m_impl_isZeroTerm, m_impl_isVariable, m_impl_isQuantifier, m_impl_isBinary, m_slices_ContainsFunc_impl_Formula_impl_Formula]; done))) | (refine go_condF ?_ ?_; (focus (simp (disch := omega) only [go_sem, zA, zB, zC, zD, zE, zF, zG, zH, ↓reduceIte, zI, reduceCtorEq, zJ, zK, o1, o2, o3, o4, o5, o6, o7, o8, o9, hl2, ha, hv, hb, hu, hw, h2, m_impl_IsValidAtom, m_impl_isZeroTerm, m_impl_isVariable, m_impl_isQuantifier, m_impl_isBinary, m_slices_ContainsFunc_impl_Formula_impl_Formula]; done)))); (try simp (disch := omega) only [go_sem, zA, zB, zC, zD, zE, zF, zG, zH, ↓reduceIte, zI, reduceCtorEq, zJ, zK, o1, o2, o3, o4, o5, o6, o7, o8, o9, hl2, ha, hv, hb, hu, hw, h2, m_impl_IsValidAtom, m_impl_isZeroTerm, m_impl_isVariable, m_impl_isQuantifier, m_impl_isBinary, m_slices_ContainsFunc_impl_Formula_impl_Formula]))
        | false =>
          rw [hq] at ha
          rw [Bool.false_and]
          refine E_walk k_impl_hasForm m_impl_hasForm (of_decide_eq_true rfl) ?_
          simp (disch := omega) only [c_impl_hasForm, go_sem, zA, zB, zC, zD, zE, zF, zG, zH, ↓reduceIte, zI, reduceCtorEq, zJ, zK, o1, o2, o3, o4, o5, o6, o7, o8, o9, hl2, ha, hv, hb, hu, hw, h2, m_impl_IsValidAtom, m_impl_isZeroTerm, m_impl_isVariable, m_impl_isQuantifier, m_impl_isBinary, m_slices_ContainsFunc_impl_Formula_impl_Formula]
          repeat ((first | (refine go_condT ?_ ?_; (focus (simp (disch := omega) only [go_sem, zA, zB, zC, zD, zE, zF, zG, zH, ↓reduceIte, zI, reduceCtorEq, zJ, zK, o1, o2, o3, o4, o5, o6, o7, o8, o9, hl2, ha, hv, hb, hu, hw, h2, m_impl_IsValidAtom, m_impl_isZeroTerm, m_impl_isVariable, m_impl_isQuantifier, m_impl_isBinary, m_slices_ContainsFunc_impl_Formula_impl_Formula]; done))) | (refine go_condF ?_ ?_; (focus (simp (disch := omega) only [go_sem, zA, zB, zC, zD, zE, zF, zG, zH, ↓reduceIte, zI, reduceCtorEq, zJ, zK, o1, o2, o3, o4, o5, o6, o7, o8, o9, hl2, ha, hv, hb, hu, hw, h2, m_impl_IsValidAtom, m_impl_isZeroTerm, m_impl_isVariable, m_impl_isQuantifier, m_impl_isBinary, m_slices_ContainsFunc_impl_Formula_impl_Formula]; done)))); (try simp (disch := omega) only [go_sem, zA, zB, zC, zD, zE, zF, zG, zH, ↓reduceIte, zI, reduceCtorEq, zJ, zK, o1, o2, o3, o4, o5, o6, o7, o8, o9, hl2, ha, hv, hb, hu, hw, h2, m_impl_IsValidAtom, m_impl_isZeroTerm, m_impl_isVariable, m_impl_isQuantifier, m_impl_isBinary, m_slices_ContainsFunc_impl_Formula_impl_Formula]))
    · have hl2 : dec ((x.parts.length : Int) = 1) = false := dec_f (by omega)
      have hl3 : (x.parts.length == 1) = false := by simpa using hl
      rw [hl3, Bool.false_and, Bool.false_and, Bool.false_and]
      refine E_walk k_impl_hasForm m_impl_hasForm (of_decide_eq_true rfl) ?_
      simp (disch := omega) only [c_impl_hasForm, go_sem, zA, zB, zC, zD, zE, zF, zG, zH, ↓reduceIte, zI, reduceCtorEq, zJ, zK, o1, o2, o3, o4, o5, o6, o7, o8, o9, hl2, ha, hv, hb, hu,  h2, m_impl_IsValidAtom, m_impl_isZeroTerm, m_impl_isVariable, m_impl_isQuantifier, m_impl_isBinary, m_slices_ContainsFunc_impl_Formula_impl_Formula]
      repeat ((first | (refine go_condT ?_ ?_; (focus (simp (disch := omega) only [go_sem, zA, zB, zC, zD, zE, zF, zG, zH, ↓reduceIte, zI, reduceCtorEq, zJ, zK, o1, o2, o3, o4, o5, o6, o7, o8, o9, hl2, ha, hv, hb, hu,  h2, m_impl_IsValidAtom, m_impl_isZeroTerm, m_impl_isVariable, m_impl_isQuantifier, m_impl_isBinary, m_slices_ContainsFunc_impl_Formula_impl_Formula]; done))) | (refine go_condF ?_ ?_; (focus (simp (disch := omega) only [go_sem, zA, zB, zC, zD, zE, zF, zG, zH, ↓reduceIte, zI, reduceCtorEq, zJ, zK, o1, o2, o3, o4, o5, o6, o7, o8, o9, hl2, ha, hv, hb, hu,  h2, m_impl_IsValidAtom, m_impl_isZeroTerm, m_impl_isVariable, m_impl_isQuantifier, m_impl_isBinary, m_slices_ContainsFunc_impl_Formula_impl_Formula]; done)))); (try simp (disch := omega) only [go_sem, zA, zB, zC, zD, zE, zF, zG, zH, ↓reduceIte, zI, reduceCtorEq, zJ, zK, o1, o2, o3, o4, o5, o6, o7, o8, o9, hl2, ha, hv, hb, hu,  h2, m_impl_IsValidAtom, m_impl_isZeroTerm, m_impl_isVariable, m_impl_isQuantifier, m_impl_isBinary, m_slices_ContainsFunc_impl_Formula_impl_Formula]))
set_option maxHeartbeats 1000000 in
theorem hasForm_5 (x : Fm) (hn : x.atom.nodes ≤ 1099511627776) (hl0 : x.parts.length ≤ 1099511627776) (ho : x.op = 5 ∨ x.op = 6 ∨ x.op = 7) (h2 : E 63 [.arr (x.parts.map Fm.d), .fn 85 []] [] = some (.bool (x.parts.any fun y => !y.forms), [])) : E 50 [x.sv] [] = some (.bool x.forms, []) := by
  have hf : x.form = (x.parts.length == 2 && x.atom.isZ && dec (x.var = ⟨#[]⟩)) := by unfold Fm.form; rcases ho with ho | ho | ho <;> simp [ho]
  rcases ho with ho | ho | ho
  all_goals
    have o1 : dec (x.op = 1) = false := dec_f (by omega)
    have o2 : dec (x.op = 2) = false := dec_f (by omega)
    have o3 : dec (x.op = 3) = false := dec_f (by omega)
    have o4 : dec (x.op = 4) = false := dec_f (by omega)
    first
      | (have o5 : dec (x.op = 5) = true := dec_t ho)
      | (have o5 : dec (x.op = 5) = false := dec_f (by omega))
    first
      | (have o6 : dec (x.op = 6) = true := dec_t ho)
      | (have o6 : dec (x.op = 6) = false := dec_f (by omega))
    first
      | (have o7 : dec (x.op = 7) = true := dec_t ho)
      | (have o7 : dec (x.op = 7) = false := dec_f (by omega))
    have o8 : dec (x.op = 8) = false := dec_f (by omega)
    have o9 : dec (x.op = 9) = false := dec_f (by omega)
    have ha := isZeroTerm_E x.atom
    have hv := isVariable_E x.var
    have hb := isBinary_E x.op
    have hu := isQuantifier_E x.op
    rw [o5, o6, o7] at hb
    rw [o8, o9] at hu
    rw [Fm.forms_eq, hf, ← Fm.any_not]
    by_cases hl : x.parts.length = 2
    · have hl2 : dec ((x.parts.length : Int) = 2) = true := dec_t (by omega)
      rw [hl, beq_self_eq_true, Bool.true_and]
      cases hw : dec (x.var = ⟨#[]⟩) with
      | false =>
        try rw [hw] at hv
        rw [Bool.and_false, Bool.false_and]
        refine E_walk k_impl_hasForm m_impl_hasForm (of_decide_eq_true rfl) ?_
        simp (disch := omega) only [c_impl_hasForm, go_sem, zA, zB, zC, zD, zE, zF, zG, zH, ↓reduceIte, zI, reduceCtorEq, zJ, zK, o1, o2, o3, o4, o5, o6, o7, o8, o9, hl2, ha, hv, hb, hu, hw, h2, m_impl_IsValidAtom, m_impl_isZeroTerm, m_impl_isVariable, m_impl_isQuantifier, m_impl_isBinary, m_slices_ContainsFunc_impl_Formula_impl_Formula]
        repeat ((first | (refine go_condT ?_ ?_; (focus (simp (disch := omega) only [go_sem, zA, zB, zC, zD, zE, zF, zG, zH, ↓reduceIte, zI, reduceCtorEq, zJ, zK, o1, o2, o3, o4, o5, o6, o7, o8, o9, hl2, ha, hv, hb, hu, hw, h2, m_impl_IsValidAtom, m_impl_isZeroTerm, m_impl_isVariable, m_impl_isQuantifier, m_impl_isBinary, m_slices_ContainsFunc_impl_Formula_impl_Formula]; done))) | (refine go_condF ?_ ?_; (focus (simp (disch := omega) only [go_sem, zA, zB, zC, zD, zE, zF, zG, zH, ↓reduceIte, zI, reduceCtorEq, zJ, zK, o1, o2, o3, o4, o5, o6, o7, o8, o9, hl2, ha, hv, hb, hu, hw, h2, m_impl_IsValidAtom, m_impl_isZeroTerm, m_impl_isVariable, m_impl_isQuantifier, m_impl_isBinary, m_slices_ContainsFunc_impl_Formula_impl_Formula]; done)))); (try simp (disch := omega) only [go_sem, zA, zB, zC, zD, zE, zF, zG, zH, ↓reduceIte, zI, reduceCtorEq, zJ, zK, o1, o2, o3, o4, o5, o6, o7, o8, o9, hl2, ha, hv, hb, hu, hw, h2, m_impl_IsValidAtom, m_impl_isZeroTerm, m_impl_isVariable, m_impl_isQuantifier, m_impl_isBinary, m_slices_ContainsFunc_impl_Formula_impl_Formula]))
      | true =>
        try rw [hw] at hv
        rw [Bool.and_true]
        cases hq : x.atom.isZ with
        | true =>
          rw [hq] at ha
          rw [Bool.true_and]
          refine E_walk k_impl_hasForm m_impl_hasForm (of_decide_eq_true rfl) ?_
          simp (disch := omega) only [c_impl_hasForm, go_sem, zA, zB, zC, zD, zE, zF, zG, zH, ↓reduceIte, zI, reduceCtorEq, zJ, zK, o1, o2, o3, o4, o5, o6, o7, o8, o9, hl2, ha, hv, hb, hu, hw, h2, m_impl_IsValidAtom, m_impl_isZeroTerm, m_impl_isVariable, m_impl_isQuantifier, m_impl_isBinary, m_slices_ContainsFunc_impl_Formula_impl_Formula]
          repeat ((first | (refine go_condT ?_ ?_; (focus (simp (disch := omega) only [go_sem, zA, zB, zC, zD, zE, zF, zG, zH, ↓reduceIte, zI, reduceCtorEq, zJ, zK, o1, o2, o3, o4, o5, o6, o7, o8, o9, hl2, ha, hv, hb, hu, hw, h2, m_impl_IsValidAtom, m_impl_isZeroTerm, m_impl_isVariable, m_impl_isQuantifier, m_impl_isBinary, m_slices_ContainsFunc_impl_Formula_impl_Formula]; done))) | (refine go_condF ?_ ?_; (focus (simp (disch := omega) only [go_sem, zA, zB, zC, zD, zE, zF, zG, zH, ↓reduceIte, zI, reduceCtorEq, zJ, zK, o1, o2, o3, o4, o5, o6, o7, o8, o9, hl2, ha, hv, hb, hu, hw, h2, m_impl_IsValidAtom, m_impl_isZeroTerm, m_impl_isVariable, m_impl_isQuantifier, m_impl_isBinary, m_slices_ContainsFunc_impl_Formula_impl_Formula]; done)))); (try simp (disch := omega) only [go_sem, zA, zB, zC, zD, zE, zF, zG, zH, ↓reduceIte, zI, reduceCtorEq, zJ, zK, o1, o2, o3, o4, o5, o6, o7, o8, o9, hl2, ha, hv, hb, hu, hw, h2, m_impl_IsValidAtom, m_impl_isZeroTerm, m_impl_isVariable, m_impl_isQuantifier, m_impl_isBinary, m_slices_ContainsFunc_impl_Formula_impl_Formula]))
        | false =>
          rw [hq] at ha
          rw [Bool.false_and]
          refine E_walk k_impl_hasForm m_impl_hasForm (of_decide_eq_true rfl) ?_
          simp (disch := omega) only [c_impl_hasForm, go_sem, zA, zB, zC, zD, zE, zF, zG, zH, ↓reduceIte, zI, reduceCtorEq, zJ, zK, o1, o2, o3, o4, o5, o6, o7, o8, o9, hl2, ha, hv, hb, hu, hw, h2, m_impl_IsValidAtom, m_impl_isZeroTerm, m_impl_isVariable, m_impl_isQuantifier, m_impl_isBinary, m_slices_ContainsFunc_impl_Formula_impl_Formula]
          repeat ((first | (refine go_condT ?_ ?_; (focus (simp (disch := omega) only [go_sem, zA, zB, zC, zD, zE, zF, zG, zH, ↓reduceIte, zI, reduceCtorEq, zJ, zK, o1, o2, o3, o4, o5, o6, o7, o8, o9, hl2, ha, hv, hb, hu, hw, h2, m_impl_IsValidAtom, m_impl_isZeroTerm, m_impl_isVariable, m_impl_isQuantifier, m_impl_isBinary, m_slices_ContainsFunc_impl_Formula_impl_Formula]; done))) | (refine go_condF ?_ ?_; (focus (simp (disch := omega) only [go_sem, zA, zB, zC, zD, zE, zF, zG, zH, ↓reduceIte, zI, reduceCtorEq, zJ, zK, o1, o2, o3, o4, o5, o6, o7, o8, o9, hl2, ha, hv, hb, hu, hw, h2, m_impl_IsValidAtom, m_impl_isZeroTerm, m_impl_isVariable, m_impl_isQuantifier, m_impl_isBinary, m_slices_ContainsFunc_impl_Formula_impl_Formula]; done)))); (try simp (disch := omega) only [go_sem, zA, zB, zC, zD, zE, zF, zG, zH, ↓reduceIte, zI, reduceCtorEq, zJ, zK, o1, o2, o3, o4, o5, o6, o7, o8, o9, hl2, ha, hv, hb, hu, hw, h2, m_impl_IsValidAtom, m_impl_isZeroTerm, m_impl_isVariable, m_impl_isQuantifier, m_impl_isBinary, m_slices_ContainsFunc_impl_Formula_impl_Formula]))
    · have hl2 : dec ((x.parts.length : Int) = 2) = false := dec_f (by omega)
      have hl3 : (x.parts.length == 2) = false := by simpa using hl
      rw [hl3, Bool.false_and, Bool.false_and, Bool.false_and]
      refine E_walk k_impl_hasForm m_impl_hasForm (of_decide_eq_true rfl) ?_
      simp (disch := omega) only [c_impl_hasForm, go_sem, zA, zB, zC, zD, zE, zF, zG, zH, ↓reduceIte, zI, reduceCtorEq, zJ, zK, o1, o2, o3, o4, o5, o6, o7, o8, o9, hl2, ha, hv, hb, hu,  h2, m_impl_IsValidAtom, m_impl_isZeroTerm, m_impl_isVariable, m_impl_isQuantifier, m_impl_isBinary, m_slices_ContainsFunc_impl_Formula_impl_Formula]
      repeat ((first | (refine go_condT ?_ ?_; (focus (simp (disch := omega) only [go_sem, zA, zB, zC, zD, zE, zF, zG, zH, ↓reduceIte, zI, reduceCtorEq, zJ, zK, o1, o2, o3, o4, o5, o6, o7, o8, o9, hl2, ha, hv, hb, hu,  h2, m_impl_IsValidAtom, m_impl_isZeroTerm, m_impl_isVariable, m_impl_isQuantifier, m_impl_isBinary, m_slices_ContainsFunc_impl_Formula_impl_Formula]; done))) | (refine go_condF ?_ ?_; (focus (simp (disch := omega) only [go_sem, zA, zB, zC, zD, zE, zF, zG, zH, ↓reduceIte, zI, reduceCtorEq, zJ, zK, o1, o2, o3, o4, o5, o6, o7, o8, o9, hl2, ha, hv, hb, hu,  h2, m_impl_IsValidAtom, m_impl_isZeroTerm, m_impl_isVariable, m_impl_isQuantifier, m_impl_isBinary, m_slices_ContainsFunc_impl_Formula_impl_Formula]; done)))); (try simp (disch := omega) only [go_sem, zA, zB, zC, zD, zE, zF, zG, zH, ↓reduceIte, zI, reduceCtorEq, zJ, zK, o1, o2, o3, o4, o5, o6, o7, o8, o9, hl2, ha, hv, hb, hu,  h2, m_impl_IsValidAtom, m_impl_isZeroTerm, m_impl_isVariable, m_impl_isQuantifier, m_impl_isBinary, m_slices_ContainsFunc_impl_Formula_impl_Formula]))
set_option maxHeartbeats 1000000 in
theorem hasForm_8 (x : Fm) (hn : x.atom.nodes ≤ 1099511627776) (hl0 : x.parts.length ≤ 1099511627776) (ho : x.op = 8 ∨ x.op = 9) (h2 : E 63 [.arr (x.parts.map Fm.d), .fn 85 []] [] = some (.bool (x.parts.any fun y => !y.forms), [])) : E 50 [x.sv] [] = some (.bool x.forms, []) := by
  have hf : x.form = (x.parts.length == 1 && x.atom.isZ && varB x.var) := by unfold Fm.form; rcases ho with ho | ho <;> simp [ho]
  rcases ho with ho | ho
  all_goals
    have o1 : dec (x.op = 1) = false := dec_f (by omega)
    have o2 : dec (x.op = 2) = false := dec_f (by omega)
    have o3 : dec (x.op = 3) = false := dec_f (by omega)
    have o4 : dec (x.op = 4) = false := dec_f (by omega)
    have o5 : dec (x.op = 5) = false := dec_f (by omega)
    have o6 : dec (x.op = 6) = false := dec_f (by omega)
    have o7 : dec (x.op = 7) = false := dec_f (by omega)
    first
      | (have o8 : dec (x.op = 8) = true := dec_t ho)
      | (have o8 : dec (x.op = 8) = false := dec_f (by omega))
    first
      | (have o9 : dec (x.op = 9) = true := dec_t ho)
      | (have o9 : dec (x.op = 9) = false := dec_f (by omega))
    have ha := isZeroTerm_E x.atom
    have hv := isVariable_E x.var
    have hb := isBinary_E x.op
    have hu := isQuantifier_E x.op
    rw [o5, o6, o7] at hb
    rw [o8, o9] at hu
    rw [Fm.forms_eq, hf, ← Fm.any_not]
    by_cases hl : x.parts.length = 1
    · have hl2 : dec ((x.parts.length : Int) = 1) = true := dec_t (by omega)
      rw [hl, beq_self_eq_true, Bool.true_and]
      cases hw : varB x.var with
      | false =>
        try rw [hw] at hv
        rw [Bool.and_false, Bool.false_and]
        refine E_walk k_impl_hasForm m_impl_hasForm (of_decide_eq_true rfl) ?_
        simp (disch := omega) only [c_impl_hasForm, go_sem, zA, zB, zC, zD, zE, zF, zG, zH, ↓reduceIte, zI, reduceCtorEq, zJ, zK, o1, o2, o3, o4, o5, o6, o7, o8, o9, hl2, ha, hv, hb, hu,  h2, m_impl_IsValidAtom, m_impl_isZeroTerm, m_impl_isVariable, m_impl_isQuantifier, m_impl_isBinary, m_slices_ContainsFunc_impl_Formula_impl_Formula]
        repeat ((first | (refine go_condT ?_ ?_; (focus (simp (disch := omega) only [go_sem, zA, zB, zC, zD, zE, zF, zG, zH, ↓reduceIte, zI, reduceCtorEq, zJ, zK, o1, o2, o3, o4, o5, o6, o7, o8, o9, hl2, ha, hv, hb, hu,  h2, m_impl_IsValidAtom, m_impl_isZeroTerm, m_impl_isVariable, m_impl_isQuantifier, m_impl_isBinary, m_slices_ContainsFunc_impl_Formula_impl_Formula]; done))) | (refine go_condF ?_ ?_; (focus (simp (disch := omega) only [go_sem, zA, zB, zC, zD, zE, zF, zG, zH, ↓reduceIte, zI, reduceCtorEq, zJ, zK, o1, o2, o3, o4, o5, o6, o7, o8, o9, hl2, ha, hv, hb, hu,  h2, m_impl_IsValidAtom, m_impl_isZeroTerm, m_impl_isVariable, m_impl_isQuantifier, m_impl_isBinary, m_slices_ContainsFunc_impl_Formula_impl_Formula]; done)))); (try simp (disch := omega) only [go_sem, zA, zB, zC, zD, zE, zF, zG, zH, ↓reduceIte, zI, reduceCtorEq, zJ, zK, o1, o2, o3, o4, o5, o6, o7, o8, o9, hl2, ha, hv, hb, hu,  h2, m_impl_IsValidAtom, m_impl_isZeroTerm, m_impl_isVariable, m_impl_isQuantifier, m_impl_isBinary, m_slices_ContainsFunc_impl_Formula_impl_Formula]))
      | true =>
        try rw [hw] at hv
        rw [Bool.and_true]
        cases hq : x.atom.isZ with
        | true =>
          rw [hq] at ha
          rw [Bool.true_and]
          refine E_walk k_impl_hasForm m_impl_hasForm (of_decide_eq_true rfl) ?_
          simp (disch := omega) only [c_impl_hasForm, go_sem, zA, zB, zC, zD, zE, zF, zG, zH, ↓reduceIte, zI, reduceCtorEq, zJ, zK, o1, o2, o3, o4, o5, o6, o7, o8, o9, hl2, ha, hv, hb, hu,  h2, m_impl_IsValidAtom, m_impl_isZeroTerm, m_impl_isVariable, m_impl_isQuantifier, m_impl_isBinary, m_slices_ContainsFunc_impl_Formula_impl_Formula]
          repeat ((first | (refine go_condT ?_ ?_; (focus (simp (disch := omega) only [go_sem, zA, zB, zC, zD, zE, zF, zG, zH, ↓reduceIte, zI, reduceCtorEq, zJ, zK, o1, o2, o3, o4, o5, o6, o7, o8, o9, hl2, ha, hv, hb, hu,  h2, m_impl_IsValidAtom, m_impl_isZeroTerm, m_impl_isVariable, m_impl_isQuantifier, m_impl_isBinary, m_slices_ContainsFunc_impl_Formula_impl_Formula]; done))) | (refine go_condF ?_ ?_; (focus (simp (disch := omega) only [go_sem, zA, zB, zC, zD, zE, zF, zG, zH, ↓reduceIte, zI, reduceCtorEq, zJ, zK, o1, o2, o3, o4, o5, o6, o7, o8, o9, hl2, ha, hv, hb, hu,  h2, m_impl_IsValidAtom, m_impl_isZeroTerm, m_impl_isVariable, m_impl_isQuantifier, m_impl_isBinary, m_slices_ContainsFunc_impl_Formula_impl_Formula]; done)))); (try simp (disch := omega) only [go_sem, zA, zB, zC, zD, zE, zF, zG, zH, ↓reduceIte, zI, reduceCtorEq, zJ, zK, o1, o2, o3, o4, o5, o6, o7, o8, o9, hl2, ha, hv, hb, hu,  h2, m_impl_IsValidAtom, m_impl_isZeroTerm, m_impl_isVariable, m_impl_isQuantifier, m_impl_isBinary, m_slices_ContainsFunc_impl_Formula_impl_Formula]))
        | false =>
          rw [hq] at ha
          rw [Bool.false_and]
          refine E_walk k_impl_hasForm m_impl_hasForm (of_decide_eq_true rfl) ?_
          simp (disch := omega) only [c_impl_hasForm, go_sem, zA, zB, zC, zD, zE, zF, zG, zH, ↓reduceIte, zI, reduceCtorEq, zJ, zK, o1, o2, o3, o4, o5, o6, o7, o8, o9, hl2, ha, hv, hb, hu,  h2, m_impl_IsValidAtom, m_impl_isZeroTerm, m_impl_isVariable, m_impl_isQuantifier, m_impl_isBinary, m_slices_ContainsFunc_impl_Formula_impl_Formula]
          repeat ((first | (refine go_condT ?_ ?_; (focus (simp (disch := omega) only [go_sem, zA, zB, zC, zD, zE, zF, zG, zH, ↓reduceIte, zI, reduceCtorEq, zJ, zK, o1, o2, o3, o4, o5, o6, o7, o8, o9, hl2, ha, hv, hb, hu,  h2, m_impl_IsValidAtom, m_impl_isZeroTerm, m_impl_isVariable, m_impl_isQuantifier, m_impl_isBinary, m_slices_ContainsFunc_impl_Formula_impl_Formula]; done))) | (refine go_condF ?_ ?_; (focus (simp (disch := omega) only [go_sem, zA, zB, zC, zD, zE, zF, zG, zH, ↓reduceIte, zI, reduceCtorEq, zJ, zK, o1, o2, o3, o4, o5, o6, o7, o8, o9, hl2, ha, hv, hb, hu,  h2, m_impl_IsValidAtom, m_impl_isZeroTerm, m_impl_isVariable, m_impl_isQuantifier, m_impl_isBinary, m_slices_ContainsFunc_impl_Formula_impl_Formula]; done)))); (try simp (disch := omega) only [go_sem, zA, zB, zC, zD, zE, zF, zG, zH, ↓reduceIte, zI, reduceCtorEq, zJ, zK, o1, o2, o3, o4, o5, o6, o7, o8, o9, hl2, ha, hv, hb, hu,  h2, m_impl_IsValidAtom, m_impl_isZeroTerm, m_impl_isVariable, m_impl_isQuantifier, m_impl_isBinary, m_slices_ContainsFunc_impl_Formula_impl_Formula]))
    · have hl2 : dec ((x.parts.length : Int) = 1) = false := dec_f (by omega)
      have hl3 : (x.parts.length == 1) = false := by simpa using hl
      rw [hl3, Bool.false_and, Bool.false_and, Bool.false_and]
      refine E_walk k_impl_hasForm m_impl_hasForm (of_decide_eq_true rfl) ?_
      simp (disch := omega) only [c_impl_hasForm, go_sem, zA, zB, zC, zD, zE, zF, zG, zH, ↓reduceIte, zI, reduceCtorEq, zJ, zK, o1, o2, o3, o4, o5, o6, o7, o8, o9, hl2, ha, hv, hb, hu,  h2, m_impl_IsValidAtom, m_impl_isZeroTerm, m_impl_isVariable, m_impl_isQuantifier, m_impl_isBinary, m_slices_ContainsFunc_impl_Formula_impl_Formula]
      repeat ((first | (refine go_condT ?_ ?_; (focus (simp (disch := omega) only [go_sem, zA, zB, zC, zD, zE, zF, zG, zH, ↓reduceIte, zI, reduceCtorEq, zJ, zK, o1, o2, o3, o4, o5, o6, o7, o8, o9, hl2, ha, hv, hb, hu,  h2, m_impl_IsValidAtom, m_impl_isZeroTerm, m_impl_isVariable, m_impl_isQuantifier, m_impl_isBinary, m_slices_ContainsFunc_impl_Formula_impl_Formula]; done))) | (refine go_condF ?_ ?_; (focus (simp (disch := omega) only [go_sem, zA, zB, zC, zD, zE, zF, zG, zH, ↓reduceIte, zI, reduceCtorEq, zJ, zK, o1, o2, o3, o4, o5, o6, o7, o8, o9, hl2, ha, hv, hb, hu,  h2, m_impl_IsValidAtom, m_impl_isZeroTerm, m_impl_isVariable, m_impl_isQuantifier, m_impl_isBinary, m_slices_ContainsFunc_impl_Formula_impl_Formula]; done)))); (try simp (disch := omega) only [go_sem, zA, zB, zC, zD, zE, zF, zG, zH, ↓reduceIte, zI, reduceCtorEq, zJ, zK, o1, o2, o3, o4, o5, o6, o7, o8, o9, hl2, ha, hv, hb, hu,  h2, m_impl_IsValidAtom, m_impl_isZeroTerm, m_impl_isVariable, m_impl_isQuantifier, m_impl_isBinary, m_slices_ContainsFunc_impl_Formula_impl_Formula]))
theorem hasForm_of (x : Fm) (ht : x.tame) (hn : x.nodes ≤ 1099511627776) (ih : ∀ y ∈ x.parts, E 50 [y.sv] [] = some (.bool y.forms, [])) : E 50 [x.sv] [] = some (.bool x.forms, []) := by
  have hl := Fm.length_le x.parts
  have hx := Fm.nodes_eq x
  have ha := Fm.tame_at ht
  have h1 : ∀ y ∈ x.parts, E 85 [y.sv] [] = some (.bool (!y.forms), []) := fun y hy => by
    have h := ih y hy
    refine E_walk k_impl_hasForm_1 m_impl_hasForm_1 (of_decide_eq_true rfl) ?_
    simp (disch := omega) only [c_impl_hasForm_1, go_sem, go_cond, zA, zB, zC, zD, zE, zF, zG, zH, ↓reduceIte, zI, reduceCtorEq, zJ, zK, h, m_impl_hasForm]
  have h2 := containsFunc_forms 85 (fun y => !y.forms) x.parts (by omega) g_impl_hasForm_1 (by rw [m_impl_hasForm_1]) h1
  rcases op_cases x.op with h | h | h | h | h | h | h | h | h | h
  · exact hasForm_1 x ha (by omega) (.inl h) h2
  · exact hasForm_1 x ha (by omega) (.inr h) h2
  · exact hasForm_3 x ha (by omega) h h2
  · exact hasForm_4 x ha (by omega) h h2
  · exact hasForm_5 x ha (by omega) (.inl h) h2
  · exact hasForm_5 x ha (by omega) (.inr (.inl h)) h2
  · exact hasForm_5 x ha (by omega) (.inr (.inr h)) h2
  · exact hasForm_8 x ha (by omega) (.inl h) h2
  · exact hasForm_8 x ha (by omega) (.inr h) h2
  · obtain ⟨k1, k2, k3, k4, k5, k6, k7, k8, k9⟩ := h
    have hf : x.form = false := by unfold Fm.form; simp [k1, k2, k3, k4, k5, k6, k7, k8, k9]
    have o1 := dec_f k1
    have o2 := dec_f k2
    have o3 := dec_f k3
    have o4 := dec_f k4
    have o5 := dec_f k5
    have o6 := dec_f k6
    have o7 := dec_f k7
    have o8 := dec_f k8
    have o9 := dec_f k9
    have hb := isBinary_E x.op
    have hu := isQuantifier_E x.op
    rw [o5, o6, o7] at hb
    rw [o8, o9] at hu
    rw [Fm.forms_eq, hf, Bool.false_and]
    refine E_walk k_impl_hasForm m_impl_hasForm (of_decide_eq_true rfl) ?_
    simp (disch := omega) only [c_impl_hasForm, go_sem, zA, zB, zC, zD, zE, zF, zG, zH, ↓reduceIte, zI, reduceCtorEq, zJ, zK, o1, o2, o3, o4, o5, o6, o7, o8, o9, hb, hu, m_impl_isQuantifier, m_impl_isBinary]
    repeat ((first | (refine go_condT ?_ ?_; (focus (simp (disch := omega) only [go_sem, zA, zB, zC, zD, zE, zF, zG, zH, ↓reduceIte, zI, reduceCtorEq, zJ, zK, o1, o2, o3, o4, o5, o6, o7, o8, o9, hb, hu, m_impl_isQuantifier, m_impl_isBinary]; done))) | (refine go_condF ?_ ?_; (focus (simp (disch := omega) only [go_sem, zA, zB, zC, zD, zE, zF, zG, zH, ↓reduceIte, zI, reduceCtorEq, zJ, zK, o1, o2, o3, o4, o5, o6, o7, o8, o9, hb, hu, m_impl_isQuantifier, m_impl_isBinary]; done)))); (try simp (disch := omega) only [go_sem, zA, zB, zC, zD, zE, zF, zG, zH, ↓reduceIte, zI, reduceCtorEq, zJ, zK, o1, o2, o3, o4, o5, o6, o7, o8, o9, hb, hu, m_impl_isQuantifier, m_impl_isBinary]))
theorem hasForm_E (x : Fm) (ht : x.tame) (hn : x.nodes ≤ 1099511627776) : E 50 [x.sv] [] = some (.bool x.forms, []) :=
  hasForm_of x ht hn fun y hy => hasForm_E y (Fm.tame_part ht hy) (by have := Fm.nodes_mem hy; have := Fm.nodes_eq x; omega)
termination_by SizeOf.sizeOf x
decreasing_by exact Fm.lt_of_mem hy
theorem isValidFormula_E (x : Fm) (ht : x.tame) (hn : x.nodes ≤ 1099511627776) : E 24 [x.sv] [] = some (.bool x.valid, []) := by
  have h1 := sizeF_E x hn
  have h2 := hasForm_E x ht hn
  have h3 := Fm.cap_spec x
  unfold Fm.valid
  rcases Nat.lt_or_ge 40 x.nodes with h5 | h5
  · rw [decide_eq_false (by omega), Bool.false_and]
    have d : dec (x.cap ≤ 40) = false := dec_f (by omega)
    refine E_walk k_impl_IsValidFormula m_impl_IsValidFormula (of_decide_eq_true rfl) ?_
    simp (disch := omega) only [c_impl_IsValidFormula, go_sem, go_cond, zA, zB, zC, zD, zE, zF, zG, zH, ↓reduceIte, zI, reduceCtorEq, zJ, zK, h1, h2, d, m_impl_sizeOf, m_impl_hasForm]
  · rw [decide_eq_true h5, Bool.true_and]
    have d : dec (x.cap ≤ 40) = true := dec_t (by omega)
    refine E_walk k_impl_IsValidFormula m_impl_IsValidFormula (of_decide_eq_true rfl) ?_
    simp (disch := omega) only [c_impl_IsValidFormula, go_sem, go_cond, zA, zB, zC, zD, zE, zF, zG, zH, ↓reduceIte, zI, reduceCtorEq, zJ, zK, h1, h2, d, m_impl_sizeOf, m_impl_hasForm]
theorem l8Good_E (x : Fm) (ht : x.tame) (hn : x.nodes ≤ 1099511627776) : E 20 [x.sv] [] = some (.bool x.valid, []) := by
  have h1 := manyF_E x 40 (by omega) (by omega) hn
  have h2 := l8Forms_E x ht hn
  have h3 := Fm.many_spec x 40
  unfold Fm.valid
  rcases Nat.lt_or_ge 40 x.nodes with h5 | h5
  · rw [decide_eq_false (by omega), Bool.false_and]
    have d : dec ((x.many 40) ≤ 40) = false := dec_f (by omega)
    refine E_walk k_spec_l8Good m_spec_l8Good (of_decide_eq_true rfl) ?_
    simp (disch := omega) only [c_spec_l8Good, go_sem, go_cond, zA, zB, zC, zD, zE, zF, zG, zH, ↓reduceIte, zI, reduceCtorEq, zJ, zK, h1, h2, d, m_spec_l8Many, m_spec_l8Forms]
  · rw [decide_eq_true h5, Bool.true_and]
    have d : dec ((x.many 40) ≤ 40) = true := dec_t (by omega)
    refine E_walk k_spec_l8Good m_spec_l8Good (of_decide_eq_true rfl) ?_
    simp (disch := omega) only [c_spec_l8Good, go_sem, go_cond, zA, zB, zC, zD, zE, zF, zG, zH, ↓reduceIte, zI, reduceCtorEq, zJ, zK, h1, h2, d, m_spec_l8Many, m_spec_l8Forms]
def Fm.osh (x : Fm) : List OT := [.int x.op, .str x.atom.name, .sh (x.atom.args.map Tm.d), .str x.var, .sh (x.parts.map Fm.d)]
theorem Fm.osh_eq (x : Fm) : x.osh = [.int x.op, .str x.atom.name, .sh (x.atom.args.map Tm.d), .str x.var, .sh (x.parts.map Fm.d)] := rfl
theorem Fm.osh_full : ∀ xs : List Fm, OT.fullss (xs.map Fm.osh) = true
  | [] => rfl
  | x :: xs => by simp only [List.map_cons, OT.fullss, Fm.osh, OT.fulls, OT.full, Fm.osh_full xs, Bool.and_self]
theorem Fm.osh_er : ∀ xs : List Fm, OT.erss (xs.map Fm.osh) = xs.map Fm.d
  | [] => rfl
  | x :: xs => by simp only [List.map_cons, OT.erss, Fm.osh, OT.ers, OT.er, Fm.osh_er xs, Fm.d_eq]
def c_impl_mapParts : SC := (.seq (.reg [⟨some 2, none, .boxv 34 5 (.t 0)⟩, ⟨(some 4), none, (.alloc 34 [(.int .i64 0), (.str ⟨#[]⟩), .nil, (.str ⟨#[]⟩), .nil])⟩]) (.seq (.dreg [[], [0], [], [2], [3, 2], [], [5], [1, 0, 4, 3, 2, 6, 5], [], [8, 7, 1, 0, 4, 3, 2, 6, 5]] [⟨some 8, none, .faddr 0 (.t 2)⟩, ⟨some 9, none, .load false 1 (.t 8)⟩, ⟨some 10, none, .faddr 1 (.t 2)⟩, ⟨some 11, none, .load true 2 (.t 10)⟩, ⟨some 12, none, .call 98 [(.t 11)]⟩, ⟨some 13, none, .faddr 3 (.t 2)⟩, ⟨some 14, none, .load false 1 (.t 13)⟩, ⟨(some 15), none, (.build [(.int .i64 0), (.str ⟨#[]⟩), .nil, (.str ⟨#[]⟩), .nil] [(0, (1, (.t 9))), (1, (2, (.t 12))), (3, (1, (.t 14)))])⟩, ⟨(some 5), none, (.alloc 34 [(.int .i64 0), (.str ⟨#[]⟩), .nil, (.str ⟨#[]⟩), .nil])⟩, ⟨none, none, (.store 5 (.t 5) (.t 15))⟩]) (.seq (.seq (.reg [⟨some 16, none, .faddr 4 (.t 2)⟩, ⟨some 17, none, .load false 1 (.t 16)⟩, ⟨some 18, none, .len false (.t 17)⟩, ⟨some 19, none, .mv (.c (.int .i64 0))⟩]) (.block 0 (.loop [0, 1, 0, 0, 1, 1, 0, 0, 0, 0, 0, 0, 0, 0, 0, 0, 0, 1, 1, 1, 0, 0, 0, 0, 0, 0, 0, 0, 0, 0, 0, 0, 0] (.seq (.reg [⟨some 20, none, .bin .lss false (.t 19) (.t 18)⟩]) (.seq (.cond (.t 20) .skip (.exit 0)) (.seq (.block 1 (.seq (.reg [⟨some 21, none, .iaddr 5 (.t 17) (.t 19)⟩, ⟨some 22, none, .load true 5 (.t 21)⟩, ⟨(some 7), none, (.alloc 34 [(.int .i64 0), (.str ⟨#[]⟩), .nil, (.str ⟨#[]⟩), .nil])⟩, ⟨none, none, (.store 5 (.t 7) (.t 22))⟩]) (.dreg [[], [0], [], [], [2, 3], [4, 2, 3], [1, 0, 5, 4, 2, 3], [0, 1, 2, 3, 4, 5, 6], [7, 0, 1, 2, 3, 4, 5, 6]] [⟨some 23, none, .faddr 4 (.t 5)⟩, ⟨some 24, none, .load false 1 (.t 23)⟩, ⟨some 25, none, .mv (.t 1)⟩, ⟨some 26, none, .load true 5 (.t 7)⟩, ⟨some 27, none, .callv (.t 25) [(.t 26)]⟩, ⟨(some 28), none, (.mkrow 34 5 [(.int .i64 0), (.str ⟨#[]⟩), .nil, (.str ⟨#[]⟩), .nil] 1 [(0, (.t 27))])⟩, ⟨(some 29), none, (.append 34 5 88 [(.int .i64 0), (.str ⟨#[]⟩), .nil, (.str ⟨#[]⟩), .nil] (.t 24) (.t 28))⟩, ⟨some 30, none, .faddr 4 (.t 5)⟩, ⟨none, none, (.store 1 (.t 30) (.t 29))⟩]))) (.reg [⟨some 31, none, .bin .add false (.t 19) (.c (.int .i64 1))⟩, ⟨some 19, none, .mv (.t 31)⟩]))))))) (.seq (.reg [⟨some 32, none, .load true 5 (.t 5)⟩, ⟨none, none, (.store 5 (.t 4) (.t 32))⟩]) .ret))))
theorem k_impl_mapParts : codeOf Tryz.prog 74 = some ⟨33, c_impl_mapParts, [(.cell 4 true 5)]⟩ := by kernel_rfl
theorem m_impl_mapParts : modes 74 = ⟨[], .own [none, none, some (31, 2), none, some (34, 5)], none, false⟩ := by unfold modes; rfl
theorem cloneS_E (xs : List ByteArray) (h : xs.length ≤ 1048576) : E 39 [.arr (xs.map fun s => [D.str s])] [] = some (.ref 0, [.row 9 1 (xs.map fun s => [OT.str s])]) := by
  rw [E_extO (g := cloneS) (by unfold modes; rfl)]
  unfold cloneS
  simp only
  rw [dec_t ⟨fun e he => by obtain ⟨s, _, rfl⟩ := List.mem_map.1 he; exact ⟨s, rfl⟩, by simpa using h⟩, cond_true, List.map_map]
  rfl
theorem m_slices_Clone_string_string : modes 39 = ⟨[], .asis, some cloneS, false⟩ := by unfold modes; rfl
theorem vars_of_atom {x : Fm} (h : x.form = true) (ho : x.op = 3) : E 97 [x.atom.sv] [] = some (.ref 0, [.row 9 1 ((insA [] x.atom.vs).map fun s => [OT.str s])]) := by
  have ha := (Fm.form_atom h ho).2.1
  have hn := Tm.atom_nodes ha
  have h1 := variables_of x.atom (collectA_E x.atom ha) (by omega)
  have e : x.atom.vars = insA [] x.atom.vs := srtB_insA _
  rw [e] at h1
  exact h1
theorem addA_filter (b acc : List ByteArray) (n : ByteArray) (ns : List ByteArray) : addA acc ((n :: ns).filter fun m => !dec (m ∈ b)) = addA (bif dec (n ∈ b) then acc else addU acc n) (ns.filter fun m => !dec (m ∈ b)) := by
  rw [List.filter_cons]
  cases dec (n ∈ b) with
  | true => rfl
  | false => rfl
def c_impl_gather : SC := (.seq (.reg [⟨some 4, none, .boxv 34 5 (.t 1)⟩, ⟨some 6, none, .mv (.c .nil)⟩]) (.seq (.seq (.reg [⟨some 11, none, .faddr 0 (.t 4)⟩, ⟨some 12, none, .load false 1 (.t 11)⟩, ⟨some 13, none, .bin .eql false (.t 12) (.c (.int .i64 3))⟩]) (.cond (.t 13) (.seq (.seq (.reg [⟨some 14, none, .faddr 1 (.t 4)⟩, ⟨some 15, none, .load true 2 (.t 14)⟩, ⟨some 16, none, .call 97 [(.t 15)]⟩, ⟨some 17, none, .len false (.t 16)⟩, ⟨some 18, none, .mv (.c (.int .i64 0))⟩]) (.block 0 (.loop [1, 0, 1, 0, 0, 0, 0, 0, 0, 0, 0, 0, 0, 0, 0, 0, 1, 1, 1, 0, 0, 0, 0, 0, 0, 0, 0, 0, 0, 0, 0, 0, 0, 0, 0, 0, 0, 0, 0, 0, 0, 0, 0, 0, 0, 0, 0, 0, 0, 0, 0, 0, 0, 0, 0, 0, 0, 0, 0, 0] (.seq (.reg [⟨some 19, none, .bin .lss false (.t 18) (.t 17)⟩]) (.seq (.cond (.t 19) .skip (.exit 0)) (.seq (.block 1 (.seq (.reg [⟨some 20, none, .iaddr 1 (.t 16) (.t 18)⟩, ⟨some 21, none, .load false 1 (.t 20)⟩, ⟨some 8, none, .mv (.t 21)⟩]) (.seq (.reg [⟨some 22, none, .mv (.t 2)⟩, ⟨some 23, none, .mv (.t 8)⟩, ⟨some 24, none, .call 96 [(.t 22), (.t 23)]⟩, ⟨some 25, none, .un .not (.t 24)⟩, ⟨some 26, none, .mv (.t 25)⟩, ⟨(some 27), (some (26, true)), (.mv (.t 0))⟩, ⟨(some 28), (some (26, true)), (.mv (.t 8))⟩, ⟨(some 29), (some (26, true)), (.call 96 [(.t 27), (.t 28)])⟩, ⟨(some 30), (some (26, true)), (.un .not (.t 29))⟩, ⟨some 31, none, .pick (.t 26) (.t 30) (.c (.bool false))⟩]) (.cond (.t 31) (.reg [⟨some 32, none, .mv (.t 0)⟩, ⟨some 33, none, .mv (.t 8)⟩, ⟨(some 34), none, (.mkrow 9 1 [(.str ⟨#[]⟩)] 1 [(0, (.t 33))])⟩, ⟨(some 35), none, (.append 9 1 16 [(.str ⟨#[]⟩)] (.t 32) (.t 34))⟩, ⟨some 0, none, .mv (.t 35)⟩]) .skip)))) (.reg [⟨some 36, none, .bin .add false (.t 18) (.c (.int .i64 1))⟩, ⟨some 18, none, .mv (.t 36)⟩]))))))) (.seq (.reg [⟨some 37, none, .mv (.t 0)⟩, ⟨some 6, none, .mv (.t 37)⟩]) .ret)) .skip)) (.seq (.seq (.reg [⟨some 38, none, .faddr 0 (.t 4)⟩, ⟨some 39, none, .load false 1 (.t 38)⟩, ⟨some 40, none, .call 80 [(.t 39)]⟩]) (.cond (.t 40) (.dreg [[], [0], [], [2], [3, 2], [1, 0, 4, 3, 2], [5, 1, 0, 4, 3, 2]] [⟨some 41, none, .mv (.t 2)⟩, ⟨some 42, none, .call 39 [(.t 41)]⟩, ⟨some 43, none, .faddr 3 (.t 4)⟩, ⟨some 44, none, .load false 1 (.t 43)⟩, ⟨(some 45), none, (.mkrow 9 1 [(.str ⟨#[]⟩)] 1 [(0, (.t 44))])⟩, ⟨(some 46), none, (.append 9 1 16 [(.str ⟨#[]⟩)] (.t 42) (.t 45))⟩, ⟨some 2, none, .mv (.t 46)⟩]) .skip)) (.seq (.seq (.reg [⟨some 47, none, .faddr 4 (.t 4)⟩, ⟨some 48, none, .load false 1 (.t 47)⟩, ⟨some 49, none, .len false (.t 48)⟩, ⟨some 50, none, .mv (.c (.int .i64 0))⟩]) (.block 2 (.loop [1, 0, 1, 0, 0, 0, 0, 0, 0, 0, 0, 0, 0, 0, 0, 0, 0, 0, 0, 0, 0, 0, 0, 0, 0, 0, 0, 0, 0, 0, 0, 0, 0, 0, 0, 0, 0, 0, 0, 0, 0, 0, 0, 0, 0, 0, 0, 0, 1, 1, 1, 0, 0, 0, 0, 0, 0, 0, 0, 0] (.seq (.reg [⟨some 51, none, .bin .lss false (.t 50) (.t 49)⟩]) (.seq (.cond (.t 51) .skip (.exit 2)) (.seq (.block 3 (.seq (.reg [⟨some 52, none, .iaddr 5 (.t 48) (.t 50)⟩, ⟨some 53, none, .load true 5 (.t 52)⟩, ⟨(some 10), none, (.alloc 34 [(.int .i64 0), (.str ⟨#[]⟩), .nil, (.str ⟨#[]⟩), .nil])⟩, ⟨none, none, (.store 5 (.t 10) (.t 53))⟩]) (.reg [⟨some 54, none, .mv (.t 0)⟩, ⟨some 55, none, .load true 5 (.t 10)⟩, ⟨some 56, none, .mv (.t 2)⟩, ⟨some 57, none, .call 67 [(.t 54), (.t 55), (.t 56)]⟩, ⟨some 0, none, .mv (.t 57)⟩]))) (.reg [⟨some 58, none, .bin .add false (.t 50) (.c (.int .i64 1))⟩, ⟨some 50, none, .mv (.t 58)⟩]))))))) (.seq (.reg [⟨some 59, none, .mv (.t 0)⟩, ⟨some 6, none, .mv (.t 59)⟩]) .ret)))))
theorem k_impl_gather : codeOf Tryz.prog 67 = some ⟨60, c_impl_gather, [(.tmp 6)]⟩ := by kernel_rfl
theorem m_impl_gather : modes 67 = ⟨[true], .asis, none, false⟩ := by unfold modes; rfl
def c_impl_free : SC := (.seq (.reg [⟨some 1, none, .boxv 34 5 (.t 0)⟩, ⟨some 2, none, .mv (.c .nil)⟩]) (.seq (.reg [⟨(some 4), none, (.mkrow 9 1 [(.str ⟨#[]⟩)] 0 [])⟩, ⟨some 5, none, .load true 5 (.t 1)⟩, ⟨some 6, none, .call 67 [(.t 4), (.t 5), (.c .nil)]⟩, ⟨some 3, none, .mv (.t 6)⟩]) (.seq (.reg [⟨some 7, none, .mv (.t 3)⟩, ⟨some 8, none, .call 61 [(.t 7)]⟩]) (.seq (.reg [⟨some 9, none, .mv (.t 3)⟩, ⟨some 2, none, .mv (.t 9)⟩]) .ret))))
theorem k_impl_free : codeOf Tryz.prog 40 = some ⟨10, c_impl_free, [(.tmp 2)]⟩ := by kernel_rfl
theorem m_impl_free : modes 40 = ⟨[], .asis, none, false⟩ := by unfold modes; rfl
abbrev GatC (x : Fm) : Prop := ∀ l b : List ByteArray, l.length + x.vn ≤ 1048576 → b.length + x.nodes ≤ 1048576 → E 67 [.ref 0, x.sv, .arr (b.map fun s => [D.str s])] [.row 9 1 (l.map fun s => [OT.str s])] = some ((bif dec (l.length < (addA l (x.fv b)).length) then .ref 1 else .ref 0), (bif dec (l.length < (addA l (x.fv b)).length) then [.gone, .row 9 1 ((addA l (x.fv b)).map fun s => [OT.str s])] else [.row 9 1 ((addA l (x.fv b)).map fun s => [OT.str s])]))
set_option maxHeartbeats 8000000 in
theorem gather_of (x : Fm) (hx : x.forms = true) (ih : ∀ y ∈ x.parts, GatC y) : GatC x := by
  intro l b hn hb
  have hfo := Fm.forms_form hx
  have hvn := Fm.vn_eq x
  have hnd := Fm.nodes_eq x
  have hpl := Fm.length_le x.parts
  have hfv := Fm.fv_eq x b
  have hat := Fm.atom_le hfo
  have hgl : dec (l.length < l.length) = false := dec_f (by omega)
  have hxs : x.sv = .agg [.int .i64 x.op, .str x.atom.name, .arr (x.atom.args.map Tm.d), .str x.var, .arr (x.parts.map Fm.d)] := rfl
  have has : x.atom.sv = .agg [.str x.atom.name, .arr (x.atom.args.map Tm.d)] := rfl
  cases ho : dec (x.op = 3) with
  | true =>
    rw [ho] at hfv
    simp only [cond_true] at hfv
    have hv := vars_of_atom hfo (dec_iff.1 ho)
    have hil := insA_len x.atom.vs []
    have hvl := Tm.vs_len x.atom
    simp only [List.length_nil] at hil
    obtain ⟨ns, hns⟩ : ∃ ns, ns = insA [] x.atom.vs := ⟨_, rfl⟩
    rw [← hns] at hv hfv hil
    rw [hfv]
    refine E_walk k_impl_gather m_impl_gather (of_decide_eq_true rfl) ?_
    simp (disch := omega) only [c_impl_gather, go_sem, go_cond, zA, zB, zC, zD, zE, zF, zG, zH, ↓reduceIte, zI, reduceCtorEq, zJ, zK, ho, hv, m_impl_variables]
    refine go_loop (α := Int × (List ByteArray)) (fun a => ⟨slots 60 0 [(0, (bif dec (l.length < (a.2).length) then .ref 1 else .ref 0)), (2, .arr (b.map fun s => [D.str s])), (16, (bif dec (l.length < (a.2).length) then .ref 2 else .ref 1)), (17, .int .i64 ns.length), (18, .int .i64 (a.1))], (bif dec (l.length < (a.2).length) then [.gone, .row 9 1 ((a.2).map fun s => [OT.str s]), .row 9 1 (ns.map fun s => [OT.str s])] else [.row 9 1 ((a.2).map fun s => [OT.str s]), .row 9 1 (ns.map fun s => [OT.str s])])⟩) (fun a => ∃ k : Nat, a.1 = k ∧ k ≤ (ns).length ∧ addA (a.2) ((ns.drop k).filter fun m => !dec (m ∈ b)) = addA l (ns.filter fun m => !dec (m ∈ b)) ∧ (a.2).length + (ns.length - k) ≤ 1048576 ∧ l.length ≤ (a.2).length) (fun a => (ns).length - (a.1).toNat) (0, l) ⟨0, rfl, Nat.zero_le _, by rw [List.drop_zero], by dsimp only; omega, Nat.le_refl _⟩ (by simp (disch := omega) only [go_sem, go_cond, zA, zB, zC, zD, zE, zF, zG, zH, ↓reduceIte, zI, reduceCtorEq, zJ, zK, hgl]) ?_
    rintro ⟨i, acc⟩ ⟨k, hi, hk, hR⟩
    dsimp only at hi hR
    have hni : i.toNat = k := by omega
    have hni1 : (i + 1).toNat = k + 1 := by omega
    rcases Nat.lt_or_ge k (ns).length with hlt | hge
    · have hg : (ns.map fun s => [OT.str s])[k]? = some [OT.str ns[k]] := by rw [List.getElem?_map, List.getElem?_eq_getElem hlt]; rfl
      obtain ⟨hR1, hR2, hR3⟩ := hR
      rw [List.drop_eq_getElem_cons hlt, addA_filter] at hR1
      have c1 := containsS_E b ns[k] (by omega)
      have c2 := containsS_E acc ns[k] (by omega)
      rcases Nat.lt_or_ge l.length acc.length with q1 | q1
      all_goals
        cases hq : dec (ns[k] ∈ b) with
        | true =>
          rw [hq] at c1 hR1
          simp only [cond_true] at hR1
          simp (disch := omega) only [go_sem, go_cond, zA, zB, zC, zD, zE, zF, zG, zH, ↓reduceIte, zI, reduceCtorEq, zJ, zK, hni, hg, c1, c2, m_slices_Contains_string_string]
          refine ⟨(i + 1, acc), ⟨k + 1, by dsimp only; omega, hlt, hR1, by dsimp only; omega, by dsimp only; omega⟩, by dsimp only; omega, ?_⟩
          first | done | simp (disch := omega) only [go_sem, go_cond, zA, zB, zC, zD, zE, zF, zG, zH, ↓reduceIte, zI, reduceCtorEq, zJ, zK]
        | false =>
          rw [hq] at c1 hR1
          simp only [cond_false] at hR1
          cases hm : dec (ns[k] ∈ acc) with
          | true =>
            have e2 : addU acc ns[k] = acc := by unfold addU; rw [hm]; rfl
            rw [hm] at c2
            rw [e2] at hR1
            simp (disch := omega) only [go_sem, go_cond, zA, zB, zC, zD, zE, zF, zG, zH, ↓reduceIte, zI, reduceCtorEq, zJ, zK, hni, hg, c1, c2, m_slices_Contains_string_string]
            refine ⟨(i + 1, acc), ⟨k + 1, by dsimp only; omega, hlt, hR1, by dsimp only; omega, by dsimp only; omega⟩, by dsimp only; omega, ?_⟩
            first | done | simp (disch := omega) only [go_sem, go_cond, zA, zB, zC, zD, zE, zF, zG, zH, ↓reduceIte, zI, reduceCtorEq, zJ, zK]
          | false =>
            have e2 : addU acc ns[k] = acc ++ [ns[k]] := by unfold addU; rw [hm]; rfl
            have hl1 : (acc.map fun s => [OT.str s]) ++ [[OT.str ns[k]]] = (acc ++ [ns[k]]).map fun s => [OT.str s] := by simp
            have q2 : dec (l.length < (acc ++ [ns[k]]).length) = true := dec_t (by simp; omega)
            rw [hm] at c2
            rw [e2] at hR1
            simp (disch := omega) only [go_sem, go_cond, zA, zB, zC, zD, zE, zF, zG, zH, ↓reduceIte, zI, reduceCtorEq, zJ, zK, hni, hg, c1, c2, hl1, m_slices_Contains_string_string]
            refine ⟨(i + 1, acc ++ [ns[k]]), ⟨k + 1, by dsimp only; omega, hlt, hR1, by simp; omega, by simp; omega⟩, by dsimp only; omega, ?_⟩
            first | done | simp (disch := omega) only [go_sem, go_cond, zA, zB, zC, zD, zE, zF, zG, zH, ↓reduceIte, zI, reduceCtorEq, zJ, zK, q2, hl1]
    · rw [List.drop_eq_nil_of_le hge] at hR
      obtain ⟨hR1, hR2, hR3⟩ := hR
      have hR1 : acc = _ := hR1
      rw [← hR1]
      rcases Nat.lt_or_ge l.length acc.length with q1 | q1
      · simp (disch := omega) only [go_sem, go_cond, zA, zB, zC, zD, zE, zF, zG, zH, ↓reduceIte, zI, reduceCtorEq, zJ, zK, hni]
      · simp (disch := omega) only [go_sem, go_cond, zA, zB, zC, zD, zE, zF, zG, zH, ↓reduceIte, zI, reduceCtorEq, zJ, zK, hni]
  | false =>
    rw [ho] at hfv
    simp only [cond_false] at hfv
    have hu := isQuantifier_E x.op
    cases hq : qB x.op with
    | false =>
      rw [hq] at hfv
      simp only [cond_false] at hfv
      rw [hfv]
      unfold qB at hq
      rw [hq] at hu
      obtain ⟨b', hb'⟩ : ∃ b', b' = b := ⟨_, rfl⟩
      have hbl : b'.length ≤ b.length + 1 := by rw [hb']; omega
      rw [← hb']
      refine E_walk k_impl_gather m_impl_gather (of_decide_eq_true rfl) ?_
      simp (disch := omega) only [c_impl_gather, go_sem, go_cond, zA, zB, zC, zD, zE, zF, zG, zH, ↓reduceIte, zI, reduceCtorEq, zJ, zK, ho, hu, m_impl_isQuantifier]
      refine go_loop (α := Int × (List ByteArray)) (fun a => ⟨slots 60 0 [(0, (bif dec (l.length < (a.2).length) then .ref 1 else .ref 0)), (2, .arr (b'.map fun s => [D.str s])), (48, .arr (x.parts.map Fm.d)), (49, .int .i64 x.parts.length), (50, .int .i64 (a.1))], (bif dec (l.length < (a.2).length) then [.gone, .row 9 1 ((a.2).map fun s => [OT.str s])] else [.row 9 1 ((a.2).map fun s => [OT.str s])])⟩) (fun a => ∃ k : Nat, a.1 = k ∧ k ≤ (x.parts).length ∧ addA (a.2) (Fm.fvL (x.parts.drop k) b') = addA l (Fm.fvL x.parts b') ∧ (a.2).length + Fm.vnS (x.parts.drop k) ≤ 1048576 ∧ l.length ≤ (a.2).length) (fun a => (x.parts).length - (a.1).toNat) (0, l) ⟨0, rfl, Nat.zero_le _, by rw [List.drop_zero], by rw [List.drop_zero]; dsimp only; omega, Nat.le_refl _⟩ (by simp (disch := omega) only [go_sem, go_cond, zA, zB, zC, zD, zE, zF, zG, zH, ↓reduceIte, zI, reduceCtorEq, zJ, zK, hgl]) ?_
      rintro ⟨i, acc⟩ ⟨k, hi, hk, hR⟩
      dsimp only at hi hR
      have hni : i.toNat = k := by omega
      have hni1 : (i + 1).toNat = k + 1 := by omega
      rcases Nat.lt_or_ge k (x.parts).length with hlt | hge
      · have hg := get_at Fm.d hlt
        rw [Fm.d_eq] at hg
        obtain ⟨hR1, hR2, hR3⟩ := hR
        rw [List.drop_eq_getElem_cons hlt, Fm.fvL, addA_app] at hR1
        rw [List.drop_eq_getElem_cons hlt, Fm.vnS] at hR2
        have hnm := Fm.nodes_le x.parts k hlt
        have hc := ih x.parts[k] (List.getElem_mem hlt) acc b' (by omega) (by omega)
        have hlen := addA_len (x.parts[k].fv b') acc
        have hgr := addA_grow (x.parts[k].fv b') acc
        have hvl := Fm.fv_len x.parts[k] b'
        obtain ⟨acc2, ha2⟩ : ∃ a, a = addA acc (x.parts[k].fv b') := ⟨_, rfl⟩
        rw [← ha2] at hc hlen hgr hR1
        rcases Nat.lt_or_ge l.length acc.length with q1 | q1 <;> rcases Nat.lt_or_ge acc.length acc2.length with q2 | q2
        all_goals
          first
            | rw [dec_t q2] at hc
            | rw [dec_f (Nat.not_lt.2 q2)] at hc
          simp only [cond_true, cond_false] at hc
          simp (disch := omega) only [go_sem, go_cond, zA, zB, zC, zD, zE, zF, zG, zH, ↓reduceIte, zI, reduceCtorEq, zJ, zK, hni, hg, hc, m_impl_gather]
          refine ⟨(i + 1, acc2), ⟨k + 1, by dsimp only; omega, hlt, hR1, by dsimp only; omega, by dsimp only; omega⟩, by dsimp only; omega, ?_⟩
          first | done | simp (disch := omega) only [go_sem, go_cond, zA, zB, zC, zD, zE, zF, zG, zH, ↓reduceIte, zI, reduceCtorEq, zJ, zK]
      · rw [List.drop_eq_nil_of_le hge, Fm.fvL] at hR
        obtain ⟨hR1, hR2, hR3⟩ := hR
        have hR1 : acc = _ := hR1
        rw [← hR1]
        rcases Nat.lt_or_ge l.length acc.length with q1 | q1
        · simp (disch := omega) only [go_sem, go_cond, zA, zB, zC, zD, zE, zF, zG, zH, ↓reduceIte, zI, reduceCtorEq, zJ, zK, hni]
        · simp (disch := omega) only [go_sem, go_cond, zA, zB, zC, zD, zE, zF, zG, zH, ↓reduceIte, zI, reduceCtorEq, zJ, zK, hni]
    | true =>
      rw [hq] at hfv
      simp only [cond_true] at hfv
      rw [hfv]
      unfold qB at hq
      rw [hq] at hu
      have hcl := cloneS_E b (by omega)
      have hl1 : (b.map fun s => [OT.str s]) ++ [[OT.str x.var]] = (b ++ [x.var]).map fun s => [OT.str s] := by simp
      obtain ⟨b', hb'⟩ : ∃ b', b' = b ++ [x.var] := ⟨_, rfl⟩
      have hbl : b'.length ≤ b.length + 1 := by rw [hb']; simp
      rw [← hb'] at hl1
      rw [← hb']
      refine E_walk k_impl_gather m_impl_gather (of_decide_eq_true rfl) ?_
      simp (disch := omega) only [c_impl_gather, go_sem, go_cond, zA, zB, zC, zD, zE, zF, zG, zH, ↓reduceIte, zI, reduceCtorEq, zJ, zK, ho, hu, hcl, hl1, m_impl_isQuantifier, m_slices_Clone_string_string]
      refine go_loop (α := Int × (List ByteArray)) (fun a => ⟨slots 60 0 [(0, (bif dec (l.length < (a.2).length) then .ref 1 else .ref 0)), (2, (bif dec (l.length < (a.2).length) then .ref 2 else .ref 1)), (48, .arr (x.parts.map Fm.d)), (49, .int .i64 x.parts.length), (50, .int .i64 (a.1))], (bif dec (l.length < (a.2).length) then [.gone, .row 9 1 ((a.2).map fun s => [OT.str s]), .row 9 1 (b'.map fun s => [OT.str s])] else [.row 9 1 ((a.2).map fun s => [OT.str s]), .row 9 1 (b'.map fun s => [OT.str s])])⟩) (fun a => ∃ k : Nat, a.1 = k ∧ k ≤ (x.parts).length ∧ addA (a.2) (Fm.fvL (x.parts.drop k) b') = addA l (Fm.fvL x.parts b') ∧ (a.2).length + Fm.vnS (x.parts.drop k) ≤ 1048576 ∧ l.length ≤ (a.2).length) (fun a => (x.parts).length - (a.1).toNat) (0, l) ⟨0, rfl, Nat.zero_le _, by rw [List.drop_zero], by rw [List.drop_zero]; dsimp only; omega, Nat.le_refl _⟩ (by simp (disch := omega) only [go_sem, go_cond, zA, zB, zC, zD, zE, zF, zG, zH, ↓reduceIte, zI, reduceCtorEq, zJ, zK, hgl]) ?_
      rintro ⟨i, acc⟩ ⟨k, hi, hk, hR⟩
      dsimp only at hi hR
      have hni : i.toNat = k := by omega
      have hni1 : (i + 1).toNat = k + 1 := by omega
      rcases Nat.lt_or_ge k (x.parts).length with hlt | hge
      · have hg := get_at Fm.d hlt
        rw [Fm.d_eq] at hg
        obtain ⟨hR1, hR2, hR3⟩ := hR
        rw [List.drop_eq_getElem_cons hlt, Fm.fvL, addA_app] at hR1
        rw [List.drop_eq_getElem_cons hlt, Fm.vnS] at hR2
        have hnm := Fm.nodes_le x.parts k hlt
        have hc := ih x.parts[k] (List.getElem_mem hlt) acc b' (by omega) (by omega)
        have hlen := addA_len (x.parts[k].fv b') acc
        have hgr := addA_grow (x.parts[k].fv b') acc
        have hvl := Fm.fv_len x.parts[k] b'
        obtain ⟨acc2, ha2⟩ : ∃ a, a = addA acc (x.parts[k].fv b') := ⟨_, rfl⟩
        rw [← ha2] at hc hlen hgr hR1
        rcases Nat.lt_or_ge l.length acc.length with q1 | q1 <;> rcases Nat.lt_or_ge acc.length acc2.length with q2 | q2
        all_goals
          first
            | rw [dec_t q2] at hc
            | rw [dec_f (Nat.not_lt.2 q2)] at hc
          simp only [cond_true, cond_false] at hc
          simp (disch := omega) only [go_sem, go_cond, zA, zB, zC, zD, zE, zF, zG, zH, ↓reduceIte, zI, reduceCtorEq, zJ, zK, hni, hg, hc, m_impl_gather]
          refine ⟨(i + 1, acc2), ⟨k + 1, by dsimp only; omega, hlt, hR1, by dsimp only; omega, by dsimp only; omega⟩, by dsimp only; omega, ?_⟩
          first | done | simp (disch := omega) only [go_sem, go_cond, zA, zB, zC, zD, zE, zF, zG, zH, ↓reduceIte, zI, reduceCtorEq, zJ, zK]
      · rw [List.drop_eq_nil_of_le hge, Fm.fvL] at hR
        obtain ⟨hR1, hR2, hR3⟩ := hR
        have hR1 : acc = _ := hR1
        rw [← hR1]
        rcases Nat.lt_or_ge l.length acc.length with q1 | q1
        · simp (disch := omega) only [go_sem, go_cond, zA, zB, zC, zD, zE, zF, zG, zH, ↓reduceIte, zI, reduceCtorEq, zJ, zK, hni]
        · simp (disch := omega) only [go_sem, go_cond, zA, zB, zC, zD, zE, zF, zG, zH, ↓reduceIte, zI, reduceCtorEq, zJ, zK, hni]
theorem gather_E (x : Fm) (hx : x.forms = true) : GatC x :=
  gather_of x hx fun y hy => gather_E y (Fm.forms_part hx hy)
termination_by SizeOf.sizeOf x
decreasing_by exact Fm.lt_of_mem hy
theorem free_E (x : Fm) (hx : x.forms = true) (hv : x.vn ≤ 1048576) (hn : x.nodes ≤ 1048576) : E 40 [x.sv] [] = some (.ref 0, [.row 9 1 (x.free.map fun s => [OT.str s])]) := by
  have h1 := gather_E x hx [] [] (by simpa using hv) (by simpa using hn)
  have hl := addA_len (x.fv []) []
  have hfl := Fm.fv_len x []
  rw [List.length_nil, Nat.zero_add] at hl
  have h2 := sortS_E (addA [] (x.fv [])) (by omega)
  rw [srtB_insA] at h2
  rw [List.map_nil, List.map_nil, List.length_nil] at h1
  unfold Fm.free
  have hxs : x.sv = .agg [.int .i64 x.op, .str x.atom.name, .arr (x.atom.args.map Tm.d), .str x.var, .arr (x.parts.map Fm.d)] := rfl
  rcases Nat.lt_or_ge 0 (addA [] (x.fv [])).length with q | q
  · rw [dec_t q] at h1
    simp only [cond_true] at h1
    refine E_walk k_impl_free m_impl_free (of_decide_eq_true rfl) ?_
    simp (disch := omega) only [c_impl_free, go_sem, go_cond, zA, zB, zC, zD, zE, zF, zG, zH, ↓reduceIte, zI, reduceCtorEq, zJ, zK, h1, h2, m_impl_gather, m_slices_Sort_string_string]
  · rw [dec_f (by omega)] at h1
    simp only [cond_false] at h1
    refine E_walk k_impl_free m_impl_free (of_decide_eq_true rfl) ?_
    simp (disch := omega) only [c_impl_free, go_sem, go_cond, zA, zB, zC, zD, zE, zF, zG, zH, ↓reduceIte, zI, reduceCtorEq, zJ, zK, h1, h2, m_impl_gather, m_slices_Sort_string_string]
def c_spec_l2In : SC := (.seq (.reg [⟨some 4, none, .mv (.c (.bool false))⟩]) (.seq (.seq (.reg [⟨some 5, none, .mv (.c (.int .i64 0))⟩]) (.block 0 (.loop [1, 1, 0, 0, 0, 1, 0, 0, 0, 0, 0, 0, 0, 0, 0, 0, 0, 0] (.seq (.seq (.reg [⟨some 6, none, .mv (.t 5)⟩, ⟨some 7, none, .mv (.t 0)⟩, ⟨some 8, none, .len false (.t 7)⟩, ⟨some 9, none, .bin .lss false (.t 6) (.t 8)⟩]) (.cond (.t 9) .skip (.exit 0))) (.seq (.block 1 (.seq (.reg [⟨some 12, none, .mv (.t 0)⟩, ⟨some 13, none, .mv (.t 5)⟩, ⟨some 14, none, .iaddr 1 (.t 12) (.t 13)⟩, ⟨some 15, none, .load false 1 (.t 14)⟩, ⟨some 16, none, .mv (.t 1)⟩, ⟨some 17, none, .bin .eql false (.t 15) (.t 16)⟩]) (.cond (.t 17) (.seq (.reg [⟨some 4, none, .mv (.c (.bool true))⟩]) .ret) .skip))) (.reg [⟨some 10, none, .mv (.t 5)⟩, ⟨some 11, none, .bin .add false (.t 10) (.c (.int .i64 1))⟩, ⟨some 5, none, .mv (.t 11)⟩])))))) (.seq (.reg [⟨some 4, none, .mv (.c (.bool false))⟩]) .ret)))
theorem k_spec_l2In : codeOf Tryz.prog 56 = some ⟨18, c_spec_l2In, [(.tmp 4)]⟩ := by kernel_rfl
theorem m_spec_l2In : modes 56 = ⟨[], .asis, none, false⟩ := by unfold modes; rfl
theorem l2In_E (xs : List ByteArray) (n : ByteArray) (hl : xs.length ≤ 1099511627776) : E 56 [.arr (xs.map fun s => [D.str s]), .str n] [] = some (.bool (dec (n ∈ xs)), []) := by
  refine E_walk k_spec_l2In m_spec_l2In (of_decide_eq_true rfl) ?_
  simp (disch := omega) only [c_spec_l2In, go_sem, go_cond, zA, zB, zC, zD, zE, zF, zG, zH, ↓reduceIte, zI, reduceCtorEq, zJ, zK]
  refine go_loop (α := Int) (fun a => ⟨slots 18 0 [(0, .arr (xs.map fun s => [D.str s])), (1, .str n), (5, .int .i64 a)], []⟩) (fun a => ∃ k : Nat, a = k ∧ k ≤ (xs).length ∧ dec (n ∈ xs.drop k) = dec (n ∈ xs)) (fun a => (xs).length - (a).toNat) 0 ⟨0, rfl, Nat.zero_le _, by rw [List.drop_zero]⟩ (by simp (disch := omega) only [go_sem, go_cond, zA, zB, zC, zD, zE, zF, zG, zH, ↓reduceIte, zI, reduceCtorEq, zJ, zK]) ?_
  rintro i ⟨k, hi, hk, hR⟩
  have hni : i.toNat = k := by omega
  have hni1 : (i + 1).toNat = k + 1 := by omega
  rcases Nat.lt_or_ge k (xs).length with hlt | hge
  · have hg := get_at (fun s => [D.str s]) hlt
    rw [List.drop_eq_getElem_cons hlt] at hR
    by_cases hp : xs[k] = n
    · have hq := eq_true hp
      have ht : dec (n ∈ xs) = true := dec_t (hp ▸ List.getElem_mem hlt)
      simp (disch := omega) only [go_sem, go_cond, zA, zB, zC, zD, zE, zF, zG, zH, ↓reduceIte, zI, reduceCtorEq, zJ, zK, hni, hg, hq]
      exact ht.symm
    · have hq := eq_false hp
      have hR : dec (n ∈ xs.drop (k + 1)) = dec (n ∈ xs) := by
        rw [← hR]
        exact dec_ii (by simp only [List.mem_cons]; exact ⟨.inr, fun h => h.elim (fun e => absurd e.symm hp) id⟩)
      simp (disch := omega) only [go_sem, go_cond, zA, zB, zC, zD, zE, zF, zG, zH, ↓reduceIte, zI, reduceCtorEq, zJ, zK, hni, hg, hq]
      exact ⟨i + 1, ⟨k + 1, by omega, hlt, hR⟩, by omega, by first | trivial | rfl⟩
  · rw [List.drop_eq_nil_of_le hge, dec_f (by simp)] at hR
    simp (disch := omega) only [go_sem, go_cond, zA, zB, zC, zD, zE, zF, zG, zH, ↓reduceIte, zI, reduceCtorEq, zJ, zK, hni]
    exact hR
end Go.Proofs.YtihclcmgbkkhfaaGreatDoor
