/-
  This text holds, one behind the other: This text tells what the forms and the validity of formulas answer in both packages. No condition.
  This text tells what the free variables of a formula answer in the program. No condition.
  This text tells what the program answers when it evaluates formulas. No condition.
  This text tells what the reference answers when it evaluates formulas. No condition.
  This text tells what the reference answers when it evaluates formulas: quantifiers, truth. No condition.
  This text tells what EvaluateFormula answers in both packages. No condition.
  This text holds plain laws of formulas: how much they hold. No condition.
-/
import Derived.Test.YtihclcmgbkkhfaaGreatK37d
open Nat renaming reduceAdd → zA, reduceSub → zB, reduceLT → zC, reduceLeDiff → zD, reduceEqDiff → zE, reduceBEq → zF, reduceBneDiff → zG, reduceMul → zH
open Int renaming reduceToNat → zI, reduceNeg → zJ, reduceAdd → zK
set_option maxRecDepth 100000
set_option linter.unusedSimpArgs false
set_option linter.unusedVariables false
namespace Go.Proofs.YtihclcmgbkkhfaaGreat
open Go.RowKit
def c_impl_isQuantifier : SC := (.seq (.reg [⟨some 2, none, .mv (.c (.bool false))⟩]) (.seq (.reg [⟨some 3, none, .mv (.t 0)⟩, ⟨some 4, none, .bin .eql false (.t 3) (.c (.int .i64 8))⟩, ⟨some 5, none, .mv (.t 4)⟩, ⟨(some 6), (some (5, false)), (.mv (.t 0))⟩, ⟨(some 7), (some (5, false)), (.bin .eql false (.t 6) (.c (.int .i64 9)))⟩, ⟨some 8, none, .pick (.t 5) (.c (.bool true)) (.t 7)⟩, ⟨some 2, none, .mv (.t 8)⟩]) .ret))
theorem k_impl_isQuantifier : codeOf Tryz.prog 106 = some ⟨9, c_impl_isQuantifier, [(.tmp 2)]⟩ := by kernel_rfl
theorem m_impl_isQuantifier : modes 106 = ⟨[], .asis, none, false⟩ := by unfold modes; rfl
def c_impl_isBinary : SC := (.seq (.reg [⟨some 2, none, .mv (.c (.bool false))⟩]) (.seq (.reg [⟨some 3, none, .mv (.t 0)⟩, ⟨some 4, none, .bin .eql false (.t 3) (.c (.int .i64 5))⟩, ⟨some 5, none, .mv (.t 4)⟩, ⟨(some 6), (some (5, false)), (.mv (.t 0))⟩, ⟨(some 7), (some (5, false)), (.bin .eql false (.t 6) (.c (.int .i64 6)))⟩, ⟨some 8, none, .pick (.t 5) (.c (.bool true)) (.t 7)⟩, ⟨some 9, none, .mv (.t 8)⟩, ⟨(some 10), (some (9, false)), (.mv (.t 0))⟩, ⟨(some 11), (some (9, false)), (.bin .eql false (.t 10) (.c (.int .i64 7)))⟩, ⟨some 12, none, .pick (.t 9) (.c (.bool true)) (.t 11)⟩, ⟨some 2, none, .mv (.t 12)⟩]) .ret))
theorem k_impl_isBinary : codeOf Tryz.prog 128 = some ⟨13, c_impl_isBinary, [(.tmp 2)]⟩ := by kernel_rfl
theorem m_impl_isBinary : modes 128 = ⟨[], .asis, none, false⟩ := by unfold modes; rfl
def c_impl_isZeroTerm : SC := (.seq (.reg [⟨some 1, none, .boxv 31 2 (.t 0)⟩, ⟨some 2, none, .mv (.c (.bool false))⟩]) (.seq (.reg [⟨some 3, none, .faddr 0 (.t 1)⟩, ⟨some 4, none, .load false 1 (.t 3)⟩, ⟨(some 5), none, (.bin .eql false (.t 4) (.c (.str ⟨#[]⟩)))⟩, ⟨some 6, none, .mv (.t 5)⟩, ⟨(some 7), (some (6, true)), (.faddr 1 (.t 1))⟩, ⟨(some 8), (some (6, true)), (.load false 1 (.t 7))⟩, ⟨(some 9), (some (6, true)), (.len false (.t 8))⟩, ⟨(some 10), (some (6, true)), (.bin .eql false (.t 9) (.c (.int .i64 0)))⟩, ⟨some 11, none, .pick (.t 6) (.t 10) (.c (.bool false))⟩, ⟨some 2, none, .mv (.t 11)⟩]) .ret))
theorem k_impl_isZeroTerm : codeOf Tryz.prog 130 = some ⟨12, c_impl_isZeroTerm, [(.tmp 2)]⟩ := by kernel_rfl
theorem m_impl_isZeroTerm : modes 130 = ⟨[], .asis, none, false⟩ := by unfold modes; rfl
def c_spec_l8None : SC := (.seq (.reg [⟨some 1, none, .boxv 31 2 (.t 0)⟩, ⟨some 2, none, .mv (.c (.bool false))⟩]) (.seq (.reg [⟨some 3, none, .faddr 0 (.t 1)⟩, ⟨some 4, none, .load false 1 (.t 3)⟩, ⟨(some 5), none, (.bin .eql false (.t 4) (.c (.str ⟨#[]⟩)))⟩, ⟨some 6, none, .mv (.t 5)⟩, ⟨(some 7), (some (6, true)), (.faddr 1 (.t 1))⟩, ⟨(some 8), (some (6, true)), (.load false 1 (.t 7))⟩, ⟨(some 9), (some (6, true)), (.len false (.t 8))⟩, ⟨(some 10), (some (6, true)), (.bin .eql false (.t 9) (.c (.int .i64 0)))⟩, ⟨some 11, none, .pick (.t 6) (.t 10) (.c (.bool false))⟩, ⟨some 2, none, .mv (.t 11)⟩]) .ret))
theorem k_spec_l8None : codeOf Tryz.prog 171 = some ⟨12, c_spec_l8None, [(.tmp 2)]⟩ := by kernel_rfl
theorem m_spec_l8None : modes 171 = ⟨[], .asis, none, false⟩ := by unfold modes; rfl
def c_slices_IndexFunc_impl_Formula_impl_Formula : SC := (.seq (.reg [⟨some 4, none, .mv (.c (.int .i64 0))⟩]) (.seq (.seq (.reg [⟨some 6, none, .mv (.t 0)⟩, ⟨some 7, none, .len false (.t 6)⟩, ⟨some 8, none, .mv (.c (.int .i64 0))⟩]) (.block 0 (.loop [1, 1, 0, 0, 0, 0, 0, 1, 1, 0, 0, 0, 0, 0, 0, 0, 0, 0, 0] (.seq (.reg [⟨some 9, none, .bin .lss false (.t 8) (.t 7)⟩]) (.seq (.cond (.t 9) .skip (.exit 0)) (.seq (.block 1 (.seq (.reg [⟨some 10, none, .mv (.t 8)⟩, ⟨some 5, none, .mv (.t 10)⟩]) (.seq (.reg [⟨some 11, none, .mv (.t 1)⟩, ⟨some 12, none, .mv (.t 0)⟩, ⟨some 13, none, .mv (.t 5)⟩, ⟨some 14, none, .iaddr 5 (.t 12) (.t 13)⟩, ⟨some 15, none, .load true 5 (.t 14)⟩, ⟨some 16, none, .callv (.t 11) [(.t 15)]⟩]) (.cond (.t 16) (.seq (.reg [⟨some 17, none, .mv (.t 5)⟩, ⟨some 4, none, .mv (.t 17)⟩]) .ret) .skip)))) (.reg [⟨some 18, none, .bin .add false (.t 8) (.c (.int .i64 1))⟩, ⟨some 8, none, .mv (.t 18)⟩]))))))) (.seq (.reg [⟨some 4, none, .mv (.c (.int .i64 (-(0 + 1))))⟩]) .ret)))
theorem k_slices_IndexFunc_impl_Formula_impl_Formula : codeOf Tryz.prog 152 = some ⟨19, c_slices_IndexFunc_impl_Formula_impl_Formula, [(.tmp 4)]⟩ := by kernel_rfl
theorem m_slices_IndexFunc_impl_Formula_impl_Formula : modes 152 = ⟨[], .asis, none, false⟩ := by unfold modes; rfl
def c_slices_ContainsFunc_impl_Formula_impl_Formula : SC := (.seq (.reg [⟨some 4, none, .mv (.c (.bool false))⟩]) (.seq (.reg [⟨some 5, none, .mv (.t 0)⟩, ⟨some 6, none, .mv (.t 1)⟩, ⟨some 7, none, .call 152 [(.t 5), (.t 6)]⟩, ⟨some 8, none, .bin .geq false (.t 7) (.c (.int .i64 0))⟩, ⟨some 4, none, .mv (.t 8)⟩]) .ret))
theorem k_slices_ContainsFunc_impl_Formula_impl_Formula : codeOf Tryz.prog 108 = some ⟨9, c_slices_ContainsFunc_impl_Formula_impl_Formula, [(.tmp 4)]⟩ := by kernel_rfl
theorem m_slices_ContainsFunc_impl_Formula_impl_Formula : modes 108 = ⟨[], .asis, none, false⟩ := by unfold modes; rfl
theorem indexFunc_forms (fid : Nat) (p : Fm → Bool) (xs : List Fm) (hl : xs.length ≤ 1099511627776) (hg : goFn Tryz.prog fid = true) (hm : (modes fid).hand = []) (hE : ∀ x ∈ xs, E fid [x.sv] [] = some (.bool (p x), [])) : E 152 [.arr (xs.map Fm.d), .fn fid []] [] = some (.int .i64 (idxP p xs 0), []) := by
  refine E_walk k_slices_IndexFunc_impl_Formula_impl_Formula m_slices_IndexFunc_impl_Formula_impl_Formula (of_decide_eq_true rfl) ?_
  simp (disch := omega) only [c_slices_IndexFunc_impl_Formula_impl_Formula, go_sem, go_cond, zA, zB, zC, zD, zE, zF, zG, zH, ↓reduceIte, zI, reduceCtorEq, zJ, zK]
  refine go_loop (α := Int) (fun a => ⟨slots 19 0 [(0, .arr (xs.map Fm.d)), (1, .fn fid []), (7, .int .i64 xs.length), (8, .int .i64 a)], []⟩) (fun a => ∃ k : Nat, a = k ∧ k ≤ (xs).length ∧ idxP p (xs.drop k) a = idxP p xs 0) (fun a => (xs).length - (a).toNat) 0 ⟨0, rfl, Nat.zero_le _, by rw [List.drop_zero]⟩ (by simp (disch := omega) only [go_sem, go_cond, zA, zB, zC, zD, zE, zF, zG, zH, ↓reduceIte, zI, reduceCtorEq, zJ, zK]) ?_
  rintro i ⟨k, hi, hk, hR⟩
  have hni : i.toNat = k := by omega
  have hni1 : (i + 1).toNat = k + 1 := by omega
  rcases Nat.lt_or_ge k (xs).length with hlt | hge
  · have hg' := get_at Fm.d hlt
    rw [Fm.d_eq] at hg'
    have hc := hE xs[k] (List.getElem_mem hlt)
    rw [List.drop_eq_getElem_cons hlt, idxP] at hR
    cases hp : p xs[k] with
    | true =>
      rw [hp] at hc hR
      simp (disch := omega) only [go_sem, go_cond, zA, zB, zC, zD, zE, zF, zG, zH, ↓reduceIte, zI, reduceCtorEq, zJ, zK, hni, hg', hc, hg, hm]
      simpa using hR
    | false =>
      rw [hp] at hc hR
      simp (disch := omega) only [go_sem, go_cond, zA, zB, zC, zD, zE, zF, zG, zH, ↓reduceIte, zI, reduceCtorEq, zJ, zK, hni, hg', hc, hg, hm]
      exact ⟨i + 1, ⟨k + 1, by omega, hlt, by simpa using hR⟩, by omega, by first | trivial | rfl⟩
  · rw [List.drop_eq_nil_of_le hge, idxP] at hR
    simp (disch := omega) only [go_sem, go_cond, zA, zB, zC, zD, zE, zF, zG, zH, ↓reduceIte, zI, reduceCtorEq, zJ, zK, hni]
    exact hR
theorem containsFunc_forms (fid : Nat) (p : Fm → Bool) (xs : List Fm) (hl : xs.length ≤ 1099511627776) (hg : goFn Tryz.prog fid = true) (hm : (modes fid).hand = []) (hE : ∀ x ∈ xs, E fid [x.sv] [] = some (.bool (p x), [])) : E 108 [.arr (xs.map Fm.d), .fn fid []] [] = some (.bool (xs.any p), []) := by
  have h := indexFunc_forms fid p xs hl hg hm hE
  refine E_walk k_slices_ContainsFunc_impl_Formula_impl_Formula m_slices_ContainsFunc_impl_Formula_impl_Formula (of_decide_eq_true rfl) ?_
  simp (disch := omega) only [c_slices_ContainsFunc_impl_Formula_impl_Formula, go_sem, go_cond, zA, zB, zC, zD, zE, zF, zG, zH, ↓reduceIte, zI, reduceCtorEq, zJ, zK, h, m_slices_IndexFunc_impl_Formula_impl_Formula]
  rw [idxP_any]
def c_impl_hasForm : SC := (.seq (.reg [⟨some 1, none, .boxv 34 5 (.t 0)⟩, ⟨some 2, none, .mv (.c (.bool false))⟩]) (.seq (.reg [⟨some 3, none, .mv (.c (.int .i64 0))⟩]) (.seq (.block 0 (.seq (.seq (.reg [⟨some 5, none, .faddr 0 (.t 1)⟩, ⟨some 6, none, .load false 1 (.t 5)⟩, ⟨some 7, none, .bin .eql false (.t 6) (.c (.int .i64 1))⟩, ⟨some 4, none, .mv (.t 7)⟩]) (.cond (.t 4) .skip (.seq (.reg [⟨some 8, none, .faddr 0 (.t 1)⟩, ⟨some 9, none, .load false 1 (.t 8)⟩, ⟨some 10, none, .bin .eql false (.t 9) (.c (.int .i64 2))⟩, ⟨some 4, none, .mv (.t 10)⟩]) (.cond (.t 4) .skip (.reg [⟨some 11, none, .faddr 0 (.t 1)⟩, ⟨some 12, none, .load false 1 (.t 11)⟩, ⟨some 13, none, .bin .eql false (.t 12) (.c (.int .i64 3))⟩, ⟨some 4, none, .mv (.t 13)⟩]))))) (.cond (.t 4) .skip (.seq (.seq (.reg [⟨some 15, none, .faddr 0 (.t 1)⟩, ⟨some 16, none, .load false 1 (.t 15)⟩, ⟨some 17, none, .bin .eql false (.t 16) (.c (.int .i64 4))⟩, ⟨some 14, none, .mv (.t 17)⟩]) (.cond (.t 14) .skip (.reg [⟨some 18, none, .faddr 0 (.t 1)⟩, ⟨some 19, none, .load false 1 (.t 18)⟩, ⟨some 20, none, .call 106 [(.t 19)]⟩, ⟨some 14, none, .mv (.t 20)⟩]))) (.cond (.t 14) (.reg [⟨some 3, none, .mv (.c (.int .i64 1))⟩]) (.seq (.reg [⟨some 22, none, .faddr 0 (.t 1)⟩, ⟨some 23, none, .load false 1 (.t 22)⟩, ⟨some 24, none, .call 128 [(.t 23)]⟩, ⟨some 21, none, .mv (.t 24)⟩]) (.cond (.t 21) (.reg [⟨some 3, none, .mv (.c (.int .i64 2))⟩]) (.seq (.reg [⟨some 2, none, .mv (.c (.bool false))⟩]) .ret)))))))) (.seq (.seq (.reg [⟨some 25, none, .faddr 4 (.t 1)⟩, ⟨some 26, none, .load false 1 (.t 25)⟩, ⟨some 27, none, .len false (.t 26)⟩, ⟨some 28, none, .mv (.t 3)⟩, ⟨some 29, none, .bin .neq false (.t 27) (.t 28)⟩, ⟨some 30, none, .mv (.t 29)⟩, ⟨(some 31), (some (30, false)), (.faddr 0 (.t 1))⟩, ⟨(some 32), (some (30, false)), (.load false 1 (.t 31))⟩, ⟨(some 33), (some (30, false)), (.call 106 [(.t 32)])⟩, ⟨(some 34), (some (30, false)), (.mv (.t 33))⟩, ⟨(some 35), (some (34, true)), (.faddr 3 (.t 1))⟩, ⟨(some 36), (some (34, true)), (.load false 1 (.t 35))⟩, ⟨(some 37), (some (34, true)), (.call 96 [(.t 36)])⟩, ⟨(some 38), (some (34, true)), (.un .not (.t 37))⟩, ⟨(some 39), (some (30, false)), (.pick (.t 34) (.t 38) (.c (.bool false)))⟩, ⟨some 40, none, .pick (.t 30) (.c (.bool true)) (.t 39)⟩, ⟨some 41, none, .mv (.t 40)⟩, ⟨(some 42), (some (41, false)), (.faddr 0 (.t 1))⟩, ⟨(some 43), (some (41, false)), (.load false 1 (.t 42))⟩, ⟨(some 44), (some (41, false)), (.call 106 [(.t 43)])⟩, ⟨(some 45), (some (41, false)), (.un .not (.t 44))⟩, ⟨(some 46), (some (41, false)), (.mv (.t 45))⟩, ⟨(some 47), (some (46, true)), (.faddr 3 (.t 1))⟩, ⟨(some 48), (some (46, true)), (.load false 1 (.t 47))⟩, ⟨(some 49), (some (46, true)), (.bin .neq false (.t 48) (.c (.str ⟨#[]⟩)))⟩, ⟨(some 50), (some (41, false)), (.pick (.t 46) (.t 49) (.c (.bool false)))⟩, ⟨some 51, none, .pick (.t 41) (.c (.bool true)) (.t 50)⟩]) (.cond (.t 51) (.seq (.reg [⟨some 2, none, .mv (.c (.bool false))⟩]) .ret) .skip)) (.seq (.seq (.reg [⟨some 52, none, .faddr 0 (.t 1)⟩, ⟨some 53, none, .load false 1 (.t 52)⟩, ⟨some 54, none, .bin .eql false (.t 53) (.c (.int .i64 3))⟩, ⟨some 55, none, .mv (.t 54)⟩, ⟨(some 56), (some (55, true)), (.faddr 1 (.t 1))⟩, ⟨(some 57), (some (55, true)), (.load true 2 (.t 56))⟩, ⟨(some 58), (some (55, true)), (.call 129 [(.t 57)])⟩, ⟨(some 59), (some (55, true)), (.un .not (.t 58))⟩, ⟨some 60, none, .pick (.t 55) (.t 59) (.c (.bool false))⟩, ⟨some 61, none, .mv (.t 60)⟩, ⟨(some 62), (some (61, false)), (.faddr 0 (.t 1))⟩, ⟨(some 63), (some (61, false)), (.load false 1 (.t 62))⟩, ⟨(some 64), (some (61, false)), (.bin .neq false (.t 63) (.c (.int .i64 3)))⟩, ⟨(some 65), (some (61, false)), (.mv (.t 64))⟩, ⟨(some 66), (some (65, true)), (.faddr 1 (.t 1))⟩, ⟨(some 67), (some (65, true)), (.load true 2 (.t 66))⟩, ⟨(some 68), (some (65, true)), (.call 130 [(.t 67)])⟩, ⟨(some 69), (some (65, true)), (.un .not (.t 68))⟩, ⟨(some 70), (some (61, false)), (.pick (.t 65) (.t 69) (.c (.bool false)))⟩, ⟨some 71, none, .pick (.t 61) (.c (.bool true)) (.t 70)⟩]) (.cond (.t 71) (.seq (.reg [⟨some 2, none, .mv (.c (.bool false))⟩]) .ret) .skip)) (.seq (.reg [⟨some 72, none, .faddr 4 (.t 1)⟩, ⟨some 73, none, .load false 1 (.t 72)⟩, ⟨some 74, none, .call 108 [(.t 73), (.c (.fn 131 []))]⟩, ⟨some 75, none, .un .not (.t 74)⟩, ⟨some 2, none, .mv (.t 75)⟩]) .ret))))))
theorem k_impl_hasForm : codeOf Tryz.prog 79 = some ⟨76, c_impl_hasForm, [(.tmp 2)]⟩ := by kernel_rfl
theorem m_impl_hasForm : modes 79 = ⟨[], .asis, none, false⟩ := by unfold modes; rfl
def c_impl_hasForm_1 : SC := (.seq (.reg [⟨some 1, none, .boxv 34 5 (.t 0)⟩, ⟨some 2, none, .mv (.c (.bool false))⟩]) (.seq (.reg [⟨some 3, none, .load true 5 (.t 1)⟩, ⟨some 4, none, .call 79 [(.t 3)]⟩, ⟨some 5, none, .un .not (.t 4)⟩, ⟨some 2, none, .mv (.t 5)⟩]) .ret))
theorem k_impl_hasForm_1 : codeOf Tryz.prog 131 = some ⟨6, c_impl_hasForm_1, [(.tmp 2)]⟩ := by kernel_rfl
theorem m_impl_hasForm_1 : modes 131 = ⟨[], .asis, none, false⟩ := by unfold modes; rfl
theorem g_impl_hasForm_1 : goFn Tryz.prog 131 = true := by kernel_rfl
def c_spec_l8Form : SC := (.seq (.reg [⟨some 1, none, .boxv 34 5 (.t 0)⟩, ⟨some 2, none, .mv (.c (.bool false))⟩]) (.seq (.reg [⟨some 4, none, .faddr 4 (.t 1)⟩, ⟨some 5, none, .load false 1 (.t 4)⟩, ⟨some 6, none, .len false (.t 5)⟩, ⟨some 3, none, .mv (.t 6)⟩]) (.seq (.seq (.reg [⟨some 7, none, .faddr 0 (.t 1)⟩, ⟨some 8, none, .load false 1 (.t 7)⟩]) (.block 0 (.seq (.seq (.reg [⟨some 10, none, .bin .eql false (.t 8) (.c (.int .i64 1))⟩, ⟨some 9, none, .mv (.t 10)⟩]) (.cond (.t 9) .skip (.reg [⟨some 11, none, .bin .eql false (.t 8) (.c (.int .i64 2))⟩, ⟨some 9, none, .mv (.t 11)⟩]))) (.cond (.t 9) (.seq (.reg [⟨some 12, none, .mv (.t 3)⟩, ⟨some 13, none, .bin .eql false (.t 12) (.c (.int .i64 0))⟩, ⟨some 14, none, .mv (.t 13)⟩, ⟨(some 15), (some (14, true)), (.faddr 1 (.t 1))⟩, ⟨(some 16), (some (14, true)), (.load true 2 (.t 15))⟩, ⟨(some 17), (some (14, true)), (.call 171 [(.t 16)])⟩, ⟨some 18, none, .pick (.t 14) (.t 17) (.c (.bool false))⟩, ⟨some 19, none, .mv (.t 18)⟩, ⟨(some 20), (some (19, true)), (.faddr 3 (.t 1))⟩, ⟨(some 21), (some (19, true)), (.load false 1 (.t 20))⟩, ⟨(some 22), (some (19, true)), (.bin .eql false (.t 21) (.c (.str ⟨#[]⟩)))⟩, ⟨some 23, none, .pick (.t 19) (.t 22) (.c (.bool false))⟩, ⟨some 2, none, .mv (.t 23)⟩]) .ret) (.seq (.reg [⟨some 25, none, .bin .eql false (.t 8) (.c (.int .i64 3))⟩, ⟨some 24, none, .mv (.t 25)⟩]) (.cond (.t 24) (.seq (.reg [⟨some 26, none, .mv (.t 3)⟩, ⟨some 27, none, .bin .eql false (.t 26) (.c (.int .i64 0))⟩, ⟨some 28, none, .mv (.t 27)⟩, ⟨(some 29), (some (28, true)), (.faddr 1 (.t 1))⟩, ⟨(some 30), (some (28, true)), (.load true 2 (.t 29))⟩, ⟨(some 31), (some (28, true)), (.call 116 [(.t 30)])⟩, ⟨some 32, none, .pick (.t 28) (.t 31) (.c (.bool false))⟩, ⟨some 33, none, .mv (.t 32)⟩, ⟨(some 34), (some (33, true)), (.faddr 3 (.t 1))⟩, ⟨(some 35), (some (33, true)), (.load false 1 (.t 34))⟩, ⟨(some 36), (some (33, true)), (.bin .eql false (.t 35) (.c (.str ⟨#[]⟩)))⟩, ⟨some 37, none, .pick (.t 33) (.t 36) (.c (.bool false))⟩, ⟨some 2, none, .mv (.t 37)⟩]) .ret) (.seq (.reg [⟨some 39, none, .bin .eql false (.t 8) (.c (.int .i64 4))⟩, ⟨some 38, none, .mv (.t 39)⟩]) (.cond (.t 38) (.seq (.reg [⟨some 40, none, .mv (.t 3)⟩, ⟨some 41, none, .bin .eql false (.t 40) (.c (.int .i64 1))⟩, ⟨some 42, none, .mv (.t 41)⟩, ⟨(some 43), (some (42, true)), (.faddr 1 (.t 1))⟩, ⟨(some 44), (some (42, true)), (.load true 2 (.t 43))⟩, ⟨(some 45), (some (42, true)), (.call 171 [(.t 44)])⟩, ⟨some 46, none, .pick (.t 42) (.t 45) (.c (.bool false))⟩, ⟨some 47, none, .mv (.t 46)⟩, ⟨(some 48), (some (47, true)), (.faddr 3 (.t 1))⟩, ⟨(some 49), (some (47, true)), (.load false 1 (.t 48))⟩, ⟨(some 50), (some (47, true)), (.bin .eql false (.t 49) (.c (.str ⟨#[]⟩)))⟩, ⟨some 51, none, .pick (.t 47) (.t 50) (.c (.bool false))⟩, ⟨some 2, none, .mv (.t 51)⟩]) .ret) (.seq (.seq (.reg [⟨some 53, none, .bin .eql false (.t 8) (.c (.int .i64 5))⟩, ⟨some 52, none, .mv (.t 53)⟩]) (.cond (.t 52) .skip (.seq (.reg [⟨some 54, none, .bin .eql false (.t 8) (.c (.int .i64 6))⟩, ⟨some 52, none, .mv (.t 54)⟩]) (.cond (.t 52) .skip (.reg [⟨some 55, none, .bin .eql false (.t 8) (.c (.int .i64 7))⟩, ⟨some 52, none, .mv (.t 55)⟩]))))) (.cond (.t 52) (.seq (.reg [⟨some 56, none, .mv (.t 3)⟩, ⟨some 57, none, .bin .eql false (.t 56) (.c (.int .i64 2))⟩, ⟨some 58, none, .mv (.t 57)⟩, ⟨(some 59), (some (58, true)), (.faddr 1 (.t 1))⟩, ⟨(some 60), (some (58, true)), (.load true 2 (.t 59))⟩, ⟨(some 61), (some (58, true)), (.call 171 [(.t 60)])⟩, ⟨some 62, none, .pick (.t 58) (.t 61) (.c (.bool false))⟩, ⟨some 63, none, .mv (.t 62)⟩, ⟨(some 64), (some (63, true)), (.faddr 3 (.t 1))⟩, ⟨(some 65), (some (63, true)), (.load false 1 (.t 64))⟩, ⟨(some 66), (some (63, true)), (.bin .eql false (.t 65) (.c (.str ⟨#[]⟩)))⟩, ⟨some 67, none, .pick (.t 63) (.t 66) (.c (.bool false))⟩, ⟨some 2, none, .mv (.t 67)⟩]) .ret) (.seq (.seq (.reg [⟨some 69, none, .bin .eql false (.t 8) (.c (.int .i64 8))⟩, ⟨some 68, none, .mv (.t 69)⟩]) (.cond (.t 68) .skip (.reg [⟨some 70, none, .bin .eql false (.t 8) (.c (.int .i64 9))⟩, ⟨some 68, none, .mv (.t 70)⟩]))) (.cond (.t 68) (.seq (.reg [⟨some 71, none, .mv (.t 3)⟩, ⟨some 72, none, .bin .eql false (.t 71) (.c (.int .i64 1))⟩, ⟨some 73, none, .mv (.t 72)⟩, ⟨(some 74), (some (73, true)), (.faddr 1 (.t 1))⟩, ⟨(some 75), (some (73, true)), (.load true 2 (.t 74))⟩, ⟨(some 76), (some (73, true)), (.call 171 [(.t 75)])⟩, ⟨some 77, none, .pick (.t 73) (.t 76) (.c (.bool false))⟩, ⟨some 78, none, .mv (.t 77)⟩, ⟨(some 79), (some (78, true)), (.faddr 3 (.t 1))⟩, ⟨(some 80), (some (78, true)), (.load false 1 (.t 79))⟩, ⟨(some 81), (some (78, true)), (.call 92 [(.t 80)])⟩, ⟨some 82, none, .pick (.t 78) (.t 81) (.c (.bool false))⟩, ⟨some 2, none, .mv (.t 82)⟩]) .ret) .skip)))))))))))) (.seq (.reg [⟨some 2, none, .mv (.c (.bool false))⟩]) .ret))))
theorem k_spec_l8Form : codeOf Tryz.prog 126 = some ⟨83, c_spec_l8Form, [(.tmp 2)]⟩ := by kernel_rfl
theorem m_spec_l8Form : modes 126 = ⟨[], .asis, none, false⟩ := by unfold modes; rfl
def c_spec_l8Forms : SC := (.seq (.reg [⟨some 1, none, .boxv 34 5 (.t 0)⟩, ⟨some 2, none, .mv (.c (.bool false))⟩]) (.seq (.seq (.reg [⟨some 4, none, .load true 5 (.t 1)⟩, ⟨some 5, none, .call 126 [(.t 4)]⟩, ⟨some 6, none, .un .not (.t 5)⟩]) (.cond (.t 6) (.seq (.reg [⟨some 2, none, .mv (.c (.bool false))⟩]) .ret) .skip)) (.seq (.seq (.reg [⟨some 3, none, .mv (.c (.int .i64 0))⟩]) (.block 0 (.loop [0, 1, 0, 1, 0, 0, 0, 0, 0, 0, 0, 0, 0, 0, 0, 0, 0, 0, 0, 0, 0] (.seq (.seq (.reg [⟨some 7, none, .mv (.t 3)⟩, ⟨some 8, none, .faddr 4 (.t 1)⟩, ⟨some 9, none, .load false 1 (.t 8)⟩, ⟨some 10, none, .len false (.t 9)⟩, ⟨some 11, none, .bin .lss false (.t 7) (.t 10)⟩]) (.cond (.t 11) .skip (.exit 0))) (.seq (.block 1 (.seq (.reg [⟨some 14, none, .faddr 4 (.t 1)⟩, ⟨some 15, none, .load false 1 (.t 14)⟩, ⟨some 16, none, .mv (.t 3)⟩, ⟨some 17, none, .iaddr 5 (.t 15) (.t 16)⟩, ⟨some 18, none, .load true 5 (.t 17)⟩, ⟨some 19, none, .call 74 [(.t 18)]⟩, ⟨some 20, none, .un .not (.t 19)⟩]) (.cond (.t 20) (.seq (.reg [⟨some 2, none, .mv (.c (.bool false))⟩]) .ret) .skip))) (.reg [⟨some 12, none, .mv (.t 3)⟩, ⟨some 13, none, .bin .add false (.t 12) (.c (.int .i64 1))⟩, ⟨some 3, none, .mv (.t 13)⟩])))))) (.seq (.reg [⟨some 2, none, .mv (.c (.bool true))⟩]) .ret))))
theorem k_spec_l8Forms : codeOf Tryz.prog 74 = some ⟨21, c_spec_l8Forms, [(.tmp 2)]⟩ := by kernel_rfl
theorem m_spec_l8Forms : modes 74 = ⟨[], .asis, none, false⟩ := by unfold modes; rfl
def c_impl_IsValidFormula : SC := (.seq (.reg [⟨some 1, none, .boxv 34 5 (.t 0)⟩, ⟨some 2, none, .mv (.c (.bool false))⟩]) (.seq (.reg [⟨some 3, none, .load true 5 (.t 1)⟩, ⟨some 4, none, .call 78 [(.t 3)]⟩, ⟨some 5, none, .bin .leq false (.t 4) (.c (.int .i64 40))⟩, ⟨some 6, none, .mv (.t 5)⟩, ⟨(some 7), (some (6, true)), (.load true 5 (.t 1))⟩, ⟨(some 8), (some (6, true)), (.call 79 [(.t 7)])⟩, ⟨some 9, none, .pick (.t 6) (.t 8) (.c (.bool false))⟩, ⟨some 2, none, .mv (.t 9)⟩]) .ret))
theorem k_impl_IsValidFormula : codeOf Tryz.prog 39 = some ⟨10, c_impl_IsValidFormula, [(.tmp 2)]⟩ := by kernel_rfl
theorem m_impl_IsValidFormula : modes 39 = ⟨[], .asis, none, false⟩ := by unfold modes; rfl
def c_spec_l8Good : SC := (.seq (.reg [⟨some 1, none, .boxv 34 5 (.t 0)⟩, ⟨some 2, none, .mv (.c (.bool false))⟩]) (.seq (.reg [⟨some 3, none, .load true 5 (.t 1)⟩, ⟨some 4, none, .call 73 [(.t 3), (.c (.int .i64 40))]⟩, ⟨some 5, none, .bin .leq false (.t 4) (.c (.int .i64 40))⟩, ⟨some 6, none, .mv (.t 5)⟩, ⟨(some 7), (some (6, true)), (.load true 5 (.t 1))⟩, ⟨(some 8), (some (6, true)), (.call 74 [(.t 7)])⟩, ⟨some 9, none, .pick (.t 6) (.t 8) (.c (.bool false))⟩, ⟨some 2, none, .mv (.t 9)⟩]) .ret))
theorem k_spec_l8Good : codeOf Tryz.prog 35 = some ⟨10, c_spec_l8Good, [(.tmp 2)]⟩ := by kernel_rfl
theorem m_spec_l8Good : modes 35 = ⟨[], .asis, none, false⟩ := by unfold modes; rfl
theorem isQuantifier_E (n : Int) : E 106 [.int .i64 n] [] = some (.bool (dec (n = 8) || dec (n = 9)), []) := by
  cases h1 : dec (n = 8) with
  | true =>
    refine E_walk k_impl_isQuantifier m_impl_isQuantifier (of_decide_eq_true rfl) ?_
    simp (disch := omega) only [c_impl_isQuantifier, go_sem, go_cond, zA, zB, zC, zD, zE, zF, zG, zH, ↓reduceIte, zI, reduceCtorEq, zJ, zK, h1]
  | false =>
    refine E_walk k_impl_isQuantifier m_impl_isQuantifier (of_decide_eq_true rfl) ?_
    simp (disch := omega) only [c_impl_isQuantifier, go_sem, go_cond, zA, zB, zC, zD, zE, zF, zG, zH, ↓reduceIte, zI, reduceCtorEq, zJ, zK, h1]
theorem isBinary_E (n : Int) : E 128 [.int .i64 n] [] = some (.bool (dec (n = 5) || dec (n = 6) || dec (n = 7)), []) := by
  cases h1 : dec (n = 5) <;> cases h2 : dec (n = 6)
  all_goals
    refine E_walk k_impl_isBinary m_impl_isBinary (of_decide_eq_true rfl) ?_
    simp (disch := omega) only [c_impl_isBinary, go_sem, go_cond, zA, zB, zC, zD, zE, zF, zG, zH, ↓reduceIte, zI, reduceCtorEq, zJ, zK, h1, h2]
theorem isZeroTerm_E (x : Tm) : E 130 [x.sv] [] = some (.bool x.isZ, []) := by
  unfold Tm.isZ
  have hl : dec ((x.args.length : Int) = 0) = (x.args.length == 0) := by
    rw [dec_of]
    cases x.args <;> simp <;> omega
  cases h1 : dec (x.name = ⟨#[]⟩) with
  | true =>
    refine E_walk k_impl_isZeroTerm m_impl_isZeroTerm (of_decide_eq_true rfl) ?_
    simp (disch := omega) only [c_impl_isZeroTerm, go_sem, go_cond, zA, zB, zC, zD, zE, zF, zG, zH, ↓reduceIte, zI, reduceCtorEq, zJ, zK, h1]
    try rw [hl]
  | false =>
    refine E_walk k_impl_isZeroTerm m_impl_isZeroTerm (of_decide_eq_true rfl) ?_
    simp (disch := omega) only [c_impl_isZeroTerm, go_sem, go_cond, zA, zB, zC, zD, zE, zF, zG, zH, ↓reduceIte, zI, reduceCtorEq, zJ, zK, h1]
theorem l8None_E (x : Tm) : E 171 [x.sv] [] = some (.bool x.isZ, []) := by
  unfold Tm.isZ
  have hl : dec ((x.args.length : Int) = 0) = (x.args.length == 0) := by
    rw [dec_of]
    cases x.args <;> simp <;> omega
  cases h1 : dec (x.name = ⟨#[]⟩) with
  | true =>
    refine E_walk k_spec_l8None m_spec_l8None (of_decide_eq_true rfl) ?_
    simp (disch := omega) only [c_spec_l8None, go_sem, go_cond, zA, zB, zC, zD, zE, zF, zG, zH, ↓reduceIte, zI, reduceCtorEq, zJ, zK, h1]
    try rw [hl]
  | false =>
    refine E_walk k_spec_l8None m_spec_l8None (of_decide_eq_true rfl) ?_
    simp (disch := omega) only [c_spec_l8None, go_sem, go_cond, zA, zB, zC, zD, zE, zF, zG, zH, ↓reduceIte, zI, reduceCtorEq, zJ, zK, h1]
theorem l8Form_1 (x : Fm) (hn : x.atom.nodes ≤ 1099511627776) (ho : x.op = 1 ∨ x.op = 2) : E 126 [x.sv] [] = some (.bool x.form, []) := by
  have hf : x.form = (x.parts.length == 0 && x.atom.isZ && dec (x.var = ⟨#[]⟩)) := by unfold Fm.form; rcases ho with ho | ho <;> simp [ho]
  rcases ho with ho | ho
  all_goals
    first
      | (have o1 : dec (x.op = 1) = true := dec_t ho)
      | (have o1 : dec (x.op = 1) = false := dec_f (by omega))
    first
      | (have o2 : dec (x.op = 2) = true := dec_t ho)
      | (have o2 : dec (x.op = 2) = false := dec_f (by omega))
    have o3 : dec (x.op = 3) = false := dec_f (by omega)
    have o4 : dec (x.op = 4) = false := dec_f (by omega)
    have o5 : dec (x.op = 5) = false := dec_f (by omega)
    have o6 : dec (x.op = 6) = false := dec_f (by omega)
    have o7 : dec (x.op = 7) = false := dec_f (by omega)
    have o8 : dec (x.op = 8) = false := dec_f (by omega)
    have o9 : dec (x.op = 9) = false := dec_f (by omega)
    have ha := l8None_E x.atom
    have hv := l2Var_E x.var
    rw [hf]
    by_cases hl : x.parts.length = 0
    · have hl2 : dec ((x.parts.length : Int) = 0) = true := dec_t (by omega)
      rw [hl, beq_self_eq_true, Bool.true_and]
      cases hq : x.atom.isZ with
      | true =>
        rw [hq] at ha
        rw [Bool.true_and]
        refine E_walk k_spec_l8Form m_spec_l8Form (of_decide_eq_true rfl) ?_
        simp (disch := omega) only [c_spec_l8Form, go_sem, zA, zB, zC, zD, zE, zF, zG, zH, ↓reduceIte, zI, reduceCtorEq, zJ, zK, o1, o2, o3, o4, o5, o6, o7, o8, o9, hl2, ha, hv, m_spec_l2Atom, m_spec_l8None, m_spec_l2Var]
        repeat ((first | (refine go_condT ?_ ?_; (focus (simp (disch := omega) only [go_sem, zA, zB, zC, zD, zE, zF, zG, zH, ↓reduceIte, zI, reduceCtorEq, zJ, zK, o1, o2, o3, o4, o5, o6, o7, o8, o9, hl2, ha, hv, m_spec_l2Atom, m_spec_l8None, m_spec_l2Var]; done))) | (refine go_condF ?_ ?_; (focus (simp (disch := omega) only [go_sem, zA, zB, zC, zD, zE, zF, zG, zH, ↓reduceIte, zI, reduceCtorEq, zJ, zK, o1, o2, o3, o4, o5, o6, o7, o8, o9, hl2, ha, hv, m_spec_l2Atom, m_spec_l8None, m_spec_l2Var]; done)))); (try simp (disch := omega) only [go_sem, zA, zB, zC, zD, zE, zF, zG, zH, ↓reduceIte, zI, reduceCtorEq, zJ, zK, o1, o2, o3, o4, o5, o6, o7, o8, o9, hl2, ha, hv, m_spec_l2Atom, m_spec_l8None, m_spec_l2Var]))
      | false =>
        rw [hq] at ha
        rw [Bool.false_and]
        refine E_walk k_spec_l8Form m_spec_l8Form (of_decide_eq_true rfl) ?_
        simp (disch := omega) only [c_spec_l8Form, go_sem, zA, zB, zC, zD, zE, zF, zG, zH, ↓reduceIte, zI, reduceCtorEq, zJ, zK, o1, o2, o3, o4, o5, o6, o7, o8, o9, hl2, ha, hv, m_spec_l2Atom, m_spec_l8None, m_spec_l2Var]
        repeat ((first | (refine go_condT ?_ ?_; (focus (simp (disch := omega) only [go_sem, zA, zB, zC, zD, zE, zF, zG, zH, ↓reduceIte, zI, reduceCtorEq, zJ, zK, o1, o2, o3, o4, o5, o6, o7, o8, o9, hl2, ha, hv, m_spec_l2Atom, m_spec_l8None, m_spec_l2Var]; done))) | (refine go_condF ?_ ?_; (focus (simp (disch := omega) only [go_sem, zA, zB, zC, zD, zE, zF, zG, zH, ↓reduceIte, zI, reduceCtorEq, zJ, zK, o1, o2, o3, o4, o5, o6, o7, o8, o9, hl2, ha, hv, m_spec_l2Atom, m_spec_l8None, m_spec_l2Var]; done)))); (try simp (disch := omega) only [go_sem, zA, zB, zC, zD, zE, zF, zG, zH, ↓reduceIte, zI, reduceCtorEq, zJ, zK, o1, o2, o3, o4, o5, o6, o7, o8, o9, hl2, ha, hv, m_spec_l2Atom, m_spec_l8None, m_spec_l2Var]))
    · have hl2 : dec ((x.parts.length : Int) = 0) = false := dec_f (by omega)
      have hl3 : (x.parts.length == 0) = false := by simpa using hl
      rw [hl3, Bool.false_and, Bool.false_and]
      refine E_walk k_spec_l8Form m_spec_l8Form (of_decide_eq_true rfl) ?_
      simp (disch := omega) only [c_spec_l8Form, go_sem, zA, zB, zC, zD, zE, zF, zG, zH, ↓reduceIte, zI, reduceCtorEq, zJ, zK, o1, o2, o3, o4, o5, o6, o7, o8, o9, hl2, ha, hv, m_spec_l2Atom, m_spec_l8None, m_spec_l2Var]
      repeat ((first | (refine go_condT ?_ ?_; (focus (simp (disch := omega) only [go_sem, zA, zB, zC, zD, zE, zF, zG, zH, ↓reduceIte, zI, reduceCtorEq, zJ, zK, o1, o2, o3, o4, o5, o6, o7, o8, o9, hl2, ha, hv, m_spec_l2Atom, m_spec_l8None, m_spec_l2Var]; done))) | (refine go_condF ?_ ?_; (focus (simp (disch := omega) only [go_sem, zA, zB, zC, zD, zE, zF, zG, zH, ↓reduceIte, zI, reduceCtorEq, zJ, zK, o1, o2, o3, o4, o5, o6, o7, o8, o9, hl2, ha, hv, m_spec_l2Atom, m_spec_l8None, m_spec_l2Var]; done)))); (try simp (disch := omega) only [go_sem, zA, zB, zC, zD, zE, zF, zG, zH, ↓reduceIte, zI, reduceCtorEq, zJ, zK, o1, o2, o3, o4, o5, o6, o7, o8, o9, hl2, ha, hv, m_spec_l2Atom, m_spec_l8None, m_spec_l2Var]))
theorem l8Form_3 (x : Fm) (hn : x.atom.nodes ≤ 1099511627776) (ho : x.op = 3) : E 126 [x.sv] [] = some (.bool x.form, []) := by
  have hf : x.form = (x.parts.length == 0 && x.atom.atom && dec (x.var = ⟨#[]⟩)) := by unfold Fm.form; rcases ho with ho <;> simp [ho]
  rcases ho with ho
  all_goals
    have o1 : dec (x.op = 1) = false := dec_f (by omega)
    have o2 : dec (x.op = 2) = false := dec_f (by omega)
    have o3 : dec (x.op = 3) = true := dec_t ho
    have o4 : dec (x.op = 4) = false := dec_f (by omega)
    have o5 : dec (x.op = 5) = false := dec_f (by omega)
    have o6 : dec (x.op = 6) = false := dec_f (by omega)
    have o7 : dec (x.op = 7) = false := dec_f (by omega)
    have o8 : dec (x.op = 8) = false := dec_f (by omega)
    have o9 : dec (x.op = 9) = false := dec_f (by omega)
    have ha := l2Atom_E x.atom (by omega)
    have hv := l2Var_E x.var
    rw [hf]
    by_cases hl : x.parts.length = 0
    · have hl2 : dec ((x.parts.length : Int) = 0) = true := dec_t (by omega)
      rw [hl, beq_self_eq_true, Bool.true_and]
      cases hq : x.atom.atom with
      | true =>
        rw [hq] at ha
        rw [Bool.true_and]
        refine E_walk k_spec_l8Form m_spec_l8Form (of_decide_eq_true rfl) ?_
        simp (disch := omega) only [c_spec_l8Form, go_sem, zA, zB, zC, zD, zE, zF, zG, zH, ↓reduceIte, zI, reduceCtorEq, zJ, zK, o1, o2, o3, o4, o5, o6, o7, o8, o9, hl2, ha, hv, m_spec_l2Atom, m_spec_l8None, m_spec_l2Var]
        repeat ((first | (refine go_condT ?_ ?_; (focus (simp (disch := omega) only [go_sem, zA, zB, zC, zD, zE, zF, zG, zH, ↓reduceIte, zI, reduceCtorEq, zJ, zK, o1, o2, o3, o4, o5, o6, o7, o8, o9, hl2, ha, hv, m_spec_l2Atom, m_spec_l8None, m_spec_l2Var]; done))) | (refine go_condF ?_ ?_; (focus (simp (disch := omega) only [go_sem, zA, zB, zC, zD, zE, zF, zG, zH, ↓reduceIte, zI, reduceCtorEq, zJ, zK, o1, o2, o3, o4, o5, o6, o7, o8, o9, hl2, ha, hv, m_spec_l2Atom, m_spec_l8None, m_spec_l2Var]; done)))); (try simp (disch := omega) only [go_sem, zA, zB, zC, zD, zE, zF, zG, zH, ↓reduceIte, zI, reduceCtorEq, zJ, zK, o1, o2, o3, o4, o5, o6, o7, o8, o9, hl2, ha, hv, m_spec_l2Atom, m_spec_l8None, m_spec_l2Var]))
      | false =>
        rw [hq] at ha
        rw [Bool.false_and]
        refine E_walk k_spec_l8Form m_spec_l8Form (of_decide_eq_true rfl) ?_
        simp (disch := omega) only [c_spec_l8Form, go_sem, zA, zB, zC, zD, zE, zF, zG, zH, ↓reduceIte, zI, reduceCtorEq, zJ, zK, o1, o2, o3, o4, o5, o6, o7, o8, o9, hl2, ha, hv, m_spec_l2Atom, m_spec_l8None, m_spec_l2Var]
        repeat ((first | (refine go_condT ?_ ?_; (focus (simp (disch := omega) only [go_sem, zA, zB, zC, zD, zE, zF, zG, zH, ↓reduceIte, zI, reduceCtorEq, zJ, zK, o1, o2, o3, o4, o5, o6, o7, o8, o9, hl2, ha, hv, m_spec_l2Atom, m_spec_l8None, m_spec_l2Var]; done))) | (refine go_condF ?_ ?_; (focus (simp (disch := omega) only [go_sem, zA, zB, zC, zD, zE, zF, zG, zH, ↓reduceIte, zI, reduceCtorEq, zJ, zK, o1, o2, o3, o4, o5, o6, o7, o8, o9, hl2, ha, hv, m_spec_l2Atom, m_spec_l8None, m_spec_l2Var]; done)))); (try simp (disch := omega) only [go_sem, zA, zB, zC, zD, zE, zF, zG, zH, ↓reduceIte, zI, reduceCtorEq, zJ, zK, o1, o2, o3, o4, o5, o6, o7, o8, o9, hl2, ha, hv, m_spec_l2Atom, m_spec_l8None, m_spec_l2Var]))
    · have hl2 : dec ((x.parts.length : Int) = 0) = false := dec_f (by omega)
      have hl3 : (x.parts.length == 0) = false := by simpa using hl
      rw [hl3, Bool.false_and, Bool.false_and]
      refine E_walk k_spec_l8Form m_spec_l8Form (of_decide_eq_true rfl) ?_
      simp (disch := omega) only [c_spec_l8Form, go_sem, zA, zB, zC, zD, zE, zF, zG, zH, ↓reduceIte, zI, reduceCtorEq, zJ, zK, o1, o2, o3, o4, o5, o6, o7, o8, o9, hl2, ha, hv, m_spec_l2Atom, m_spec_l8None, m_spec_l2Var]
      repeat ((first | (refine go_condT ?_ ?_; (focus (simp (disch := omega) only [go_sem, zA, zB, zC, zD, zE, zF, zG, zH, ↓reduceIte, zI, reduceCtorEq, zJ, zK, o1, o2, o3, o4, o5, o6, o7, o8, o9, hl2, ha, hv, m_spec_l2Atom, m_spec_l8None, m_spec_l2Var]; done))) | (refine go_condF ?_ ?_; (focus (simp (disch := omega) only [go_sem, zA, zB, zC, zD, zE, zF, zG, zH, ↓reduceIte, zI, reduceCtorEq, zJ, zK, o1, o2, o3, o4, o5, o6, o7, o8, o9, hl2, ha, hv, m_spec_l2Atom, m_spec_l8None, m_spec_l2Var]; done)))); (try simp (disch := omega) only [go_sem, zA, zB, zC, zD, zE, zF, zG, zH, ↓reduceIte, zI, reduceCtorEq, zJ, zK, o1, o2, o3, o4, o5, o6, o7, o8, o9, hl2, ha, hv, m_spec_l2Atom, m_spec_l8None, m_spec_l2Var]))
theorem l8Form_4 (x : Fm) (hn : x.atom.nodes ≤ 1099511627776) (ho : x.op = 4) : E 126 [x.sv] [] = some (.bool x.form, []) := by
  have hf : x.form = (x.parts.length == 1 && x.atom.isZ && dec (x.var = ⟨#[]⟩)) := by unfold Fm.form; rcases ho with ho <;> simp [ho]
  rcases ho with ho
  all_goals
    have o1 : dec (x.op = 1) = false := dec_f (by omega)
    have o2 : dec (x.op = 2) = false := dec_f (by omega)
    have o3 : dec (x.op = 3) = false := dec_f (by omega)
    have o4 : dec (x.op = 4) = true := dec_t ho
    have o5 : dec (x.op = 5) = false := dec_f (by omega)
    have o6 : dec (x.op = 6) = false := dec_f (by omega)
    have o7 : dec (x.op = 7) = false := dec_f (by omega)
    have o8 : dec (x.op = 8) = false := dec_f (by omega)
    have o9 : dec (x.op = 9) = false := dec_f (by omega)
    have ha := l8None_E x.atom
    have hv := l2Var_E x.var
    rw [hf]
    by_cases hl : x.parts.length = 1
    · have hl2 : dec ((x.parts.length : Int) = 1) = true := dec_t (by omega)
      rw [hl, beq_self_eq_true, Bool.true_and]
      cases hq : x.atom.isZ with
      | true =>
        rw [hq] at ha
        rw [Bool.true_and]
        refine E_walk k_spec_l8Form m_spec_l8Form (of_decide_eq_true rfl) ?_
        simp (disch := omega) only [c_spec_l8Form, go_sem, zA, zB, zC, zD, zE, zF, zG, zH, ↓reduceIte, zI, reduceCtorEq, zJ, zK, o1, o2, o3, o4, o5, o6, o7, o8, o9, hl2, ha, hv, m_spec_l2Atom, m_spec_l8None, m_spec_l2Var]
        repeat ((first | (refine go_condT ?_ ?_; (focus (simp (disch := omega) only [go_sem, zA, zB, zC, zD, zE, zF, zG, zH, ↓reduceIte, zI, reduceCtorEq, zJ, zK, o1, o2, o3, o4, o5, o6, o7, o8, o9, hl2, ha, hv, m_spec_l2Atom, m_spec_l8None, m_spec_l2Var]; done))) | (refine go_condF ?_ ?_; (focus (simp (disch := omega) only [go_sem, zA, zB, zC, zD, zE, zF, zG, zH, ↓reduceIte, zI, reduceCtorEq, zJ, zK, o1, o2, o3, o4, o5, o6, o7, o8, o9, hl2, ha, hv, m_spec_l2Atom, m_spec_l8None, m_spec_l2Var]; done)))); (try simp (disch := omega) only [go_sem, zA, zB, zC, zD, zE, zF, zG, zH, ↓reduceIte, zI, reduceCtorEq, zJ, zK, o1, o2, o3, o4, o5, o6, o7, o8, o9, hl2, ha, hv, m_spec_l2Atom, m_spec_l8None, m_spec_l2Var]))
      | false =>
        rw [hq] at ha
        rw [Bool.false_and]
        refine E_walk k_spec_l8Form m_spec_l8Form (of_decide_eq_true rfl) ?_
        simp (disch := omega) only [c_spec_l8Form, go_sem, zA, zB, zC, zD, zE, zF, zG, zH, ↓reduceIte, zI, reduceCtorEq, zJ, zK, o1, o2, o3, o4, o5, o6, o7, o8, o9, hl2, ha, hv, m_spec_l2Atom, m_spec_l8None, m_spec_l2Var]
        repeat ((first | (refine go_condT ?_ ?_; (focus (simp (disch := omega) only [go_sem, zA, zB, zC, zD, zE, zF, zG, zH, ↓reduceIte, zI, reduceCtorEq, zJ, zK, o1, o2, o3, o4, o5, o6, o7, o8, o9, hl2, ha, hv, m_spec_l2Atom, m_spec_l8None, m_spec_l2Var]; done))) | (refine go_condF ?_ ?_; (focus (simp (disch := omega) only [go_sem, zA, zB, zC, zD, zE, zF, zG, zH, ↓reduceIte, zI, reduceCtorEq, zJ, zK, o1, o2, o3, o4, o5, o6, o7, o8, o9, hl2, ha, hv, m_spec_l2Atom, m_spec_l8None, m_spec_l2Var]; done)))); (try simp (disch := omega) only [go_sem, zA, zB, zC, zD, zE, zF, zG, zH, ↓reduceIte, zI, reduceCtorEq, zJ, zK, o1, o2, o3, o4, o5, o6, o7, o8, o9, hl2, ha, hv, m_spec_l2Atom, m_spec_l8None, m_spec_l2Var]))
    · have hl2 : dec ((x.parts.length : Int) = 1) = false := dec_f (by omega)
      have hl3 : (x.parts.length == 1) = false := by simpa using hl
      rw [hl3, Bool.false_and, Bool.false_and]
      refine E_walk k_spec_l8Form m_spec_l8Form (of_decide_eq_true rfl) ?_
      simp (disch := omega) only [c_spec_l8Form, go_sem, zA, zB, zC, zD, zE, zF, zG, zH, ↓reduceIte, zI, reduceCtorEq, zJ, zK, o1, o2, o3, o4, o5, o6, o7, o8, o9, hl2, ha, hv, m_spec_l2Atom, m_spec_l8None, m_spec_l2Var]
      repeat ((first | (refine go_condT ?_ ?_; (focus (simp (disch := omega) only [go_sem, zA, zB, zC, zD, zE, zF, zG, zH, ↓reduceIte, zI, reduceCtorEq, zJ, zK, o1, o2, o3, o4, o5, o6, o7, o8, o9, hl2, ha, hv, m_spec_l2Atom, m_spec_l8None, m_spec_l2Var]; done))) | (refine go_condF ?_ ?_; (focus (simp (disch := omega) only [go_sem, zA, zB, zC, zD, zE, zF, zG, zH, ↓reduceIte, zI, reduceCtorEq, zJ, zK, o1, o2, o3, o4, o5, o6, o7, o8, o9, hl2, ha, hv, m_spec_l2Atom, m_spec_l8None, m_spec_l2Var]; done)))); (try simp (disch := omega) only [go_sem, zA, zB, zC, zD, zE, zF, zG, zH, ↓reduceIte, zI, reduceCtorEq, zJ, zK, o1, o2, o3, o4, o5, o6, o7, o8, o9, hl2, ha, hv, m_spec_l2Atom, m_spec_l8None, m_spec_l2Var]))
theorem l8Form_5 (x : Fm) (hn : x.atom.nodes ≤ 1099511627776) (ho : x.op = 5 ∨ x.op = 6 ∨ x.op = 7) : E 126 [x.sv] [] = some (.bool x.form, []) := by
  have hf : x.form = (x.parts.length == 2 && x.atom.isZ && dec (x.var = ⟨#[]⟩)) := by unfold Fm.form; rcases ho with ho | ho | ho <;> simp [ho]
  rcases ho with ho | ho | ho
  all_goals
    have o1 : dec (x.op = 1) = false := dec_f (by omega)
    have o2 : dec (x.op = 2) = false := dec_f (by omega)
    have o3 : dec (x.op = 3) = false := dec_f (by omega)
    have o4 : dec (x.op = 4) = false := dec_f (by omega)
    first
      | (have o5 : dec (x.op = 5) = true := dec_t ho)
      | (have o5 : dec (x.op = 5) = false := dec_f (by omega))
    first
      | (have o6 : dec (x.op = 6) = true := dec_t ho)
      | (have o6 : dec (x.op = 6) = false := dec_f (by omega))
    first
      | (have o7 : dec (x.op = 7) = true := dec_t ho)
      | (have o7 : dec (x.op = 7) = false := dec_f (by omega))
    have o8 : dec (x.op = 8) = false := dec_f (by omega)
    have o9 : dec (x.op = 9) = false := dec_f (by omega)
    have ha := l8None_E x.atom
    have hv := l2Var_E x.var
    rw [hf]
    by_cases hl : x.parts.length = 2
    · have hl2 : dec ((x.parts.length : Int) = 2) = true := dec_t (by omega)
      rw [hl, beq_self_eq_true, Bool.true_and]
      cases hq : x.atom.isZ with
      | true =>
        rw [hq] at ha
        rw [Bool.true_and]
        refine E_walk k_spec_l8Form m_spec_l8Form (of_decide_eq_true rfl) ?_
        simp (disch := omega) only [c_spec_l8Form, go_sem, zA, zB, zC, zD, zE, zF, zG, zH, ↓reduceIte, zI, reduceCtorEq, zJ, zK, o1, o2, o3, o4, o5, o6, o7, o8, o9, hl2, ha, hv, m_spec_l2Atom, m_spec_l8None, m_spec_l2Var]
        repeat ((first | (refine go_condT ?_ ?_; (focus (simp (disch := omega) only [go_sem, zA, zB, zC, zD, zE, zF, zG, zH, ↓reduceIte, zI, reduceCtorEq, zJ, zK, o1, o2, o3, o4, o5, o6, o7, o8, o9, hl2, ha, hv, m_spec_l2Atom, m_spec_l8None, m_spec_l2Var]; done))) | (refine go_condF ?_ ?_; (focus (simp (disch := omega) only [go_sem, zA, zB, zC, zD, zE, zF, zG, zH, ↓reduceIte, zI, reduceCtorEq, zJ, zK, o1, o2, o3, o4, o5, o6, o7, o8, o9, hl2, ha, hv, m_spec_l2Atom, m_spec_l8None, m_spec_l2Var]; done)))); (try simp (disch := omega) only [go_sem, zA, zB, zC, zD, zE, zF, zG, zH, ↓reduceIte, zI, reduceCtorEq, zJ, zK, o1, o2, o3, o4, o5, o6, o7, o8, o9, hl2, ha, hv, m_spec_l2Atom, m_spec_l8None, m_spec_l2Var]))
      | false =>
        rw [hq] at ha
        rw [Bool.false_and]
        refine E_walk k_spec_l8Form m_spec_l8Form (of_decide_eq_true rfl) ?_
        simp (disch := omega) only [c_spec_l8Form, go_sem, zA, zB, zC, zD, zE, zF, zG, zH, ↓reduceIte, zI, reduceCtorEq, zJ, zK, o1, o2, o3, o4, o5, o6, o7, o8, o9, hl2, ha, hv, m_spec_l2Atom, m_spec_l8None, m_spec_l2Var]
        repeat ((first | (refine go_condT ?_ ?_; (focus (simp (disch := omega) only [go_sem, zA, zB, zC, zD, zE, zF, zG, zH, ↓reduceIte, zI, reduceCtorEq, zJ, zK, o1, o2, o3, o4, o5, o6, o7, o8, o9, hl2, ha, hv, m_spec_l2Atom, m_spec_l8None, m_spec_l2Var]; done))) | (refine go_condF ?_ ?_; (focus (simp (disch := omega) only [go_sem, zA, zB, zC, zD, zE, zF, zG, zH, ↓reduceIte, zI, reduceCtorEq, zJ, zK, o1, o2, o3, o4, o5, o6, o7, o8, o9, hl2, ha, hv, m_spec_l2Atom, m_spec_l8None, m_spec_l2Var]; done)))); (try simp (disch := omega) only [go_sem, zA, zB, zC, zD, zE, zF, zG, zH, ↓reduceIte, zI, reduceCtorEq, zJ, zK, o1, o2, o3, o4, o5, o6, o7, o8, o9, hl2, ha, hv, m_spec_l2Atom, m_spec_l8None, m_spec_l2Var]))
    · have hl2 : dec ((x.parts.length : Int) = 2) = false := dec_f (by omega)
      have hl3 : (x.parts.length == 2) = false := by simpa using hl
      rw [hl3, Bool.false_and, Bool.false_and]
      refine E_walk k_spec_l8Form m_spec_l8Form (of_decide_eq_true rfl) ?_
      simp (disch := omega) only [c_spec_l8Form, go_sem, zA, zB, zC, zD, zE, zF, zG, zH, ↓reduceIte, zI, reduceCtorEq, zJ, zK, o1, o2, o3, o4, o5, o6, o7, o8, o9, hl2, ha, hv, m_spec_l2Atom, m_spec_l8None, m_spec_l2Var]
      repeat ((first | (refine go_condT ?_ ?_; (focus (simp (disch := omega) only [go_sem, zA, zB, zC, zD, zE, zF, zG, zH, ↓reduceIte, zI, reduceCtorEq, zJ, zK, o1, o2, o3, o4, o5, o6, o7, o8, o9, hl2, ha, hv, m_spec_l2Atom, m_spec_l8None, m_spec_l2Var]; done))) | (refine go_condF ?_ ?_; (focus (simp (disch := omega) only [go_sem, zA, zB, zC, zD, zE, zF, zG, zH, ↓reduceIte, zI, reduceCtorEq, zJ, zK, o1, o2, o3, o4, o5, o6, o7, o8, o9, hl2, ha, hv, m_spec_l2Atom, m_spec_l8None, m_spec_l2Var]; done)))); (try simp (disch := omega) only [go_sem, zA, zB, zC, zD, zE, zF, zG, zH, ↓reduceIte, zI, reduceCtorEq, zJ, zK, o1, o2, o3, o4, o5, o6, o7, o8, o9, hl2, ha, hv, m_spec_l2Atom, m_spec_l8None, m_spec_l2Var]))
theorem l8Form_8 (x : Fm) (hn : x.atom.nodes ≤ 1099511627776) (ho : x.op = 8 ∨ x.op = 9) : E 126 [x.sv] [] = some (.bool x.form, []) := by
  have hf : x.form = (x.parts.length == 1 && x.atom.isZ && varB x.var) := by unfold Fm.form; rcases ho with ho | ho <;> simp [ho]
  rcases ho with ho | ho
  all_goals
    have o1 : dec (x.op = 1) = false := dec_f (by omega)
    have o2 : dec (x.op = 2) = false := dec_f (by omega)
    have o3 : dec (x.op = 3) = false := dec_f (by omega)
    have o4 : dec (x.op = 4) = false := dec_f (by omega)
    have o5 : dec (x.op = 5) = false := dec_f (by omega)
    have o6 : dec (x.op = 6) = false := dec_f (by omega)
    have o7 : dec (x.op = 7) = false := dec_f (by omega)
    first
      | (have o8 : dec (x.op = 8) = true := dec_t ho)
      | (have o8 : dec (x.op = 8) = false := dec_f (by omega))
    first
      | (have o9 : dec (x.op = 9) = true := dec_t ho)
      | (have o9 : dec (x.op = 9) = false := dec_f (by omega))
    have ha := l8None_E x.atom
    have hv := l2Var_E x.var
    rw [hf]
    by_cases hl : x.parts.length = 1
    · have hl2 : dec ((x.parts.length : Int) = 1) = true := dec_t (by omega)
      rw [hl, beq_self_eq_true, Bool.true_and]
      cases hq : x.atom.isZ with
      | true =>
        rw [hq] at ha
        rw [Bool.true_and]
        refine E_walk k_spec_l8Form m_spec_l8Form (of_decide_eq_true rfl) ?_
        simp (disch := omega) only [c_spec_l8Form, go_sem, zA, zB, zC, zD, zE, zF, zG, zH, ↓reduceIte, zI, reduceCtorEq, zJ, zK, o1, o2, o3, o4, o5, o6, o7, o8, o9, hl2, ha, hv, m_spec_l2Atom, m_spec_l8None, m_spec_l2Var]
        repeat ((first | (refine go_condT ?_ ?_; (focus (simp (disch := omega) only [go_sem, zA, zB, zC, zD, zE, zF, zG, zH, ↓reduceIte, zI, reduceCtorEq, zJ, zK, o1, o2, o3, o4, o5, o6, o7, o8, o9, hl2, ha, hv, m_spec_l2Atom, m_spec_l8None, m_spec_l2Var]; done))) | (refine go_condF ?_ ?_; (focus (simp (disch := omega) only [go_sem, zA, zB, zC, zD, zE, zF, zG, zH, ↓reduceIte, zI, reduceCtorEq, zJ, zK, o1, o2, o3, o4, o5, o6, o7, o8, o9, hl2, ha, hv, m_spec_l2Atom, m_spec_l8None, m_spec_l2Var]; done)))); (try simp (disch := omega) only [go_sem, zA, zB, zC, zD, zE, zF, zG, zH, ↓reduceIte, zI, reduceCtorEq, zJ, zK, o1, o2, o3, o4, o5, o6, o7, o8, o9, hl2, ha, hv, m_spec_l2Atom, m_spec_l8None, m_spec_l2Var]))
      | false =>
        rw [hq] at ha
        rw [Bool.false_and]
        refine E_walk k_spec_l8Form m_spec_l8Form (of_decide_eq_true rfl) ?_
        simp (disch := omega) only [c_spec_l8Form, go_sem, zA, zB, zC, zD, zE, zF, zG, zH, ↓reduceIte, zI, reduceCtorEq, zJ, zK, o1, o2, o3, o4, o5, o6, o7, o8, o9, hl2, ha, hv, m_spec_l2Atom, m_spec_l8None, m_spec_l2Var]
        repeat ((first | (refine go_condT ?_ ?_; (focus (simp (disch := omega) only [go_sem, zA, zB, zC, zD, zE, zF, zG, zH, ↓reduceIte, zI, reduceCtorEq, zJ, zK, o1, o2, o3, o4, o5, o6, o7, o8, o9, hl2, ha, hv, m_spec_l2Atom, m_spec_l8None, m_spec_l2Var]; done))) | (refine go_condF ?_ ?_; (focus (simp (disch := omega) only [go_sem, zA, zB, zC, zD, zE, zF, zG, zH, ↓reduceIte, zI, reduceCtorEq, zJ, zK, o1, o2, o3, o4, o5, o6, o7, o8, o9, hl2, ha, hv, m_spec_l2Atom, m_spec_l8None, m_spec_l2Var]; done)))); (try simp (disch := omega) only [go_sem, zA, zB, zC, zD, zE, zF, zG, zH, ↓reduceIte, zI, reduceCtorEq, zJ, zK, o1, o2, o3, o4, o5, o6, o7, o8, o9, hl2, ha, hv, m_spec_l2Atom, m_spec_l8None, m_spec_l2Var]))
    · have hl2 : dec ((x.parts.length : Int) = 1) = false := dec_f (by omega)
      have hl3 : (x.parts.length == 1) = false := by simpa using hl
      rw [hl3, Bool.false_and, Bool.false_and]
      refine E_walk k_spec_l8Form m_spec_l8Form (of_decide_eq_true rfl) ?_
      simp (disch := omega) only [c_spec_l8Form, go_sem, zA, zB, zC, zD, zE, zF, zG, zH, ↓reduceIte, zI, reduceCtorEq, zJ, zK, o1, o2, o3, o4, o5, o6, o7, o8, o9, hl2, ha, hv, m_spec_l2Atom, m_spec_l8None, m_spec_l2Var]
      repeat ((first | (refine go_condT ?_ ?_; (focus (simp (disch := omega) only [go_sem, zA, zB, zC, zD, zE, zF, zG, zH, ↓reduceIte, zI, reduceCtorEq, zJ, zK, o1, o2, o3, o4, o5, o6, o7, o8, o9, hl2, ha, hv, m_spec_l2Atom, m_spec_l8None, m_spec_l2Var]; done))) | (refine go_condF ?_ ?_; (focus (simp (disch := omega) only [go_sem, zA, zB, zC, zD, zE, zF, zG, zH, ↓reduceIte, zI, reduceCtorEq, zJ, zK, o1, o2, o3, o4, o5, o6, o7, o8, o9, hl2, ha, hv, m_spec_l2Atom, m_spec_l8None, m_spec_l2Var]; done)))); (try simp (disch := omega) only [go_sem, zA, zB, zC, zD, zE, zF, zG, zH, ↓reduceIte, zI, reduceCtorEq, zJ, zK, o1, o2, o3, o4, o5, o6, o7, o8, o9, hl2, ha, hv, m_spec_l2Atom, m_spec_l8None, m_spec_l2Var]))
theorem l8Form_E (x : Fm) (hn : x.atom.nodes ≤ 1099511627776) : E 126 [x.sv] [] = some (.bool x.form, []) := by
  rcases op_cases x.op with h | h | h | h | h | h | h | h | h | h
  · exact l8Form_1 x hn (.inl h)
  · exact l8Form_1 x hn (.inr h)
  · exact l8Form_3 x hn h
  · exact l8Form_4 x hn h
  · exact l8Form_5 x hn (.inl h)
  · exact l8Form_5 x hn (.inr (.inl h))
  · exact l8Form_5 x hn (.inr (.inr h))
  · exact l8Form_8 x hn (.inl h)
  · exact l8Form_8 x hn (.inr h)
  · obtain ⟨h1, h2, h3, h4, h5, h6, h7, h8, h9⟩ := h
    have hf : x.form = false := by unfold Fm.form; simp [h1, h2, h3, h4, h5, h6, h7, h8, h9]
    have o1 := dec_f h1
    have o2 := dec_f h2
    have o3 := dec_f h3
    have o4 := dec_f h4
    have o5 := dec_f h5
    have o6 := dec_f h6
    have o7 := dec_f h7
    have o8 := dec_f h8
    have o9 := dec_f h9
    rw [hf]
    refine E_walk k_spec_l8Form m_spec_l8Form (of_decide_eq_true rfl) ?_
    simp (disch := omega) only [c_spec_l8Form, go_sem, zA, zB, zC, zD, zE, zF, zG, zH, ↓reduceIte, zI, reduceCtorEq, zJ, zK, o1, o2, o3, o4, o5, o6, o7, o8, o9]
    repeat ((first | (refine go_condT ?_ ?_; (focus (simp (disch := omega) only [go_sem, zA, zB, zC, zD, zE, zF, zG, zH, ↓reduceIte, zI, reduceCtorEq, zJ, zK, o1, o2, o3, o4, o5, o6, o7, o8, o9]; done))) | (refine go_condF ?_ ?_; (focus (simp (disch := omega) only [go_sem, zA, zB, zC, zD, zE, zF, zG, zH, ↓reduceIte, zI, reduceCtorEq, zJ, zK, o1, o2, o3, o4, o5, o6, o7, o8, o9]; done)))); (try simp (disch := omega) only [go_sem, zA, zB, zC, zD, zE, zF, zG, zH, ↓reduceIte, zI, reduceCtorEq, zJ, zK, o1, o2, o3, o4, o5, o6, o7, o8, o9]))
set_option maxHeartbeats 1000000 in
theorem l8Forms_of (x : Fm) (ht : x.tame) (hn : x.nodes ≤ 1099511627776) (ih : ∀ y ∈ x.parts, E 74 [y.sv] [] = some (.bool y.forms, [])) : E 74 [x.sv] [] = some (.bool x.forms, []) := by
  have hl := Fm.length_le x.parts
  have hx := Fm.nodes_eq x
  have hf := l8Form_E x (Fm.tame_at ht)
  rw [Fm.forms_eq]
  cases hq : x.form with
  | false =>
    rw [hq] at hf
    rw [Bool.false_and]
    refine E_walk k_spec_l8Forms m_spec_l8Forms (of_decide_eq_true rfl) ?_
    simp (disch := omega) only [c_spec_l8Forms, go_sem, go_cond, zA, zB, zC, zD, zE, zF, zG, zH, ↓reduceIte, zI, reduceCtorEq, zJ, zK, hf, m_spec_l8Form]
  | true =>
    rw [hq] at hf
    rw [Bool.true_and]
    refine E_walk k_spec_l8Forms m_spec_l8Forms (of_decide_eq_true rfl) ?_
    simp (disch := omega) only [c_spec_l8Forms, go_sem, go_cond, zA, zB, zC, zD, zE, zF, zG, zH, ↓reduceIte, zI, reduceCtorEq, zJ, zK, hf, m_spec_l8Form]
    refine go_loop (α := Int) (fun a => ⟨slots 21 0 [(1, .ptr 0 0), (3, .int .i64 a)], [.box 34 [.int .i64 x.op, .str x.atom.name, .arr (x.atom.args.map Tm.d), .str x.var, .arr (x.parts.map Fm.d)]]⟩) (fun a => ∃ k : Nat, a = k ∧ k ≤ (x.parts).length ∧ Fm.formS (x.parts.drop k) = Fm.formS x.parts) (fun a => (x.parts).length - (a).toNat) 0 ⟨0, rfl, Nat.zero_le _, by rw [List.drop_zero]⟩ (by simp (disch := omega) only [go_sem, go_cond, zA, zB, zC, zD, zE, zF, zG, zH, ↓reduceIte, zI, reduceCtorEq, zJ, zK]) ?_
    rintro i ⟨k, hi, hk, hR⟩
    have hni : i.toNat = k := by omega
    have hni1 : (i + 1).toNat = k + 1 := by omega
    rcases Nat.lt_or_ge k (x.parts).length with hlt | hge
    · have hg := get_at Fm.d hlt
      rw [Fm.d_eq] at hg
      have hc := ih x.parts[k] (List.getElem_mem hlt)
      rw [List.drop_eq_getElem_cons hlt, Fm.formS] at hR
      cases hp : x.parts[k].forms with
      | true =>
        rw [hp] at hc hR
        rw [Bool.true_and] at hR
        simp (disch := omega) only [go_sem, go_cond, zA, zB, zC, zD, zE, zF, zG, zH, ↓reduceIte, zI, reduceCtorEq, zJ, zK, hni, hg, hc, m_spec_l8Forms]
        exact ⟨i + 1, ⟨k + 1, by omega, hlt, hR⟩, by omega, by first | trivial | rfl⟩
      | false =>
        rw [hp] at hc hR
        rw [Bool.false_and] at hR
        simp (disch := omega) only [go_sem, go_cond, zA, zB, zC, zD, zE, zF, zG, zH, ↓reduceIte, zI, reduceCtorEq, zJ, zK, hni, hg, hc, m_spec_l8Forms]
        exact hR
    · rw [List.drop_eq_nil_of_le hge, Fm.formS] at hR
      simp (disch := omega) only [go_sem, go_cond, zA, zB, zC, zD, zE, zF, zG, zH, ↓reduceIte, zI, reduceCtorEq, zJ, zK, hni]
      exact hR
theorem l8Forms_E (x : Fm) (ht : x.tame) (hn : x.nodes ≤ 1099511627776) : E 74 [x.sv] [] = some (.bool x.forms, []) :=
  l8Forms_of x ht hn fun y hy => l8Forms_E y (Fm.tame_part ht hy) (by have := Fm.nodes_mem hy; have := Fm.nodes_eq x; omega)
termination_by SizeOf.sizeOf x
decreasing_by exact Fm.lt_of_mem hy
set_option maxHeartbeats 1000000 in
theorem hasForm_1 (x : Fm) (hn : x.atom.nodes ≤ 1099511627776) (hl0 : x.parts.length ≤ 1099511627776) (ho : x.op = 1 ∨ x.op = 2) (h2 : E 108 [.arr (x.parts.map Fm.d), .fn 131 []] [] = some (.bool (x.parts.any fun y => !y.forms), [])) : E 79 [x.sv] [] = some (.bool x.forms, []) := by
  have hf : x.form = (x.parts.length == 0 && x.atom.isZ && dec (x.var = ⟨#[]⟩)) := by unfold Fm.form; rcases ho with ho | ho <;> simp [ho]
  rcases ho with ho | ho
  all_goals
    first
      | (have o1 : dec (x.op = 1) = true := dec_t ho)
      | (have o1 : dec (x.op = 1) = false := dec_f (by omega))
    first
      | (have o2 : dec (x.op = 2) = true := dec_t ho)
      | (have o2 : dec (x.op = 2) = false := dec_f (by omega))
    have o3 : dec (x.op = 3) = false := dec_f (by omega)
    have o4 : dec (x.op = 4) = false := dec_f (by omega)
    have o5 : dec (x.op = 5) = false := dec_f (by omega)
    have o6 : dec (x.op = 6) = false := dec_f (by omega)
    have o7 : dec (x.op = 7) = false := dec_f (by omega)
    have o8 : dec (x.op = 8) = false := dec_f (by omega)
    have o9 : dec (x.op = 9) = false := dec_f (by omega)
    have ha := isZeroTerm_E x.atom
    have hv := isVariable_E x.var
    have hb := isBinary_E x.op
    have hu := isQuantifier_E x.op
    rw [o5, o6, o7] at hb
    rw [o8, o9] at hu
    rw [Fm.forms_eq, hf, ← Fm.any_not]
    by_cases hl : x.parts.length = 0
    · have hl2 : dec ((x.parts.length : Int) = 0) = true := dec_t (by omega)
      rw [hl, beq_self_eq_true, Bool.true_and]
      cases hw : dec (x.var = ⟨#[]⟩) with
      | false =>
        try rw [hw] at hv
        rw [Bool.and_false, Bool.false_and]
        refine E_walk k_impl_hasForm m_impl_hasForm (of_decide_eq_true rfl) ?_
        simp (disch := omega) only [c_impl_hasForm, go_sem, zA, zB, zC, zD, zE, zF, zG, zH, ↓reduceIte, zI, reduceCtorEq, zJ, zK, o1, o2, o3, o4, o5, o6, o7, o8, o9, hl2, ha, hv, hb, hu, hw, h2, m_impl_IsValidAtom, m_impl_isZeroTerm, m_impl_isVariable, m_impl_isQuantifier, m_impl_isBinary, m_slices_ContainsFunc_impl_Formula_impl_Formula]
        repeat ((first | (refine go_condT ?_ ?_; (focus (simp (disch := omega) only [go_sem, zA, zB, zC, zD, zE, zF, zG, zH, ↓reduceIte, zI, reduceCtorEq, zJ, zK, o1, o2, o3, o4, o5, o6, o7, o8, o9, hl2, ha, hv, hb, hu, hw, h2, m_impl_IsValidAtom, m_impl_isZeroTerm, m_impl_isVariable, m_impl_isQuantifier, m_impl_isBinary, m_slices_ContainsFunc_impl_Formula_impl_Formula]; done))) | (refine go_condF ?_ ?_; (focus (simp (disch := omega) only [go_sem, zA, zB, zC, zD, zE, zF, zG, zH, ↓reduceIte, zI, reduceCtorEq, zJ, zK, o1, o2, o3, o4, o5, o6, o7, o8, o9, hl2, ha, hv, hb, hu, hw, h2, m_impl_IsValidAtom, m_impl_isZeroTerm, m_impl_isVariable, m_impl_isQuantifier, m_impl_isBinary, m_slices_ContainsFunc_impl_Formula_impl_Formula]; done)))); (try simp (disch := omega) only [go_sem, zA, zB, zC, zD, zE, zF, zG, zH, ↓reduceIte, zI, reduceCtorEq, zJ, zK, o1, o2, o3, o4, o5, o6, o7, o8, o9, hl2, ha, hv, hb, hu, hw, h2, m_impl_IsValidAtom, m_impl_isZeroTerm, m_impl_isVariable, m_impl_isQuantifier, m_impl_isBinary, m_slices_ContainsFunc_impl_Formula_impl_Formula]))
      | true =>
        try rw [hw] at hv
        rw [Bool.and_true]
        cases hq : x.atom.isZ with
        | true =>
          rw [hq] at ha
          rw [Bool.true_and]
          refine E_walk k_impl_hasForm m_impl_hasForm (of_decide_eq_true rfl) ?_
          simp (disch := omega) only [c_impl_hasForm, go_sem, zA, zB, zC, zD, zE, zF, zG, zH, ↓reduceIte, zI, reduceCtorEq, zJ, zK, o1, o2, o3, o4, o5, o6, o7, o8, o9, hl2, ha, hv, hb, hu, hw, h2, m_impl_IsValidAtom, m_impl_isZeroTerm, m_impl_isVariable, m_impl_isQuantifier, m_impl_isBinary, m_slices_ContainsFunc_impl_Formula_impl_Formula]
          repeat ((first | (refine go_condT ?_ ?_; (focus (simp (disch := omega) only [go_sem, zA, zB, zC, zD, zE, zF, zG, zH, ↓reduceIte, zI, reduceCtorEq, zJ, zK, o1, o2, o3, o4, o5, o6, o7, o8, o9, hl2, ha, hv, hb, hu, hw, h2, m_impl_IsValidAtom, m_impl_isZeroTerm, m_impl_isVariable, m_impl_isQuantifier, m_impl_isBinary, m_slices_ContainsFunc_impl_Formula_impl_Formula]; done))) | (refine go_condF ?_ ?_; (focus (simp (disch := omega) only [go_sem, zA, zB, zC, zD, zE, zF, zG, zH, ↓reduceIte, zI, reduceCtorEq, zJ, zK, o1, o2, o3, o4, o5, o6, o7, o8, o9, hl2, ha, hv, hb, hu, hw, h2, m_impl_IsValidAtom, m_impl_isZeroTerm, m_impl_isVariable, m_impl_isQuantifier, m_impl_isBinary, m_slices_ContainsFunc_impl_Formula_impl_Formula]; done)))); (try simp (disch := omega) only [go_sem, zA, zB, zC, zD, zE, zF, zG, zH, ↓reduceIte, zI, reduceCtorEq, zJ, zK, o1, o2, o3, o4, o5, o6, o7, o8, o9, hl2, ha, hv, hb, hu, hw, h2, m_impl_IsValidAtom, m_impl_isZeroTerm, m_impl_isVariable, m_impl_isQuantifier, m_impl_isBinary, m_slices_ContainsFunc_impl_Formula_impl_Formula]))
        | false =>
          rw [hq] at ha
          rw [Bool.false_and]
          refine E_walk k_impl_hasForm m_impl_hasForm (of_decide_eq_true rfl) ?_
          simp (disch := omega) only [c_impl_hasForm, go_sem, zA, zB, zC, zD, zE, zF, zG, zH, ↓reduceIte, zI, reduceCtorEq, zJ, zK, o1, o2, o3, o4, o5, o6, o7, o8, o9, hl2, ha, hv, hb, hu, hw, h2, m_impl_IsValidAtom, m_impl_isZeroTerm, m_impl_isVariable, m_impl_isQuantifier, m_impl_isBinary, m_slices_ContainsFunc_impl_Formula_impl_Formula]
          repeat ((first | (refine go_condT ?_ ?_; (focus (simp (disch := omega) only [go_sem, zA, zB, zC, zD, zE, zF, zG, zH, ↓reduceIte, zI, reduceCtorEq, zJ, zK, o1, o2, o3, o4, o5, o6, o7, o8, o9, hl2, ha, hv, hb, hu, hw, h2, m_impl_IsValidAtom, m_impl_isZeroTerm, m_impl_isVariable, m_impl_isQuantifier, m_impl_isBinary, m_slices_ContainsFunc_impl_Formula_impl_Formula]; done))) | (refine go_condF ?_ ?_; (focus (simp (disch := omega) only [go_sem, zA, zB, zC, zD, zE, zF, zG, zH, ↓reduceIte, zI, reduceCtorEq, zJ, zK, o1, o2, o3, o4, o5, o6, o7, o8, o9, hl2, ha, hv, hb, hu, hw, h2, m_impl_IsValidAtom, m_impl_isZeroTerm, m_impl_isVariable, m_impl_isQuantifier, m_impl_isBinary, m_slices_ContainsFunc_impl_Formula_impl_Formula]; done)))); (try simp (disch := omega) only [go_sem, zA, zB, zC, zD, zE, zF, zG, zH, ↓reduceIte, zI, reduceCtorEq, zJ, zK, o1, o2, o3, o4, o5, o6, o7, o8, o9, hl2, ha, hv, hb, hu, hw, h2, m_impl_IsValidAtom, m_impl_isZeroTerm, m_impl_isVariable, m_impl_isQuantifier, m_impl_isBinary, m_slices_ContainsFunc_impl_Formula_impl_Formula]))
    · have hl2 : dec ((x.parts.length : Int) = 0) = false := dec_f (by omega)
      have hl3 : (x.parts.length == 0) = false := by simpa using hl
      rw [hl3, Bool.false_and, Bool.false_and, Bool.false_and]
      refine E_walk k_impl_hasForm m_impl_hasForm (of_decide_eq_true rfl) ?_
      simp (disch := omega) only [c_impl_hasForm, go_sem, zA, zB, zC, zD, zE, zF, zG, zH, ↓reduceIte, zI, reduceCtorEq, zJ, zK, o1, o2, o3, o4, o5, o6, o7, o8, o9, hl2, ha, hv, hb, hu,  h2, m_impl_IsValidAtom, m_impl_isZeroTerm, m_impl_isVariable, m_impl_isQuantifier, m_impl_isBinary, m_slices_ContainsFunc_impl_Formula_impl_Formula]
      repeat ((first | (refine go_condT ?_ ?_; (focus (simp (disch := omega) only [go_sem, zA, zB, zC, zD, zE, zF, zG, zH, ↓reduceIte, zI, reduceCtorEq, zJ, zK, o1, o2, o3, o4, o5, o6, o7, o8, o9, hl2, ha, hv, hb, hu,  h2, m_impl_IsValidAtom, m_impl_isZeroTerm, m_impl_isVariable, m_impl_isQuantifier, m_impl_isBinary, m_slices_ContainsFunc_impl_Formula_impl_Formula]; done))) | (refine go_condF ?_ ?_; (focus (simp (disch := omega) only [go_sem, zA, zB, zC, zD, zE, zF, zG, zH, ↓reduceIte, zI, reduceCtorEq, zJ, zK, o1, o2, o3, o4, o5, o6, o7, o8, o9, hl2, ha, hv, hb, hu,  h2, m_impl_IsValidAtom, m_impl_isZeroTerm, m_impl_isVariable, m_impl_isQuantifier, m_impl_isBinary, m_slices_ContainsFunc_impl_Formula_impl_Formula]; done)))); (try simp (disch := omega) only [go_sem, zA, zB, zC, zD, zE, zF, zG, zH, ↓reduceIte, zI, reduceCtorEq, zJ, zK, o1, o2, o3, o4, o5, o6, o7, o8, o9, hl2, ha, hv, hb, hu,  h2, m_impl_IsValidAtom, m_impl_isZeroTerm, m_impl_isVariable, m_impl_isQuantifier, m_impl_isBinary, m_slices_ContainsFunc_impl_Formula_impl_Formula]))
set_option maxHeartbeats 1000000 in
theorem hasForm_3 (x : Fm) (hn : x.atom.nodes ≤ 1099511627776) (hl0 : x.parts.length ≤ 1099511627776) (ho : x.op = 3) (h2 : E 108 [.arr (x.parts.map Fm.d), .fn 131 []] [] = some (.bool (x.parts.any fun y => !y.forms), [])) : E 79 [x.sv] [] = some (.bool x.forms, []) := by
  have hf : x.form = (x.parts.length == 0 && x.atom.atom && dec (x.var = ⟨#[]⟩)) := by unfold Fm.form; rcases ho with ho <;> simp [ho]
  rcases ho with ho
  all_goals
    have o1 : dec (x.op = 1) = false := dec_f (by omega)
    have o2 : dec (x.op = 2) = false := dec_f (by omega)
    have o3 : dec (x.op = 3) = true := dec_t ho
    have o4 : dec (x.op = 4) = false := dec_f (by omega)
    have o5 : dec (x.op = 5) = false := dec_f (by omega)
    have o6 : dec (x.op = 6) = false := dec_f (by omega)
    have o7 : dec (x.op = 7) = false := dec_f (by omega)
    have o8 : dec (x.op = 8) = false := dec_f (by omega)
    have o9 : dec (x.op = 9) = false := dec_f (by omega)
    have ha := isValidAtom_E x.atom (by omega)
    have hv := isVariable_E x.var
    have hb := isBinary_E x.op
    have hu := isQuantifier_E x.op
    rw [o5, o6, o7] at hb
    rw [o8, o9] at hu
    rw [Fm.forms_eq, hf, ← Fm.any_not]
    by_cases hl : x.parts.length = 0
    · have hl2 : dec ((x.parts.length : Int) = 0) = true := dec_t (by omega)
      rw [hl, beq_self_eq_true, Bool.true_and]
      cases hw : dec (x.var = ⟨#[]⟩) with
      | false =>
        try rw [hw] at hv
        rw [Bool.and_false, Bool.false_and]
        refine E_walk k_impl_hasForm m_impl_hasForm (of_decide_eq_true rfl) ?_
        simp (disch := omega) only [c_impl_hasForm, go_sem, zA, zB, zC, zD, zE, zF, zG, zH, ↓reduceIte, zI, reduceCtorEq, zJ, zK, o1, o2, o3, o4, o5, o6, o7, o8, o9, hl2, ha, hv, hb, hu, hw, h2, m_impl_IsValidAtom, m_impl_isZeroTerm, m_impl_isVariable, m_impl_isQuantifier, m_impl_isBinary, m_slices_ContainsFunc_impl_Formula_impl_Formula]
        repeat ((first | (refine go_condT ?_ ?_; (focus (simp (disch := omega) only [go_sem, zA, zB, zC, zD, zE, zF, zG, zH, ↓reduceIte, zI, reduceCtorEq, zJ, zK, o1, o2, o3, o4, o5, o6, o7, o8, o9, hl2, ha, hv, hb, hu, hw, h2, m_impl_IsValidAtom, m_impl_isZeroTerm, m_impl_isVariable, m_impl_isQuantifier, m_impl_isBinary, m_slices_ContainsFunc_impl_Formula_impl_Formula]; done))) | (refine go_condF ?_ ?_; (focus (simp (disch := omega) only [go_sem, zA, zB, zC, zD, zE, zF, zG, zH, ↓reduceIte, zI, reduceCtorEq, zJ, zK, o1, o2, o3, o4, o5, o6, o7, o8, o9, hl2, ha, hv, hb, hu, hw, h2, m_impl_IsValidAtom, m_impl_isZeroTerm, m_impl_isVariable, m_impl_isQuantifier, m_impl_isBinary, m_slices_ContainsFunc_impl_Formula_impl_Formula]; done)))); (try simp (disch := omega) only [go_sem, zA, zB, zC, zD, zE, zF, zG, zH, ↓reduceIte, zI, reduceCtorEq, zJ, zK, o1, o2, o3, o4, o5, o6, o7, o8, o9, hl2, ha, hv, hb, hu, hw, h2, m_impl_IsValidAtom, m_impl_isZeroTerm, m_impl_isVariable, m_impl_isQuantifier, m_impl_isBinary, m_slices_ContainsFunc_impl_Formula_impl_Formula]))
      | true =>
        try rw [hw] at hv
        rw [Bool.and_true]
        cases hq : x.atom.atom with
        | true =>
          rw [hq] at ha
          rw [Bool.true_and]
          refine E_walk k_impl_hasForm m_impl_hasForm (of_decide_eq_true rfl) ?_
          simp (disch := omega) only [c_impl_hasForm, go_sem, zA, zB, zC, zD, zE, zF, zG, zH, ↓reduceIte, zI, reduceCtorEq, zJ, zK, o1, o2, o3, o4, o5, o6, o7, o8, o9, hl2, ha, hv, hb, hu, hw, h2, m_impl_IsValidAtom, m_impl_isZeroTerm, m_impl_isVariable, m_impl_isQuantifier, m_impl_isBinary, m_slices_ContainsFunc_impl_Formula_impl_Formula]
          repeat ((first | (refine go_condT ?_ ?_; (focus (simp (disch := omega) only [go_sem, zA, zB, zC, zD, zE, zF, zG, zH, ↓reduceIte, zI, reduceCtorEq, zJ, zK, o1, o2, o3, o4, o5, o6, o7, o8, o9, hl2, ha, hv, hb, hu, hw, h2, m_impl_IsValidAtom, m_impl_isZeroTerm, m_impl_isVariable, m_impl_isQuantifier, m_impl_isBinary, m_slices_ContainsFunc_impl_Formula_impl_Formula]; done))) | (refine go_condF ?_ ?_; (focus (simp (disch := omega) only [go_sem, zA, zB, zC, zD, zE, zF, zG, zH, ↓reduceIte, zI, reduceCtorEq, zJ, zK, o1, o2, o3, o4, o5, o6, o7, o8, o9, hl2, ha, hv, hb, hu, hw, h2, m_impl_IsValidAtom, m_impl_isZeroTerm, m_impl_isVariable, m_impl_isQuantifier, m_impl_isBinary, m_slices_ContainsFunc_impl_Formula_impl_Formula]; done)))); (try simp (disch := omega) only [go_sem, zA, zB, zC, zD, zE, zF, zG, zH, ↓reduceIte, zI, reduceCtorEq, zJ, zK, o1, o2, o3, o4, o5, o6, o7, o8, o9, hl2, ha, hv, hb, hu, hw, h2, m_impl_IsValidAtom, m_impl_isZeroTerm, m_impl_isVariable, m_impl_isQuantifier, m_impl_isBinary, m_slices_ContainsFunc_impl_Formula_impl_Formula]))
        | false =>
          rw [hq] at ha
          rw [Bool.false_and]
          refine E_walk k_impl_hasForm m_impl_hasForm (of_decide_eq_true rfl) ?_
          simp (disch := omega) only [c_impl_hasForm, go_sem, zA, zB, zC, zD, zE, zF, zG, zH, ↓reduceIte, zI, reduceCtorEq, zJ, zK, o1, o2, o3, o4, o5, o6, o7, o8, o9, hl2, ha, hv, hb, hu, hw, h2, m_impl_IsValidAtom, m_impl_isZeroTerm, m_impl_isVariable, m_impl_isQuantifier, m_impl_isBinary, m_slices_ContainsFunc_impl_Formula_impl_Formula]
          repeat ((first | (refine go_condT ?_ ?_; (focus (simp (disch := omega) only [go_sem, zA, zB, zC, zD, zE, zF, zG, zH, ↓reduceIte, zI, reduceCtorEq, zJ, zK, o1, o2, o3, o4, o5, o6, o7, o8, o9, hl2, ha, hv, hb, hu, hw, h2, m_impl_IsValidAtom, m_impl_isZeroTerm, m_impl_isVariable, m_impl_isQuantifier, m_impl_isBinary, m_slices_ContainsFunc_impl_Formula_impl_Formula]; done))) | (refine go_condF ?_ ?_; (focus (simp (disch := omega) only [go_sem, zA, zB, zC, zD, zE, zF, zG, zH, ↓reduceIte, zI, reduceCtorEq, zJ, zK, o1, o2, o3, o4, o5, o6, o7, o8, o9, hl2, ha, hv, hb, hu, hw, h2, m_impl_IsValidAtom, m_impl_isZeroTerm, m_impl_isVariable, m_impl_isQuantifier, m_impl_isBinary, m_slices_ContainsFunc_impl_Formula_impl_Formula]; done)))); (try simp (disch := omega) only [go_sem, zA, zB, zC, zD, zE, zF, zG, zH, ↓reduceIte, zI, reduceCtorEq, zJ, zK, o1, o2, o3, o4, o5, o6, o7, o8, o9, hl2, ha, hv, hb, hu, hw, h2, m_impl_IsValidAtom, m_impl_isZeroTerm, m_impl_isVariable, m_impl_isQuantifier, m_impl_isBinary, m_slices_ContainsFunc_impl_Formula_impl_Formula]))
    · have hl2 : dec ((x.parts.length : Int) = 0) = false := dec_f (by omega)
      have hl3 : (x.parts.length == 0) = false := by simpa using hl
      rw [hl3, Bool.false_and, Bool.false_and, Bool.false_and]
      refine E_walk k_impl_hasForm m_impl_hasForm (of_decide_eq_true rfl) ?_
      simp (disch := omega) only [c_impl_hasForm, go_sem, zA, zB, zC, zD, zE, zF, zG, zH, ↓reduceIte, zI, reduceCtorEq, zJ, zK, o1, o2, o3, o4, o5, o6, o7, o8, o9, hl2, ha, hv, hb, hu,  h2, m_impl_IsValidAtom, m_impl_isZeroTerm, m_impl_isVariable, m_impl_isQuantifier, m_impl_isBinary, m_slices_ContainsFunc_impl_Formula_impl_Formula]
      repeat ((first | (refine go_condT ?_ ?_; (focus (simp (disch := omega) only [go_sem, zA, zB, zC, zD, zE, zF, zG, zH, ↓reduceIte, zI, reduceCtorEq, zJ, zK, o1, o2, o3, o4, o5, o6, o7, o8, o9, hl2, ha, hv, hb, hu,  h2, m_impl_IsValidAtom, m_impl_isZeroTerm, m_impl_isVariable, m_impl_isQuantifier, m_impl_isBinary, m_slices_ContainsFunc_impl_Formula_impl_Formula]; done))) | (refine go_condF ?_ ?_; (focus (simp (disch := omega) only [go_sem, zA, zB, zC, zD, zE, zF, zG, zH, ↓reduceIte, zI, reduceCtorEq, zJ, zK, o1, o2, o3, o4, o5, o6, o7, o8, o9, hl2, ha, hv, hb, hu,  h2, m_impl_IsValidAtom, m_impl_isZeroTerm, m_impl_isVariable, m_impl_isQuantifier, m_impl_isBinary, m_slices_ContainsFunc_impl_Formula_impl_Formula]; done)))); (try simp (disch := omega) only [go_sem, zA, zB, zC, zD, zE, zF, zG, zH, ↓reduceIte, zI, reduceCtorEq, zJ, zK, o1, o2, o3, o4, o5, o6, o7, o8, o9, hl2, ha, hv, hb, hu,  h2, m_impl_IsValidAtom, m_impl_isZeroTerm, m_impl_isVariable, m_impl_isQuantifier, m_impl_isBinary, m_slices_ContainsFunc_impl_Formula_impl_Formula]))
set_option maxHeartbeats 1000000 in
theorem hasForm_4 (x : Fm) (hn : x.atom.nodes ≤ 1099511627776) (hl0 : x.parts.length ≤ 1099511627776) (ho : x.op = 4) (h2 : E 108 [.arr (x.parts.map Fm.d), .fn 131 []] [] = some (.bool (x.parts.any fun y => !y.forms), [])) : E 79 [x.sv] [] = some (.bool x.forms, []) := by
  have hf : x.form = (x.parts.length == 1 && x.atom.isZ && dec (x.var = ⟨#[]⟩)) := by unfold Fm.form; rcases ho with ho <;> simp [ho]
  rcases ho with ho
  all_goals
    have o1 : dec (x.op = 1) = false := dec_f (by omega)
    have o2 : dec (x.op = 2) = false := dec_f (by omega)
    have o3 : dec (x.op = 3) = false := dec_f (by omega)
    have o4 : dec (x.op = 4) = true := dec_t ho
    have o5 : dec (x.op = 5) = false := dec_f (by omega)
    have o6 : dec (x.op = 6) = false := dec_f (by omega)
    have o7 : dec (x.op = 7) = false := dec_f (by omega)
    have o8 : dec (x.op = 8) = false := dec_f (by omega)
    have o9 : dec (x.op = 9) = false := dec_f (by omega)
    have ha := isZeroTerm_E x.atom
    have hv := isVariable_E x.var
    have hb := isBinary_E x.op
    have hu := isQuantifier_E x.op
    rw [o5, o6, o7] at hb
    rw [o8, o9] at hu
    rw [Fm.forms_eq, hf, ← Fm.any_not]
    by_cases hl : x.parts.length = 1
    · have hl2 : dec ((x.parts.length : Int) = 1) = true := dec_t (by omega)
      rw [hl, beq_self_eq_true, Bool.true_and]
      cases hw : dec (x.var = ⟨#[]⟩) with
      | false =>
        try rw [hw] at hv
        rw [Bool.and_false, Bool.false_and]
        refine E_walk k_impl_hasForm m_impl_hasForm (of_decide_eq_true rfl) ?_
        simp (disch := omega) only [c_impl_hasForm, go_sem, zA, zB, zC, zD, zE, zF, zG, zH, ↓reduceIte, zI, reduceCtorEq, zJ, zK, o1, o2, o3, o4, o5, o6, o7, o8, o9, hl2, ha, hv, hb, hu, hw, h2, m_impl_IsValidAtom, m_impl_isZeroTerm, m_impl_isVariable, m_impl_isQuantifier, m_impl_isBinary, m_slices_ContainsFunc_impl_Formula_impl_Formula]
        repeat ((first | (refine go_condT ?_ ?_; (focus (simp (disch := omega) only [go_sem, zA, zB, zC, zD, zE, zF, zG, zH, ↓reduceIte, zI, reduceCtorEq, zJ, zK, o1, o2, o3, o4, o5, o6, o7, o8, o9, hl2, ha, hv, hb, hu, hw, h2, m_impl_IsValidAtom, m_impl_isZeroTerm, m_impl_isVariable, m_impl_isQuantifier, m_impl_isBinary, m_slices_ContainsFunc_impl_Formula_impl_Formula]; done))) | (refine go_condF ?_ ?_; (focus (simp (disch := omega) only [go_sem, zA, zB, zC, zD, zE, zF, zG, zH, ↓reduceIte, zI, reduceCtorEq, zJ, zK, o1, o2, o3, o4, o5, o6, o7, o8, o9, hl2, ha, hv, hb, hu, hw, h2, m_impl_IsValidAtom, m_impl_isZeroTerm, m_impl_isVariable, m_impl_isQuantifier, m_impl_isBinary, m_slices_ContainsFunc_impl_Formula_impl_Formula]; done)))); (try simp (disch := omega) only [go_sem, zA, zB, zC, zD, zE, zF, zG, zH, ↓reduceIte, zI, reduceCtorEq, zJ, zK, o1, o2, o3, o4, o5, o6, o7, o8, o9, hl2, ha, hv, hb, hu, hw, h2, m_impl_IsValidAtom, m_impl_isZeroTerm, m_impl_isVariable, m_impl_isQuantifier, m_impl_isBinary, m_slices_ContainsFunc_impl_Formula_impl_Formula]))
      | true =>
        try rw [hw] at hv
        rw [Bool.and_true]
        cases hq : x.atom.isZ with
        | true =>
          rw [hq] at ha
          rw [Bool.true_and]
          refine E_walk k_impl_hasForm m_impl_hasForm (of_decide_eq_true rfl) ?_
          simp (disch := omega) only [c_impl_hasForm, go_sem, zA, zB, zC, zD, zE, zF, zG, zH, ↓reduceIte, zI, reduceCtorEq, zJ, zK, o1, o2, o3, o4, o5, o6, o7, o8, o9, hl2, ha, hv, hb, hu, hw, h2, m_impl_IsValidAtom, m_impl_isZeroTerm, m_impl_isVariable, m_impl_isQuantifier, m_impl_isBinary, m_slices_ContainsFunc_impl_Formula_impl_Formula]
          repeat ((first | (refine go_condT ?_ ?_; (focus (simp (disch := omega) only [go_sem, zA, zB, zC, zD, zE, zF, zG, zH, ↓reduceIte, zI, reduceCtorEq, zJ, zK, o1, o2, o3, o4, o5, o6, o7, o8, o9, hl2, ha, hv, hb, hu, hw, h2, m_impl_IsValidAtom, m_impl_isZeroTerm, m_impl_isVariable, m_impl_isQuantifier, m_impl_isBinary, m_slices_ContainsFunc_impl_Formula_impl_Formula]; done))) | (refine go_condF ?_ ?_; (focus (simp (disch := omega) only [go_sem, zA, zB, zC, zD, zE, zF, zG, zH, ↓reduceIte, zI, reduceCtorEq, zJ, zK, o1, o2, o3, o4, o5, o6, o7, o8, o9, hl2, ha, hv, hb, hu, hw, h2, m_impl_IsValidAtom, m_impl_isZeroTerm, m_impl_isVariable, m_impl_isQuantifier, m_impl_isBinary, m_slices_ContainsFunc_impl_Formula_impl_Formula]; done)))); (try simp (disch := omega) only [go_sem, zA, zB, zC, zD, zE, zF, zG, zH, ↓reduceIte, zI, reduceCtorEq, zJ, zK, o1, o2, o3, o4, o5, o6, o7, o8, o9, hl2, ha, hv, hb, hu, hw, h2, m_impl_IsValidAtom, m_impl_isZeroTerm, m_impl_isVariable, m_impl_isQuantifier, m_impl_isBinary, m_slices_ContainsFunc_impl_Formula_impl_Formula]))
        | false =>
          rw [hq] at ha
          rw [Bool.false_and]
          refine E_walk k_impl_hasForm m_impl_hasForm (of_decide_eq_true rfl) ?_
          simp (disch := omega) only [c_impl_hasForm, go_sem, zA, zB, zC, zD, zE, zF, zG, zH, ↓reduceIte, zI, reduceCtorEq, zJ, zK, o1, o2, o3, o4, o5, o6, o7, o8, o9, hl2, ha, hv, hb, hu, hw, h2, m_impl_IsValidAtom, m_impl_isZeroTerm, m_impl_isVariable, m_impl_isQuantifier, m_impl_isBinary, m_slices_ContainsFunc_impl_Formula_impl_Formula]
          repeat ((first | (refine go_condT ?_ ?_; (focus (simp (disch := omega) only [go_sem, zA, zB, zC, zD, zE, zF, zG, zH, ↓reduceIte, zI, reduceCtorEq, zJ, zK, o1, o2, o3, o4, o5, o6, o7, o8, o9, hl2, ha, hv, hb, hu, hw, h2, m_impl_IsValidAtom, m_impl_isZeroTerm, m_impl_isVariable, m_impl_isQuantifier, m_impl_isBinary, m_slices_ContainsFunc_impl_Formula_impl_Formula]; done))) | (refine go_condF ?_ ?_; (focus (simp (disch := omega) only [go_sem, zA, zB, zC, zD, zE, zF, zG, zH, ↓reduceIte, zI, reduceCtorEq, zJ, zK, o1, o2, o3, o4, o5, o6, o7, o8, o9, hl2, ha, hv, hb, hu, hw, h2, m_impl_IsValidAtom, m_impl_isZeroTerm, m_impl_isVariable, m_impl_isQuantifier, m_impl_isBinary, m_slices_ContainsFunc_impl_Formula_impl_Formula]; done)))); (try simp (disch := omega) only [go_sem, zA, zB, zC, zD, zE, zF, zG, zH, ↓reduceIte, zI, reduceCtorEq, zJ, zK, o1, o2, o3, o4, o5, o6, o7, o8, o9, hl2, ha, hv, hb, hu, hw, h2, m_impl_IsValidAtom, m_impl_isZeroTerm, m_impl_isVariable, m_impl_isQuantifier, m_impl_isBinary, m_slices_ContainsFunc_impl_Formula_impl_Formula]))
    · have hl2 : dec ((x.parts.length : Int) = 1) = false := dec_f (by omega)
      have hl3 : (x.parts.length == 1) = false := by simpa using hl
      rw [hl3, Bool.false_and, Bool.false_and, Bool.false_and]
      refine E_walk k_impl_hasForm m_impl_hasForm (of_decide_eq_true rfl) ?_
      simp (disch := omega) only [c_impl_hasForm, go_sem, zA, zB, zC, zD, zE, zF, zG, zH, ↓reduceIte, zI, reduceCtorEq, zJ, zK, o1, o2, o3, o4, o5, o6, o7, o8, o9, hl2, ha, hv, hb, hu,  h2, m_impl_IsValidAtom, m_impl_isZeroTerm, m_impl_isVariable, m_impl_isQuantifier, m_impl_isBinary, m_slices_ContainsFunc_impl_Formula_impl_Formula]
      repeat ((first | (refine go_condT ?_ ?_; (focus (simp (disch := omega) only [go_sem, zA, zB, zC, zD, zE, zF, zG, zH, ↓reduceIte, zI, reduceCtorEq, zJ, zK, o1, o2, o3, o4, o5, o6, o7, o8, o9, hl2, ha, hv, hb, hu,  h2, m_impl_IsValidAtom, m_impl_isZeroTerm, m_impl_isVariable, m_impl_isQuantifier, m_impl_isBinary, m_slices_ContainsFunc_impl_Formula_impl_Formula]; done))) | (refine go_condF ?_ ?_; (focus (simp (disch := omega) only [go_sem, zA, zB, zC, zD, zE, zF, zG, zH, ↓reduceIte, zI, reduceCtorEq, zJ, zK, o1, o2, o3, o4, o5, o6, o7, o8, o9, hl2, ha, hv, hb, hu,  h2, m_impl_IsValidAtom, m_impl_isZeroTerm, m_impl_isVariable, m_impl_isQuantifier, m_impl_isBinary, m_slices_ContainsFunc_impl_Formula_impl_Formula]; done)))); (try simp (disch := omega) only [go_sem, zA, zB, zC, zD, zE, zF, zG, zH, ↓reduceIte, zI, reduceCtorEq, zJ, zK, o1, o2, o3, o4, o5, o6, o7, o8, o9, hl2, ha, hv, hb, hu,  h2, m_impl_IsValidAtom, m_impl_isZeroTerm, m_impl_isVariable, m_impl_isQuantifier, m_impl_isBinary, m_slices_ContainsFunc_impl_Formula_impl_Formula]))
set_option maxHeartbeats 1000000 in
theorem hasForm_5 (x : Fm) (hn : x.atom.nodes ≤ 1099511627776) (hl0 : x.parts.length ≤ 1099511627776) (ho : x.op = 5 ∨ x.op = 6 ∨ x.op = 7) (h2 : E 108 [.arr (x.parts.map Fm.d), .fn 131 []] [] = some (.bool (x.parts.any fun y => !y.forms), [])) : E 79 [x.sv] [] = some (.bool x.forms, []) := by
  have hf : x.form = (x.parts.length == 2 && x.atom.isZ && dec (x.var = ⟨#[]⟩)) := by unfold Fm.form; rcases ho with ho | ho | ho <;> simp [ho]
  rcases ho with ho | ho | ho
  all_goals
    have o1 : dec (x.op = 1) = false := dec_f (by omega)
    have o2 : dec (x.op = 2) = false := dec_f (by omega)
    have o3 : dec (x.op = 3) = false := dec_f (by omega)
    have o4 : dec (x.op = 4) = false := dec_f (by omega)
    first
      | (have o5 : dec (x.op = 5) = true := dec_t ho)
      | (have o5 : dec (x.op = 5) = false := dec_f (by omega))
    first
      | (have o6 : dec (x.op = 6) = true := dec_t ho)
      | (have o6 : dec (x.op = 6) = false := dec_f (by omega))
    first
      | (have o7 : dec (x.op = 7) = true := dec_t ho)
      | (have o7 : dec (x.op = 7) = false := dec_f (by omega))
    have o8 : dec (x.op = 8) = false := dec_f (by omega)
    have o9 : dec (x.op = 9) = false := dec_f (by omega)
    have ha := isZeroTerm_E x.atom
    have hv := isVariable_E x.var
    have hb := isBinary_E x.op
    have hu := isQuantifier_E x.op
    rw [o5, o6, o7] at hb
    rw [o8, o9] at hu
    rw [Fm.forms_eq, hf, ← Fm.any_not]
    by_cases hl : x.parts.length = 2
    · have hl2 : dec ((x.parts.length : Int) = 2) = true := dec_t (by omega)
      rw [hl, beq_self_eq_true, Bool.true_and]
      cases hw : dec (x.var = ⟨#[]⟩) with
      | false =>
        try rw [hw] at hv
        rw [Bool.and_false, Bool.false_and]
        refine E_walk k_impl_hasForm m_impl_hasForm (of_decide_eq_true rfl) ?_
        simp (disch := omega) only [c_impl_hasForm, go_sem, zA, zB, zC, zD, zE, zF, zG, zH, ↓reduceIte, zI, reduceCtorEq, zJ, zK, o1, o2, o3, o4, o5, o6, o7, o8, o9, hl2, ha, hv, hb, hu, hw, h2, m_impl_IsValidAtom, m_impl_isZeroTerm, m_impl_isVariable, m_impl_isQuantifier, m_impl_isBinary, m_slices_ContainsFunc_impl_Formula_impl_Formula]
        repeat ((first | (refine go_condT ?_ ?_; (focus (simp (disch := omega) only [go_sem, zA, zB, zC, zD, zE, zF, zG, zH, ↓reduceIte, zI, reduceCtorEq, zJ, zK, o1, o2, o3, o4, o5, o6, o7, o8, o9, hl2, ha, hv, hb, hu, hw, h2, m_impl_IsValidAtom, m_impl_isZeroTerm, m_impl_isVariable, m_impl_isQuantifier, m_impl_isBinary, m_slices_ContainsFunc_impl_Formula_impl_Formula]; done))) | (refine go_condF ?_ ?_; (focus (simp (disch := omega) only [go_sem, zA, zB, zC, zD, zE, zF, zG, zH, ↓reduceIte, zI, reduceCtorEq, zJ, zK, o1, o2, o3, o4, o5, o6, o7, o8, o9, hl2, ha, hv, hb, hu, hw, h2, m_impl_IsValidAtom, m_impl_isZeroTerm, m_impl_isVariable, m_impl_isQuantifier, m_impl_isBinary, m_slices_ContainsFunc_impl_Formula_impl_Formula]; done)))); (try simp (disch := omega) only [go_sem, zA, zB, zC, zD, zE, zF, zG, zH, ↓reduceIte, zI, reduceCtorEq, zJ, zK, o1, o2, o3, o4, o5, o6, o7, o8, o9, hl2, ha, hv, hb, hu, hw, h2, m_impl_IsValidAtom, m_impl_isZeroTerm, m_impl_isVariable, m_impl_isQuantifier, m_impl_isBinary, m_slices_ContainsFunc_impl_Formula_impl_Formula]))
      | true =>
        try rw [hw] at hv
        rw [Bool.and_true]
        cases hq : x.atom.isZ with
        | true =>
          rw [hq] at ha
          rw [Bool.true_and]
          refine E_walk k_impl_hasForm m_impl_hasForm (of_decide_eq_true rfl) ?_
          simp (disch := omega) only [c_impl_hasForm, go_sem, zA, zB, zC, zD, zE, zF, zG, zH, ↓reduceIte, zI, reduceCtorEq, zJ, zK, o1, o2, o3, o4, o5, o6, o7, o8, o9, hl2, ha, hv, hb, hu, hw, h2, m_impl_IsValidAtom, m_impl_isZeroTerm, m_impl_isVariable, m_impl_isQuantifier, m_impl_isBinary, m_slices_ContainsFunc_impl_Formula_impl_Formula]
          repeat ((first | (refine go_condT ?_ ?_; (focus (simp (disch := omega) only [go_sem, zA, zB, zC, zD, zE, zF, zG, zH, ↓reduceIte, zI, reduceCtorEq, zJ, zK, o1, o2, o3, o4, o5, o6, o7, o8, o9, hl2, ha, hv, hb, hu, hw, h2, m_impl_IsValidAtom, m_impl_isZeroTerm, m_impl_isVariable, m_impl_isQuantifier, m_impl_isBinary, m_slices_ContainsFunc_impl_Formula_impl_Formula]; done))) | (refine go_condF ?_ ?_; (focus (simp (disch := omega) only [go_sem, zA, zB, zC, zD, zE, zF, zG, zH, ↓reduceIte, zI, reduceCtorEq, zJ, zK, o1, o2, o3, o4, o5, o6, o7, o8, o9, hl2, ha, hv, hb, hu, hw, h2, m_impl_IsValidAtom, m_impl_isZeroTerm, m_impl_isVariable, m_impl_isQuantifier, m_impl_isBinary, m_slices_ContainsFunc_impl_Formula_impl_Formula]; done)))); (try simp (disch := omega) only [go_sem, zA, zB, zC, zD, zE, zF, zG, zH, ↓reduceIte, zI, reduceCtorEq, zJ, zK, o1, o2, o3, o4, o5, o6, o7, o8, o9, hl2, ha, hv, hb, hu, hw, h2, m_impl_IsValidAtom, m_impl_isZeroTerm, m_impl_isVariable, m_impl_isQuantifier, m_impl_isBinary, m_slices_ContainsFunc_impl_Formula_impl_Formula]))
        | false =>
          rw [hq] at ha
          rw [Bool.false_and]
          refine E_walk k_impl_hasForm m_impl_hasForm (of_decide_eq_true rfl) ?_
          simp (disch := omega) only [c_impl_hasForm, go_sem, zA, zB, zC, zD, zE, zF, zG, zH, ↓reduceIte, zI, reduceCtorEq, zJ, zK, o1, o2, o3, o4, o5, o6, o7, o8, o9, hl2, ha, hv, hb, hu, hw, h2, m_impl_IsValidAtom, m_impl_isZeroTerm, m_impl_isVariable, m_impl_isQuantifier, m_impl_isBinary, m_slices_ContainsFunc_impl_Formula_impl_Formula]
          repeat ((first | (refine go_condT ?_ ?_; (focus (simp (disch := omega) only [go_sem, zA, zB, zC, zD, zE, zF, zG, zH, ↓reduceIte, zI, reduceCtorEq, zJ, zK, o1, o2, o3, o4, o5, o6, o7, o8, o9, hl2, ha, hv, hb, hu, hw, h2, m_impl_IsValidAtom, m_impl_isZeroTerm, m_impl_isVariable, m_impl_isQuantifier, m_impl_isBinary, m_slices_ContainsFunc_impl_Formula_impl_Formula]; done))) | (refine go_condF ?_ ?_; (focus (simp (disch := omega) only [go_sem, zA, zB, zC, zD, zE, zF, zG, zH, ↓reduceIte, zI, reduceCtorEq, zJ, zK, o1, o2, o3, o4, o5, o6, o7, o8, o9, hl2, ha, hv, hb, hu, hw, h2, m_impl_IsValidAtom, m_impl_isZeroTerm, m_impl_isVariable, m_impl_isQuantifier, m_impl_isBinary, m_slices_ContainsFunc_impl_Formula_impl_Formula]; done)))); (try simp (disch := omega) only [go_sem, zA, zB, zC, zD, zE, zF, zG, zH, ↓reduceIte, zI, reduceCtorEq, zJ, zK, o1, o2, o3, o4, o5, o6, o7, o8, o9, hl2, ha, hv, hb, hu, hw, h2, m_impl_IsValidAtom, m_impl_isZeroTerm, m_impl_isVariable, m_impl_isQuantifier, m_impl_isBinary, m_slices_ContainsFunc_impl_Formula_impl_Formula]))
    · have hl2 : dec ((x.parts.length : Int) = 2) = false := dec_f (by omega)
      have hl3 : (x.parts.length == 2) = false := by simpa using hl
      rw [hl3, Bool.false_and, Bool.false_and, Bool.false_and]
      refine E_walk k_impl_hasForm m_impl_hasForm (of_decide_eq_true rfl) ?_
      simp (disch := omega) only [c_impl_hasForm, go_sem, zA, zB, zC, zD, zE, zF, zG, zH, ↓reduceIte, zI, reduceCtorEq, zJ, zK, o1, o2, o3, o4, o5, o6, o7, o8, o9, hl2, ha, hv, hb, hu,  h2, m_impl_IsValidAtom, m_impl_isZeroTerm, m_impl_isVariable, m_impl_isQuantifier, m_impl_isBinary, m_slices_ContainsFunc_impl_Formula_impl_Formula]
      repeat ((first | (refine go_condT ?_ ?_; (focus (simp (disch := omega) only [go_sem, zA, zB, zC, zD, zE, zF, zG, zH, ↓reduceIte, zI, reduceCtorEq, zJ, zK, o1, o2, o3, o4, o5, o6, o7, o8, o9, hl2, ha, hv, hb, hu,  h2, m_impl_IsValidAtom, m_impl_isZeroTerm, m_impl_isVariable, m_impl_isQuantifier, m_impl_isBinary, m_slices_ContainsFunc_impl_Formula_impl_Formula]; done))) | (refine go_condF ?_ ?_; (focus (simp (disch := omega) only [go_sem, zA, zB, zC, zD, zE, zF, zG, zH, ↓reduceIte, zI, reduceCtorEq, zJ, zK, o1, o2, o3, o4, o5, o6, o7, o8, o9, hl2, ha, hv, hb, hu,  h2, m_impl_IsValidAtom, m_impl_isZeroTerm, m_impl_isVariable, m_impl_isQuantifier, m_impl_isBinary, m_slices_ContainsFunc_impl_Formula_impl_Formula]; done)))); (try simp (disch := omega) only [go_sem, zA, zB, zC, zD, zE, zF, zG, zH, ↓reduceIte, zI, reduceCtorEq, zJ, zK, o1, o2, o3, o4, o5, o6, o7, o8, o9, hl2, ha, hv, hb, hu,  h2, m_impl_IsValidAtom, m_impl_isZeroTerm, m_impl_isVariable, m_impl_isQuantifier, m_impl_isBinary, m_slices_ContainsFunc_impl_Formula_impl_Formula]))
set_option maxHeartbeats 1000000 in
theorem hasForm_8 (x : Fm) (hn : x.atom.nodes ≤ 1099511627776) (hl0 : x.parts.length ≤ 1099511627776) (ho : x.op = 8 ∨ x.op = 9) (h2 : E 108 [.arr (x.parts.map Fm.d), .fn 131 []] [] = some (.bool (x.parts.any fun y => !y.forms), [])) : E 79 [x.sv] [] = some (.bool x.forms, []) := by
  have hf : x.form = (x.parts.length == 1 && x.atom.isZ && varB x.var) := by unfold Fm.form; rcases ho with ho | ho <;> simp [ho]
  rcases ho with ho | ho
  all_goals
    have o1 : dec (x.op = 1) = false := dec_f (by omega)
    have o2 : dec (x.op = 2) = false := dec_f (by omega)
    have o3 : dec (x.op = 3) = false := dec_f (by omega)
    have o4 : dec (x.op = 4) = false := dec_f (by omega)
    have o5 : dec (x.op = 5) = false := dec_f (by omega)
    have o6 : dec (x.op = 6) = false := dec_f (by omega)
    have o7 : dec (x.op = 7) = false := dec_f (by omega)
    first
      | (have o8 : dec (x.op = 8) = true := dec_t ho)
      | (have o8 : dec (x.op = 8) = false := dec_f (by omega))
    first
      | (have o9 : dec (x.op = 9) = true := dec_t ho)
      | (have o9 : dec (x.op = 9) = false := dec_f (by omega))
    have ha := isZeroTerm_E x.atom
    have hv := isVariable_E x.var
    have hb := isBinary_E x.op
    have hu := isQuantifier_E x.op
    rw [o5, o6, o7] at hb
    rw [o8, o9] at hu
    rw [Fm.forms_eq, hf, ← Fm.any_not]
    by_cases hl : x.parts.length = 1
    · have hl2 : dec ((x.parts.length : Int) = 1) = true := dec_t (by omega)
      rw [hl, beq_self_eq_true, Bool.true_and]
      cases hw : varB x.var with
      | false =>
        try rw [hw] at hv
        rw [Bool.and_false, Bool.false_and]
        refine E_walk k_impl_hasForm m_impl_hasForm (of_decide_eq_true rfl) ?_
        simp (disch := omega) only [c_impl_hasForm, go_sem, zA, zB, zC, zD, zE, zF, zG, zH, ↓reduceIte, zI, reduceCtorEq, zJ, zK, o1, o2, o3, o4, o5, o6, o7, o8, o9, hl2, ha, hv, hb, hu,  h2, m_impl_IsValidAtom, m_impl_isZeroTerm, m_impl_isVariable, m_impl_isQuantifier, m_impl_isBinary, m_slices_ContainsFunc_impl_Formula_impl_Formula]
        repeat ((first | (refine go_condT ?_ ?_; (focus (simp (disch := omega) only [go_sem, zA, zB, zC, zD, zE, zF, zG, zH, ↓reduceIte, zI, reduceCtorEq, zJ, zK, o1, o2, o3, o4, o5, o6, o7, o8, o9, hl2, ha, hv, hb, hu,  h2, m_impl_IsValidAtom, m_impl_isZeroTerm, m_impl_isVariable, m_impl_isQuantifier, m_impl_isBinary, m_slices_ContainsFunc_impl_Formula_impl_Formula]; done))) | (refine go_condF ?_ ?_; (focus (simp (disch := omega) only [go_sem, zA, zB, zC, zD, zE, zF, zG, zH, ↓reduceIte, zI, reduceCtorEq, zJ, zK, o1, o2, o3, o4, o5, o6, o7, o8, o9, hl2, ha, hv, hb, hu,  h2, m_impl_IsValidAtom, m_impl_isZeroTerm, m_impl_isVariable, m_impl_isQuantifier, m_impl_isBinary, m_slices_ContainsFunc_impl_Formula_impl_Formula]; done)))); (try simp (disch := omega) only [go_sem, zA, zB, zC, zD, zE, zF, zG, zH, ↓reduceIte, zI, reduceCtorEq, zJ, zK, o1, o2, o3, o4, o5, o6, o7, o8, o9, hl2, ha, hv, hb, hu,  h2, m_impl_IsValidAtom, m_impl_isZeroTerm, m_impl_isVariable, m_impl_isQuantifier, m_impl_isBinary, m_slices_ContainsFunc_impl_Formula_impl_Formula]))
      | true =>
        try rw [hw] at hv
        rw [Bool.and_true]
        cases hq : x.atom.isZ with
        | true =>
          rw [hq] at ha
          rw [Bool.true_and]
          refine E_walk k_impl_hasForm m_impl_hasForm (of_decide_eq_true rfl) ?_
          simp (disch := omega) only [c_impl_hasForm, go_sem, zA, zB, zC, zD, zE, zF, zG, zH, ↓reduceIte, zI, reduceCtorEq, zJ, zK, o1, o2, o3, o4, o5, o6, o7, o8, o9, hl2, ha, hv, hb, hu,  h2, m_impl_IsValidAtom, m_impl_isZeroTerm, m_impl_isVariable, m_impl_isQuantifier, m_impl_isBinary, m_slices_ContainsFunc_impl_Formula_impl_Formula]
          repeat ((first | (refine go_condT ?_ ?_; (focus (simp (disch := omega) only [go_sem, zA, zB, zC, zD, zE, zF, zG, zH, ↓reduceIte, zI, reduceCtorEq, zJ, zK, o1, o2, o3, o4, o5, o6, o7, o8, o9, hl2, ha, hv, hb, hu,  h2, m_impl_IsValidAtom, m_impl_isZeroTerm, m_impl_isVariable, m_impl_isQuantifier, m_impl_isBinary, m_slices_ContainsFunc_impl_Formula_impl_Formula]; done))) | (refine go_condF ?_ ?_; (focus (simp (disch := omega) only [go_sem, zA, zB, zC, zD, zE, zF, zG, zH, ↓reduceIte, zI, reduceCtorEq, zJ, zK, o1, o2, o3, o4, o5, o6, o7, o8, o9, hl2, ha, hv, hb, hu,  h2, m_impl_IsValidAtom, m_impl_isZeroTerm, m_impl_isVariable, m_impl_isQuantifier, m_impl_isBinary, m_slices_ContainsFunc_impl_Formula_impl_Formula]; done)))); (try simp (disch := omega) only [go_sem, zA, zB, zC, zD, zE, zF, zG, zH, ↓reduceIte, zI, reduceCtorEq, zJ, zK, o1, o2, o3, o4, o5, o6, o7, o8, o9, hl2, ha, hv, hb, hu,  h2, m_impl_IsValidAtom, m_impl_isZeroTerm, m_impl_isVariable, m_impl_isQuantifier, m_impl_isBinary, m_slices_ContainsFunc_impl_Formula_impl_Formula]))
        | false =>
          rw [hq] at ha
          rw [Bool.false_and]
          refine E_walk k_impl_hasForm m_impl_hasForm (of_decide_eq_true rfl) ?_
          simp (disch := omega) only [c_impl_hasForm, go_sem, zA, zB, zC, zD, zE, zF, zG, zH, ↓reduceIte, zI, reduceCtorEq, zJ, zK, o1, o2, o3, o4, o5, o6, o7, o8, o9, hl2, ha, hv, hb, hu,  h2, m_impl_IsValidAtom, m_impl_isZeroTerm, m_impl_isVariable, m_impl_isQuantifier, m_impl_isBinary, m_slices_ContainsFunc_impl_Formula_impl_Formula]
          repeat ((first | (refine go_condT ?_ ?_; (focus (simp (disch := omega) only [go_sem, zA, zB, zC, zD, zE, zF, zG, zH, ↓reduceIte, zI, reduceCtorEq, zJ, zK, o1, o2, o3, o4, o5, o6, o7, o8, o9, hl2, ha, hv, hb, hu,  h2, m_impl_IsValidAtom, m_impl_isZeroTerm, m_impl_isVariable, m_impl_isQuantifier, m_impl_isBinary, m_slices_ContainsFunc_impl_Formula_impl_Formula]; done))) | (refine go_condF ?_ ?_; (focus (simp (disch := omega) only [go_sem, zA, zB, zC, zD, zE, zF, zG, zH, ↓reduceIte, zI, reduceCtorEq, zJ, zK, o1, o2, o3, o4, o5, o6, o7, o8, o9, hl2, ha, hv, hb, hu,  h2, m_impl_IsValidAtom, m_impl_isZeroTerm, m_impl_isVariable, m_impl_isQuantifier, m_impl_isBinary, m_slices_ContainsFunc_impl_Formula_impl_Formula]; done)))); (try simp (disch := omega) only [go_sem, zA, zB, zC, zD, zE, zF, zG, zH, ↓reduceIte, zI, reduceCtorEq, zJ, zK, o1, o2, o3, o4, o5, o6, o7, o8, o9, hl2, ha, hv, hb, hu,  h2, m_impl_IsValidAtom, m_impl_isZeroTerm, m_impl_isVariable, m_impl_isQuantifier, m_impl_isBinary, m_slices_ContainsFunc_impl_Formula_impl_Formula]))
    · have hl2 : dec ((x.parts.length : Int) = 1) = false := dec_f (by omega)
      have hl3 : (x.parts.length == 1) = false := by simpa using hl
      rw [hl3, Bool.false_and, Bool.false_and, Bool.false_and]
      refine E_walk k_impl_hasForm m_impl_hasForm (of_decide_eq_true rfl) ?_
      simp (disch := omega) only [c_impl_hasForm, go_sem, zA, zB, zC, zD, zE, zF, zG, zH, ↓reduceIte, zI, reduceCtorEq, zJ, zK, o1, o2, o3, o4, o5, o6, o7, o8, o9, hl2, ha, hv, hb, hu,  h2, m_impl_IsValidAtom, m_impl_isZeroTerm, m_impl_isVariable, m_impl_isQuantifier, m_impl_isBinary, m_slices_ContainsFunc_impl_Formula_impl_Formula]
      repeat ((first | (refine go_condT ?_ ?_; (focus (simp (disch := omega) only [go_sem, zA, zB, zC, zD, zE, zF, zG, zH, ↓reduceIte, zI, reduceCtorEq, zJ, zK, o1, o2, o3, o4, o5, o6, o7, o8, o9, hl2, ha, hv, hb, hu,  h2, m_impl_IsValidAtom, m_impl_isZeroTerm, m_impl_isVariable, m_impl_isQuantifier, m_impl_isBinary, m_slices_ContainsFunc_impl_Formula_impl_Formula]; done))) | (refine go_condF ?_ ?_; (focus (simp (disch := omega) only [go_sem, zA, zB, zC, zD, zE, zF, zG, zH, ↓reduceIte, zI, reduceCtorEq, zJ, zK, o1, o2, o3, o4, o5, o6, o7, o8, o9, hl2, ha, hv, hb, hu,  h2, m_impl_IsValidAtom, m_impl_isZeroTerm, m_impl_isVariable, m_impl_isQuantifier, m_impl_isBinary, m_slices_ContainsFunc_impl_Formula_impl_Formula]; done)))); (try simp (disch := omega) only [go_sem, zA, zB, zC, zD, zE, zF, zG, zH, ↓reduceIte, zI, reduceCtorEq, zJ, zK, o1, o2, o3, o4, o5, o6, o7, o8, o9, hl2, ha, hv, hb, hu,  h2, m_impl_IsValidAtom, m_impl_isZeroTerm, m_impl_isVariable, m_impl_isQuantifier, m_impl_isBinary, m_slices_ContainsFunc_impl_Formula_impl_Formula]))
theorem hasForm_of (x : Fm) (ht : x.tame) (hn : x.nodes ≤ 1099511627776) (ih : ∀ y ∈ x.parts, E 79 [y.sv] [] = some (.bool y.forms, [])) : E 79 [x.sv] [] = some (.bool x.forms, []) := by
  have hl := Fm.length_le x.parts
  have hx := Fm.nodes_eq x
  have ha := Fm.tame_at ht
  have h1 : ∀ y ∈ x.parts, E 131 [y.sv] [] = some (.bool (!y.forms), []) := fun y hy => by
    have h := ih y hy
    refine E_walk k_impl_hasForm_1 m_impl_hasForm_1 (of_decide_eq_true rfl) ?_
    simp (disch := omega) only [c_impl_hasForm_1, go_sem, go_cond, zA, zB, zC, zD, zE, zF, zG, zH, ↓reduceIte, zI, reduceCtorEq, zJ, zK, h, m_impl_hasForm]
  have h2 := containsFunc_forms 131 (fun y => !y.forms) x.parts (by omega) g_impl_hasForm_1 (by rw [m_impl_hasForm_1]) h1
  rcases op_cases x.op with h | h | h | h | h | h | h | h | h | h
  · exact hasForm_1 x ha (by omega) (.inl h) h2
  · exact hasForm_1 x ha (by omega) (.inr h) h2
  · exact hasForm_3 x ha (by omega) h h2
  · exact hasForm_4 x ha (by omega) h h2
  · exact hasForm_5 x ha (by omega) (.inl h) h2
  · exact hasForm_5 x ha (by omega) (.inr (.inl h)) h2
  · exact hasForm_5 x ha (by omega) (.inr (.inr h)) h2
  · exact hasForm_8 x ha (by omega) (.inl h) h2
  · exact hasForm_8 x ha (by omega) (.inr h) h2
  · obtain ⟨k1, k2, k3, k4, k5, k6, k7, k8, k9⟩ := h
    have hf : x.form = false := by unfold Fm.form; simp [k1, k2, k3, k4, k5, k6, k7, k8, k9]
    have o1 := dec_f k1
    have o2 := dec_f k2
    have o3 := dec_f k3
    have o4 := dec_f k4
    have o5 := dec_f k5
    have o6 := dec_f k6
    have o7 := dec_f k7
    have o8 := dec_f k8
    have o9 := dec_f k9
    have hb := isBinary_E x.op
    have hu := isQuantifier_E x.op
    rw [o5, o6, o7] at hb
    rw [o8, o9] at hu
    rw [Fm.forms_eq, hf, Bool.false_and]
    refine E_walk k_impl_hasForm m_impl_hasForm (of_decide_eq_true rfl) ?_
    simp (disch := omega) only [c_impl_hasForm, go_sem, zA, zB, zC, zD, zE, zF, zG, zH, ↓reduceIte, zI, reduceCtorEq, zJ, zK, o1, o2, o3, o4, o5, o6, o7, o8, o9, hb, hu, m_impl_isQuantifier, m_impl_isBinary]
    repeat ((first | (refine go_condT ?_ ?_; (focus (simp (disch := omega) only [go_sem, zA, zB, zC, zD, zE, zF, zG, zH, ↓reduceIte, zI, reduceCtorEq, zJ, zK, o1, o2, o3, o4, o5, o6, o7, o8, o9, hb, hu, m_impl_isQuantifier, m_impl_isBinary]; done))) | (refine go_condF ?_ ?_; (focus (simp (disch := omega) only [go_sem, zA, zB, zC, zD, zE, zF, zG, zH, ↓reduceIte, zI, reduceCtorEq, zJ, zK, o1, o2, o3, o4, o5, o6, o7, o8, o9, hb, hu, m_impl_isQuantifier, m_impl_isBinary]; done)))); (try simp (disch := omega) only [go_sem, zA, zB, zC, zD, zE, zF, zG, zH, ↓reduceIte, zI, reduceCtorEq, zJ, zK, o1, o2, o3, o4, o5, o6, o7, o8, o9, hb, hu, m_impl_isQuantifier, m_impl_isBinary]))
theorem hasForm_E (x : Fm) (ht : x.tame) (hn : x.nodes ≤ 1099511627776) : E 79 [x.sv] [] = some (.bool x.forms, []) :=
  hasForm_of x ht hn fun y hy => hasForm_E y (Fm.tame_part ht hy) (by have := Fm.nodes_mem hy; have := Fm.nodes_eq x; omega)
termination_by SizeOf.sizeOf x
decreasing_by exact Fm.lt_of_mem hy
theorem isValidFormula_E (x : Fm) (ht : x.tame) (hn : x.nodes ≤ 1099511627776) : E 39 [x.sv] [] = some (.bool x.valid, []) := by
  have h1 := sizeF_E x hn
  have h2 := hasForm_E x ht hn
  have h3 := Fm.cap_spec x
  unfold Fm.valid
  rcases Nat.lt_or_ge 40 x.nodes with h5 | h5
  · rw [decide_eq_false (by omega), Bool.false_and]
    have d : dec (x.cap ≤ 40) = false := dec_f (by omega)
    refine E_walk k_impl_IsValidFormula m_impl_IsValidFormula (of_decide_eq_true rfl) ?_
    simp (disch := omega) only [c_impl_IsValidFormula, go_sem, go_cond, zA, zB, zC, zD, zE, zF, zG, zH, ↓reduceIte, zI, reduceCtorEq, zJ, zK, h1, h2, d, m_impl_sizeOf, m_impl_hasForm]
  · rw [decide_eq_true h5, Bool.true_and]
    have d : dec (x.cap ≤ 40) = true := dec_t (by omega)
    refine E_walk k_impl_IsValidFormula m_impl_IsValidFormula (of_decide_eq_true rfl) ?_
    simp (disch := omega) only [c_impl_IsValidFormula, go_sem, go_cond, zA, zB, zC, zD, zE, zF, zG, zH, ↓reduceIte, zI, reduceCtorEq, zJ, zK, h1, h2, d, m_impl_sizeOf, m_impl_hasForm]
theorem l8Good_E (x : Fm) (ht : x.tame) (hn : x.nodes ≤ 1099511627776) : E 35 [x.sv] [] = some (.bool x.valid, []) := by
  have h1 := manyF_E x 40 (by omega) (by omega) hn
  have h2 := l8Forms_E x ht hn
  have h3 := Fm.many_spec x 40
  unfold Fm.valid
  rcases Nat.lt_or_ge 40 x.nodes with h5 | h5
  · rw [decide_eq_false (by omega), Bool.false_and]
    have d : dec ((x.many 40) ≤ 40) = false := dec_f (by omega)
    refine E_walk k_spec_l8Good m_spec_l8Good (of_decide_eq_true rfl) ?_
    simp (disch := omega) only [c_spec_l8Good, go_sem, go_cond, zA, zB, zC, zD, zE, zF, zG, zH, ↓reduceIte, zI, reduceCtorEq, zJ, zK, h1, h2, d, m_spec_l8Many, m_spec_l8Forms]
  · rw [decide_eq_true h5, Bool.true_and]
    have d : dec ((x.many 40) ≤ 40) = true := dec_t (by omega)
    refine E_walk k_spec_l8Good m_spec_l8Good (of_decide_eq_true rfl) ?_
    simp (disch := omega) only [c_spec_l8Good, go_sem, go_cond, zA, zB, zC, zD, zE, zF, zG, zH, ↓reduceIte, zI, reduceCtorEq, zJ, zK, h1, h2, d, m_spec_l8Many, m_spec_l8Forms]
theorem cloneS_E (xs : List ByteArray) (h : xs.length ≤ 1048576) : E 179 [.arr (xs.map fun s => [D.str s])] [] = some (.ref 0, [.row 9 1 (xs.map fun s => [OT.str s])]) := by
  rw [E_extO (g := cloneS) (by unfold modes; rfl)]
  unfold cloneS
  simp only
  rw [dec_t ⟨fun e he => by obtain ⟨s, _, rfl⟩ := List.mem_map.1 he; exact ⟨s, rfl⟩, by simpa using h⟩, cond_true, List.map_map]
  rfl
theorem m_slices_Clone_string_string : modes 179 = ⟨[], .asis, some cloneS, false⟩ := by unfold modes; rfl
theorem vars_of_atom {x : Fm} (h : x.form = true) (ho : x.op = 3) : E 178 [x.atom.sv] [] = some (.ref 0, [.row 9 1 ((insA [] x.atom.vs).map fun s => [OT.str s])]) := by
  have ha := (Fm.form_atom h ho).2.1
  have hn := Tm.atom_nodes ha
  have h1 := variables_of x.atom (collectA_E x.atom ha) (by omega)
  have e : x.atom.vars = insA [] x.atom.vs := srtB_insA _
  rw [e] at h1
  exact h1
theorem addA_filter (b acc : List ByteArray) (n : ByteArray) (ns : List ByteArray) : addA acc ((n :: ns).filter fun m => !dec (m ∈ b)) = addA (bif dec (n ∈ b) then acc else addU acc n) (ns.filter fun m => !dec (m ∈ b)) := by
  rw [List.filter_cons]
  cases dec (n ∈ b) with
  | true => rfl
  | false => rfl
def c_impl_gather : SC := (.seq (.reg [⟨some 4, none, .boxv 34 5 (.t 1)⟩, ⟨some 6, none, .mv (.c .nil)⟩]) (.seq (.seq (.reg [⟨some 11, none, .faddr 0 (.t 4)⟩, ⟨some 12, none, .load false 1 (.t 11)⟩, ⟨some 13, none, .bin .eql false (.t 12) (.c (.int .i64 3))⟩]) (.cond (.t 13) (.seq (.seq (.reg [⟨some 14, none, .faddr 1 (.t 4)⟩, ⟨some 15, none, .load true 2 (.t 14)⟩, ⟨some 16, none, .call 178 [(.t 15)]⟩, ⟨some 17, none, .len false (.t 16)⟩, ⟨some 18, none, .mv (.c (.int .i64 0))⟩]) (.block 0 (.loop [1, 0, 1, 0, 0, 0, 0, 0, 0, 0, 0, 0, 0, 0, 0, 0, 1, 1, 1, 0, 0, 0, 0, 0, 0, 0, 0, 0, 0, 0, 0, 0, 0, 0, 0, 0, 0, 0, 0, 0, 0, 0, 0, 0, 0, 0, 0, 0, 0, 0, 0, 0, 0, 0, 0, 0, 0, 0, 0, 0] (.seq (.reg [⟨some 19, none, .bin .lss false (.t 18) (.t 17)⟩]) (.seq (.cond (.t 19) .skip (.exit 0)) (.seq (.block 1 (.seq (.reg [⟨some 20, none, .iaddr 1 (.t 16) (.t 18)⟩, ⟨some 21, none, .load false 1 (.t 20)⟩, ⟨some 8, none, .mv (.t 21)⟩]) (.seq (.reg [⟨some 22, none, .mv (.t 2)⟩, ⟨some 23, none, .mv (.t 8)⟩, ⟨some 24, none, .call 110 [(.t 22), (.t 23)]⟩, ⟨some 25, none, .un .not (.t 24)⟩, ⟨some 26, none, .mv (.t 25)⟩, ⟨(some 27), (some (26, true)), (.mv (.t 0))⟩, ⟨(some 28), (some (26, true)), (.mv (.t 8))⟩, ⟨(some 29), (some (26, true)), (.call 110 [(.t 27), (.t 28)])⟩, ⟨(some 30), (some (26, true)), (.un .not (.t 29))⟩, ⟨some 31, none, .pick (.t 26) (.t 30) (.c (.bool false))⟩]) (.cond (.t 31) (.reg [⟨some 32, none, .mv (.t 0)⟩, ⟨some 33, none, .mv (.t 8)⟩, ⟨(some 34), none, (.mkrow 9 1 [(.str ⟨#[]⟩)] 1 [(0, (.t 33))])⟩, ⟨(some 35), none, (.append 9 1 16 [(.str ⟨#[]⟩)] (.t 32) (.t 34))⟩, ⟨some 0, none, .mv (.t 35)⟩]) .skip)))) (.reg [⟨some 36, none, .bin .add false (.t 18) (.c (.int .i64 1))⟩, ⟨some 18, none, .mv (.t 36)⟩]))))))) (.seq (.reg [⟨some 37, none, .mv (.t 0)⟩, ⟨some 6, none, .mv (.t 37)⟩]) .ret)) .skip)) (.seq (.seq (.reg [⟨some 38, none, .faddr 0 (.t 4)⟩, ⟨some 39, none, .load false 1 (.t 38)⟩, ⟨some 40, none, .call 106 [(.t 39)]⟩]) (.cond (.t 40) (.dreg [[], [0], [], [2], [3, 2], [1, 0, 4, 3, 2], [5, 1, 0, 4, 3, 2]] [⟨some 41, none, .mv (.t 2)⟩, ⟨some 42, none, .call 179 [(.t 41)]⟩, ⟨some 43, none, .faddr 3 (.t 4)⟩, ⟨some 44, none, .load false 1 (.t 43)⟩, ⟨(some 45), none, (.mkrow 9 1 [(.str ⟨#[]⟩)] 1 [(0, (.t 44))])⟩, ⟨(some 46), none, (.append 9 1 16 [(.str ⟨#[]⟩)] (.t 42) (.t 45))⟩, ⟨some 2, none, .mv (.t 46)⟩]) .skip)) (.seq (.seq (.reg [⟨some 47, none, .faddr 4 (.t 4)⟩, ⟨some 48, none, .load false 1 (.t 47)⟩, ⟨some 49, none, .len false (.t 48)⟩, ⟨some 50, none, .mv (.c (.int .i64 0))⟩]) (.block 2 (.loop [1, 0, 1, 0, 0, 0, 0, 0, 0, 0, 0, 0, 0, 0, 0, 0, 0, 0, 0, 0, 0, 0, 0, 0, 0, 0, 0, 0, 0, 0, 0, 0, 0, 0, 0, 0, 0, 0, 0, 0, 0, 0, 0, 0, 0, 0, 0, 0, 1, 1, 1, 0, 0, 0, 0, 0, 0, 0, 0, 0] (.seq (.reg [⟨some 51, none, .bin .lss false (.t 50) (.t 49)⟩]) (.seq (.cond (.t 51) .skip (.exit 2)) (.seq (.block 3 (.seq (.reg [⟨some 52, none, .iaddr 5 (.t 48) (.t 50)⟩, ⟨some 53, none, .load true 5 (.t 52)⟩, ⟨(some 10), none, (.alloc 34 [(.int .i64 0), (.str ⟨#[]⟩), .nil, (.str ⟨#[]⟩), .nil])⟩, ⟨none, none, (.store 5 (.t 10) (.t 53))⟩]) (.reg [⟨some 54, none, .mv (.t 0)⟩, ⟨some 55, none, .load true 5 (.t 10)⟩, ⟨some 56, none, .mv (.t 2)⟩, ⟨some 57, none, .call 134 [(.t 54), (.t 55), (.t 56)]⟩, ⟨some 0, none, .mv (.t 57)⟩]))) (.reg [⟨some 58, none, .bin .add false (.t 50) (.c (.int .i64 1))⟩, ⟨some 50, none, .mv (.t 58)⟩]))))))) (.seq (.reg [⟨some 59, none, .mv (.t 0)⟩, ⟨some 6, none, .mv (.t 59)⟩]) .ret)))))
theorem k_impl_gather : codeOf Tryz.prog 134 = some ⟨60, c_impl_gather, [(.tmp 6)]⟩ := by kernel_rfl
theorem m_impl_gather : modes 134 = ⟨[true], .asis, none, false⟩ := by unfold modes; rfl
def c_impl_free : SC := (.seq (.reg [⟨some 1, none, .boxv 34 5 (.t 0)⟩, ⟨some 2, none, .mv (.c .nil)⟩]) (.seq (.reg [⟨(some 4), none, (.mkrow 9 1 [(.str ⟨#[]⟩)] 0 [])⟩, ⟨some 5, none, .load true 5 (.t 1)⟩, ⟨some 6, none, .call 134 [(.t 4), (.t 5), (.c .nil)]⟩, ⟨some 3, none, .mv (.t 6)⟩]) (.seq (.reg [⟨some 7, none, .mv (.t 3)⟩, ⟨some 8, none, .call 135 [(.t 7)]⟩]) (.seq (.reg [⟨some 9, none, .mv (.t 3)⟩, ⟨some 2, none, .mv (.t 9)⟩]) .ret))))
theorem k_impl_free : codeOf Tryz.prog 82 = some ⟨10, c_impl_free, [(.tmp 2)]⟩ := by kernel_rfl
theorem m_impl_free : modes 82 = ⟨[], .asis, none, false⟩ := by unfold modes; rfl
abbrev GatC (x : Fm) : Prop := ∀ l b : List ByteArray, l.length + x.vn ≤ 1048576 → b.length + x.nodes ≤ 1048576 → E 134 [.ref 0, x.sv, .arr (b.map fun s => [D.str s])] [.row 9 1 (l.map fun s => [OT.str s])] = some ((bif dec (l.length < (addA l (x.fv b)).length) then .ref 1 else .ref 0), (bif dec (l.length < (addA l (x.fv b)).length) then [.gone, .row 9 1 ((addA l (x.fv b)).map fun s => [OT.str s])] else [.row 9 1 ((addA l (x.fv b)).map fun s => [OT.str s])]))
set_option maxHeartbeats 8000000 in
theorem gather_of (x : Fm) (hx : x.forms = true) (ih : ∀ y ∈ x.parts, GatC y) : GatC x := by
  intro l b hn hb
  have hfo := Fm.forms_form hx
  have hvn := Fm.vn_eq x
  have hnd := Fm.nodes_eq x
  have hpl := Fm.length_le x.parts
  have hfv := Fm.fv_eq x b
  have hat := Fm.atom_le hfo
  have hgl : dec (l.length < l.length) = false := dec_f (by omega)
  have hxs : x.sv = .agg [.int .i64 x.op, .str x.atom.name, .arr (x.atom.args.map Tm.d), .str x.var, .arr (x.parts.map Fm.d)] := rfl
  have has : x.atom.sv = .agg [.str x.atom.name, .arr (x.atom.args.map Tm.d)] := rfl
  cases ho : dec (x.op = 3) with
  | true =>
    rw [ho] at hfv
    simp only [cond_true] at hfv
    have hv := vars_of_atom hfo (dec_iff.1 ho)
    have hil := insA_len x.atom.vs []
    have hvl := Tm.vs_len x.atom
    simp only [List.length_nil] at hil
    obtain ⟨ns, hns⟩ : ∃ ns, ns = insA [] x.atom.vs := ⟨_, rfl⟩
    rw [← hns] at hv hfv hil
    rw [hfv]
    refine E_walk k_impl_gather m_impl_gather (of_decide_eq_true rfl) ?_
    simp (disch := omega) only [c_impl_gather, go_sem, go_cond, zA, zB, zC, zD, zE, zF, zG, zH, ↓reduceIte, zI, reduceCtorEq, zJ, zK, ho, hv, m_impl_variables]
    refine go_loop (α := Int × (List ByteArray)) (fun a => ⟨slots 60 0 [(0, (bif dec (l.length < (a.2).length) then .ref 1 else .ref 0)), (2, .arr (b.map fun s => [D.str s])), (16, (bif dec (l.length < (a.2).length) then .ref 2 else .ref 1)), (17, .int .i64 ns.length), (18, .int .i64 (a.1))], (bif dec (l.length < (a.2).length) then [.gone, .row 9 1 ((a.2).map fun s => [OT.str s]), .row 9 1 (ns.map fun s => [OT.str s])] else [.row 9 1 ((a.2).map fun s => [OT.str s]), .row 9 1 (ns.map fun s => [OT.str s])])⟩) (fun a => ∃ k : Nat, a.1 = k ∧ k ≤ (ns).length ∧ addA (a.2) ((ns.drop k).filter fun m => !dec (m ∈ b)) = addA l (ns.filter fun m => !dec (m ∈ b)) ∧ (a.2).length + (ns.length - k) ≤ 1048576 ∧ l.length ≤ (a.2).length) (fun a => (ns).length - (a.1).toNat) (0, l) ⟨0, rfl, Nat.zero_le _, by rw [List.drop_zero], by dsimp only; omega, Nat.le_refl _⟩ (by simp (disch := omega) only [go_sem, go_cond, zA, zB, zC, zD, zE, zF, zG, zH, ↓reduceIte, zI, reduceCtorEq, zJ, zK, hgl]) ?_
    rintro ⟨i, acc⟩ ⟨k, hi, hk, hR⟩
    dsimp only at hi hR
    have hni : i.toNat = k := by omega
    have hni1 : (i + 1).toNat = k + 1 := by omega
    rcases Nat.lt_or_ge k (ns).length with hlt | hge
    · have hg : (ns.map fun s => [OT.str s])[k]? = some [OT.str ns[k]] := by rw [List.getElem?_map, List.getElem?_eq_getElem hlt]; rfl
      obtain ⟨hR1, hR2, hR3⟩ := hR
      rw [List.drop_eq_getElem_cons hlt, addA_filter] at hR1
      have c1 := containsS_E b ns[k] (by omega)
      have c2 := containsS_E acc ns[k] (by omega)
      rcases Nat.lt_or_ge l.length acc.length with q1 | q1
      all_goals
        cases hq : dec (ns[k] ∈ b) with
        | true =>
          rw [hq] at c1 hR1
          simp only [cond_true] at hR1
          simp (disch := omega) only [go_sem, go_cond, zA, zB, zC, zD, zE, zF, zG, zH, ↓reduceIte, zI, reduceCtorEq, zJ, zK, hni, hg, c1, c2, m_slices_Contains_string_string]
          refine ⟨(i + 1, acc), ⟨k + 1, by dsimp only; omega, hlt, hR1, by dsimp only; omega, by dsimp only; omega⟩, by dsimp only; omega, ?_⟩
          first | done | simp (disch := omega) only [go_sem, go_cond, zA, zB, zC, zD, zE, zF, zG, zH, ↓reduceIte, zI, reduceCtorEq, zJ, zK]
        | false =>
          rw [hq] at c1 hR1
          simp only [cond_false] at hR1
          cases hm : dec (ns[k] ∈ acc) with
          | true =>
            have e2 : addU acc ns[k] = acc := by unfold addU; rw [hm]; rfl
            rw [hm] at c2
            rw [e2] at hR1
            simp (disch := omega) only [go_sem, go_cond, zA, zB, zC, zD, zE, zF, zG, zH, ↓reduceIte, zI, reduceCtorEq, zJ, zK, hni, hg, c1, c2, m_slices_Contains_string_string]
            refine ⟨(i + 1, acc), ⟨k + 1, by dsimp only; omega, hlt, hR1, by dsimp only; omega, by dsimp only; omega⟩, by dsimp only; omega, ?_⟩
            first | done | simp (disch := omega) only [go_sem, go_cond, zA, zB, zC, zD, zE, zF, zG, zH, ↓reduceIte, zI, reduceCtorEq, zJ, zK]
          | false =>
            have e2 : addU acc ns[k] = acc ++ [ns[k]] := by unfold addU; rw [hm]; rfl
            have hl1 : (acc.map fun s => [OT.str s]) ++ [[OT.str ns[k]]] = (acc ++ [ns[k]]).map fun s => [OT.str s] := by simp
            have q2 : dec (l.length < (acc ++ [ns[k]]).length) = true := dec_t (by simp; omega)
            rw [hm] at c2
            rw [e2] at hR1
            simp (disch := omega) only [go_sem, go_cond, zA, zB, zC, zD, zE, zF, zG, zH, ↓reduceIte, zI, reduceCtorEq, zJ, zK, hni, hg, c1, c2, hl1, m_slices_Contains_string_string]
            refine ⟨(i + 1, acc ++ [ns[k]]), ⟨k + 1, by dsimp only; omega, hlt, hR1, by simp; omega, by simp; omega⟩, by dsimp only; omega, ?_⟩
            first | done | simp (disch := omega) only [go_sem, go_cond, zA, zB, zC, zD, zE, zF, zG, zH, ↓reduceIte, zI, reduceCtorEq, zJ, zK, q2, hl1]
    · rw [List.drop_eq_nil_of_le hge] at hR
      obtain ⟨hR1, hR2, hR3⟩ := hR
      have hR1 : acc = _ := hR1
      rw [← hR1]
      rcases Nat.lt_or_ge l.length acc.length with q1 | q1
      · simp (disch := omega) only [go_sem, go_cond, zA, zB, zC, zD, zE, zF, zG, zH, ↓reduceIte, zI, reduceCtorEq, zJ, zK, hni]
      · simp (disch := omega) only [go_sem, go_cond, zA, zB, zC, zD, zE, zF, zG, zH, ↓reduceIte, zI, reduceCtorEq, zJ, zK, hni]
  | false =>
    rw [ho] at hfv
    simp only [cond_false] at hfv
    have hu := isQuantifier_E x.op
    cases hq : qB x.op with
    | false =>
      rw [hq] at hfv
      simp only [cond_false] at hfv
      rw [hfv]
      unfold qB at hq
      rw [hq] at hu
      obtain ⟨b', hb'⟩ : ∃ b', b' = b := ⟨_, rfl⟩
      have hbl : b'.length ≤ b.length + 1 := by rw [hb']; omega
      rw [← hb']
      refine E_walk k_impl_gather m_impl_gather (of_decide_eq_true rfl) ?_
      simp (disch := omega) only [c_impl_gather, go_sem, go_cond, zA, zB, zC, zD, zE, zF, zG, zH, ↓reduceIte, zI, reduceCtorEq, zJ, zK, ho, hu, m_impl_isQuantifier]
      refine go_loop (α := Int × (List ByteArray)) (fun a => ⟨slots 60 0 [(0, (bif dec (l.length < (a.2).length) then .ref 1 else .ref 0)), (2, .arr (b'.map fun s => [D.str s])), (48, .arr (x.parts.map Fm.d)), (49, .int .i64 x.parts.length), (50, .int .i64 (a.1))], (bif dec (l.length < (a.2).length) then [.gone, .row 9 1 ((a.2).map fun s => [OT.str s])] else [.row 9 1 ((a.2).map fun s => [OT.str s])])⟩) (fun a => ∃ k : Nat, a.1 = k ∧ k ≤ (x.parts).length ∧ addA (a.2) (Fm.fvL (x.parts.drop k) b') = addA l (Fm.fvL x.parts b') ∧ (a.2).length + Fm.vnS (x.parts.drop k) ≤ 1048576 ∧ l.length ≤ (a.2).length) (fun a => (x.parts).length - (a.1).toNat) (0, l) ⟨0, rfl, Nat.zero_le _, by rw [List.drop_zero], by rw [List.drop_zero]; dsimp only; omega, Nat.le_refl _⟩ (by simp (disch := omega) only [go_sem, go_cond, zA, zB, zC, zD, zE, zF, zG, zH, ↓reduceIte, zI, reduceCtorEq, zJ, zK, hgl]) ?_
      rintro ⟨i, acc⟩ ⟨k, hi, hk, hR⟩
      dsimp only at hi hR
      have hni : i.toNat = k := by omega
      have hni1 : (i + 1).toNat = k + 1 := by omega
      rcases Nat.lt_or_ge k (x.parts).length with hlt | hge
      · have hg := get_at Fm.d hlt
        rw [Fm.d_eq] at hg
        obtain ⟨hR1, hR2, hR3⟩ := hR
        rw [List.drop_eq_getElem_cons hlt, Fm.fvL, addA_app] at hR1
        rw [List.drop_eq_getElem_cons hlt, Fm.vnS] at hR2
        have hnm := Fm.nodes_le x.parts k hlt
        have hc := ih x.parts[k] (List.getElem_mem hlt) acc b' (by omega) (by omega)
        have hlen := addA_len (x.parts[k].fv b') acc
        have hgr := addA_grow (x.parts[k].fv b') acc
        have hvl := Fm.fv_len x.parts[k] b'
        obtain ⟨acc2, ha2⟩ : ∃ a, a = addA acc (x.parts[k].fv b') := ⟨_, rfl⟩
        rw [← ha2] at hc hlen hgr hR1
        rcases Nat.lt_or_ge l.length acc.length with q1 | q1 <;> rcases Nat.lt_or_ge acc.length acc2.length with q2 | q2
        all_goals
          first
            | rw [dec_t q2] at hc
            | rw [dec_f (Nat.not_lt.2 q2)] at hc
          simp only [cond_true, cond_false] at hc
          simp (disch := omega) only [go_sem, go_cond, zA, zB, zC, zD, zE, zF, zG, zH, ↓reduceIte, zI, reduceCtorEq, zJ, zK, hni, hg, hc, m_impl_gather]
          refine ⟨(i + 1, acc2), ⟨k + 1, by dsimp only; omega, hlt, hR1, by dsimp only; omega, by dsimp only; omega⟩, by dsimp only; omega, ?_⟩
          first | done | simp (disch := omega) only [go_sem, go_cond, zA, zB, zC, zD, zE, zF, zG, zH, ↓reduceIte, zI, reduceCtorEq, zJ, zK]
      · rw [List.drop_eq_nil_of_le hge, Fm.fvL] at hR
        obtain ⟨hR1, hR2, hR3⟩ := hR
        have hR1 : acc = _ := hR1
        rw [← hR1]
        rcases Nat.lt_or_ge l.length acc.length with q1 | q1
        · simp (disch := omega) only [go_sem, go_cond, zA, zB, zC, zD, zE, zF, zG, zH, ↓reduceIte, zI, reduceCtorEq, zJ, zK, hni]
        · simp (disch := omega) only [go_sem, go_cond, zA, zB, zC, zD, zE, zF, zG, zH, ↓reduceIte, zI, reduceCtorEq, zJ, zK, hni]
    | true =>
      rw [hq] at hfv
      simp only [cond_true] at hfv
      rw [hfv]
      unfold qB at hq
      rw [hq] at hu
      have hcl := cloneS_E b (by omega)
      have hl1 : (b.map fun s => [OT.str s]) ++ [[OT.str x.var]] = (b ++ [x.var]).map fun s => [OT.str s] := by simp
      obtain ⟨b', hb'⟩ : ∃ b', b' = b ++ [x.var] := ⟨_, rfl⟩
      have hbl : b'.length ≤ b.length + 1 := by rw [hb']; simp
      rw [← hb'] at hl1
      rw [← hb']
      refine E_walk k_impl_gather m_impl_gather (of_decide_eq_true rfl) ?_
      simp (disch := omega) only [c_impl_gather, go_sem, go_cond, zA, zB, zC, zD, zE, zF, zG, zH, ↓reduceIte, zI, reduceCtorEq, zJ, zK, ho, hu, hcl, hl1, m_impl_isQuantifier, m_slices_Clone_string_string]
      refine go_loop (α := Int × (List ByteArray)) (fun a => ⟨slots 60 0 [(0, (bif dec (l.length < (a.2).length) then .ref 1 else .ref 0)), (2, (bif dec (l.length < (a.2).length) then .ref 2 else .ref 1)), (48, .arr (x.parts.map Fm.d)), (49, .int .i64 x.parts.length), (50, .int .i64 (a.1))], (bif dec (l.length < (a.2).length) then [.gone, .row 9 1 ((a.2).map fun s => [OT.str s]), .row 9 1 (b'.map fun s => [OT.str s])] else [.row 9 1 ((a.2).map fun s => [OT.str s]), .row 9 1 (b'.map fun s => [OT.str s])])⟩) (fun a => ∃ k : Nat, a.1 = k ∧ k ≤ (x.parts).length ∧ addA (a.2) (Fm.fvL (x.parts.drop k) b') = addA l (Fm.fvL x.parts b') ∧ (a.2).length + Fm.vnS (x.parts.drop k) ≤ 1048576 ∧ l.length ≤ (a.2).length) (fun a => (x.parts).length - (a.1).toNat) (0, l) ⟨0, rfl, Nat.zero_le _, by rw [List.drop_zero], by rw [List.drop_zero]; dsimp only; omega, Nat.le_refl _⟩ (by simp (disch := omega) only [go_sem, go_cond, zA, zB, zC, zD, zE, zF, zG, zH, ↓reduceIte, zI, reduceCtorEq, zJ, zK, hgl]) ?_
      rintro ⟨i, acc⟩ ⟨k, hi, hk, hR⟩
      dsimp only at hi hR
      have hni : i.toNat = k := by omega
      have hni1 : (i + 1).toNat = k + 1 := by omega
      rcases Nat.lt_or_ge k (x.parts).length with hlt | hge
      · have hg := get_at Fm.d hlt
        rw [Fm.d_eq] at hg
        obtain ⟨hR1, hR2, hR3⟩ := hR
        rw [List.drop_eq_getElem_cons hlt, Fm.fvL, addA_app] at hR1
        rw [List.drop_eq_getElem_cons hlt, Fm.vnS] at hR2
        have hnm := Fm.nodes_le x.parts k hlt
        have hc := ih x.parts[k] (List.getElem_mem hlt) acc b' (by omega) (by omega)
        have hlen := addA_len (x.parts[k].fv b') acc
        have hgr := addA_grow (x.parts[k].fv b') acc
        have hvl := Fm.fv_len x.parts[k] b'
        obtain ⟨acc2, ha2⟩ : ∃ a, a = addA acc (x.parts[k].fv b') := ⟨_, rfl⟩
        rw [← ha2] at hc hlen hgr hR1
        rcases Nat.lt_or_ge l.length acc.length with q1 | q1 <;> rcases Nat.lt_or_ge acc.length acc2.length with q2 | q2
        all_goals
          first
            | rw [dec_t q2] at hc
            | rw [dec_f (Nat.not_lt.2 q2)] at hc
          simp only [cond_true, cond_false] at hc
          simp (disch := omega) only [go_sem, go_cond, zA, zB, zC, zD, zE, zF, zG, zH, ↓reduceIte, zI, reduceCtorEq, zJ, zK, hni, hg, hc, m_impl_gather]
          refine ⟨(i + 1, acc2), ⟨k + 1, by dsimp only; omega, hlt, hR1, by dsimp only; omega, by dsimp only; omega⟩, by dsimp only; omega, ?_⟩
          first | done | simp (disch := omega) only [go_sem, go_cond, zA, zB, zC, zD, zE, zF, zG, zH, ↓reduceIte, zI, reduceCtorEq, zJ, zK]
      · rw [List.drop_eq_nil_of_le hge, Fm.fvL] at hR
        obtain ⟨hR1, hR2, hR3⟩ := hR
        have hR1 : acc = _ := hR1
        rw [← hR1]
        rcases Nat.lt_or_ge l.length acc.length with q1 | q1
        · simp (disch := omega) only [go_sem, go_cond, zA, zB, zC, zD, zE, zF, zG, zH, ↓reduceIte, zI, reduceCtorEq, zJ, zK, hni]
        · simp (disch := omega) only [go_sem, go_cond, zA, zB, zC, zD, zE, zF, zG, zH, ↓reduceIte, zI, reduceCtorEq, zJ, zK, hni]
theorem gather_E (x : Fm) (hx : x.forms = true) : GatC x :=
  gather_of x hx fun y hy => gather_E y (Fm.forms_part hx hy)
termination_by SizeOf.sizeOf x
decreasing_by exact Fm.lt_of_mem hy
noncomputable def Fm.free (x : Fm) : List ByteArray := insA [] (x.fv [])
theorem Fm.free_mem (x : Fm) (n : ByteArray) : n ∈ x.free ↔ n ∈ x.fv [] := by unfold Fm.free; rw [insA_mem]; simp
theorem free_E (x : Fm) (hx : x.forms = true) (hv : x.vn ≤ 1048576) (hn : x.nodes ≤ 1048576) : E 82 [x.sv] [] = some (.ref 0, [.row 9 1 (x.free.map fun s => [OT.str s])]) := by
  have h1 := gather_E x hx [] [] (by simpa using hv) (by simpa using hn)
  have hl := addA_len (x.fv []) []
  have hfl := Fm.fv_len x []
  rw [List.length_nil, Nat.zero_add] at hl
  have h2 := sortS_E (addA [] (x.fv [])) (by omega)
  rw [srtB_insA] at h2
  rw [List.map_nil, List.map_nil, List.length_nil] at h1
  unfold Fm.free
  have hxs : x.sv = .agg [.int .i64 x.op, .str x.atom.name, .arr (x.atom.args.map Tm.d), .str x.var, .arr (x.parts.map Fm.d)] := rfl
  rcases Nat.lt_or_ge 0 (addA [] (x.fv [])).length with q | q
  · rw [dec_t q] at h1
    simp only [cond_true] at h1
    refine E_walk k_impl_free m_impl_free (of_decide_eq_true rfl) ?_
    simp (disch := omega) only [c_impl_free, go_sem, go_cond, zA, zB, zC, zD, zE, zF, zG, zH, ↓reduceIte, zI, reduceCtorEq, zJ, zK, h1, h2, m_impl_gather, m_slices_Sort_string_string]
  · rw [dec_f (by omega)] at h1
    simp only [cond_false] at h1
    refine E_walk k_impl_free m_impl_free (of_decide_eq_true rfl) ?_
    simp (disch := omega) only [c_impl_free, go_sem, go_cond, zA, zB, zC, zD, zE, zF, zG, zH, ↓reduceIte, zI, reduceCtorEq, zJ, zK, h1, h2, m_impl_gather, m_slices_Sort_string_string]
def c_impl_Interpretation_canEvaluate : SC := (.seq (.reg [⟨some 3, none, .boxv 51 2 (.t 0)⟩, ⟨some 4, none, .boxv 34 5 (.t 1)⟩, ⟨some 5, none, .boxv 97 1 (.t 2)⟩, ⟨some 6, none, .mv (.c (.bool false))⟩]) (.seq (.seq (.reg [⟨some 9, none, .faddr 0 (.t 4)⟩, ⟨some 10, none, .load false 1 (.t 9)⟩, ⟨some 11, none, .bin .eql false (.t 10) (.c (.int .i64 3))⟩]) (.cond (.t 11) (.seq (.reg [⟨some 13, none, .load true 2 (.t 3)⟩, ⟨some 14, none, .faddr 1 (.t 4)⟩, ⟨some 15, none, .load true 2 (.t 14)⟩, ⟨some 16, none, .load false 1 (.t 5)⟩, ⟨some 17, none, .call 105 [(.t 13), (.t 15), (.t 16)]⟩, ⟨some 12, none, .mv (.t 17)⟩, ⟨some 18, none, .ext (.t 12) 0⟩, ⟨some 19, none, .ext (.t 12) 1⟩, ⟨some 7, none, .mv (.t 18)⟩, ⟨some 8, none, .mv (.t 19)⟩]) (.seq (.reg [⟨some 20, none, .mv (.t 8)⟩, ⟨some 6, none, .mv (.t 20)⟩]) .ret)) .skip)) (.seq (.seq (.reg [⟨some 21, none, .faddr 0 (.t 4)⟩, ⟨some 22, none, .load false 1 (.t 21)⟩, ⟨some 23, none, .call 106 [(.t 22)]⟩]) (.cond (.t 23) (.reg [⟨some 24, none, .load false 1 (.t 5)⟩, ⟨some 25, none, .faddr 3 (.t 4)⟩, ⟨some 26, none, .load false 1 (.t 25)⟩, ⟨some 27, none, .call 107 [(.t 24), (.t 26), (.c (.int .i64 0))]⟩, ⟨none, none, (.store 1 (.t 5) (.t 27))⟩]) .skip)) (.seq (.reg [⟨some 28, none, .faddr 4 (.t 4)⟩, ⟨some 29, none, .load false 1 (.t 28)⟩, ⟨some 30, none, .mkfn 109 [(.t 3), (.t 5)]⟩, ⟨some 31, none, .call 108 [(.t 29), (.t 30)]⟩, ⟨some 32, none, .un .not (.t 31)⟩, ⟨some 6, none, .mv (.t 32)⟩]) .ret))))
theorem k_impl_Interpretation_canEvaluate : codeOf Tryz.prog 57 = some ⟨33, c_impl_Interpretation_canEvaluate, [(.tmp 6)]⟩ := by kernel_rfl
theorem m_impl_Interpretation_canEvaluate : modes 57 = ⟨[], .asis, none, false⟩ := by unfold modes; rfl
def c_impl_Interpretation_canEvaluate_1 : SC := (.seq (.reg [⟨some 3, none, .boxv 34 5 (.t 0)⟩, ⟨some 4, none, .mv (.c (.bool false))⟩]) (.seq (.reg [⟨some 5, none, .load true 2 (.t 1)⟩, ⟨some 6, none, .load true 5 (.t 3)⟩, ⟨some 7, none, .load false 1 (.t 2)⟩, ⟨some 8, none, .call 57 [(.t 5), (.t 6), (.t 7)]⟩, ⟨some 9, none, .un .not (.t 8)⟩, ⟨some 4, none, .mv (.t 9)⟩]) .ret))
theorem k_impl_Interpretation_canEvaluate_1 : codeOf Tryz.prog 109 = some ⟨10, c_impl_Interpretation_canEvaluate_1, [(.tmp 4)]⟩ := by kernel_rfl
theorem m_impl_Interpretation_canEvaluate_1 : modes 109 = ⟨[], .asis, none, false⟩ := by unfold modes; rfl
theorem g_impl_Interpretation_canEvaluate_1 : goFn Tryz.prog 109 = true := by kernel_rfl
def c_impl_Interpretation_holds : SC := (.seq (.reg [⟨some 3, none, .boxv 51 2 (.t 0)⟩, ⟨some 4, none, .boxv 34 5 (.t 1)⟩, ⟨some 6, none, .mv (.c (.bool false))⟩]) (.seq (.seq (.reg [⟨some 10, none, .faddr 0 (.t 4)⟩, ⟨some 11, none, .load false 1 (.t 10)⟩]) (.block 0 (.seq (.reg [⟨some 13, none, .bin .eql false (.t 11) (.c (.int .i64 1))⟩, ⟨some 12, none, .mv (.t 13)⟩]) (.cond (.t 12) (.seq (.reg [⟨some 6, none, .mv (.c (.bool true))⟩]) .ret) (.seq (.reg [⟨some 15, none, .bin .eql false (.t 11) (.c (.int .i64 3))⟩, ⟨some 14, none, .mv (.t 15)⟩]) (.cond (.t 14) (.seq (.reg [⟨some 17, none, .load true 2 (.t 3)⟩, ⟨some 18, none, .faddr 1 (.t 4)⟩, ⟨some 19, none, .load true 2 (.t 18)⟩, ⟨some 20, none, .mv (.t 2)⟩, ⟨some 21, none, .call 105 [(.t 17), (.t 19), (.t 20)]⟩, ⟨some 16, none, .mv (.t 21)⟩, ⟨some 22, none, .ext (.t 16) 0⟩, ⟨some 23, none, .ext (.t 16) 1⟩, ⟨some 7, none, .mv (.t 22)⟩, ⟨some 8, none, .mv (.t 23)⟩]) (.seq (.reg [⟨some 24, none, .mv (.t 7)⟩, ⟨some 6, none, .mv (.t 24)⟩]) .ret)) (.seq (.reg [⟨some 26, none, .bin .eql false (.t 11) (.c (.int .i64 4))⟩, ⟨some 25, none, .mv (.t 26)⟩]) (.cond (.t 25) (.seq (.dreg [[], [], [1], [2, 1], [3, 2, 1], [], [0, 4, 3, 2, 1, 5], [6, 0, 4, 3, 2, 1, 5], [7, 6, 0, 4, 3, 2, 1, 5]] [⟨some 27, none, .load true 2 (.t 3)⟩, ⟨some 28, none, .faddr 4 (.t 4)⟩, ⟨some 29, none, .load false 1 (.t 28)⟩, ⟨some 30, none, .iaddr 5 (.t 29) (.c (.int .i64 0))⟩, ⟨some 31, none, .load true 5 (.t 30)⟩, ⟨some 32, none, .mv (.t 2)⟩, ⟨some 33, none, .call 58 [(.t 27), (.t 31), (.t 32)]⟩, ⟨some 34, none, .un .not (.t 33)⟩, ⟨some 6, none, .mv (.t 34)⟩]) .ret) (.seq (.reg [⟨some 36, none, .bin .eql false (.t 11) (.c (.int .i64 5))⟩, ⟨some 35, none, .mv (.t 36)⟩]) (.cond (.t 35) (.seq (.dreg [[], [], [1], [2, 1], [3, 2, 1], [], [0, 4, 3, 2, 1, 5], [6, 0, 4, 3, 2, 1, 5], [7, 6, 0, 4, 3, 2, 1, 5], [7, 6, 0, 4, 3, 2, 1, 5], [9, 7, 6, 0, 4, 3, 2, 1, 5], [10, 9, 7, 6, 0, 4, 3, 2, 1, 5], [11, 10, 9, 7, 6, 0, 4, 3, 2, 1, 5], [7, 6, 0, 4, 3, 2, 1, 5], [8, 7, 6, 0, 4, 3, 2, 1, 5, 12, 11, 10, 9, 13], [7, 6, 0, 4, 3, 2, 1, 5, 14, 8, 12, 11, 10, 9, 13], [15, 7, 6, 0, 4, 3, 2, 1, 5, 14, 8, 12, 11, 10, 9, 13]] [⟨some 37, none, .load true 2 (.t 3)⟩, ⟨some 38, none, .faddr 4 (.t 4)⟩, ⟨some 39, none, .load false 1 (.t 38)⟩, ⟨some 40, none, .iaddr 5 (.t 39) (.c (.int .i64 0))⟩, ⟨some 41, none, .load true 5 (.t 40)⟩, ⟨some 42, none, .mv (.t 2)⟩, ⟨some 43, none, .call 58 [(.t 37), (.t 41), (.t 42)]⟩, ⟨some 44, none, .mv (.t 43)⟩, ⟨(some 45), (some (44, true)), (.load true 2 (.t 3))⟩, ⟨(some 46), (some (44, true)), (.faddr 4 (.t 4))⟩, ⟨(some 47), (some (44, true)), (.load false 1 (.t 46))⟩, ⟨(some 48), (some (44, true)), (.iaddr 5 (.t 47) (.c (.int .i64 1)))⟩, ⟨(some 49), (some (44, true)), (.load true 5 (.t 48))⟩, ⟨(some 50), (some (44, true)), (.mv (.t 2))⟩, ⟨(some 51), (some (44, true)), (.call 58 [(.t 45), (.t 49), (.t 50)])⟩, ⟨some 52, none, .pick (.t 44) (.t 51) (.c (.bool false))⟩, ⟨some 6, none, .mv (.t 52)⟩]) .ret) (.seq (.reg [⟨some 54, none, .bin .eql false (.t 11) (.c (.int .i64 6))⟩, ⟨some 53, none, .mv (.t 54)⟩]) (.cond (.t 53) (.seq (.dreg [[], [], [1], [2, 1], [3, 2, 1], [], [0, 4, 3, 2, 1, 5], [6, 0, 4, 3, 2, 1, 5], [7, 6, 0, 4, 3, 2, 1, 5], [7, 6, 0, 4, 3, 2, 1, 5], [9, 7, 6, 0, 4, 3, 2, 1, 5], [10, 9, 7, 6, 0, 4, 3, 2, 1, 5], [11, 10, 9, 7, 6, 0, 4, 3, 2, 1, 5], [7, 6, 0, 4, 3, 2, 1, 5], [8, 7, 6, 0, 4, 3, 2, 1, 5, 12, 11, 10, 9, 13], [7, 6, 0, 4, 3, 2, 1, 5, 14, 8, 12, 11, 10, 9, 13], [15, 7, 6, 0, 4, 3, 2, 1, 5, 14, 8, 12, 11, 10, 9, 13]] [⟨some 55, none, .load true 2 (.t 3)⟩, ⟨some 56, none, .faddr 4 (.t 4)⟩, ⟨some 57, none, .load false 1 (.t 56)⟩, ⟨some 58, none, .iaddr 5 (.t 57) (.c (.int .i64 0))⟩, ⟨some 59, none, .load true 5 (.t 58)⟩, ⟨some 60, none, .mv (.t 2)⟩, ⟨some 61, none, .call 58 [(.t 55), (.t 59), (.t 60)]⟩, ⟨some 62, none, .mv (.t 61)⟩, ⟨(some 63), (some (62, false)), (.load true 2 (.t 3))⟩, ⟨(some 64), (some (62, false)), (.faddr 4 (.t 4))⟩, ⟨(some 65), (some (62, false)), (.load false 1 (.t 64))⟩, ⟨(some 66), (some (62, false)), (.iaddr 5 (.t 65) (.c (.int .i64 1)))⟩, ⟨(some 67), (some (62, false)), (.load true 5 (.t 66))⟩, ⟨(some 68), (some (62, false)), (.mv (.t 2))⟩, ⟨(some 69), (some (62, false)), (.call 58 [(.t 63), (.t 67), (.t 68)])⟩, ⟨some 70, none, .pick (.t 62) (.c (.bool true)) (.t 69)⟩, ⟨some 6, none, .mv (.t 70)⟩]) .ret) (.seq (.reg [⟨some 72, none, .bin .eql false (.t 11) (.c (.int .i64 7))⟩, ⟨some 71, none, .mv (.t 72)⟩]) (.cond (.t 71) (.seq (.dreg [[], [], [1], [2, 1], [3, 2, 1], [], [0, 4, 3, 2, 1, 5], [6, 0, 4, 3, 2, 1, 5], [7, 6, 0, 4, 3, 2, 1, 5], [8, 7, 6, 0, 4, 3, 2, 1, 5], [8, 7, 6, 0, 4, 3, 2, 1, 5], [10, 8, 7, 6, 0, 4, 3, 2, 1, 5], [11, 10, 8, 7, 6, 0, 4, 3, 2, 1, 5], [12, 11, 10, 8, 7, 6, 0, 4, 3, 2, 1, 5], [8, 7, 6, 0, 4, 3, 2, 1, 5], [9, 8, 7, 6, 0, 4, 3, 2, 1, 5, 13, 12, 11, 10, 14], [8, 7, 6, 0, 4, 3, 2, 1, 5, 15, 9, 13, 12, 11, 10, 14], [16, 8, 7, 6, 0, 4, 3, 2, 1, 5, 15, 9, 13, 12, 11, 10, 14]] [⟨some 73, none, .load true 2 (.t 3)⟩, ⟨some 74, none, .faddr 4 (.t 4)⟩, ⟨some 75, none, .load false 1 (.t 74)⟩, ⟨some 76, none, .iaddr 5 (.t 75) (.c (.int .i64 0))⟩, ⟨some 77, none, .load true 5 (.t 76)⟩, ⟨some 78, none, .mv (.t 2)⟩, ⟨some 79, none, .call 58 [(.t 73), (.t 77), (.t 78)]⟩, ⟨some 80, none, .un .not (.t 79)⟩, ⟨some 81, none, .mv (.t 80)⟩, ⟨(some 82), (some (81, false)), (.load true 2 (.t 3))⟩, ⟨(some 83), (some (81, false)), (.faddr 4 (.t 4))⟩, ⟨(some 84), (some (81, false)), (.load false 1 (.t 83))⟩, ⟨(some 85), (some (81, false)), (.iaddr 5 (.t 84) (.c (.int .i64 1)))⟩, ⟨(some 86), (some (81, false)), (.load true 5 (.t 85))⟩, ⟨(some 87), (some (81, false)), (.mv (.t 2))⟩, ⟨(some 88), (some (81, false)), (.call 58 [(.t 82), (.t 86), (.t 87)])⟩, ⟨some 89, none, .pick (.t 81) (.c (.bool true)) (.t 88)⟩, ⟨some 6, none, .mv (.t 89)⟩]) .ret) (.seq (.seq (.reg [⟨some 91, none, .bin .eql false (.t 11) (.c (.int .i64 8))⟩, ⟨some 90, none, .mv (.t 91)⟩]) (.cond (.t 90) .skip (.reg [⟨some 92, none, .bin .eql false (.t 11) (.c (.int .i64 9))⟩, ⟨some 90, none, .mv (.t 92)⟩]))) (.cond (.t 90) (.seq (.seq (.reg [⟨some 93, none, .faddr 0 (.t 3)⟩, ⟨some 94, none, .load false 1 (.t 93)⟩, ⟨some 95, none, .mv (.c (.int .i64 0))⟩]) (.block 1 (.loop [0, 0, 1, 1, 1, 0, 0, 0, 0, 0, 0, 0, 0, 0, 0, 0, 0, 0, 0, 0, 0, 0, 0, 0, 0, 0, 0, 0, 0, 0, 0, 0, 0, 0, 0, 0, 0, 0, 0, 0, 0, 0, 0, 0, 0, 0, 0, 0, 0, 0, 0, 0, 0, 0, 0, 0, 0, 0, 0, 0, 0, 0, 0, 0, 0, 0, 0, 0, 0, 0, 0, 0, 0, 0, 0, 0, 0, 0, 0, 0, 0, 0, 0, 0, 0, 0, 0, 0, 0, 0, 0, 0, 0, 0, 1, 1, 0, 0, 0, 0, 0, 0, 0, 0, 0, 0, 0, 0, 0, 0, 0, 0, 0, 0, 0, 0, 0, 0, 0, 0, 0, 0, 0, 0, 0, 0, 0, 0, 0] (.seq (.reg [⟨some 96, none, .bin .lss false (.t 95) (.t 94)⟩]) (.seq (.cond (.t 96) .skip (.exit 1)) (.seq (.block 2 (.seq (.reg [⟨some 97, none, .mv (.t 95)⟩, ⟨some 9, none, .mv (.t 97)⟩]) (.seq (.seq (.dreg [[], [], [1], [2, 1], [3, 2, 1], [], [], [6], [], [5, 7, 6, 8], [0, 4, 3, 2, 1, 9, 5, 7, 6, 8], [], [11], [12, 11], [10, 0, 4, 3, 2, 1, 9, 5, 7, 6, 8, 13, 12, 11]] [⟨some 98, none, .load true 2 (.t 3)⟩, ⟨some 99, none, .faddr 4 (.t 4)⟩, ⟨some 100, none, .load false 1 (.t 99)⟩, ⟨some 101, none, .iaddr 5 (.t 100) (.c (.int .i64 0))⟩, ⟨some 102, none, .load true 5 (.t 101)⟩, ⟨some 103, none, .mv (.t 2)⟩, ⟨some 104, none, .faddr 3 (.t 4)⟩, ⟨some 105, none, .load false 1 (.t 104)⟩, ⟨some 106, none, .mv (.t 9)⟩, ⟨some 107, none, .call 107 [(.t 103), (.t 105), (.t 106)]⟩, ⟨some 108, none, .call 58 [(.t 98), (.t 102), (.t 107)]⟩, ⟨some 109, none, .faddr 0 (.t 4)⟩, ⟨some 110, none, .load false 1 (.t 109)⟩, ⟨some 111, none, .bin .eql false (.t 110) (.c (.int .i64 9))⟩, ⟨some 112, none, .bin .eql true (.t 108) (.t 111)⟩]) (.cond (.t 112) (.seq (.reg [⟨some 113, none, .faddr 0 (.t 4)⟩, ⟨some 114, none, .load false 1 (.t 113)⟩, ⟨some 115, none, .bin .eql false (.t 114) (.c (.int .i64 9))⟩, ⟨some 6, none, .mv (.t 115)⟩]) .ret) .skip)) (.seq (.dreg [[], [0], [1, 0], [2, 1, 0], [3, 2, 1, 0], [], [5], [4, 3, 2, 1, 0, 6, 5], [7, 4, 3, 2, 1, 0, 6, 5]] [⟨some 116, none, .faddr 4 (.t 4)⟩, ⟨some 117, none, .load false 1 (.t 116)⟩, ⟨some 118, none, .iaddr 5 (.t 117) (.c (.int .i64 0))⟩, ⟨some 119, none, .load true 5 (.t 118)⟩, ⟨some 120, none, .call 82 [(.t 119)]⟩, ⟨some 121, none, .faddr 3 (.t 4)⟩, ⟨some 122, none, .load false 1 (.t 121)⟩, ⟨some 123, none, .call 110 [(.t 120), (.t 122)]⟩, ⟨some 124, none, .un .not (.t 123)⟩]) (.cond (.t 124) (.exit 1) .skip))))) (.reg [⟨some 125, none, .bin .add false (.t 95) (.c (.int .i64 1))⟩, ⟨some 95, none, .mv (.t 125)⟩]))))))) (.seq (.reg [⟨some 126, none, .faddr 0 (.t 4)⟩, ⟨some 127, none, .load false 1 (.t 126)⟩, ⟨some 128, none, .bin .eql false (.t 127) (.c (.int .i64 8))⟩, ⟨some 6, none, .mv (.t 128)⟩]) .ret)) .skip)))))))))))))))) (.seq (.reg [⟨some 6, none, .mv (.c (.bool false))⟩]) .ret)))
theorem k_impl_Interpretation_holds : codeOf Tryz.prog 58 = some ⟨129, c_impl_Interpretation_holds, [(.tmp 6)]⟩ := by kernel_rfl
theorem m_impl_Interpretation_holds : modes 58 = ⟨[], .asis, none, false⟩ := by unfold modes; rfl
abbrev CaC (m : Ip) (e : Env) (x : Fm) : Prop := E 57 [m.sv, x.sv, .mp true (envM e)] [] = some (.bool (x.tr m e).isSome, [])
theorem Fm.can_parts {m : Ip} {x : Fm} (hx : x.forms = true) (h3 : ¬ x.op = 3) (hs : 1 ≤ m.size) (e : Env) : (x.tr m e).isSome = !(x.parts.any fun y => !(y.tr m (bif qB x.op then putE e x.var 0 else e)).isSome) := by
  have hf := Fm.forms_form hx
  rcases Fm.form_ops hf with ho | ho | ho | ho | ho | ho | ho | ho | ho
  · have hp : x.parts = [] := by rw [Fm.form_none hf (.inl ho)]; rfl
    rw [Fm.tr_t ho, hp]; rfl
  · have hp : x.parts = [] := by rw [Fm.form_none hf (.inr ho)]; rfl
    rw [Fm.tr_f ho, hp]; rfl
  · exact absurd ho h3
  · obtain ⟨p, hp⟩ := Fm.form_not hf ho
    have hp : x.parts = [p] := by rw [hp]; rfl
    have hq : qB x.op = false := by unfold qB; rw [dec_f (by omega), dec_f (by omega)]; rfl
    rw [Fm.tr_not ho hp, hp, hq, Option.isSome_map]
    simp
  all_goals try
    obtain ⟨p, q, hp⟩ := Fm.form_two hf (by omega)
    have hp : x.parts = [p, q] := by rw [hp]; rfl
    have hq : qB x.op = false := by unfold qB; rw [dec_f (by omega), dec_f (by omega)]; rfl
    rw [Fm.tr_two (by omega) hp, hp, hq, two_some]
    simp
    done
  all_goals
    obtain ⟨p, hp⟩ := Fm.form_q hf (by omega)
    have hp : x.parts = [p] := by rw [hp]; rfl
    have hq : qB x.op = true := by unfold qB; rw [ho]; simp [dec_t]
    rw [Fm.tr_can hx (by omega) hp hs, hp, hq]
    simp
theorem Fm.tr_none3 {m : Ip} {x : Fm} {e : Env} (h : x.op = 3) : (x.tr m e).isSome = (x.atom.tru m e).isSome := by rw [Fm.tr_atom h, Option.isSome_map]
set_option maxHeartbeats 2000000 in
theorem indexC_Can (m : Ip) (e : Env) (p : Fm → Bool) (xs : List Fm) (hl : xs.length ≤ 1099511627776) (hg : goFn Tryz.prog 109 = true) (hm : modes 109 = ⟨[], .asis, none, false⟩) (hE : ∀ x ∈ xs, E 109 [x.sv, .ptr 0 0, .ptr 1 0] [.box 51 [.int .i64 m.size, .arr (m.tables.map Tl.d)], .box 97 [.mp true (envM e)]] = some (.bool (p x), [.box 51 [.int .i64 m.size, .arr (m.tables.map Tl.d)], .box 97 [.mp true (envM e)]])) : E 152 [.arr (xs.map Fm.d), .fn 109 [.ptr 0 0, .ptr 1 0]] [.box 51 [.int .i64 m.size, .arr (m.tables.map Tl.d)], .box 97 [.mp true (envM e)]] = some (.int .i64 (idxP p xs 0), [.box 51 [.int .i64 m.size, .arr (m.tables.map Tl.d)], .box 97 [.mp true (envM e)]]) := by
  refine E_walk k_slices_IndexFunc_impl_Formula_impl_Formula m_slices_IndexFunc_impl_Formula_impl_Formula (of_decide_eq_true rfl) ?_
  simp (disch := omega) only [c_slices_IndexFunc_impl_Formula_impl_Formula, go_sem, go_cond, zA, zB, zC, zD, zE, zF, zG, zH, ↓reduceIte, zI, reduceCtorEq, zJ, zK]
  refine go_loop (α := Int) (fun a => ⟨slots 19 0 [(0, .arr (xs.map Fm.d)), (1, .fn 109 [.ptr 0 0, .ptr 1 0]), (7, .int .i64 xs.length), (8, .int .i64 a)], [.box 51 [.int .i64 m.size, .arr (m.tables.map Tl.d)], .box 97 [.mp true (envM e)]]⟩) (fun a => ∃ k : Nat, a = k ∧ k ≤ (xs).length ∧ idxP p (xs.drop k) a = idxP p xs 0) (fun a => (xs).length - (a).toNat) 0 ⟨0, rfl, Nat.zero_le _, by rw [List.drop_zero]⟩ (by simp (disch := omega) only [go_sem, go_cond, zA, zB, zC, zD, zE, zF, zG, zH, ↓reduceIte, zI, reduceCtorEq, zJ, zK]) ?_
  rintro i ⟨k, hi, hk, hR⟩
  have hni : i.toNat = k := by omega
  have hni1 : (i + 1).toNat = k + 1 := by omega
  rcases Nat.lt_or_ge k (xs).length with hlt | hge
  · have hg' := get_at Fm.d hlt
    rw [Fm.d_eq] at hg'
    have hc := hE xs[k] (List.getElem_mem hlt)
    rw [List.drop_eq_getElem_cons hlt, idxP] at hR
    cases hp : p xs[k] with
    | true =>
      rw [hp] at hc hR
      simp (disch := omega) only [go_sem, go_cond, zA, zB, zC, zD, zE, zF, zG, zH, ↓reduceIte, zI, reduceCtorEq, zJ, zK, hni, hg', hc, hg, hm]
      simpa using hR
    | false =>
      rw [hp] at hc hR
      simp (disch := omega) only [go_sem, go_cond, zA, zB, zC, zD, zE, zF, zG, zH, ↓reduceIte, zI, reduceCtorEq, zJ, zK, hni, hg', hc, hg, hm]
      exact ⟨i + 1, ⟨k + 1, by omega, hlt, by simpa using hR⟩, by omega, by first | trivial | rfl⟩
  · rw [List.drop_eq_nil_of_le hge, idxP] at hR
    simp (disch := omega) only [go_sem, go_cond, zA, zB, zC, zD, zE, zF, zG, zH, ↓reduceIte, zI, reduceCtorEq, zJ, zK, hni]
    exact hR
theorem containsC_Can (m : Ip) (e : Env) (p : Fm → Bool) (xs : List Fm) (hl : xs.length ≤ 1099511627776) (hg : goFn Tryz.prog 109 = true) (hm : modes 109 = ⟨[], .asis, none, false⟩) (hE : ∀ x ∈ xs, E 109 [x.sv, .ptr 0 0, .ptr 1 0] [.box 51 [.int .i64 m.size, .arr (m.tables.map Tl.d)], .box 97 [.mp true (envM e)]] = some (.bool (p x), [.box 51 [.int .i64 m.size, .arr (m.tables.map Tl.d)], .box 97 [.mp true (envM e)]])) : E 108 [.arr (xs.map Fm.d), .fn 109 [.ptr 0 0, .ptr 1 0]] [.box 51 [.int .i64 m.size, .arr (m.tables.map Tl.d)], .box 97 [.mp true (envM e)]] = some (.bool (xs.any p), [.box 51 [.int .i64 m.size, .arr (m.tables.map Tl.d)], .box 97 [.mp true (envM e)]]) := by
  have h := indexC_Can m e p xs hl hg hm hE
  refine E_walk k_slices_ContainsFunc_impl_Formula_impl_Formula m_slices_ContainsFunc_impl_Formula_impl_Formula (of_decide_eq_true rfl) ?_
  simp (disch := omega) only [c_slices_ContainsFunc_impl_Formula_impl_Formula, go_sem, go_cond, zA, zB, zC, zD, zE, zF, zG, zH, ↓reduceIte, zI, reduceCtorEq, zJ, zK, h, m_slices_IndexFunc_impl_Formula_impl_Formula]
  rw [idxP_any]
theorem can1_E (m : Ip) (e : Env) (x : Fm) (h : CaC m e x) : E 109 [x.sv, .ptr 0 0, .ptr 1 0] [.box 51 [.int .i64 m.size, .arr (m.tables.map Tl.d)], .box 97 [.mp true (envM e)]] = some (.bool (!(x.tr m e).isSome), [.box 51 [.int .i64 m.size, .arr (m.tables.map Tl.d)], .box 97 [.mp true (envM e)]]) := by
  unfold CaC at h
  refine E_walk k_impl_Interpretation_canEvaluate_1 m_impl_Interpretation_canEvaluate_1 (of_decide_eq_true rfl) ?_
  simp (disch := omega) only [c_impl_Interpretation_canEvaluate_1, go_sem, go_cond, zA, zB, zC, zD, zE, zF, zG, zH, ↓reduceIte, zI, reduceCtorEq, zJ, zK, h, m_impl_Interpretation_canEvaluate]
set_option maxHeartbeats 4000000 in
theorem canEvaluate_of (m : Ip) (hm : m.ok = true) (ht : m.tame) (x : Fm) (hx : x.forms = true) (hn : x.nodes ≤ 1048576) (e : Env) (he : InE m.size e) (hf : FinE e) (ih : ∀ y ∈ x.parts, ∀ e, InE m.size e → FinE e → CaC m e y) : CaC m e x := by
  have hfo := Fm.forms_form hx
  obtain ⟨⟨s1, s3⟩, _, _⟩ := Ip.ok_parts hm
  have hxs : x.sv = .agg [.int .i64 x.op, .str x.atom.name, .arr (x.atom.args.map Tm.d), .str x.var, .arr (x.parts.map Fm.d)] := rfl
  have has : x.atom.sv = .agg [.str x.atom.name, .arr (x.atom.args.map Tm.d)] := rfl
  have hpl := Fm.length_le x.parts
  have hnq := Fm.nodes_eq x
  have hu := isQuantifier_E x.op
  unfold CaC
  cases ho : dec (x.op = 3) with
  | true =>
    obtain ⟨b, hct, _⟩ := truth_E m hm ht e he x.atom (Fm.form_atom hfo (dec_iff.1 ho)).2.1
    rw [Fm.tr_none3 (dec_iff.1 ho)]
    refine E_walk k_impl_Interpretation_canEvaluate m_impl_Interpretation_canEvaluate (of_decide_eq_true rfl) ?_
    simp (disch := omega) only [c_impl_Interpretation_canEvaluate, go_sem, go_cond, zA, zB, zC, zD, zE, zF, zG, zH, ↓reduceIte, zI, reduceCtorEq, zJ, zK, ho, hxs, has, hu, hct, m_impl_isQuantifier, m_impl_Interpretation_truth, m_impl_valuation_with, m_slices_ContainsFunc_impl_Formula_impl_Formula, g_impl_Interpretation_canEvaluate_1]
  | false =>
    rw [Fm.can_parts hx (dec_not.1 ho) s1 e]
    cases hq : qB x.op with
    | true =>
      have hwi := with_E e hf x.var 0
      have hcn := containsC_Can m (putE e x.var 0) (fun y => !(y.tr m (putE e x.var 0)).isSome) x.parts (by omega) g_impl_Interpretation_canEvaluate_1 m_impl_Interpretation_canEvaluate_1 (fun y hy => can1_E m _ y (ih y hy _ (putE_in he (by omega) (by omega) _) (hf.put _ _)))
      unfold qB at hq
      rw [hq] at hu
      rw [cond_true]
      refine E_walk k_impl_Interpretation_canEvaluate m_impl_Interpretation_canEvaluate (of_decide_eq_true rfl) ?_
      simp (disch := omega) only [c_impl_Interpretation_canEvaluate, go_sem, go_cond, zA, zB, zC, zD, zE, zF, zG, zH, ↓reduceIte, zI, reduceCtorEq, zJ, zK, ho, hxs, has, hu, hwi, hcn, m_impl_isQuantifier, m_impl_Interpretation_truth, m_impl_valuation_with, m_slices_ContainsFunc_impl_Formula_impl_Formula, g_impl_Interpretation_canEvaluate_1]
    | false =>
      have hcn := containsC_Can m e (fun y => !(y.tr m e).isSome) x.parts (by omega) g_impl_Interpretation_canEvaluate_1 m_impl_Interpretation_canEvaluate_1 (fun y hy => can1_E m _ y (ih y hy _ he hf))
      unfold qB at hq
      rw [hq] at hu
      rw [cond_false]
      refine E_walk k_impl_Interpretation_canEvaluate m_impl_Interpretation_canEvaluate (of_decide_eq_true rfl) ?_
      simp (disch := omega) only [c_impl_Interpretation_canEvaluate, go_sem, go_cond, zA, zB, zC, zD, zE, zF, zG, zH, ↓reduceIte, zI, reduceCtorEq, zJ, zK, ho, hxs, has, hu, hcn, m_impl_isQuantifier, m_impl_Interpretation_truth, m_impl_valuation_with, m_slices_ContainsFunc_impl_Formula_impl_Formula, g_impl_Interpretation_canEvaluate_1]
theorem canEvaluate_E (m : Ip) (hm : m.ok = true) (ht : m.tame) (x : Fm) (hx : x.forms = true) (hn : x.nodes ≤ 1048576) (e : Env) (he : InE m.size e) (hf : FinE e) : CaC m e x :=
  canEvaluate_of m hm ht x hx hn e he hf fun y hy e he hf => canEvaluate_E m hm ht y (Fm.forms_part hx hy) (by have := Fm.nodes_mem hy; have := Fm.nodes_eq x; omega) e he hf
termination_by SizeOf.sizeOf x
decreasing_by exact Fm.lt_of_mem hy
abbrev HoC (m : Ip) (e : Env) (x : Fm) : Prop := ∀ b, x.tr m e = some b → E 58 [m.sv, x.sv, .mp true (envM e)] [] = some (.bool b, [])
set_option maxHeartbeats 16000000 in
theorem holds_of (m : Ip) (hm : m.ok = true) (ht : m.tame) (x : Fm) (hx : x.forms = true) (hn : x.nodes ≤ 30000) (e : Env) (he : InE m.size e) (hf : FinE e) (ih : ∀ y ∈ x.parts, ∀ e, InE m.size e → FinE e → HoC m e y) : HoC m e x := by
  intro b hb
  have hfo := Fm.forms_form hx
  obtain ⟨⟨s1, s3⟩, _, _⟩ := Ip.ok_parts hm
  have hxs : x.sv = .agg [.int .i64 x.op, .str x.atom.name, .arr (x.atom.args.map Tm.d), .str x.var, .arr (x.parts.map Fm.d)] := rfl
  have has : x.atom.sv = .agg [.str x.atom.name, .arr (x.atom.args.map Tm.d)] := rfl
  have hpl := Fm.length_le x.parts
  have hnq := Fm.nodes_eq x
  have hms : (m.size.toNat : Int) = m.size := by omega
  rcases Fm.form_ops hfo with ho | ho | ho | ho | ho | ho | ho | ho | ho
  · rw [Fm.tr_t ho] at hb
    obtain rfl := Option.some.inj hb
    have d1 : dec (x.op = 1) = true := dec_t (by omega)
    have d2 : dec (x.op = 2) = false := dec_f (by omega)
    have d3 : dec (x.op = 3) = false := dec_f (by omega)
    have d4 : dec (x.op = 4) = false := dec_f (by omega)
    have d5 : dec (x.op = 5) = false := dec_f (by omega)
    have d6 : dec (x.op = 6) = false := dec_f (by omega)
    have d7 : dec (x.op = 7) = false := dec_f (by omega)
    have d8 : dec (x.op = 8) = false := dec_f (by omega)
    have d9 : dec (x.op = 9) = false := dec_f (by omega)
    refine E_walk k_impl_Interpretation_holds m_impl_Interpretation_holds (of_decide_eq_true rfl) ?_
    simp (disch := omega) only [c_impl_Interpretation_holds, go_sem, zA, zB, zC, zD, zE, zF, zG, zH, ↓reduceIte, zI, reduceCtorEq, zJ, zK, d1, d2, d3, d4, d5, d6, d7, d8, d9]
    repeat ((first | (refine go_condT ?_ ?_; (focus (simp (disch := omega) only [go_sem, zA, zB, zC, zD, zE, zF, zG, zH, ↓reduceIte, zI, reduceCtorEq, zJ, zK, d1, d2, d3, d4, d5, d6, d7, d8, d9]; done))) | (refine go_condF ?_ ?_; (focus (simp (disch := omega) only [go_sem, zA, zB, zC, zD, zE, zF, zG, zH, ↓reduceIte, zI, reduceCtorEq, zJ, zK, d1, d2, d3, d4, d5, d6, d7, d8, d9]; done)))); (try simp (disch := omega) only [go_sem, zA, zB, zC, zD, zE, zF, zG, zH, ↓reduceIte, zI, reduceCtorEq, zJ, zK, d1, d2, d3, d4, d5, d6, d7, d8, d9]))
  · rw [Fm.tr_f ho] at hb
    obtain rfl := Option.some.inj hb
    have d1 : dec (x.op = 1) = false := dec_f (by omega)
    have d2 : dec (x.op = 2) = true := dec_t (by omega)
    have d3 : dec (x.op = 3) = false := dec_f (by omega)
    have d4 : dec (x.op = 4) = false := dec_f (by omega)
    have d5 : dec (x.op = 5) = false := dec_f (by omega)
    have d6 : dec (x.op = 6) = false := dec_f (by omega)
    have d7 : dec (x.op = 7) = false := dec_f (by omega)
    have d8 : dec (x.op = 8) = false := dec_f (by omega)
    have d9 : dec (x.op = 9) = false := dec_f (by omega)
    refine E_walk k_impl_Interpretation_holds m_impl_Interpretation_holds (of_decide_eq_true rfl) ?_
    simp (disch := omega) only [c_impl_Interpretation_holds, go_sem, zA, zB, zC, zD, zE, zF, zG, zH, ↓reduceIte, zI, reduceCtorEq, zJ, zK, d1, d2, d3, d4, d5, d6, d7, d8, d9]
    repeat ((first | (refine go_condT ?_ ?_; (focus (simp (disch := omega) only [go_sem, zA, zB, zC, zD, zE, zF, zG, zH, ↓reduceIte, zI, reduceCtorEq, zJ, zK, d1, d2, d3, d4, d5, d6, d7, d8, d9]; done))) | (refine go_condF ?_ ?_; (focus (simp (disch := omega) only [go_sem, zA, zB, zC, zD, zE, zF, zG, zH, ↓reduceIte, zI, reduceCtorEq, zJ, zK, d1, d2, d3, d4, d5, d6, d7, d8, d9]; done)))); (try simp (disch := omega) only [go_sem, zA, zB, zC, zD, zE, zF, zG, zH, ↓reduceIte, zI, reduceCtorEq, zJ, zK, d1, d2, d3, d4, d5, d6, d7, d8, d9]))
  · rw [Fm.tr_atom ho] at hb
    have d1 : dec (x.op = 1) = false := dec_f (by omega)
    have d2 : dec (x.op = 2) = false := dec_f (by omega)
    have d3 : dec (x.op = 3) = true := dec_t (by omega)
    have d4 : dec (x.op = 4) = false := dec_f (by omega)
    have d5 : dec (x.op = 5) = false := dec_f (by omega)
    have d6 : dec (x.op = 6) = false := dec_f (by omega)
    have d7 : dec (x.op = 7) = false := dec_f (by omega)
    have d8 : dec (x.op = 8) = false := dec_f (by omega)
    have d9 : dec (x.op = 9) = false := dec_f (by omega)
    obtain ⟨c, hct, hcv⟩ := truth_E m hm ht e he x.atom (Fm.form_atom hfo ho).2.1
    cases hv : x.atom.tru m e with
    | none => rw [hv] at hb; cases hb
    | some n =>
      rw [hv] at hb hct
      have hb : some (dec (n = 1)) = some b := hb
      obtain rfl := Option.some.inj hb
      have hcv := hcv n hv
      subst hcv
      refine E_walk k_impl_Interpretation_holds m_impl_Interpretation_holds (of_decide_eq_true rfl) ?_
      simp (disch := omega) only [c_impl_Interpretation_holds, go_sem, zA, zB, zC, zD, zE, zF, zG, zH, ↓reduceIte, zI, reduceCtorEq, zJ, zK, d1, d2, d3, d4, d5, d6, d7, d8, d9, hct, m_impl_Interpretation_truth]
      repeat ((first | (refine go_condT ?_ ?_; (focus (simp (disch := omega) only [go_sem, zA, zB, zC, zD, zE, zF, zG, zH, ↓reduceIte, zI, reduceCtorEq, zJ, zK, d1, d2, d3, d4, d5, d6, d7, d8, d9, hct, m_impl_Interpretation_truth]; done))) | (refine go_condF ?_ ?_; (focus (simp (disch := omega) only [go_sem, zA, zB, zC, zD, zE, zF, zG, zH, ↓reduceIte, zI, reduceCtorEq, zJ, zK, d1, d2, d3, d4, d5, d6, d7, d8, d9, hct, m_impl_Interpretation_truth]; done)))); (try simp (disch := omega) only [go_sem, zA, zB, zC, zD, zE, zF, zG, zH, ↓reduceIte, zI, reduceCtorEq, zJ, zK, d1, d2, d3, d4, d5, d6, d7, d8, d9, hct, m_impl_Interpretation_truth]))
  ·
    have d1 : dec (x.op = 1) = false := dec_f (by omega)
    have d2 : dec (x.op = 2) = false := dec_f (by omega)
    have d3 : dec (x.op = 3) = false := dec_f (by omega)
    have d4 : dec (x.op = 4) = true := dec_t (by omega)
    have d5 : dec (x.op = 5) = false := dec_f (by omega)
    have d6 : dec (x.op = 6) = false := dec_f (by omega)
    have d7 : dec (x.op = 7) = false := dec_f (by omega)
    have d8 : dec (x.op = 8) = false := dec_f (by omega)
    have d9 : dec (x.op = 9) = false := dec_f (by omega)
    obtain ⟨p, hp⟩ := Fm.form_not hfo ho
    have hp : x.parts = [p] := by rw [hp]; rfl
    have hpl1 : 0 < x.parts.length := by rw [hp]; simp
    have hpe : x.parts[0] = p := by simp [hp]
    have hgp := get_at Fm.d hpl1
    rw [Fm.d_eq, hpe] at hgp
    rw [Fm.tr_not ho hp] at hb
    cases hv : p.tr m e with
    | none => rw [hv] at hb; cases hb
    | some v =>
      rw [hv] at hb
      have hb : some (!v) = some b := hb
      obtain rfl := Option.some.inj hb
      have hc := ih p (by rw [hp]; simp) e he hf v hv
      refine E_walk k_impl_Interpretation_holds m_impl_Interpretation_holds (of_decide_eq_true rfl) ?_
      simp (disch := omega) only [c_impl_Interpretation_holds, go_sem, zA, zB, zC, zD, zE, zF, zG, zH, ↓reduceIte, zI, reduceCtorEq, zJ, zK, d1, d2, d3, d4, d5, d6, d7, d8, d9, hgp, hc, m_impl_Interpretation_holds]
      repeat ((first | (refine go_condT ?_ ?_; (focus (simp (disch := omega) only [go_sem, zA, zB, zC, zD, zE, zF, zG, zH, ↓reduceIte, zI, reduceCtorEq, zJ, zK, d1, d2, d3, d4, d5, d6, d7, d8, d9, hgp, hc, m_impl_Interpretation_holds]; done))) | (refine go_condF ?_ ?_; (focus (simp (disch := omega) only [go_sem, zA, zB, zC, zD, zE, zF, zG, zH, ↓reduceIte, zI, reduceCtorEq, zJ, zK, d1, d2, d3, d4, d5, d6, d7, d8, d9, hgp, hc, m_impl_Interpretation_holds]; done)))); (try simp (disch := omega) only [go_sem, zA, zB, zC, zD, zE, zF, zG, zH, ↓reduceIte, zI, reduceCtorEq, zJ, zK, d1, d2, d3, d4, d5, d6, d7, d8, d9, hgp, hc, m_impl_Interpretation_holds]))
  ·
    have d1 : dec (x.op = 1) = false := dec_f (by omega)
    have d2 : dec (x.op = 2) = false := dec_f (by omega)
    have d3 : dec (x.op = 3) = false := dec_f (by omega)
    have d4 : dec (x.op = 4) = false := dec_f (by omega)
    have d5 : dec (x.op = 5) = true := dec_t (by omega)
    have d6 : dec (x.op = 6) = false := dec_f (by omega)
    have d7 : dec (x.op = 7) = false := dec_f (by omega)
    have d8 : dec (x.op = 8) = false := dec_f (by omega)
    have d9 : dec (x.op = 9) = false := dec_f (by omega)
    obtain ⟨p, q, hp⟩ := Fm.form_two hfo (by omega)
    have hp : x.parts = [p, q] := by rw [hp]; rfl
    have hpl2 : 1 < x.parts.length := by rw [hp]; simp
    have hpl1 : 0 < x.parts.length := by omega
    have hpe : x.parts[0] = p := by simp [hp]
    have hqe : x.parts[1] = q := by simp [hp]
    have hgp := get_at Fm.d hpl1
    have hgq := get_at Fm.d hpl2
    rw [Fm.d_eq, hpe] at hgp
    rw [Fm.d_eq, hqe] at hgq
    rw [Fm.tr_two (by omega) hp] at hb
    cases hv1 : p.tr m e with
    | none => rw [hv1] at hb; cases hb
    | some u =>
      cases hv2 : q.tr m e with
      | none => rw [hv1, hv2] at hb; cases hb
      | some v =>
        rw [hv1, hv2] at hb
        have hb : some (conn x.op u v) = some b := hb
        obtain rfl := Option.some.inj hb
        have hc1 := ih p (by rw [hp]; simp) e he hf u hv1
        have hc2 := ih q (by rw [hp]; simp) e he hf v hv2
        unfold conn
        rw [d5, d6]
        cases u
        · refine E_walk k_impl_Interpretation_holds m_impl_Interpretation_holds (of_decide_eq_true rfl) ?_
          simp (disch := omega) only [c_impl_Interpretation_holds, go_sem, zA, zB, zC, zD, zE, zF, zG, zH, ↓reduceIte, zI, reduceCtorEq, zJ, zK, d1, d2, d3, d4, d5, d6, d7, d8, d9, hgp, hgq, hc1, hc2, m_impl_Interpretation_holds]
          repeat ((first | (refine go_condT ?_ ?_; (focus (simp (disch := omega) only [go_sem, zA, zB, zC, zD, zE, zF, zG, zH, ↓reduceIte, zI, reduceCtorEq, zJ, zK, d1, d2, d3, d4, d5, d6, d7, d8, d9, hgp, hgq, hc1, hc2, m_impl_Interpretation_holds]; done))) | (refine go_condF ?_ ?_; (focus (simp (disch := omega) only [go_sem, zA, zB, zC, zD, zE, zF, zG, zH, ↓reduceIte, zI, reduceCtorEq, zJ, zK, d1, d2, d3, d4, d5, d6, d7, d8, d9, hgp, hgq, hc1, hc2, m_impl_Interpretation_holds]; done)))); (try simp (disch := omega) only [go_sem, zA, zB, zC, zD, zE, zF, zG, zH, ↓reduceIte, zI, reduceCtorEq, zJ, zK, d1, d2, d3, d4, d5, d6, d7, d8, d9, hgp, hgq, hc1, hc2, m_impl_Interpretation_holds]))
          try rfl
        · refine E_walk k_impl_Interpretation_holds m_impl_Interpretation_holds (of_decide_eq_true rfl) ?_
          simp (disch := omega) only [c_impl_Interpretation_holds, go_sem, zA, zB, zC, zD, zE, zF, zG, zH, ↓reduceIte, zI, reduceCtorEq, zJ, zK, d1, d2, d3, d4, d5, d6, d7, d8, d9, hgp, hgq, hc1, hc2, m_impl_Interpretation_holds]
          repeat ((first | (refine go_condT ?_ ?_; (focus (simp (disch := omega) only [go_sem, zA, zB, zC, zD, zE, zF, zG, zH, ↓reduceIte, zI, reduceCtorEq, zJ, zK, d1, d2, d3, d4, d5, d6, d7, d8, d9, hgp, hgq, hc1, hc2, m_impl_Interpretation_holds]; done))) | (refine go_condF ?_ ?_; (focus (simp (disch := omega) only [go_sem, zA, zB, zC, zD, zE, zF, zG, zH, ↓reduceIte, zI, reduceCtorEq, zJ, zK, d1, d2, d3, d4, d5, d6, d7, d8, d9, hgp, hgq, hc1, hc2, m_impl_Interpretation_holds]; done)))); (try simp (disch := omega) only [go_sem, zA, zB, zC, zD, zE, zF, zG, zH, ↓reduceIte, zI, reduceCtorEq, zJ, zK, d1, d2, d3, d4, d5, d6, d7, d8, d9, hgp, hgq, hc1, hc2, m_impl_Interpretation_holds]))
          try rfl
  ·
    have d1 : dec (x.op = 1) = false := dec_f (by omega)
    have d2 : dec (x.op = 2) = false := dec_f (by omega)
    have d3 : dec (x.op = 3) = false := dec_f (by omega)
    have d4 : dec (x.op = 4) = false := dec_f (by omega)
    have d5 : dec (x.op = 5) = false := dec_f (by omega)
    have d6 : dec (x.op = 6) = true := dec_t (by omega)
    have d7 : dec (x.op = 7) = false := dec_f (by omega)
    have d8 : dec (x.op = 8) = false := dec_f (by omega)
    have d9 : dec (x.op = 9) = false := dec_f (by omega)
    obtain ⟨p, q, hp⟩ := Fm.form_two hfo (by omega)
    have hp : x.parts = [p, q] := by rw [hp]; rfl
    have hpl2 : 1 < x.parts.length := by rw [hp]; simp
    have hpl1 : 0 < x.parts.length := by omega
    have hpe : x.parts[0] = p := by simp [hp]
    have hqe : x.parts[1] = q := by simp [hp]
    have hgp := get_at Fm.d hpl1
    have hgq := get_at Fm.d hpl2
    rw [Fm.d_eq, hpe] at hgp
    rw [Fm.d_eq, hqe] at hgq
    rw [Fm.tr_two (by omega) hp] at hb
    cases hv1 : p.tr m e with
    | none => rw [hv1] at hb; cases hb
    | some u =>
      cases hv2 : q.tr m e with
      | none => rw [hv1, hv2] at hb; cases hb
      | some v =>
        rw [hv1, hv2] at hb
        have hb : some (conn x.op u v) = some b := hb
        obtain rfl := Option.some.inj hb
        have hc1 := ih p (by rw [hp]; simp) e he hf u hv1
        have hc2 := ih q (by rw [hp]; simp) e he hf v hv2
        unfold conn
        rw [d5, d6]
        cases u
        · refine E_walk k_impl_Interpretation_holds m_impl_Interpretation_holds (of_decide_eq_true rfl) ?_
          simp (disch := omega) only [c_impl_Interpretation_holds, go_sem, zA, zB, zC, zD, zE, zF, zG, zH, ↓reduceIte, zI, reduceCtorEq, zJ, zK, d1, d2, d3, d4, d5, d6, d7, d8, d9, hgp, hgq, hc1, hc2, m_impl_Interpretation_holds]
          repeat ((first | (refine go_condT ?_ ?_; (focus (simp (disch := omega) only [go_sem, zA, zB, zC, zD, zE, zF, zG, zH, ↓reduceIte, zI, reduceCtorEq, zJ, zK, d1, d2, d3, d4, d5, d6, d7, d8, d9, hgp, hgq, hc1, hc2, m_impl_Interpretation_holds]; done))) | (refine go_condF ?_ ?_; (focus (simp (disch := omega) only [go_sem, zA, zB, zC, zD, zE, zF, zG, zH, ↓reduceIte, zI, reduceCtorEq, zJ, zK, d1, d2, d3, d4, d5, d6, d7, d8, d9, hgp, hgq, hc1, hc2, m_impl_Interpretation_holds]; done)))); (try simp (disch := omega) only [go_sem, zA, zB, zC, zD, zE, zF, zG, zH, ↓reduceIte, zI, reduceCtorEq, zJ, zK, d1, d2, d3, d4, d5, d6, d7, d8, d9, hgp, hgq, hc1, hc2, m_impl_Interpretation_holds]))
          try rfl
        · refine E_walk k_impl_Interpretation_holds m_impl_Interpretation_holds (of_decide_eq_true rfl) ?_
          simp (disch := omega) only [c_impl_Interpretation_holds, go_sem, zA, zB, zC, zD, zE, zF, zG, zH, ↓reduceIte, zI, reduceCtorEq, zJ, zK, d1, d2, d3, d4, d5, d6, d7, d8, d9, hgp, hgq, hc1, hc2, m_impl_Interpretation_holds]
          repeat ((first | (refine go_condT ?_ ?_; (focus (simp (disch := omega) only [go_sem, zA, zB, zC, zD, zE, zF, zG, zH, ↓reduceIte, zI, reduceCtorEq, zJ, zK, d1, d2, d3, d4, d5, d6, d7, d8, d9, hgp, hgq, hc1, hc2, m_impl_Interpretation_holds]; done))) | (refine go_condF ?_ ?_; (focus (simp (disch := omega) only [go_sem, zA, zB, zC, zD, zE, zF, zG, zH, ↓reduceIte, zI, reduceCtorEq, zJ, zK, d1, d2, d3, d4, d5, d6, d7, d8, d9, hgp, hgq, hc1, hc2, m_impl_Interpretation_holds]; done)))); (try simp (disch := omega) only [go_sem, zA, zB, zC, zD, zE, zF, zG, zH, ↓reduceIte, zI, reduceCtorEq, zJ, zK, d1, d2, d3, d4, d5, d6, d7, d8, d9, hgp, hgq, hc1, hc2, m_impl_Interpretation_holds]))
          try rfl
  ·
    have d1 : dec (x.op = 1) = false := dec_f (by omega)
    have d2 : dec (x.op = 2) = false := dec_f (by omega)
    have d3 : dec (x.op = 3) = false := dec_f (by omega)
    have d4 : dec (x.op = 4) = false := dec_f (by omega)
    have d5 : dec (x.op = 5) = false := dec_f (by omega)
    have d6 : dec (x.op = 6) = false := dec_f (by omega)
    have d7 : dec (x.op = 7) = true := dec_t (by omega)
    have d8 : dec (x.op = 8) = false := dec_f (by omega)
    have d9 : dec (x.op = 9) = false := dec_f (by omega)
    obtain ⟨p, q, hp⟩ := Fm.form_two hfo (by omega)
    have hp : x.parts = [p, q] := by rw [hp]; rfl
    have hpl2 : 1 < x.parts.length := by rw [hp]; simp
    have hpl1 : 0 < x.parts.length := by omega
    have hpe : x.parts[0] = p := by simp [hp]
    have hqe : x.parts[1] = q := by simp [hp]
    have hgp := get_at Fm.d hpl1
    have hgq := get_at Fm.d hpl2
    rw [Fm.d_eq, hpe] at hgp
    rw [Fm.d_eq, hqe] at hgq
    rw [Fm.tr_two (by omega) hp] at hb
    cases hv1 : p.tr m e with
    | none => rw [hv1] at hb; cases hb
    | some u =>
      cases hv2 : q.tr m e with
      | none => rw [hv1, hv2] at hb; cases hb
      | some v =>
        rw [hv1, hv2] at hb
        have hb : some (conn x.op u v) = some b := hb
        obtain rfl := Option.some.inj hb
        have hc1 := ih p (by rw [hp]; simp) e he hf u hv1
        have hc2 := ih q (by rw [hp]; simp) e he hf v hv2
        unfold conn
        rw [d5, d6]
        cases u
        · refine E_walk k_impl_Interpretation_holds m_impl_Interpretation_holds (of_decide_eq_true rfl) ?_
          simp (disch := omega) only [c_impl_Interpretation_holds, go_sem, zA, zB, zC, zD, zE, zF, zG, zH, ↓reduceIte, zI, reduceCtorEq, zJ, zK, d1, d2, d3, d4, d5, d6, d7, d8, d9, hgp, hgq, hc1, hc2, m_impl_Interpretation_holds]
          repeat ((first | (refine go_condT ?_ ?_; (focus (simp (disch := omega) only [go_sem, zA, zB, zC, zD, zE, zF, zG, zH, ↓reduceIte, zI, reduceCtorEq, zJ, zK, d1, d2, d3, d4, d5, d6, d7, d8, d9, hgp, hgq, hc1, hc2, m_impl_Interpretation_holds]; done))) | (refine go_condF ?_ ?_; (focus (simp (disch := omega) only [go_sem, zA, zB, zC, zD, zE, zF, zG, zH, ↓reduceIte, zI, reduceCtorEq, zJ, zK, d1, d2, d3, d4, d5, d6, d7, d8, d9, hgp, hgq, hc1, hc2, m_impl_Interpretation_holds]; done)))); (try simp (disch := omega) only [go_sem, zA, zB, zC, zD, zE, zF, zG, zH, ↓reduceIte, zI, reduceCtorEq, zJ, zK, d1, d2, d3, d4, d5, d6, d7, d8, d9, hgp, hgq, hc1, hc2, m_impl_Interpretation_holds]))
          try rfl
        · refine E_walk k_impl_Interpretation_holds m_impl_Interpretation_holds (of_decide_eq_true rfl) ?_
          simp (disch := omega) only [c_impl_Interpretation_holds, go_sem, zA, zB, zC, zD, zE, zF, zG, zH, ↓reduceIte, zI, reduceCtorEq, zJ, zK, d1, d2, d3, d4, d5, d6, d7, d8, d9, hgp, hgq, hc1, hc2, m_impl_Interpretation_holds]
          repeat ((first | (refine go_condT ?_ ?_; (focus (simp (disch := omega) only [go_sem, zA, zB, zC, zD, zE, zF, zG, zH, ↓reduceIte, zI, reduceCtorEq, zJ, zK, d1, d2, d3, d4, d5, d6, d7, d8, d9, hgp, hgq, hc1, hc2, m_impl_Interpretation_holds]; done))) | (refine go_condF ?_ ?_; (focus (simp (disch := omega) only [go_sem, zA, zB, zC, zD, zE, zF, zG, zH, ↓reduceIte, zI, reduceCtorEq, zJ, zK, d1, d2, d3, d4, d5, d6, d7, d8, d9, hgp, hgq, hc1, hc2, m_impl_Interpretation_holds]; done)))); (try simp (disch := omega) only [go_sem, zA, zB, zC, zD, zE, zF, zG, zH, ↓reduceIte, zI, reduceCtorEq, zJ, zK, d1, d2, d3, d4, d5, d6, d7, d8, d9, hgp, hgq, hc1, hc2, m_impl_Interpretation_holds]))
          try rfl
  ·
    have d1 : dec (x.op = 1) = false := dec_f (by omega)
    have d2 : dec (x.op = 2) = false := dec_f (by omega)
    have d3 : dec (x.op = 3) = false := dec_f (by omega)
    have d4 : dec (x.op = 4) = false := dec_f (by omega)
    have d5 : dec (x.op = 5) = false := dec_f (by omega)
    have d6 : dec (x.op = 6) = false := dec_f (by omega)
    have d7 : dec (x.op = 7) = false := dec_f (by omega)
    have d8 : dec (x.op = 8) = true := dec_t (by omega)
    have d9 : dec (x.op = 9) = false := dec_f (by omega)
    obtain ⟨p, hp⟩ := Fm.form_q hfo (by omega)
    have hp : x.parts = [p] := by rw [hp]; rfl
    have hpl1 : 0 < x.parts.length := by rw [hp]; simp
    have hpe : x.parts[0] = p := by simp [hp]
    have hgp := get_at Fm.d hpl1
    rw [Fm.d_eq, hpe] at hgp
    have hpm : p ∈ x.parts := by rw [hp]; simp
    have hpf := Fm.forms_part hx hpm
    have hpn := Fm.nodes_mem hpm
    have hvn := Fm.vn_le p hpf
    have hfr := free_E p hpf (by omega) (by omega)
    have hfl := insA_len (p.fv []) []
    have hfv := Fm.fv_len p []
    have hcn := containsS_E p.free x.var (by unfold Fm.free; rw [List.length_nil] at hfl; omega)
    rw [Fm.tr_q (by omega) hp] at hb
    cases hov : overE (fun k => p.tr m (putE e x.var k)) m.size.toNat with
    | none => rw [hov] at hb; cases hb
    | some as_ =>
      obtain ⟨a, s⟩ := as_
      rw [hov] at hb
      have hb : some (bif dec (x.op = 8) then a else s) = some b := hb
      obtain rfl := Option.some.inj hb
      have hat := fun k hk => overE_at hov k hk
      have htf : (true == false) = false := rfl
      have hft : (false == true) = false := rfl
      rw [d8]
      simp only [cond_true, cond_false]
      refine E_walk k_impl_Interpretation_holds m_impl_Interpretation_holds (of_decide_eq_true rfl) ?_
      simp (disch := omega) only [c_impl_Interpretation_holds, go_sem, zA, zB, zC, zD, zE, zF, zG, zH, ↓reduceIte, zI, reduceCtorEq, zJ, zK, d1, d2, d3, d4, d5, d6, d7, d8, d9]
      repeat ((first | (refine go_condT ?_ ?_; (focus (simp (disch := omega) only [go_sem, zA, zB, zC, zD, zE, zF, zG, zH, ↓reduceIte, zI, reduceCtorEq, zJ, zK, d1, d2, d3, d4, d5, d6, d7, d8, d9]; done))) | (refine go_condF ?_ ?_; (focus (simp (disch := omega) only [go_sem, zA, zB, zC, zD, zE, zF, zG, zH, ↓reduceIte, zI, reduceCtorEq, zJ, zK, d1, d2, d3, d4, d5, d6, d7, d8, d9]; done)))); (try simp (disch := omega) only [go_sem, zA, zB, zC, zD, zE, zF, zG, zH, ↓reduceIte, zI, reduceCtorEq, zJ, zK, d1, d2, d3, d4, d5, d6, d7, d8, d9]))
      refine go_loop (α := Int) (fun i => ⟨slots 129 0 [(2, .mp true (envM e)), (3, .ptr 0 0), (4, .ptr 1 0), (94, .int .i64 m.size), (95, .int .i64 i)], [.box 51 [.int .i64 m.size, .arr (m.tables.map Tl.d)], .box 34 [.int .i64 x.op, .str x.atom.name, .arr (x.atom.args.map Tm.d), .str x.var, .arr (x.parts.map Fm.d)]]⟩) (fun i => ∃ k : Nat, i = k ∧ k ≤ m.size.toNat ∧ ∀ j : Nat, j < k → p.tr m (putE e x.var j) = some true) (fun i => m.size.toNat - i.toNat) 0 ⟨0, rfl, Nat.zero_le _, fun j hj => by omega⟩ (by simp (disch := omega) only [go_sem, go_cond, zA, zB, zC, zD, zE, zF, zG, zH, ↓reduceIte, zI, reduceCtorEq, zJ, zK]) ?_
      rintro i ⟨k, hi, hk, hR⟩
      rcases Int.lt_or_le i m.size with hlt | hge
      · have hwi := with_E e hf x.var i
        obtain ⟨v, hv, v0, v1⟩ := hat k (by omega)
        have hi' : p.tr m (putE e x.var i) = some v := by rw [hi]; exact hv
        have hc := ih p hpm _ (putE_in he (by omega) (by omega) _) (hf.put _ _) v hi'
        cases v with
        | false =>
          have hfin := v0 rfl
          rw [hfin]
          simp (disch := omega) only [go_sem, go_cond, zA, zB, zC, zD, zE, zF, zG, zH, ↓reduceIte, zI, reduceCtorEq, zJ, zK, d1, d2, d3, d4, d5, d6, d7, d8, d9, htf, hft, hgp, hwi, hc, hfr, hcn, m_impl_free, m_slices_Contains_string_string, m_impl_valuation_with, m_impl_Interpretation_holds]
        | true =>
          cases hm2 : dec (x.var ∈ p.free) with
          | true =>
            rw [hm2] at hcn
            simp (disch := omega) only [go_sem, go_cond, zA, zB, zC, zD, zE, zF, zG, zH, ↓reduceIte, zI, reduceCtorEq, zJ, zK, d1, d2, d3, d4, d5, d6, d7, d8, d9, htf, hft, hgp, hwi, hc, hfr, hcn, m_impl_free, m_slices_Contains_string_string, m_impl_valuation_with, m_impl_Interpretation_holds]
            refine ⟨i + 1, ⟨k + 1, by omega, by omega, fun j hj => ?_⟩, by omega, by first | trivial | rfl⟩
            rcases Nat.lt_or_ge j k with h | h
            · exact hR j h
            · obtain rfl : j = k := by omega
              exact hv
          | false =>
            rw [hm2] at hcn
            have hnf : ¬ x.var ∈ p.fv [] := fun h => (dec_not.1 hm2) ((Fm.free_mem p _).2 h)
            have hall := overE_all (p := fun k => p.tr m (putE e x.var k)) (b := true) (n := m.size.toNat) (fun j _ => by rw [Fm.tr_same hpf hnf e j k]; exact hv) (by omega)
            rw [hall] at hov
            simp only [Option.some.injEq, Prod.mk.injEq] at hov
            obtain ⟨rfl, rfl⟩ := hov
            simp (disch := omega) only [go_sem, go_cond, zA, zB, zC, zD, zE, zF, zG, zH, ↓reduceIte, zI, reduceCtorEq, zJ, zK, d1, d2, d3, d4, d5, d6, d7, d8, d9, htf, hft, hgp, hwi, hc, hfr, hcn, m_impl_free, m_slices_Contains_string_string, m_impl_valuation_with, m_impl_Interpretation_holds]
      · have hall := overE_all (p := fun k => p.tr m (putE e x.var k)) (b := true) (n := m.size.toNat) (fun j hj => hR j (by omega)) (by omega)
        rw [hall] at hov
        simp only [Option.some.injEq, Prod.mk.injEq] at hov
        obtain ⟨rfl, rfl⟩ := hov
        simp (disch := omega) only [go_sem, go_cond, zA, zB, zC, zD, zE, zF, zG, zH, ↓reduceIte, zI, reduceCtorEq, zJ, zK, d1, d2, d3, d4, d5, d6, d7, d8, d9]
  ·
    have d1 : dec (x.op = 1) = false := dec_f (by omega)
    have d2 : dec (x.op = 2) = false := dec_f (by omega)
    have d3 : dec (x.op = 3) = false := dec_f (by omega)
    have d4 : dec (x.op = 4) = false := dec_f (by omega)
    have d5 : dec (x.op = 5) = false := dec_f (by omega)
    have d6 : dec (x.op = 6) = false := dec_f (by omega)
    have d7 : dec (x.op = 7) = false := dec_f (by omega)
    have d8 : dec (x.op = 8) = false := dec_f (by omega)
    have d9 : dec (x.op = 9) = true := dec_t (by omega)
    obtain ⟨p, hp⟩ := Fm.form_q hfo (by omega)
    have hp : x.parts = [p] := by rw [hp]; rfl
    have hpl1 : 0 < x.parts.length := by rw [hp]; simp
    have hpe : x.parts[0] = p := by simp [hp]
    have hgp := get_at Fm.d hpl1
    rw [Fm.d_eq, hpe] at hgp
    have hpm : p ∈ x.parts := by rw [hp]; simp
    have hpf := Fm.forms_part hx hpm
    have hpn := Fm.nodes_mem hpm
    have hvn := Fm.vn_le p hpf
    have hfr := free_E p hpf (by omega) (by omega)
    have hfl := insA_len (p.fv []) []
    have hfv := Fm.fv_len p []
    have hcn := containsS_E p.free x.var (by unfold Fm.free; rw [List.length_nil] at hfl; omega)
    rw [Fm.tr_q (by omega) hp] at hb
    cases hov : overE (fun k => p.tr m (putE e x.var k)) m.size.toNat with
    | none => rw [hov] at hb; cases hb
    | some as_ =>
      obtain ⟨a, s⟩ := as_
      rw [hov] at hb
      have hb : some (bif dec (x.op = 8) then a else s) = some b := hb
      obtain rfl := Option.some.inj hb
      have hat := fun k hk => overE_at hov k hk
      have htf : (true == false) = false := rfl
      have hft : (false == true) = false := rfl
      rw [d8]
      simp only [cond_true, cond_false]
      refine E_walk k_impl_Interpretation_holds m_impl_Interpretation_holds (of_decide_eq_true rfl) ?_
      simp (disch := omega) only [c_impl_Interpretation_holds, go_sem, zA, zB, zC, zD, zE, zF, zG, zH, ↓reduceIte, zI, reduceCtorEq, zJ, zK, d1, d2, d3, d4, d5, d6, d7, d8, d9]
      repeat ((first | (refine go_condT ?_ ?_; (focus (simp (disch := omega) only [go_sem, zA, zB, zC, zD, zE, zF, zG, zH, ↓reduceIte, zI, reduceCtorEq, zJ, zK, d1, d2, d3, d4, d5, d6, d7, d8, d9]; done))) | (refine go_condF ?_ ?_; (focus (simp (disch := omega) only [go_sem, zA, zB, zC, zD, zE, zF, zG, zH, ↓reduceIte, zI, reduceCtorEq, zJ, zK, d1, d2, d3, d4, d5, d6, d7, d8, d9]; done)))); (try simp (disch := omega) only [go_sem, zA, zB, zC, zD, zE, zF, zG, zH, ↓reduceIte, zI, reduceCtorEq, zJ, zK, d1, d2, d3, d4, d5, d6, d7, d8, d9]))
      refine go_loop (α := Int) (fun i => ⟨slots 129 0 [(2, .mp true (envM e)), (3, .ptr 0 0), (4, .ptr 1 0), (94, .int .i64 m.size), (95, .int .i64 i)], [.box 51 [.int .i64 m.size, .arr (m.tables.map Tl.d)], .box 34 [.int .i64 x.op, .str x.atom.name, .arr (x.atom.args.map Tm.d), .str x.var, .arr (x.parts.map Fm.d)]]⟩) (fun i => ∃ k : Nat, i = k ∧ k ≤ m.size.toNat ∧ ∀ j : Nat, j < k → p.tr m (putE e x.var j) = some false) (fun i => m.size.toNat - i.toNat) 0 ⟨0, rfl, Nat.zero_le _, fun j hj => by omega⟩ (by simp (disch := omega) only [go_sem, go_cond, zA, zB, zC, zD, zE, zF, zG, zH, ↓reduceIte, zI, reduceCtorEq, zJ, zK]) ?_
      rintro i ⟨k, hi, hk, hR⟩
      rcases Int.lt_or_le i m.size with hlt | hge
      · have hwi := with_E e hf x.var i
        obtain ⟨v, hv, v0, v1⟩ := hat k (by omega)
        have hi' : p.tr m (putE e x.var i) = some v := by rw [hi]; exact hv
        have hc := ih p hpm _ (putE_in he (by omega) (by omega) _) (hf.put _ _) v hi'
        cases v with
        | true =>
          have hfin := v1 rfl
          rw [hfin]
          simp (disch := omega) only [go_sem, go_cond, zA, zB, zC, zD, zE, zF, zG, zH, ↓reduceIte, zI, reduceCtorEq, zJ, zK, d1, d2, d3, d4, d5, d6, d7, d8, d9, htf, hft, hgp, hwi, hc, hfr, hcn, m_impl_free, m_slices_Contains_string_string, m_impl_valuation_with, m_impl_Interpretation_holds]
        | false =>
          cases hm2 : dec (x.var ∈ p.free) with
          | true =>
            rw [hm2] at hcn
            simp (disch := omega) only [go_sem, go_cond, zA, zB, zC, zD, zE, zF, zG, zH, ↓reduceIte, zI, reduceCtorEq, zJ, zK, d1, d2, d3, d4, d5, d6, d7, d8, d9, htf, hft, hgp, hwi, hc, hfr, hcn, m_impl_free, m_slices_Contains_string_string, m_impl_valuation_with, m_impl_Interpretation_holds]
            refine ⟨i + 1, ⟨k + 1, by omega, by omega, fun j hj => ?_⟩, by omega, by first | trivial | rfl⟩
            rcases Nat.lt_or_ge j k with h | h
            · exact hR j h
            · obtain rfl : j = k := by omega
              exact hv
          | false =>
            rw [hm2] at hcn
            have hnf : ¬ x.var ∈ p.fv [] := fun h => (dec_not.1 hm2) ((Fm.free_mem p _).2 h)
            have hall := overE_all (p := fun k => p.tr m (putE e x.var k)) (b := false) (n := m.size.toNat) (fun j _ => by rw [Fm.tr_same hpf hnf e j k]; exact hv) (by omega)
            rw [hall] at hov
            simp only [Option.some.injEq, Prod.mk.injEq] at hov
            obtain ⟨rfl, rfl⟩ := hov
            simp (disch := omega) only [go_sem, go_cond, zA, zB, zC, zD, zE, zF, zG, zH, ↓reduceIte, zI, reduceCtorEq, zJ, zK, d1, d2, d3, d4, d5, d6, d7, d8, d9, htf, hft, hgp, hwi, hc, hfr, hcn, m_impl_free, m_slices_Contains_string_string, m_impl_valuation_with, m_impl_Interpretation_holds]
      · have hall := overE_all (p := fun k => p.tr m (putE e x.var k)) (b := false) (n := m.size.toNat) (fun j hj => hR j (by omega)) (by omega)
        rw [hall] at hov
        simp only [Option.some.injEq, Prod.mk.injEq] at hov
        obtain ⟨rfl, rfl⟩ := hov
        simp (disch := omega) only [go_sem, go_cond, zA, zB, zC, zD, zE, zF, zG, zH, ↓reduceIte, zI, reduceCtorEq, zJ, zK, d1, d2, d3, d4, d5, d6, d7, d8, d9]
theorem holds_E (m : Ip) (hm : m.ok = true) (ht : m.tame) (x : Fm) (hx : x.forms = true) (hn : x.nodes ≤ 30000) (e : Env) (he : InE m.size e) (hf : FinE e) : HoC m e x :=
  holds_of m hm ht x hx hn e he hf fun y hy e he hf => holds_E m hm ht y (Fm.forms_part hx hy) (by have := Fm.nodes_mem hy; have := Fm.nodes_eq x; omega) e he hf
termination_by SizeOf.sizeOf x
decreasing_by exact Fm.lt_of_mem hy
def c_spec_l10With : SC := (.seq (.reg [⟨some 6, none, .mv (.c .nil)⟩]) (.seq (.reg [⟨(some 9), none, (.mkrow 94 2 [(.str ⟨#[]⟩), (.int .i64 0)] 0 [])⟩, ⟨some 7, none, .mv (.t 9)⟩]) (.seq (.reg [⟨some 8, none, .mv (.c (.int .i64 0))⟩]) (.seq (.block 0 (.loop [1, 1, 1, 0, 0, 0, 0, 1, 1, 0, 0, 0, 0, 0, 0, 0, 0, 0, 0, 0, 0, 0, 0, 0, 0, 0, 0, 0, 0, 0, 0, 0, 0, 0, 0, 0, 0, 0, 0, 0, 0, 0, 0, 0, 0, 0, 0, 0, 0, 0, 0, 0, 0, 0, 0, 0, 0, 0, 0] (.seq (.seq (.reg [⟨some 10, none, .mv (.t 8)⟩, ⟨some 11, none, .mv (.t 0)⟩, ⟨some 12, none, .len false (.t 11)⟩, ⟨some 13, none, .bin .lss false (.t 10) (.t 12)⟩, ⟨some 14, none, .mv (.t 13)⟩, ⟨(some 15), (some (14, true)), (.mv (.t 0))⟩, ⟨(some 16), (some (14, true)), (.mv (.t 8))⟩, ⟨(some 17), (some (14, true)), (.iaddr 2 (.t 15) (.t 16))⟩, ⟨(some 18), (some (14, true)), (.faddr 0 (.t 17))⟩, ⟨(some 19), (some (14, true)), (.load false 1 (.t 18))⟩, ⟨(some 20), (some (14, true)), (.mv (.t 1))⟩, ⟨(some 21), (some (14, true)), (.bin .lss false (.t 19) (.t 20))⟩, ⟨some 22, none, .pick (.t 14) (.t 21) (.c (.bool false))⟩]) (.cond (.t 22) .skip (.exit 0))) (.block 1 (.seq (.reg [⟨some 23, none, .mv (.t 7)⟩, ⟨some 24, none, .mv (.t 0)⟩, ⟨some 25, none, .mv (.t 8)⟩, ⟨some 26, none, .iaddr 2 (.t 24) (.t 25)⟩, ⟨some 27, none, .load true 2 (.t 26)⟩, ⟨(some 28), none, (.mkrow 94 2 [(.str ⟨#[]⟩), (.int .i64 0)] 1 [(0, (.t 27))])⟩, ⟨(some 29), none, (.append 94 2 24 [(.str ⟨#[]⟩), (.int .i64 0)] (.t 23) (.t 28))⟩, ⟨some 7, none, .mv (.t 29)⟩]) (.reg [⟨some 30, none, .mv (.t 8)⟩, ⟨some 31, none, .bin .add false (.t 30) (.c (.int .i64 1))⟩, ⟨some 8, none, .mv (.t 31)⟩])))))) (.seq (.reg [⟨some 32, none, .mv (.t 7)⟩, ⟨some 33, none, .mv (.t 1)⟩, ⟨some 34, none, .mv (.t 2)⟩, ⟨(some 35), none, (.build [(.str ⟨#[]⟩), (.int .i64 0)] [(0, (1, (.t 33))), (1, (1, (.t 34)))])⟩, ⟨(some 36), none, (.mkrow 94 2 [(.str ⟨#[]⟩), (.int .i64 0)] 1 [(0, (.t 35))])⟩, ⟨(some 37), none, (.append 94 2 24 [(.str ⟨#[]⟩), (.int .i64 0)] (.t 32) (.t 36))⟩, ⟨some 7, none, .mv (.t 37)⟩]) (.seq (.block 2 (.loop [1, 1, 0, 0, 0, 0, 0, 1, 1, 0, 0, 0, 0, 0, 0, 0, 0, 0, 0, 0, 0, 0, 0, 0, 0, 0, 0, 0, 0, 0, 0, 0, 0, 0, 0, 0, 0, 0, 0, 0, 0, 0, 0, 0, 0, 0, 0, 0, 0, 0, 0, 0, 0, 0, 0, 0, 0, 0, 0] (.seq (.seq (.reg [⟨some 38, none, .mv (.t 8)⟩, ⟨some 39, none, .mv (.t 0)⟩, ⟨some 40, none, .len false (.t 39)⟩, ⟨some 41, none, .bin .lss false (.t 38) (.t 40)⟩]) (.cond (.t 41) .skip (.exit 2))) (.seq (.block 3 (.seq (.reg [⟨some 44, none, .mv (.t 0)⟩, ⟨some 45, none, .mv (.t 8)⟩, ⟨some 46, none, .iaddr 2 (.t 44) (.t 45)⟩, ⟨some 47, none, .faddr 0 (.t 46)⟩, ⟨some 48, none, .load false 1 (.t 47)⟩, ⟨some 49, none, .mv (.t 1)⟩, ⟨some 50, none, .bin .neq false (.t 48) (.t 49)⟩]) (.cond (.t 50) (.reg [⟨some 51, none, .mv (.t 7)⟩, ⟨some 52, none, .mv (.t 0)⟩, ⟨some 53, none, .mv (.t 8)⟩, ⟨some 54, none, .iaddr 2 (.t 52) (.t 53)⟩, ⟨some 55, none, .load true 2 (.t 54)⟩, ⟨(some 56), none, (.mkrow 94 2 [(.str ⟨#[]⟩), (.int .i64 0)] 1 [(0, (.t 55))])⟩, ⟨(some 57), none, (.append 94 2 24 [(.str ⟨#[]⟩), (.int .i64 0)] (.t 51) (.t 56))⟩, ⟨some 7, none, .mv (.t 57)⟩]) .skip))) (.reg [⟨some 42, none, .mv (.t 8)⟩, ⟨some 43, none, .bin .add false (.t 42) (.c (.int .i64 1))⟩, ⟨some 8, none, .mv (.t 43)⟩]))))) (.seq (.reg [⟨some 58, none, .mv (.t 7)⟩, ⟨some 6, none, .mv (.t 58)⟩]) .ret)))))))
theorem k_spec_l10With : codeOf Tryz.prog 140 = some ⟨59, c_spec_l10With, [(.tmp 6)]⟩ := by kernel_rfl
theorem m_spec_l10With : modes 140 = ⟨[], .frz, none, false⟩ := by unfold modes; rfl
def c_spec_l10Truth : SC := (.seq (.reg [⟨some 3, none, .boxv 51 2 (.t 0)⟩, ⟨some 5, none, .boxv 34 5 (.t 2)⟩, ⟨some 6, none, .mv (.c (.bool false))⟩, ⟨some 7, none, .mv (.c (.bool false))⟩]) (.seq (.seq (.reg [⟨some 14, none, .faddr 0 (.t 5)⟩, ⟨some 15, none, .load false 1 (.t 14)⟩]) (.block 0 (.seq (.seq (.reg [⟨some 17, none, .bin .eql false (.t 15) (.c (.int .i64 1))⟩, ⟨some 16, none, .mv (.t 17)⟩]) (.cond (.t 16) .skip (.reg [⟨some 18, none, .bin .eql false (.t 15) (.c (.int .i64 2))⟩, ⟨some 16, none, .mv (.t 18)⟩]))) (.cond (.t 16) (.seq (.reg [⟨some 19, none, .faddr 0 (.t 5)⟩, ⟨some 20, none, .load false 1 (.t 19)⟩, ⟨some 21, none, .bin .eql false (.t 20) (.c (.int .i64 1))⟩, ⟨some 6, none, .mv (.t 21)⟩, ⟨some 7, none, .mv (.c (.bool true))⟩]) .ret) (.seq (.reg [⟨some 23, none, .bin .eql false (.t 15) (.c (.int .i64 3))⟩, ⟨some 22, none, .mv (.t 23)⟩]) (.cond (.t 22) (.seq (.reg [⟨some 25, none, .load true 2 (.t 3)⟩, ⟨some 26, none, .mv (.t 1)⟩, ⟨some 27, none, .faddr 1 (.t 5)⟩, ⟨some 28, none, .load true 2 (.t 27)⟩, ⟨some 29, none, .call 93 [(.t 25), (.t 26), (.t 28), (.c (.bool true))]⟩, ⟨some 24, none, .mv (.t 29)⟩, ⟨some 30, none, .ext (.t 24) 0⟩, ⟨some 31, none, .ext (.t 24) 1⟩, ⟨some 8, none, .mv (.t 30)⟩, ⟨some 9, none, .mv (.t 31)⟩]) (.seq (.reg [⟨some 32, none, .mv (.t 9)⟩, ⟨some 33, none, .mv (.t 32)⟩, ⟨(some 34), (some (33, true)), (.mv (.t 8))⟩, ⟨(some 35), (some (33, true)), (.bin .eql false (.t 34) (.c (.int .i64 1)))⟩, ⟨some 36, none, .pick (.t 33) (.t 35) (.c (.bool false))⟩, ⟨some 37, none, .mv (.t 9)⟩, ⟨some 6, none, .mv (.t 36)⟩, ⟨some 7, none, .mv (.t 37)⟩]) .ret)) (.seq (.seq (.reg [⟨some 39, none, .bin .eql false (.t 15) (.c (.int .i64 8))⟩, ⟨some 38, none, .mv (.t 39)⟩]) (.cond (.t 38) .skip (.reg [⟨some 40, none, .bin .eql false (.t 15) (.c (.int .i64 9))⟩, ⟨some 38, none, .mv (.t 40)⟩]))) (.cond (.t 38) (.seq (.reg [⟨some 41, none, .load true 2 (.t 3)⟩, ⟨some 42, none, .mv (.t 1)⟩, ⟨some 43, none, .load true 5 (.t 5)⟩, ⟨some 44, none, .call 94 [(.t 41), (.t 42), (.t 43)]⟩, ⟨some 45, none, .ext (.t 44) 0⟩, ⟨some 46, none, .ext (.t 44) 1⟩, ⟨some 6, none, .mv (.t 45)⟩, ⟨some 7, none, .mv (.t 46)⟩]) .ret) .skip)))))))) (.seq (.dreg [[], [], [], [2], [3, 2], [4, 3, 2], [0, 1, 5, 4, 3, 2], [6, 0, 1, 5, 4, 3, 2], [7, 6, 0, 1, 5, 4, 3, 2], [7, 6, 0, 1, 5, 4, 3, 2], [8, 7, 6, 0, 1, 5, 4, 3, 2], [9, 7, 6, 0, 1, 5, 4, 3, 2, 10, 8]] [⟨some 48, none, .load true 2 (.t 3)⟩, ⟨some 49, none, .mv (.t 1)⟩, ⟨some 50, none, .faddr 4 (.t 5)⟩, ⟨some 51, none, .load false 1 (.t 50)⟩, ⟨some 52, none, .iaddr 5 (.t 51) (.c (.int .i64 0))⟩, ⟨some 53, none, .load true 5 (.t 52)⟩, ⟨some 54, none, .call 52 [(.t 48), (.t 49), (.t 53)]⟩, ⟨some 47, none, .mv (.t 54)⟩, ⟨some 55, none, .ext (.t 47) 0⟩, ⟨some 56, none, .ext (.t 47) 1⟩, ⟨some 10, none, .mv (.t 55)⟩, ⟨some 11, none, .mv (.t 56)⟩]) (.seq (.seq (.reg [⟨some 57, none, .mv (.t 11)⟩, ⟨some 58, none, .un .not (.t 57)⟩]) (.cond (.t 58) (.seq (.reg [⟨some 6, none, .mv (.c (.bool false))⟩, ⟨some 7, none, .mv (.c (.bool false))⟩]) .ret) .skip)) (.seq (.seq (.reg [⟨some 59, none, .faddr 0 (.t 5)⟩, ⟨some 60, none, .load false 1 (.t 59)⟩, ⟨some 61, none, .bin .eql false (.t 60) (.c (.int .i64 4))⟩]) (.cond (.t 61) (.seq (.reg [⟨some 62, none, .mv (.t 10)⟩, ⟨some 63, none, .un .not (.t 62)⟩, ⟨some 6, none, .mv (.t 63)⟩, ⟨some 7, none, .mv (.c (.bool true))⟩]) .ret) .skip)) (.seq (.dreg [[], [], [], [2], [3, 2], [4, 3, 2], [0, 1, 5, 4, 3, 2], [6, 0, 1, 5, 4, 3, 2], [7, 6, 0, 1, 5, 4, 3, 2], [7, 6, 0, 1, 5, 4, 3, 2], [8, 7, 6, 0, 1, 5, 4, 3, 2], [9, 7, 6, 0, 1, 5, 4, 3, 2, 10, 8]] [⟨some 65, none, .load true 2 (.t 3)⟩, ⟨some 66, none, .mv (.t 1)⟩, ⟨some 67, none, .faddr 4 (.t 5)⟩, ⟨some 68, none, .load false 1 (.t 67)⟩, ⟨some 69, none, .iaddr 5 (.t 68) (.c (.int .i64 1))⟩, ⟨some 70, none, .load true 5 (.t 69)⟩, ⟨some 71, none, .call 52 [(.t 65), (.t 66), (.t 70)]⟩, ⟨some 64, none, .mv (.t 71)⟩, ⟨some 72, none, .ext (.t 64) 0⟩, ⟨some 73, none, .ext (.t 64) 1⟩, ⟨some 12, none, .mv (.t 72)⟩, ⟨some 13, none, .mv (.t 73)⟩]) (.seq (.seq (.reg [⟨some 74, none, .mv (.t 13)⟩, ⟨some 75, none, .un .not (.t 74)⟩]) (.cond (.t 75) (.seq (.reg [⟨some 6, none, .mv (.c (.bool false))⟩, ⟨some 7, none, .mv (.c (.bool false))⟩]) .ret) .skip)) (.seq (.seq (.reg [⟨some 76, none, .faddr 0 (.t 5)⟩, ⟨some 77, none, .load false 1 (.t 76)⟩]) (.block 1 (.seq (.reg [⟨some 79, none, .bin .eql false (.t 77) (.c (.int .i64 5))⟩, ⟨some 78, none, .mv (.t 79)⟩]) (.cond (.t 78) (.seq (.reg [⟨some 80, none, .mv (.t 10)⟩, ⟨some 81, none, .mv (.t 80)⟩, ⟨(some 82), (some (81, true)), (.mv (.t 12))⟩, ⟨some 83, none, .pick (.t 81) (.t 82) (.c (.bool false))⟩, ⟨some 6, none, .mv (.t 83)⟩, ⟨some 7, none, .mv (.c (.bool true))⟩]) .ret) (.seq (.reg [⟨some 85, none, .bin .eql false (.t 77) (.c (.int .i64 6))⟩, ⟨some 84, none, .mv (.t 85)⟩]) (.cond (.t 84) (.seq (.reg [⟨some 86, none, .mv (.t 10)⟩, ⟨some 87, none, .mv (.t 86)⟩, ⟨(some 88), (some (87, false)), (.mv (.t 12))⟩, ⟨some 89, none, .pick (.t 87) (.c (.bool true)) (.t 88)⟩, ⟨some 6, none, .mv (.t 89)⟩, ⟨some 7, none, .mv (.c (.bool true))⟩]) .ret) .skip)))))) (.seq (.reg [⟨some 90, none, .mv (.t 10)⟩, ⟨some 91, none, .un .not (.t 90)⟩, ⟨some 92, none, .mv (.t 91)⟩, ⟨(some 93), (some (92, false)), (.mv (.t 12))⟩, ⟨some 94, none, .pick (.t 92) (.c (.bool true)) (.t 93)⟩, ⟨some 6, none, .mv (.t 94)⟩, ⟨some 7, none, .mv (.c (.bool true))⟩]) .ret)))))))))
theorem k_spec_l10Truth : codeOf Tryz.prog 52 = some ⟨95, c_spec_l10Truth, [(.tmp 6), (.tmp 7)]⟩ := by kernel_rfl
theorem m_spec_l10Truth : modes 52 = ⟨[], .asis, none, false⟩ := by unfold modes; rfl
def c_spec_l10Quantified : SC := (.seq (.reg [⟨some 3, none, .boxv 51 2 (.t 0)⟩, ⟨some 5, none, .boxv 34 5 (.t 2)⟩, ⟨some 6, none, .mv (.c (.bool false))⟩, ⟨some 7, none, .mv (.c (.bool false))⟩]) (.seq (.reg [⟨some 8, none, .mv (.c (.bool true))⟩, ⟨some 9, none, .mv (.c (.bool false))⟩]) (.seq (.seq (.reg [⟨some 10, none, .mv (.c (.int .i64 0))⟩]) (.block 0 (.loop [0, 1, 0, 1, 0, 1, 0, 0, 1, 1, 1, 0, 0, 0, 0, 0, 0, 0, 0, 0, 0, 0, 0, 0, 0, 0, 0, 0, 0, 0, 0, 0, 0, 0, 0, 0, 0, 0, 0, 0, 0, 0, 0, 0, 0, 0, 0, 0] (.seq (.seq (.reg [⟨some 13, none, .mv (.t 10)⟩, ⟨some 14, none, .faddr 0 (.t 3)⟩, ⟨some 15, none, .load false 1 (.t 14)⟩, ⟨some 16, none, .bin .lss false (.t 13) (.t 15)⟩]) (.cond (.t 16) .skip (.exit 0))) (.seq (.block 1 (.seq (.dreg [[], [], [], [2], [], [1, 3, 2, 4], [], [6], [7, 6], [8, 7, 6], [0, 5, 1, 3, 2, 4, 9, 8, 7, 6], [10, 0, 5, 1, 3, 2, 4, 9, 8, 7, 6], [11, 10, 0, 5, 1, 3, 2, 4, 9, 8, 7, 6], [11, 10, 0, 5, 1, 3, 2, 4, 9, 8, 7, 6], [12, 11, 10, 0, 5, 1, 3, 2, 4, 9, 8, 7, 6], [13, 11, 10, 0, 5, 1, 3, 2, 4, 9, 8, 7, 6, 14, 12]] [⟨some 20, none, .load true 2 (.t 3)⟩, ⟨some 21, none, .mv (.t 1)⟩, ⟨some 22, none, .faddr 3 (.t 5)⟩, ⟨some 23, none, .load false 1 (.t 22)⟩, ⟨some 24, none, .mv (.t 10)⟩, ⟨some 25, none, .call 140 [(.t 21), (.t 23), (.t 24)]⟩, ⟨some 26, none, .faddr 4 (.t 5)⟩, ⟨some 27, none, .load false 1 (.t 26)⟩, ⟨some 28, none, .iaddr 5 (.t 27) (.c (.int .i64 0))⟩, ⟨some 29, none, .load true 5 (.t 28)⟩, ⟨some 30, none, .call 52 [(.t 20), (.t 25), (.t 29)]⟩, ⟨some 19, none, .mv (.t 30)⟩, ⟨some 31, none, .ext (.t 19) 0⟩, ⟨some 32, none, .ext (.t 19) 1⟩, ⟨some 11, none, .mv (.t 31)⟩, ⟨some 12, none, .mv (.t 32)⟩]) (.seq (.seq (.reg [⟨some 33, none, .mv (.t 12)⟩, ⟨some 34, none, .un .not (.t 33)⟩]) (.cond (.t 34) (.seq (.reg [⟨some 6, none, .mv (.c (.bool false))⟩, ⟨some 7, none, .mv (.c (.bool false))⟩]) .ret) .skip)) (.seq (.reg [⟨some 35, none, .mv (.t 8)⟩, ⟨some 36, none, .mv (.t 35)⟩, ⟨(some 37), (some (36, true)), (.mv (.t 11))⟩, ⟨some 38, none, .pick (.t 36) (.t 37) (.c (.bool false))⟩, ⟨some 8, none, .mv (.t 38)⟩]) (.reg [⟨some 39, none, .mv (.t 9)⟩, ⟨some 40, none, .mv (.t 39)⟩, ⟨(some 41), (some (40, false)), (.mv (.t 11))⟩, ⟨some 42, none, .pick (.t 40) (.c (.bool true)) (.t 41)⟩, ⟨some 9, none, .mv (.t 42)⟩]))))) (.reg [⟨some 17, none, .mv (.t 10)⟩, ⟨some 18, none, .bin .add false (.t 17) (.c (.int .i64 1))⟩, ⟨some 10, none, .mv (.t 18)⟩])))))) (.seq (.seq (.reg [⟨some 43, none, .faddr 0 (.t 5)⟩, ⟨some 44, none, .load false 1 (.t 43)⟩, ⟨some 45, none, .bin .eql false (.t 44) (.c (.int .i64 8))⟩]) (.cond (.t 45) (.seq (.reg [⟨some 46, none, .mv (.t 8)⟩, ⟨some 6, none, .mv (.t 46)⟩, ⟨some 7, none, .mv (.c (.bool true))⟩]) .ret) .skip)) (.seq (.reg [⟨some 47, none, .mv (.t 9)⟩, ⟨some 6, none, .mv (.t 47)⟩, ⟨some 7, none, .mv (.c (.bool true))⟩]) .ret)))))
theorem k_spec_l10Quantified : codeOf Tryz.prog 94 = some ⟨48, c_spec_l10Quantified, [(.tmp 6), (.tmp 7)]⟩ := by kernel_rfl
theorem m_spec_l10Quantified : modes 94 = ⟨[], .asis, none, false⟩ := by unfold modes; rfl
noncomputable def withA : List Ag → ByteArray → Int → List Ag
  | [], n, z => [⟨n, z⟩]
  | x :: r, n, z => bif strLt x.var n then x :: withA r n z else ⟨n, z⟩ :: (x :: r).filter fun y => !dec (y.var = n)
theorem withA_len (n : ByteArray) (z : Int) : ∀ a : List Ag, (withA a n z).length ≤ a.length + 1
  | [] => by rw [withA]; exact Nat.le_refl _
  | x :: r => by
    rw [withA]
    cases strLt x.var n with
    | true => have := withA_len n z r; simp only [cond_true, List.length_cons]; omega
    | false => have := List.length_filter_le (fun y : Ag => !dec (y.var = n)) (x :: r); simp only [cond_false, List.length_cons] at *; omega
theorem asg_filter (n s : ByteArray) (h : s ≠ n) : ∀ a : List Ag, asg (a.filter fun y => !dec (y.var = n)) s = asg a s
  | [] => rfl
  | x :: r => by
    have ih := asg_filter n s h r
    rw [List.filter_cons, asg]
    by_cases hx : x.var = n
    · have hs : ¬ x.var = s := fun e => h (e.symm.trans hx)
      rw [dec_t hx, dec_f hs, cond_false]
      exact ih
    · rw [dec_f hx]
      simp only [Bool.not_false, if_true]
      rw [asg, ih]
theorem asg_with (n : ByteArray) (z : Int) : ∀ a : List Ag, asg (withA a n z) = putE (asg a) n z
  | [] => by
    funext s
    rw [withA, asg, putE]
    have e : (n = s) = (s = n) := propext ⟨Eq.symm, Eq.symm⟩
    rw [e]
  | x :: r => by
    have ih := asg_with n z r
    funext s
    rw [withA]
    cases hx : strLt x.var n with
    | true =>
      rw [cond_true, asg, ih, putE, putE, asg]
      by_cases hs : s = n
      · have hn : ¬ x.var = s := fun e => strLt_ne hx (e.trans hs)
        rw [dec_t hs, dec_f hn]; rfl
      · rw [dec_f hs]; rfl
    | false =>
      rw [cond_false, asg, putE]
      have e : (n = s) = (s = n) := propext ⟨Eq.symm, Eq.symm⟩
      simp only [e]
      by_cases hs : s = n
      · rw [dec_t hs]; rfl
      · rw [dec_f hs, cond_false, cond_false]
        exact asg_filter n s hs _
set_option maxHeartbeats 8000000 in
theorem l10With_E (a : List Ag) (hl : a.length ≤ 2097152) (n : ByteArray) (z : Int) : E 140 [.arr (a.map Ag.d), .str n, .int .i64 z] [] = some (.arr ((withA a n z).map Ag.d), []) := by
  refine E_walk k_spec_l10With m_spec_l10With (of_decide_eq_true rfl) ?_
  simp (disch := omega) only [c_spec_l10With, go_sem, go_cond, zA, zB, zC, zD, zE, zF, zG, zH, ↓reduceIte, zI, reduceCtorEq, zJ, zK]
  refine go_loop (α := Int) (fun i => ⟨slots 59 0 [(0, .arr (a.map Ag.d)), (1, .str n), (2, .int .i64 z), (7, .ref 0), (8, .int .i64 i)], [.row 94 2 ((a.take i.toNat).map Ag.o)]⟩) (fun i => ∃ k : Nat, i = k ∧ k ≤ a.length ∧ withA a n z = a.take k ++ withA (a.drop k) n z) (fun i => a.length - i.toNat) 0 ⟨0, rfl, Nat.zero_le _, by simp⟩ (by simp (disch := omega) only [go_sem, go_cond, zA, zB, zC, zD, zE, zF, zG, zH, ↓reduceIte, zI, reduceCtorEq, zJ, zK, Int.toNat_zero]) ?_
  rintro i ⟨k, hi, hk, hR⟩
  have hni : i.toNat = k := by omega
  have hni1 : (i + 1).toNat = k + 1 := by omega
  have key : ∀ rest, withA a n z = a.take k ++ (⟨n, z⟩ :: rest) → rest = (a.drop k).filter (fun y => !dec (y.var = n)) → withA a n z = (a.take k ++ [⟨n, z⟩]) ++ (a.drop k).filter (fun y => !dec (y.var = n)) := fun rest h1 h2 => by rw [h1, h2, List.append_assoc]; rfl
  have hap : ∀ l : List Ag, l.map Ag.o ++ [[OT.str n, OT.int z]] = (l ++ [(⟨n, z⟩ : Ag)]).map Ag.o := fun l => by rw [List.map_append]; rfl
  have hle : ((a.take k).map Ag.o).length = k := by rw [List.length_map, List.length_take]; omega
  rcases Nat.lt_or_ge k a.length with hlt | hge
  · have hg := get_at Ag.d hlt
    rw [Ag.d_eq] at hg
    have hap2 : (a.take k).map Ag.o ++ [[OT.str a[k].var, OT.int a[k].elem]] = (a.take (k + 1)).map Ag.o := by rw [List.take_succ_eq_append_getElem hlt, List.map_append]; rfl
    cases hs : strLt a[k].var n with
    | true =>
      rw [List.drop_eq_getElem_cons hlt, withA, hs, cond_true] at hR
      simp (disch := omega) only [go_sem, go_cond, zA, zB, zC, zD, zE, zF, zG, zH, ↓reduceIte, zI, reduceCtorEq, zJ, zK, hni, hg, hs, hle, hap2]
      refine ⟨i + 1, ⟨k + 1, by omega, hlt, ?_⟩, by omega, ?_⟩
      · rw [hR, List.take_succ_eq_append_getElem hlt, List.append_assoc]; rfl
      · simp (disch := omega) only [go_sem, go_cond, zA, zB, zC, zD, zE, zF, zG, zH, ↓reduceIte, zI, reduceCtorEq, zJ, zK, hni1]
    | false =>
      have hR0 := hR
      rw [List.drop_eq_getElem_cons hlt, withA, hs, cond_false, ← List.drop_eq_getElem_cons hlt] at hR0
      have hW := key _ hR0 rfl
      simp (disch := omega) only [go_sem, go_cond, zA, zB, zC, zD, zE, zF, zG, zH, ↓reduceIte, zI, reduceCtorEq, zJ, zK, hni, hg, hs, hle, hap]
      refine go_loop (α := Int × List Ag) (fun b => ⟨slots 59 0 [(0, .arr (a.map Ag.d)), (1, .str n), (7, .ref 0), (8, .int .i64 b.1)], [.row 94 2 (b.2.map Ag.o)]⟩) (fun b => ∃ j : Nat, b.1 = j ∧ j ≤ a.length ∧ b.2.length ≤ j + 1 ∧ withA a n z = b.2 ++ (a.drop j).filter (fun y => !dec (y.var = n))) (fun b => a.length - b.1.toNat) (i, a.take k ++ [⟨n, z⟩]) ⟨k, hi, hk, by simp; omega, hW⟩ (by simp (disch := omega) only [go_sem, go_cond, zA, zB, zC, zD, zE, zF, zG, zH, ↓reduceIte, zI, reduceCtorEq, zJ, zK]) ?_
      rintro ⟨i2, dn⟩ ⟨j, hj, hjl, hdl, hD⟩
      dsimp only at hj hdl hD
      have hnj : i2.toNat = j := by omega
      rcases Nat.lt_or_ge j a.length with hlt2 | hge2
      · have hg2 := get_at Ag.d hlt2
        rw [Ag.d_eq] at hg2
        rw [List.drop_eq_getElem_cons hlt2, List.filter_cons] at hD
        have hap3 : dn.map Ag.o ++ [[OT.str a[j].var, OT.int a[j].elem]] = (dn ++ [a[j]]).map Ag.o := by rw [List.map_append]; rfl
        cases hd : dec (a[j].var = n) with
        | true =>
          rw [hd] at hD
          simp only [Bool.not_true, Bool.false_eq_true, if_false] at hD
          simp (disch := omega) only [go_sem, go_cond, zA, zB, zC, zD, zE, zF, zG, zH, ↓reduceIte, zI, reduceCtorEq, zJ, zK, hnj, hg2, hd, hap3]
          refine ⟨(i2 + 1, dn), ⟨j + 1, by dsimp only; omega, hlt2, by dsimp only; omega, hD⟩, by dsimp only; omega, ?_⟩
          first | trivial | rfl | (simp only [and_self])
        | false =>
          rw [hd] at hD
          simp only [Bool.not_false, if_true] at hD
          simp (disch := omega) only [go_sem, go_cond, zA, zB, zC, zD, zE, zF, zG, zH, ↓reduceIte, zI, reduceCtorEq, zJ, zK, hnj, hg2, hd, hap3]
          refine ⟨(i2 + 1, dn ++ [a[j]]), ⟨j + 1, by dsimp only; omega, hlt2, by simp; omega, by rw [hD, List.append_assoc]; rfl⟩, by dsimp only; omega, ?_⟩
          first | trivial | rfl | (simp only [and_self])
      · rw [List.drop_eq_nil_of_le hge2, List.filter_nil, List.append_nil] at hD
        rw [hD]
        simp (disch := omega) only [go_sem, go_cond, zA, zB, zC, zD, zE, zF, zG, zH, ↓reduceIte, zI, reduceCtorEq, zJ, zK, hnj, Ag.erss, Ag.noss]
  · have hR0 := hR
    rw [List.drop_eq_nil_of_le hge, withA] at hR0
    have hW := key [] hR0 (by rw [List.drop_eq_nil_of_le hge]; rfl)
    simp (disch := omega) only [go_sem, go_cond, zA, zB, zC, zD, zE, zF, zG, zH, ↓reduceIte, zI, reduceCtorEq, zJ, zK, hni, hle, hap]
    refine go_loop (α := Int × List Ag) (fun b => ⟨slots 59 0 [(0, .arr (a.map Ag.d)), (1, .str n), (7, .ref 0), (8, .int .i64 b.1)], [.row 94 2 (b.2.map Ag.o)]⟩) (fun b => ∃ j : Nat, b.1 = j ∧ j ≤ a.length ∧ b.2.length ≤ j + 1 ∧ withA a n z = b.2 ++ (a.drop j).filter (fun y => !dec (y.var = n))) (fun b => a.length - b.1.toNat) (i, a.take k ++ [⟨n, z⟩]) ⟨k, hi, hk, by simp; omega, hW⟩ (by simp (disch := omega) only [go_sem, go_cond, zA, zB, zC, zD, zE, zF, zG, zH, ↓reduceIte, zI, reduceCtorEq, zJ, zK]) ?_
    rintro ⟨i2, dn⟩ ⟨j, hj, hjl, hdl, hD⟩
    dsimp only at hj hdl hD
    have hnj : i2.toNat = j := by omega
    rcases Nat.lt_or_ge j a.length with hlt2 | hge2
    · have hg2 := get_at Ag.d hlt2
      rw [Ag.d_eq] at hg2
      rw [List.drop_eq_getElem_cons hlt2, List.filter_cons] at hD
      have hap3 : dn.map Ag.o ++ [[OT.str a[j].var, OT.int a[j].elem]] = (dn ++ [a[j]]).map Ag.o := by rw [List.map_append]; rfl
      cases hd : dec (a[j].var = n) with
      | true =>
        rw [hd] at hD
        simp only [Bool.not_true, Bool.false_eq_true, if_false] at hD
        simp (disch := omega) only [go_sem, go_cond, zA, zB, zC, zD, zE, zF, zG, zH, ↓reduceIte, zI, reduceCtorEq, zJ, zK, hnj, hg2, hd, hap3]
        refine ⟨(i2 + 1, dn), ⟨j + 1, by dsimp only; omega, hlt2, by dsimp only; omega, hD⟩, by dsimp only; omega, ?_⟩
        first | trivial | rfl | (simp only [and_self])
      | false =>
        rw [hd] at hD
        simp only [Bool.not_false, if_true] at hD
        simp (disch := omega) only [go_sem, go_cond, zA, zB, zC, zD, zE, zF, zG, zH, ↓reduceIte, zI, reduceCtorEq, zJ, zK, hnj, hg2, hd, hap3]
        refine ⟨(i2 + 1, dn ++ [a[j]]), ⟨j + 1, by dsimp only; omega, hlt2, by simp; omega, by rw [hD, List.append_assoc]; rfl⟩, by dsimp only; omega, ?_⟩
        first | trivial | rfl | (simp only [and_self])
    · rw [List.drop_eq_nil_of_le hge2, List.filter_nil, List.append_nil] at hD
      rw [hD]
      simp (disch := omega) only [go_sem, go_cond, zA, zB, zC, zD, zE, zF, zG, zH, ↓reduceIte, zI, reduceCtorEq, zJ, zK, hnj, Ag.erss, Ag.noss]
set_option maxHeartbeats 8000000 in
theorem l10True_E (m : Ip) (hm : m.ok = true) (ht : m.tame) (as_ : List Ag) (hal : as_.length ≤ 1099511627776) (he : InE m.size (asg as_)) (x : Tm) (hx : x.atom = true) : E 93 [m.sv, .arr (as_.map Ag.d), x.sv, .bool true] [] = some (optT (x.tru m (asg as_)), []) := by
  have hnn := Tm.atom_nodes hx
  have hnq := Tm.nodes_eq x
  have hxl : x.args.length ≤ 29 := by have := Tm.length_le x.args; omega
  have ih : ∀ y ∈ x.args, LvC m as_ y := fun y hy => l10Value_E m hm ht.1 (fun t h => ht.2 t h) as_ hal he y (by have := Tm.nodes_mem hy; omega)
  have hml := ht.1
  have hvl := ht.2
  have hnv : varB x.name = false := by
    cases hv : varB x.name with
    | false => rfl
    | true =>
      have ha := hx
      unfold Tm.atom at ha
      cases hq : x.eqn with
      | true => exact absurd hv (by rw [Tm.eqn_var hq]; decide)
      | false =>
        rw [hq, if_neg (by simp), Bool.and_eq_true] at ha
        rw [var_noSym hv] at ha; cases ha.1
  have h1 := l2Var_E x.name
  rw [hnv] at h1
  obtain ⟨⟨s1, s3⟩, hT, _⟩ := Ip.ok_parts hm
  have hf := l10Find_E m.tables hml x.name x.args.length
  refine E_walk k_spec_l10Value m_spec_l10Value (of_decide_eq_true rfl) ?_
  simp (disch := omega) only [c_spec_l10Value, go_sem, go_cond, zA, zB, zC, zD, zE, zF, zG, zH, ↓reduceIte, zI, reduceCtorEq, zJ, zK, h1, m_spec_l2Var]
  refine go_loop (α := Int × (Int)) (fun a => ⟨slots 108 0 [(1, .arr (as_.map Ag.d)), (3, .bool true), (4, .ptr 0 0), (6, .ptr 1 0), (11, .int .i64 (a.2)), (12, .int .i64 (a.1))], [.box 51 [.int .i64 m.size, .arr (m.tables.map Tl.d)], .box 31 [.str x.name, .arr (x.args.map Tm.d)]]⟩) (fun a => ∃ k : Nat, a.1 = k ∧ k ≤ (x.args).length ∧ 0 ≤ (a.2) ∧ (a.2) < pw m.size k ∧ Tm.valS m (asg as_) (x.args.drop k) (a.2) = Tm.valS m (asg as_) x.args 0) (fun a => (x.args).length - (a.1).toNat) (0, 0) ⟨0, rfl, Nat.zero_le _, ⟨Int.le_refl 0, by rw [pw]; omega, by rw [List.drop_zero]⟩⟩ (by simp (disch := omega) only [go_sem, go_cond, zA, zB, zC, zD, zE, zF, zG, zH, ↓reduceIte, zI, reduceCtorEq, zJ, zK]) ?_
  rintro ⟨i, at_⟩ ⟨k, hi, hk, hR⟩
  dsimp only at hi hR
  have hni : i.toNat = k := by omega
  have hni1 : (i + 1).toNat = k + 1 := by omega
  rcases Nat.lt_or_ge k (x.args).length with hlt | hge
  · have hg := get_at Tm.d hlt
    rw [Tm.d_eq] at hg
    obtain ⟨r0, r1, r2⟩ := hR
    have hc := ih x.args[k] (List.getElem_mem hlt)
    rw [List.drop_eq_getElem_cons hlt, Tm.valS] at r2
    have hps := pw_mid s1 s3 (k := k + 1) (by omega)
    cases hv : x.args[k].val m (asg as_) with
    | none =>
      rw [hv] at r2
      unfold LvC at hc
      rw [hv] at hc
      have hrn : x.tru m (asg as_) = none := by
        unfold Tm.tru
        rw [← r2]
        cases x.eqn with
        | true => rfl
        | false =>
          simp only [Bool.false_eq_true, if_false]
          unfold readT
          split <;> first | rfl | (rename_i h; cases h)
      rw [hrn]
      simp (disch := omega) only [go_sem, go_cond, zA, zB, zC, zD, zE, zF, zG, zH, ↓reduceIte, zI, reduceCtorEq, zJ, zK, hni, hg, hc, Option.getD_none, Option.isSome_none, Option.getD_some, Option.isSome_some, m_spec_l10Value]
      try first | rfl | exact ⟨rfl, rfl⟩
    | some v =>
      rw [hv] at r2
      unfold LvC at hc
      rw [hv] at hc
      obtain ⟨v0, v1⟩ := Tm.val_in hm he _ v hv
      obtain ⟨q0, q1, q2, q3⟩ := at_next s1 r0 r1 v0 v1
      rw [pw] at hps
      simp (disch := omega) only [go_sem, go_cond, zA, zB, zC, zD, zE, zF, zG, zH, ↓reduceIte, zI, reduceCtorEq, zJ, zK, hni, hg, hc, Option.getD_none, Option.isSome_none, Option.getD_some, Option.isSome_some, m_spec_l10Value]
      refine ⟨(i + 1, at_ * m.size + v), ⟨k + 1, by dsimp only; omega, hlt, q0, (by rw [pw]; exact q1), r2⟩, by dsimp only; omega, ?_⟩
      first | trivial | rfl | exact ⟨rfl, rfl⟩
  · obtain rfl : k = x.args.length := by omega
    obtain ⟨r0, r1, r2⟩ := hR
    rw [List.drop_eq_nil_of_le hge, Tm.valS] at r2
    have hps := pw_mid s1 s3 (k := x.args.length) (by omega)
    have hdv0 : 0 ≤ at_.tdiv m.size := by rw [Int.tdiv_eq_ediv_of_nonneg r0]; exact Int.ediv_nonneg r0 (by omega)
    have hdv1 : at_.tdiv m.size ≤ at_ := by rw [Int.tdiv_eq_ediv_of_nonneg r0]; exact Int.ediv_le_self _ r0
    cases hq : x.eqn with
    | true =>
      have hrn : x.tru m (asg as_) = some (bif dec (at_.tmod m.size = at_.tdiv m.size) then 1 else 0) := by unfold Tm.tru; rw [hq, if_pos rfl, ← r2]
      rw [hrn]
      unfold Tm.eqn at hq
      cases hd : dec (at_.tmod m.size = at_.tdiv m.size) with
      | true =>
        simp (disch := omega) only [go_sem, go_cond, zA, zB, zC, zD, zE, zF, zG, zH, ↓reduceIte, zI, reduceCtorEq, zJ, zK, hni, hq, hd, Option.getD_some, Option.isSome_some]
        try first | rfl | exact ⟨rfl, rfl⟩
      | false =>
        simp (disch := omega) only [go_sem, go_cond, zA, zB, zC, zD, zE, zF, zG, zH, ↓reduceIte, zI, reduceCtorEq, zJ, zK, hni, hq, hd, Option.getD_some, Option.isSome_some]
        try first | rfl | exact ⟨rfl, rfl⟩
    | false =>
      have hrn0 : x.tru m (asg as_) = readT m.tables x.name x.args.length true (some at_) := by unfold Tm.tru; rw [hq, if_neg (by simp), ← r2]
      rw [hrn0]
      unfold Tm.eqn at hq
      have hTF := tabF_first (n := x.name) (z := x.args.length) (p := true) (tabs_pair hT)
      rcases idxP_find (fun t : Tl => dec (t.name = x.name) && dec (t.arity = (x.args.length : Int))) m.tables 0 with ⟨h2, h3⟩ | ⟨j, t, hj, h2, h3, h4⟩
      · rw [h2] at hTF
        rw [h3] at hf
        have hrn : readT m.tables x.name x.args.length true (some at_) = none := by unfold readT; rw [hTF]
        rw [hrn]
        simp (disch := omega) only [go_sem, go_cond, zA, zB, zC, zD, zE, zF, zG, zH, ↓reduceIte, zI, reduceCtorEq, zJ, zK, hni, hq, hf, m_spec_l10Find]
        try first | rfl | exact ⟨rfl, rfl⟩
      · rw [h2] at hTF
        rw [h3, Int.zero_add] at hf
        have hg := get_at Tl.d hj
        rw [h4, Tl.d_eq] at hg
        obtain ⟨jj, hjj⟩ : ∃ jj : Int, jj = (j : Int) := ⟨_, rfl⟩
        rw [← hjj] at hf
        have hnj : jj.toNat = j := by omega
        simp only at hTF
        have hbt : (false == true) = false := rfl
        have hbf : (true == true) = true := rfl
        cases hpr : t.pred with
        | false =>
          rw [hpr] at hTF
          have hrn : readT m.tables x.name x.args.length true (some at_) = none := by unfold readT; rw [hTF]; rfl
          rw [hrn]
          simp (disch := omega) only [go_sem, go_cond, zA, zB, zC, zD, zE, zF, zG, zH, ↓reduceIte, zI, reduceCtorEq, zJ, zK, hni, hq, hf, hnj, hg, hpr, hbt, m_spec_l10Find]
          try first | rfl | exact ⟨rfl, rfl⟩
        | true =>
          rw [hpr] at hTF
          have hTF : tabF m.tables x.name x.args.length true = some t := hTF
          have hrn : readT m.tables x.name x.args.length true (some at_) = some (t.vals.getD at_.toNat 0) := by unfold readT; rw [hTF]
          obtain ⟨g1, g2, _, _⟩ := read_in hm hTF r0 r1
          have hgv := get_at (fun n => [D.int n]) g1
          have hvt := hvl t (tabF_some hTF).1
          rw [hrn, g2]
          simp (disch := omega) only [go_sem, go_cond, zA, zB, zC, zD, zE, zF, zG, zH, ↓reduceIte, zI, reduceCtorEq, zJ, zK, hni, hq, hf, hnj, hg, hgv, hpr, hbf, Option.getD_some, Option.isSome_some, m_spec_l10Find]
          try first | rfl | exact ⟨rfl, rfl⟩
theorem overE_succ {p : Int → Option Bool} {k : Nat} {a s v : Bool} (h : overE p k = some (a, s)) (hv : p k = some v) : overE p (k + 1) = some (a && v, s || v) := by rw [overE, h, hv]
abbrev optB (o : Option Bool) : SV := .tup [.bool (o.getD false), .bool o.isSome]
abbrev TrC (m : Ip) (a : List Ag) (x : Fm) : Prop := E 52 [m.sv, .arr (a.map Ag.d), x.sv] [] = some (optB (x.tr m (asg a)), [])
set_option maxHeartbeats 8000000 in
theorem l10Quantified_of (m : Ip) (hm : m.ok = true) (x p : Fm) (ho : x.op = 8 ∨ x.op = 9) (hp : x.parts = [p]) (a : List Ag) (hal : a.length ≤ 2097151) (he : InE m.size (asg a)) (ih : ∀ k : Int, 0 ≤ k → k < m.size → TrC m (withA a x.var k) p) : E 94 [m.sv, .arr (a.map Ag.d), x.sv] [] = some (optB (x.tr m (asg a)), []) := by
  obtain ⟨⟨s1, s3⟩, _, _⟩ := Ip.ok_parts hm
  have hpl1 : 0 < x.parts.length := by rw [hp]; simp
  have hpe : x.parts[0] = p := by simp [hp]
  have hgp := get_at Fm.d hpl1
  rw [Fm.d_eq, hpe] at hgp
  have hms : (m.size.toNat : Int) = m.size := by omega
  rw [Fm.tr_q ho hp]
  generalize hT : (fun k : Int => p.tr m (putE (asg a) x.var k)) = T
  have hTk : ∀ k : Int, p.tr m (putE (asg a) x.var k) = T k := fun k => by rw [← hT]
  have hxs : x.sv = .agg [.int .i64 x.op, .str x.atom.name, .arr (x.atom.args.map Tm.d), .str x.var, .arr (x.parts.map Fm.d)] := rfl
  refine E_walk k_spec_l10Quantified m_spec_l10Quantified (of_decide_eq_true rfl) ?_
  simp (disch := omega) only [c_spec_l10Quantified, go_sem, go_cond, zA, zB, zC, zD, zE, zF, zG, zH, ↓reduceIte, zI, reduceCtorEq, zJ, zK]
  refine go_loop (α := Int × Bool × Bool) (fun b => ⟨slots 48 0 [(1, .arr (a.map Ag.d)), (3, .ptr 0 0), (5, .ptr 1 0), (8, .bool b.2.1), (9, .bool b.2.2), (10, .int .i64 b.1)], [.box 51 [.int .i64 m.size, .arr (m.tables.map Tl.d)], .box 34 [.int .i64 x.op, .str x.atom.name, .arr (x.atom.args.map Tm.d), .str x.var, .arr (x.parts.map Fm.d)]]⟩) (fun b => ∃ k : Nat, b.1 = k ∧ k ≤ m.size.toNat ∧ overE T k = some (b.2.1, b.2.2)) (fun b => m.size.toNat - b.1.toNat) (0, true, false) ⟨0, rfl, Nat.zero_le _, rfl⟩ (by simp (disch := omega) only [go_sem, go_cond, zA, zB, zC, zD, zE, zF, zG, zH, ↓reduceIte, zI, reduceCtorEq, zJ, zK]) ?_
  rintro ⟨i, al, so⟩ ⟨k, hi, hk, hR⟩
  dsimp only at hi hR
  rcases Int.lt_or_le i m.size with hlt | hge
  · have hwi := l10With_E a (by omega) x.var i
    have hc := ih i (by omega) hlt
    unfold TrC at hc
    rw [asg_with, hTk] at hc
    rw [hi] at hc
    cases hv : T k with
    | none =>
      rw [hv] at hc
      rw [← hi] at hc
      have hno : overE T m.size.toNat = none := by
        cases h : overE T m.size.toNat with
        | none => rfl
        | some q =>
          have := overE_some.1 (by rw [h]; rfl : (overE T m.size.toNat).isSome = true) k (by omega)
          rw [hv] at this; cases this
      rw [hno]
      simp (disch := omega) only [go_sem, go_cond, zA, zB, zC, zD, zE, zF, zG, zH, ↓reduceIte, zI, reduceCtorEq, zJ, zK, hgp, hwi, hc, m_spec_l10With, m_spec_l10Truth, Option.getD_none, Option.isSome_none, Option.getD_some, Option.isSome_some]
      try first | rfl | exact ⟨rfl, rfl⟩
    | some v =>
      rw [hv] at hc
      rw [← hi] at hc
      have hRs := overE_succ hR hv
      cases al <;> cases so
      all_goals
        simp (disch := omega) only [go_sem, go_cond, zA, zB, zC, zD, zE, zF, zG, zH, ↓reduceIte, zI, reduceCtorEq, zJ, zK, hgp, hwi, hc, m_spec_l10With, m_spec_l10Truth, Option.getD_none, Option.isSome_none, Option.getD_some, Option.isSome_some]
        refine ⟨(i + 1, _, _), ⟨k + 1, ?_, by omega, hRs⟩, ?_, ?_⟩
        · dsimp only; omega
        · dsimp only; omega
        dsimp only
        first | trivial | rfl | (cases v <;> first | trivial | rfl | exact ⟨rfl, rfl⟩)
  · obtain rfl : k = m.size.toNat := by omega
    rw [hR]
    rcases ho with ho | ho
    · have d8 : dec (x.op = 8) = true := dec_t ho
      unfold qres
      rw [d8]
      simp (disch := omega) only [go_sem, go_cond, zA, zB, zC, zD, zE, zF, zG, zH, ↓reduceIte, zI, reduceCtorEq, zJ, zK, d8, Option.getD_some, Option.isSome_some]
      try first | rfl | exact ⟨rfl, rfl⟩
    · have d8 : dec (x.op = 8) = false := dec_f (by omega)
      unfold qres
      rw [d8]
      simp (disch := omega) only [go_sem, go_cond, zA, zB, zC, zD, zE, zF, zG, zH, ↓reduceIte, zI, reduceCtorEq, zJ, zK, d8, Option.getD_some, Option.isSome_some]
      try first | rfl | exact ⟨rfl, rfl⟩
abbrev TrAll (m : Ip) (x : Fm) : Prop := ∀ a : List Ag, a.length + x.nodes ≤ 2097152 → InE m.size (asg a) → TrC m a x
set_option maxHeartbeats 16000000 in
theorem l10Truth_of (m : Ip) (hm : m.ok = true) (ht : m.tame) (x : Fm) (hx : x.forms = true) (ih : ∀ y ∈ x.parts, TrAll m y) : TrAll m x := by
  intro a hal he
  have hfo := Fm.forms_form hx
  obtain ⟨⟨s1, s3⟩, _, _⟩ := Ip.ok_parts hm
  have hxs : x.sv = .agg [.int .i64 x.op, .str x.atom.name, .arr (x.atom.args.map Tm.d), .str x.var, .arr (x.parts.map Fm.d)] := rfl
  have has : x.atom.sv = .agg [.str x.atom.name, .arr (x.atom.args.map Tm.d)] := rfl
  have hpl := Fm.length_le x.parts
  have hnq := Fm.nodes_eq x
  have hps := Fm.nodes_pos x
  unfold TrC
  rcases Fm.form_ops hfo with ho | ho | ho | ho | ho | ho | ho | ho | ho
  · have d1 : dec (x.op = 1) = true := dec_t (by omega)
    have d2 : dec (x.op = 2) = false := dec_f (by omega)
    have d3 : dec (x.op = 3) = false := dec_f (by omega)
    have d4 : dec (x.op = 4) = false := dec_f (by omega)
    have d5 : dec (x.op = 5) = false := dec_f (by omega)
    have d6 : dec (x.op = 6) = false := dec_f (by omega)
    have d7 : dec (x.op = 7) = false := dec_f (by omega)
    have d8 : dec (x.op = 8) = false := dec_f (by omega)
    have d9 : dec (x.op = 9) = false := dec_f (by omega)
    rw [Fm.tr_t ho]
    refine E_walk k_spec_l10Truth m_spec_l10Truth (of_decide_eq_true rfl) ?_
    simp (disch := omega) only [c_spec_l10Truth, go_sem, zA, zB, zC, zD, zE, zF, zG, zH, ↓reduceIte, zI, reduceCtorEq, zJ, zK, d1, d2, d3, d4, d5, d6, d7, d8, d9, Option.getD_none, Option.isSome_none, Option.getD_some, Option.isSome_some, Option.map_some, Option.map_none]
    repeat ((first | (refine go_condT ?_ ?_; (focus (simp (disch := omega) only [go_sem, zA, zB, zC, zD, zE, zF, zG, zH, ↓reduceIte, zI, reduceCtorEq, zJ, zK, d1, d2, d3, d4, d5, d6, d7, d8, d9, Option.getD_none, Option.isSome_none, Option.getD_some, Option.isSome_some, Option.map_some, Option.map_none]; done))) | (refine go_condF ?_ ?_; (focus (simp (disch := omega) only [go_sem, zA, zB, zC, zD, zE, zF, zG, zH, ↓reduceIte, zI, reduceCtorEq, zJ, zK, d1, d2, d3, d4, d5, d6, d7, d8, d9, Option.getD_none, Option.isSome_none, Option.getD_some, Option.isSome_some, Option.map_some, Option.map_none]; done)))); (try simp (disch := omega) only [go_sem, zA, zB, zC, zD, zE, zF, zG, zH, ↓reduceIte, zI, reduceCtorEq, zJ, zK, d1, d2, d3, d4, d5, d6, d7, d8, d9, Option.getD_none, Option.isSome_none, Option.getD_some, Option.isSome_some, Option.map_some, Option.map_none]))
    try first | rfl | exact ⟨rfl, rfl⟩
  · have d1 : dec (x.op = 1) = false := dec_f (by omega)
    have d2 : dec (x.op = 2) = true := dec_t (by omega)
    have d3 : dec (x.op = 3) = false := dec_f (by omega)
    have d4 : dec (x.op = 4) = false := dec_f (by omega)
    have d5 : dec (x.op = 5) = false := dec_f (by omega)
    have d6 : dec (x.op = 6) = false := dec_f (by omega)
    have d7 : dec (x.op = 7) = false := dec_f (by omega)
    have d8 : dec (x.op = 8) = false := dec_f (by omega)
    have d9 : dec (x.op = 9) = false := dec_f (by omega)
    rw [Fm.tr_f ho]
    refine E_walk k_spec_l10Truth m_spec_l10Truth (of_decide_eq_true rfl) ?_
    simp (disch := omega) only [c_spec_l10Truth, go_sem, zA, zB, zC, zD, zE, zF, zG, zH, ↓reduceIte, zI, reduceCtorEq, zJ, zK, d1, d2, d3, d4, d5, d6, d7, d8, d9, Option.getD_none, Option.isSome_none, Option.getD_some, Option.isSome_some, Option.map_some, Option.map_none]
    repeat ((first | (refine go_condT ?_ ?_; (focus (simp (disch := omega) only [go_sem, zA, zB, zC, zD, zE, zF, zG, zH, ↓reduceIte, zI, reduceCtorEq, zJ, zK, d1, d2, d3, d4, d5, d6, d7, d8, d9, Option.getD_none, Option.isSome_none, Option.getD_some, Option.isSome_some, Option.map_some, Option.map_none]; done))) | (refine go_condF ?_ ?_; (focus (simp (disch := omega) only [go_sem, zA, zB, zC, zD, zE, zF, zG, zH, ↓reduceIte, zI, reduceCtorEq, zJ, zK, d1, d2, d3, d4, d5, d6, d7, d8, d9, Option.getD_none, Option.isSome_none, Option.getD_some, Option.isSome_some, Option.map_some, Option.map_none]; done)))); (try simp (disch := omega) only [go_sem, zA, zB, zC, zD, zE, zF, zG, zH, ↓reduceIte, zI, reduceCtorEq, zJ, zK, d1, d2, d3, d4, d5, d6, d7, d8, d9, Option.getD_none, Option.isSome_none, Option.getD_some, Option.isSome_some, Option.map_some, Option.map_none]))
    try first | rfl | exact ⟨rfl, rfl⟩
  · have d1 : dec (x.op = 1) = false := dec_f (by omega)
    have d2 : dec (x.op = 2) = false := dec_f (by omega)
    have d3 : dec (x.op = 3) = true := dec_t (by omega)
    have d4 : dec (x.op = 4) = false := dec_f (by omega)
    have d5 : dec (x.op = 5) = false := dec_f (by omega)
    have d6 : dec (x.op = 6) = false := dec_f (by omega)
    have d7 : dec (x.op = 7) = false := dec_f (by omega)
    have d8 : dec (x.op = 8) = false := dec_f (by omega)
    have d9 : dec (x.op = 9) = false := dec_f (by omega)
    rw [Fm.tr_atom ho]
    have hct := l10True_E m hm ht a (by omega) he x.atom (Fm.form_atom hfo ho).2.1
    cases hv : x.atom.tru m (asg a) with
    | none =>
      rw [hv] at hct
      refine E_walk k_spec_l10Truth m_spec_l10Truth (of_decide_eq_true rfl) ?_
      simp (disch := omega) only [c_spec_l10Truth, go_sem, zA, zB, zC, zD, zE, zF, zG, zH, ↓reduceIte, zI, reduceCtorEq, zJ, zK, d1, d2, d3, d4, d5, d6, d7, d8, d9, Option.getD_none, Option.isSome_none, Option.getD_some, Option.isSome_some, Option.map_some, Option.map_none, hct, m_spec_l10Value]
      repeat ((first | (refine go_condT ?_ ?_; (focus (simp (disch := omega) only [go_sem, zA, zB, zC, zD, zE, zF, zG, zH, ↓reduceIte, zI, reduceCtorEq, zJ, zK, d1, d2, d3, d4, d5, d6, d7, d8, d9, Option.getD_none, Option.isSome_none, Option.getD_some, Option.isSome_some, Option.map_some, Option.map_none, hct, m_spec_l10Value]; done))) | (refine go_condF ?_ ?_; (focus (simp (disch := omega) only [go_sem, zA, zB, zC, zD, zE, zF, zG, zH, ↓reduceIte, zI, reduceCtorEq, zJ, zK, d1, d2, d3, d4, d5, d6, d7, d8, d9, Option.getD_none, Option.isSome_none, Option.getD_some, Option.isSome_some, Option.map_some, Option.map_none, hct, m_spec_l10Value]; done)))); (try simp (disch := omega) only [go_sem, zA, zB, zC, zD, zE, zF, zG, zH, ↓reduceIte, zI, reduceCtorEq, zJ, zK, d1, d2, d3, d4, d5, d6, d7, d8, d9, Option.getD_none, Option.isSome_none, Option.getD_some, Option.isSome_some, Option.map_some, Option.map_none, hct, m_spec_l10Value]))
      try first | rfl | exact ⟨rfl, rfl⟩
    | some n =>
      rw [hv] at hct
      refine E_walk k_spec_l10Truth m_spec_l10Truth (of_decide_eq_true rfl) ?_
      simp (disch := omega) only [c_spec_l10Truth, go_sem, zA, zB, zC, zD, zE, zF, zG, zH, ↓reduceIte, zI, reduceCtorEq, zJ, zK, d1, d2, d3, d4, d5, d6, d7, d8, d9, Option.getD_none, Option.isSome_none, Option.getD_some, Option.isSome_some, Option.map_some, Option.map_none, hct, m_spec_l10Value]
      repeat ((first | (refine go_condT ?_ ?_; (focus (simp (disch := omega) only [go_sem, zA, zB, zC, zD, zE, zF, zG, zH, ↓reduceIte, zI, reduceCtorEq, zJ, zK, d1, d2, d3, d4, d5, d6, d7, d8, d9, Option.getD_none, Option.isSome_none, Option.getD_some, Option.isSome_some, Option.map_some, Option.map_none, hct, m_spec_l10Value]; done))) | (refine go_condF ?_ ?_; (focus (simp (disch := omega) only [go_sem, zA, zB, zC, zD, zE, zF, zG, zH, ↓reduceIte, zI, reduceCtorEq, zJ, zK, d1, d2, d3, d4, d5, d6, d7, d8, d9, Option.getD_none, Option.isSome_none, Option.getD_some, Option.isSome_some, Option.map_some, Option.map_none, hct, m_spec_l10Value]; done)))); (try simp (disch := omega) only [go_sem, zA, zB, zC, zD, zE, zF, zG, zH, ↓reduceIte, zI, reduceCtorEq, zJ, zK, d1, d2, d3, d4, d5, d6, d7, d8, d9, Option.getD_none, Option.isSome_none, Option.getD_some, Option.isSome_some, Option.map_some, Option.map_none, hct, m_spec_l10Value]))
      try first | rfl | exact ⟨rfl, rfl⟩
  · have d1 : dec (x.op = 1) = false := dec_f (by omega)
    have d2 : dec (x.op = 2) = false := dec_f (by omega)
    have d3 : dec (x.op = 3) = false := dec_f (by omega)
    have d4 : dec (x.op = 4) = true := dec_t (by omega)
    have d5 : dec (x.op = 5) = false := dec_f (by omega)
    have d6 : dec (x.op = 6) = false := dec_f (by omega)
    have d7 : dec (x.op = 7) = false := dec_f (by omega)
    have d8 : dec (x.op = 8) = false := dec_f (by omega)
    have d9 : dec (x.op = 9) = false := dec_f (by omega)
    obtain ⟨p, hp⟩ := Fm.form_not hfo ho
    have hp : x.parts = [p] := by rw [hp]; rfl
    have hpl1 : 0 < x.parts.length := by rw [hp]; simp
    have hpe : x.parts[0] = p := by simp [hp]
    have hgp := get_at Fm.d hpl1
    rw [Fm.d_eq, hpe] at hgp
    have hpn := Fm.nodes_mem (y := p) (xs := x.parts) (by rw [hp]; simp)
    have hc := ih p (by rw [hp]; simp) a (by omega) he
    unfold TrC at hc
    rw [Fm.tr_not ho hp]
    cases hv : p.tr m (asg a) with
    | none =>
      rw [hv] at hc
      refine E_walk k_spec_l10Truth m_spec_l10Truth (of_decide_eq_true rfl) ?_
      simp (disch := omega) only [c_spec_l10Truth, go_sem, zA, zB, zC, zD, zE, zF, zG, zH, ↓reduceIte, zI, reduceCtorEq, zJ, zK, d1, d2, d3, d4, d5, d6, d7, d8, d9, Option.getD_none, Option.isSome_none, Option.getD_some, Option.isSome_some, Option.map_some, Option.map_none, hgp, hc, m_spec_l10Truth]
      repeat ((first | (refine go_condT ?_ ?_; (focus (simp (disch := omega) only [go_sem, zA, zB, zC, zD, zE, zF, zG, zH, ↓reduceIte, zI, reduceCtorEq, zJ, zK, d1, d2, d3, d4, d5, d6, d7, d8, d9, Option.getD_none, Option.isSome_none, Option.getD_some, Option.isSome_some, Option.map_some, Option.map_none, hgp, hc, m_spec_l10Truth]; done))) | (refine go_condF ?_ ?_; (focus (simp (disch := omega) only [go_sem, zA, zB, zC, zD, zE, zF, zG, zH, ↓reduceIte, zI, reduceCtorEq, zJ, zK, d1, d2, d3, d4, d5, d6, d7, d8, d9, Option.getD_none, Option.isSome_none, Option.getD_some, Option.isSome_some, Option.map_some, Option.map_none, hgp, hc, m_spec_l10Truth]; done)))); (try simp (disch := omega) only [go_sem, zA, zB, zC, zD, zE, zF, zG, zH, ↓reduceIte, zI, reduceCtorEq, zJ, zK, d1, d2, d3, d4, d5, d6, d7, d8, d9, Option.getD_none, Option.isSome_none, Option.getD_some, Option.isSome_some, Option.map_some, Option.map_none, hgp, hc, m_spec_l10Truth]))
      try first | rfl | exact ⟨rfl, rfl⟩
    | some n =>
      rw [hv] at hc
      refine E_walk k_spec_l10Truth m_spec_l10Truth (of_decide_eq_true rfl) ?_
      simp (disch := omega) only [c_spec_l10Truth, go_sem, zA, zB, zC, zD, zE, zF, zG, zH, ↓reduceIte, zI, reduceCtorEq, zJ, zK, d1, d2, d3, d4, d5, d6, d7, d8, d9, Option.getD_none, Option.isSome_none, Option.getD_some, Option.isSome_some, Option.map_some, Option.map_none, hgp, hc, m_spec_l10Truth]
      repeat ((first | (refine go_condT ?_ ?_; (focus (simp (disch := omega) only [go_sem, zA, zB, zC, zD, zE, zF, zG, zH, ↓reduceIte, zI, reduceCtorEq, zJ, zK, d1, d2, d3, d4, d5, d6, d7, d8, d9, Option.getD_none, Option.isSome_none, Option.getD_some, Option.isSome_some, Option.map_some, Option.map_none, hgp, hc, m_spec_l10Truth]; done))) | (refine go_condF ?_ ?_; (focus (simp (disch := omega) only [go_sem, zA, zB, zC, zD, zE, zF, zG, zH, ↓reduceIte, zI, reduceCtorEq, zJ, zK, d1, d2, d3, d4, d5, d6, d7, d8, d9, Option.getD_none, Option.isSome_none, Option.getD_some, Option.isSome_some, Option.map_some, Option.map_none, hgp, hc, m_spec_l10Truth]; done)))); (try simp (disch := omega) only [go_sem, zA, zB, zC, zD, zE, zF, zG, zH, ↓reduceIte, zI, reduceCtorEq, zJ, zK, d1, d2, d3, d4, d5, d6, d7, d8, d9, Option.getD_none, Option.isSome_none, Option.getD_some, Option.isSome_some, Option.map_some, Option.map_none, hgp, hc, m_spec_l10Truth]))
      try first | rfl | exact ⟨rfl, rfl⟩
  · have d1 : dec (x.op = 1) = false := dec_f (by omega)
    have d2 : dec (x.op = 2) = false := dec_f (by omega)
    have d3 : dec (x.op = 3) = false := dec_f (by omega)
    have d4 : dec (x.op = 4) = false := dec_f (by omega)
    have d5 : dec (x.op = 5) = true := dec_t (by omega)
    have d6 : dec (x.op = 6) = false := dec_f (by omega)
    have d7 : dec (x.op = 7) = false := dec_f (by omega)
    have d8 : dec (x.op = 8) = false := dec_f (by omega)
    have d9 : dec (x.op = 9) = false := dec_f (by omega)
    obtain ⟨p, q, hp⟩ := Fm.form_two hfo (by omega)
    have hp : x.parts = [p, q] := by rw [hp]; rfl
    have hpl2 : 1 < x.parts.length := by rw [hp]; simp
    have hpl1 : 0 < x.parts.length := by omega
    have hpe : x.parts[0] = p := by simp [hp]
    have hqe : x.parts[1] = q := by simp [hp]
    have hgp := get_at Fm.d hpl1
    have hgq := get_at Fm.d hpl2
    rw [Fm.d_eq, hpe] at hgp
    rw [Fm.d_eq, hqe] at hgq
    have hpn := Fm.nodes_mem (y := p) (xs := x.parts) (by rw [hp]; simp)
    have hqn := Fm.nodes_mem (y := q) (xs := x.parts) (by rw [hp]; simp)
    have hc1 := ih p (by rw [hp]; simp) a (by omega) he
    have hc2 := ih q (by rw [hp]; simp) a (by omega) he
    unfold TrC at hc1 hc2
    rw [Fm.tr_two (by omega) hp]
    cases hv1 : p.tr m (asg a) with
    | none =>
      rw [hv1] at hc1
      refine E_walk k_spec_l10Truth m_spec_l10Truth (of_decide_eq_true rfl) ?_
      simp (disch := omega) only [c_spec_l10Truth, go_sem, zA, zB, zC, zD, zE, zF, zG, zH, ↓reduceIte, zI, reduceCtorEq, zJ, zK, d1, d2, d3, d4, d5, d6, d7, d8, d9, Option.getD_none, Option.isSome_none, Option.getD_some, Option.isSome_some, Option.map_some, Option.map_none, hgp, hgq, hc1, hc2, m_spec_l10Truth]
      repeat ((first | (refine go_condT ?_ ?_; (focus (simp (disch := omega) only [go_sem, zA, zB, zC, zD, zE, zF, zG, zH, ↓reduceIte, zI, reduceCtorEq, zJ, zK, d1, d2, d3, d4, d5, d6, d7, d8, d9, Option.getD_none, Option.isSome_none, Option.getD_some, Option.isSome_some, Option.map_some, Option.map_none, hgp, hgq, hc1, hc2, m_spec_l10Truth]; done))) | (refine go_condF ?_ ?_; (focus (simp (disch := omega) only [go_sem, zA, zB, zC, zD, zE, zF, zG, zH, ↓reduceIte, zI, reduceCtorEq, zJ, zK, d1, d2, d3, d4, d5, d6, d7, d8, d9, Option.getD_none, Option.isSome_none, Option.getD_some, Option.isSome_some, Option.map_some, Option.map_none, hgp, hgq, hc1, hc2, m_spec_l10Truth]; done)))); (try simp (disch := omega) only [go_sem, zA, zB, zC, zD, zE, zF, zG, zH, ↓reduceIte, zI, reduceCtorEq, zJ, zK, d1, d2, d3, d4, d5, d6, d7, d8, d9, Option.getD_none, Option.isSome_none, Option.getD_some, Option.isSome_some, Option.map_some, Option.map_none, hgp, hgq, hc1, hc2, m_spec_l10Truth]))
      try first | rfl | exact ⟨rfl, rfl⟩
    | some u =>
      rw [hv1] at hc1
      cases hv2 : q.tr m (asg a) with
      | none =>
        rw [hv2] at hc2
        refine E_walk k_spec_l10Truth m_spec_l10Truth (of_decide_eq_true rfl) ?_
        simp (disch := omega) only [c_spec_l10Truth, go_sem, zA, zB, zC, zD, zE, zF, zG, zH, ↓reduceIte, zI, reduceCtorEq, zJ, zK, d1, d2, d3, d4, d5, d6, d7, d8, d9, Option.getD_none, Option.isSome_none, Option.getD_some, Option.isSome_some, Option.map_some, Option.map_none, hgp, hgq, hc1, hc2, m_spec_l10Truth]
        repeat ((first | (refine go_condT ?_ ?_; (focus (simp (disch := omega) only [go_sem, zA, zB, zC, zD, zE, zF, zG, zH, ↓reduceIte, zI, reduceCtorEq, zJ, zK, d1, d2, d3, d4, d5, d6, d7, d8, d9, Option.getD_none, Option.isSome_none, Option.getD_some, Option.isSome_some, Option.map_some, Option.map_none, hgp, hgq, hc1, hc2, m_spec_l10Truth]; done))) | (refine go_condF ?_ ?_; (focus (simp (disch := omega) only [go_sem, zA, zB, zC, zD, zE, zF, zG, zH, ↓reduceIte, zI, reduceCtorEq, zJ, zK, d1, d2, d3, d4, d5, d6, d7, d8, d9, Option.getD_none, Option.isSome_none, Option.getD_some, Option.isSome_some, Option.map_some, Option.map_none, hgp, hgq, hc1, hc2, m_spec_l10Truth]; done)))); (try simp (disch := omega) only [go_sem, zA, zB, zC, zD, zE, zF, zG, zH, ↓reduceIte, zI, reduceCtorEq, zJ, zK, d1, d2, d3, d4, d5, d6, d7, d8, d9, Option.getD_none, Option.isSome_none, Option.getD_some, Option.isSome_some, Option.map_some, Option.map_none, hgp, hgq, hc1, hc2, m_spec_l10Truth]))
        try first | rfl | exact ⟨rfl, rfl⟩
      | some v =>
        rw [hv2] at hc2
        unfold two conn
        rw [d5, d6]
        cases u
        · refine E_walk k_spec_l10Truth m_spec_l10Truth (of_decide_eq_true rfl) ?_
          simp (disch := omega) only [c_spec_l10Truth, go_sem, zA, zB, zC, zD, zE, zF, zG, zH, ↓reduceIte, zI, reduceCtorEq, zJ, zK, d1, d2, d3, d4, d5, d6, d7, d8, d9, Option.getD_none, Option.isSome_none, Option.getD_some, Option.isSome_some, Option.map_some, Option.map_none, hgp, hgq, hc1, hc2, m_spec_l10Truth]
          repeat ((first | (refine go_condT ?_ ?_; (focus (simp (disch := omega) only [go_sem, zA, zB, zC, zD, zE, zF, zG, zH, ↓reduceIte, zI, reduceCtorEq, zJ, zK, d1, d2, d3, d4, d5, d6, d7, d8, d9, Option.getD_none, Option.isSome_none, Option.getD_some, Option.isSome_some, Option.map_some, Option.map_none, hgp, hgq, hc1, hc2, m_spec_l10Truth]; done))) | (refine go_condF ?_ ?_; (focus (simp (disch := omega) only [go_sem, zA, zB, zC, zD, zE, zF, zG, zH, ↓reduceIte, zI, reduceCtorEq, zJ, zK, d1, d2, d3, d4, d5, d6, d7, d8, d9, Option.getD_none, Option.isSome_none, Option.getD_some, Option.isSome_some, Option.map_some, Option.map_none, hgp, hgq, hc1, hc2, m_spec_l10Truth]; done)))); (try simp (disch := omega) only [go_sem, zA, zB, zC, zD, zE, zF, zG, zH, ↓reduceIte, zI, reduceCtorEq, zJ, zK, d1, d2, d3, d4, d5, d6, d7, d8, d9, Option.getD_none, Option.isSome_none, Option.getD_some, Option.isSome_some, Option.map_some, Option.map_none, hgp, hgq, hc1, hc2, m_spec_l10Truth]))
          try first | rfl | exact ⟨rfl, rfl⟩
        · refine E_walk k_spec_l10Truth m_spec_l10Truth (of_decide_eq_true rfl) ?_
          simp (disch := omega) only [c_spec_l10Truth, go_sem, zA, zB, zC, zD, zE, zF, zG, zH, ↓reduceIte, zI, reduceCtorEq, zJ, zK, d1, d2, d3, d4, d5, d6, d7, d8, d9, Option.getD_none, Option.isSome_none, Option.getD_some, Option.isSome_some, Option.map_some, Option.map_none, hgp, hgq, hc1, hc2, m_spec_l10Truth]
          repeat ((first | (refine go_condT ?_ ?_; (focus (simp (disch := omega) only [go_sem, zA, zB, zC, zD, zE, zF, zG, zH, ↓reduceIte, zI, reduceCtorEq, zJ, zK, d1, d2, d3, d4, d5, d6, d7, d8, d9, Option.getD_none, Option.isSome_none, Option.getD_some, Option.isSome_some, Option.map_some, Option.map_none, hgp, hgq, hc1, hc2, m_spec_l10Truth]; done))) | (refine go_condF ?_ ?_; (focus (simp (disch := omega) only [go_sem, zA, zB, zC, zD, zE, zF, zG, zH, ↓reduceIte, zI, reduceCtorEq, zJ, zK, d1, d2, d3, d4, d5, d6, d7, d8, d9, Option.getD_none, Option.isSome_none, Option.getD_some, Option.isSome_some, Option.map_some, Option.map_none, hgp, hgq, hc1, hc2, m_spec_l10Truth]; done)))); (try simp (disch := omega) only [go_sem, zA, zB, zC, zD, zE, zF, zG, zH, ↓reduceIte, zI, reduceCtorEq, zJ, zK, d1, d2, d3, d4, d5, d6, d7, d8, d9, Option.getD_none, Option.isSome_none, Option.getD_some, Option.isSome_some, Option.map_some, Option.map_none, hgp, hgq, hc1, hc2, m_spec_l10Truth]))
          try first | rfl | exact ⟨rfl, rfl⟩
  · have d1 : dec (x.op = 1) = false := dec_f (by omega)
    have d2 : dec (x.op = 2) = false := dec_f (by omega)
    have d3 : dec (x.op = 3) = false := dec_f (by omega)
    have d4 : dec (x.op = 4) = false := dec_f (by omega)
    have d5 : dec (x.op = 5) = false := dec_f (by omega)
    have d6 : dec (x.op = 6) = true := dec_t (by omega)
    have d7 : dec (x.op = 7) = false := dec_f (by omega)
    have d8 : dec (x.op = 8) = false := dec_f (by omega)
    have d9 : dec (x.op = 9) = false := dec_f (by omega)
    obtain ⟨p, q, hp⟩ := Fm.form_two hfo (by omega)
    have hp : x.parts = [p, q] := by rw [hp]; rfl
    have hpl2 : 1 < x.parts.length := by rw [hp]; simp
    have hpl1 : 0 < x.parts.length := by omega
    have hpe : x.parts[0] = p := by simp [hp]
    have hqe : x.parts[1] = q := by simp [hp]
    have hgp := get_at Fm.d hpl1
    have hgq := get_at Fm.d hpl2
    rw [Fm.d_eq, hpe] at hgp
    rw [Fm.d_eq, hqe] at hgq
    have hpn := Fm.nodes_mem (y := p) (xs := x.parts) (by rw [hp]; simp)
    have hqn := Fm.nodes_mem (y := q) (xs := x.parts) (by rw [hp]; simp)
    have hc1 := ih p (by rw [hp]; simp) a (by omega) he
    have hc2 := ih q (by rw [hp]; simp) a (by omega) he
    unfold TrC at hc1 hc2
    rw [Fm.tr_two (by omega) hp]
    cases hv1 : p.tr m (asg a) with
    | none =>
      rw [hv1] at hc1
      refine E_walk k_spec_l10Truth m_spec_l10Truth (of_decide_eq_true rfl) ?_
      simp (disch := omega) only [c_spec_l10Truth, go_sem, zA, zB, zC, zD, zE, zF, zG, zH, ↓reduceIte, zI, reduceCtorEq, zJ, zK, d1, d2, d3, d4, d5, d6, d7, d8, d9, Option.getD_none, Option.isSome_none, Option.getD_some, Option.isSome_some, Option.map_some, Option.map_none, hgp, hgq, hc1, hc2, m_spec_l10Truth]
      repeat ((first | (refine go_condT ?_ ?_; (focus (simp (disch := omega) only [go_sem, zA, zB, zC, zD, zE, zF, zG, zH, ↓reduceIte, zI, reduceCtorEq, zJ, zK, d1, d2, d3, d4, d5, d6, d7, d8, d9, Option.getD_none, Option.isSome_none, Option.getD_some, Option.isSome_some, Option.map_some, Option.map_none, hgp, hgq, hc1, hc2, m_spec_l10Truth]; done))) | (refine go_condF ?_ ?_; (focus (simp (disch := omega) only [go_sem, zA, zB, zC, zD, zE, zF, zG, zH, ↓reduceIte, zI, reduceCtorEq, zJ, zK, d1, d2, d3, d4, d5, d6, d7, d8, d9, Option.getD_none, Option.isSome_none, Option.getD_some, Option.isSome_some, Option.map_some, Option.map_none, hgp, hgq, hc1, hc2, m_spec_l10Truth]; done)))); (try simp (disch := omega) only [go_sem, zA, zB, zC, zD, zE, zF, zG, zH, ↓reduceIte, zI, reduceCtorEq, zJ, zK, d1, d2, d3, d4, d5, d6, d7, d8, d9, Option.getD_none, Option.isSome_none, Option.getD_some, Option.isSome_some, Option.map_some, Option.map_none, hgp, hgq, hc1, hc2, m_spec_l10Truth]))
      try first | rfl | exact ⟨rfl, rfl⟩
    | some u =>
      rw [hv1] at hc1
      cases hv2 : q.tr m (asg a) with
      | none =>
        rw [hv2] at hc2
        refine E_walk k_spec_l10Truth m_spec_l10Truth (of_decide_eq_true rfl) ?_
        simp (disch := omega) only [c_spec_l10Truth, go_sem, zA, zB, zC, zD, zE, zF, zG, zH, ↓reduceIte, zI, reduceCtorEq, zJ, zK, d1, d2, d3, d4, d5, d6, d7, d8, d9, Option.getD_none, Option.isSome_none, Option.getD_some, Option.isSome_some, Option.map_some, Option.map_none, hgp, hgq, hc1, hc2, m_spec_l10Truth]
        repeat ((first | (refine go_condT ?_ ?_; (focus (simp (disch := omega) only [go_sem, zA, zB, zC, zD, zE, zF, zG, zH, ↓reduceIte, zI, reduceCtorEq, zJ, zK, d1, d2, d3, d4, d5, d6, d7, d8, d9, Option.getD_none, Option.isSome_none, Option.getD_some, Option.isSome_some, Option.map_some, Option.map_none, hgp, hgq, hc1, hc2, m_spec_l10Truth]; done))) | (refine go_condF ?_ ?_; (focus (simp (disch := omega) only [go_sem, zA, zB, zC, zD, zE, zF, zG, zH, ↓reduceIte, zI, reduceCtorEq, zJ, zK, d1, d2, d3, d4, d5, d6, d7, d8, d9, Option.getD_none, Option.isSome_none, Option.getD_some, Option.isSome_some, Option.map_some, Option.map_none, hgp, hgq, hc1, hc2, m_spec_l10Truth]; done)))); (try simp (disch := omega) only [go_sem, zA, zB, zC, zD, zE, zF, zG, zH, ↓reduceIte, zI, reduceCtorEq, zJ, zK, d1, d2, d3, d4, d5, d6, d7, d8, d9, Option.getD_none, Option.isSome_none, Option.getD_some, Option.isSome_some, Option.map_some, Option.map_none, hgp, hgq, hc1, hc2, m_spec_l10Truth]))
        try first | rfl | exact ⟨rfl, rfl⟩
      | some v =>
        rw [hv2] at hc2
        unfold two conn
        rw [d5, d6]
        cases u
        · refine E_walk k_spec_l10Truth m_spec_l10Truth (of_decide_eq_true rfl) ?_
          simp (disch := omega) only [c_spec_l10Truth, go_sem, zA, zB, zC, zD, zE, zF, zG, zH, ↓reduceIte, zI, reduceCtorEq, zJ, zK, d1, d2, d3, d4, d5, d6, d7, d8, d9, Option.getD_none, Option.isSome_none, Option.getD_some, Option.isSome_some, Option.map_some, Option.map_none, hgp, hgq, hc1, hc2, m_spec_l10Truth]
          repeat ((first | (refine go_condT ?_ ?_; (focus (simp (disch := omega) only [go_sem, zA, zB, zC, zD, zE, zF, zG, zH, ↓reduceIte, zI, reduceCtorEq, zJ, zK, d1, d2, d3, d4, d5, d6, d7, d8, d9, Option.getD_none, Option.isSome_none, Option.getD_some, Option.isSome_some, Option.map_some, Option.map_none, hgp, hgq, hc1, hc2, m_spec_l10Truth]; done))) | (refine go_condF ?_ ?_; (focus (simp (disch := omega) only [go_sem, zA, zB, zC, zD, zE, zF, zG, zH, ↓reduceIte, zI, reduceCtorEq, zJ, zK, d1, d2, d3, d4, d5, d6, d7, d8, d9, Option.getD_none, Option.isSome_none, Option.getD_some, Option.isSome_some, Option.map_some, Option.map_none, hgp, hgq, hc1, hc2, m_spec_l10Truth]; done)))); (try simp (disch := omega) only [go_sem, zA, zB, zC, zD, zE, zF, zG, zH, ↓reduceIte, zI, reduceCtorEq, zJ, zK, d1, d2, d3, d4, d5, d6, d7, d8, d9, Option.getD_none, Option.isSome_none, Option.getD_some, Option.isSome_some, Option.map_some, Option.map_none, hgp, hgq, hc1, hc2, m_spec_l10Truth]))
          try first | rfl | exact ⟨rfl, rfl⟩
        · refine E_walk k_spec_l10Truth m_spec_l10Truth (of_decide_eq_true rfl) ?_
          simp (disch := omega) only [c_spec_l10Truth, go_sem, zA, zB, zC, zD, zE, zF, zG, zH, ↓reduceIte, zI, reduceCtorEq, zJ, zK, d1, d2, d3, d4, d5, d6, d7, d8, d9, Option.getD_none, Option.isSome_none, Option.getD_some, Option.isSome_some, Option.map_some, Option.map_none, hgp, hgq, hc1, hc2, m_spec_l10Truth]
          repeat ((first | (refine go_condT ?_ ?_; (focus (simp (disch := omega) only [go_sem, zA, zB, zC, zD, zE, zF, zG, zH, ↓reduceIte, zI, reduceCtorEq, zJ, zK, d1, d2, d3, d4, d5, d6, d7, d8, d9, Option.getD_none, Option.isSome_none, Option.getD_some, Option.isSome_some, Option.map_some, Option.map_none, hgp, hgq, hc1, hc2, m_spec_l10Truth]; done))) | (refine go_condF ?_ ?_; (focus (simp (disch := omega) only [go_sem, zA, zB, zC, zD, zE, zF, zG, zH, ↓reduceIte, zI, reduceCtorEq, zJ, zK, d1, d2, d3, d4, d5, d6, d7, d8, d9, Option.getD_none, Option.isSome_none, Option.getD_some, Option.isSome_some, Option.map_some, Option.map_none, hgp, hgq, hc1, hc2, m_spec_l10Truth]; done)))); (try simp (disch := omega) only [go_sem, zA, zB, zC, zD, zE, zF, zG, zH, ↓reduceIte, zI, reduceCtorEq, zJ, zK, d1, d2, d3, d4, d5, d6, d7, d8, d9, Option.getD_none, Option.isSome_none, Option.getD_some, Option.isSome_some, Option.map_some, Option.map_none, hgp, hgq, hc1, hc2, m_spec_l10Truth]))
          try first | rfl | exact ⟨rfl, rfl⟩
  · have d1 : dec (x.op = 1) = false := dec_f (by omega)
    have d2 : dec (x.op = 2) = false := dec_f (by omega)
    have d3 : dec (x.op = 3) = false := dec_f (by omega)
    have d4 : dec (x.op = 4) = false := dec_f (by omega)
    have d5 : dec (x.op = 5) = false := dec_f (by omega)
    have d6 : dec (x.op = 6) = false := dec_f (by omega)
    have d7 : dec (x.op = 7) = true := dec_t (by omega)
    have d8 : dec (x.op = 8) = false := dec_f (by omega)
    have d9 : dec (x.op = 9) = false := dec_f (by omega)
    obtain ⟨p, q, hp⟩ := Fm.form_two hfo (by omega)
    have hp : x.parts = [p, q] := by rw [hp]; rfl
    have hpl2 : 1 < x.parts.length := by rw [hp]; simp
    have hpl1 : 0 < x.parts.length := by omega
    have hpe : x.parts[0] = p := by simp [hp]
    have hqe : x.parts[1] = q := by simp [hp]
    have hgp := get_at Fm.d hpl1
    have hgq := get_at Fm.d hpl2
    rw [Fm.d_eq, hpe] at hgp
    rw [Fm.d_eq, hqe] at hgq
    have hpn := Fm.nodes_mem (y := p) (xs := x.parts) (by rw [hp]; simp)
    have hqn := Fm.nodes_mem (y := q) (xs := x.parts) (by rw [hp]; simp)
    have hc1 := ih p (by rw [hp]; simp) a (by omega) he
    have hc2 := ih q (by rw [hp]; simp) a (by omega) he
    unfold TrC at hc1 hc2
    rw [Fm.tr_two (by omega) hp]
    cases hv1 : p.tr m (asg a) with
    | none =>
      rw [hv1] at hc1
      refine E_walk k_spec_l10Truth m_spec_l10Truth (of_decide_eq_true rfl) ?_
      simp (disch := omega) only [c_spec_l10Truth, go_sem, zA, zB, zC, zD, zE, zF, zG, zH, ↓reduceIte, zI, reduceCtorEq, zJ, zK, d1, d2, d3, d4, d5, d6, d7, d8, d9, Option.getD_none, Option.isSome_none, Option.getD_some, Option.isSome_some, Option.map_some, Option.map_none, hgp, hgq, hc1, hc2, m_spec_l10Truth]
      repeat ((first | (refine go_condT ?_ ?_; (focus (simp (disch := omega) only [go_sem, zA, zB, zC, zD, zE, zF, zG, zH, ↓reduceIte, zI, reduceCtorEq, zJ, zK, d1, d2, d3, d4, d5, d6, d7, d8, d9, Option.getD_none, Option.isSome_none, Option.getD_some, Option.isSome_some, Option.map_some, Option.map_none, hgp, hgq, hc1, hc2, m_spec_l10Truth]; done))) | (refine go_condF ?_ ?_; (focus (simp (disch := omega) only [go_sem, zA, zB, zC, zD, zE, zF, zG, zH, ↓reduceIte, zI, reduceCtorEq, zJ, zK, d1, d2, d3, d4, d5, d6, d7, d8, d9, Option.getD_none, Option.isSome_none, Option.getD_some, Option.isSome_some, Option.map_some, Option.map_none, hgp, hgq, hc1, hc2, m_spec_l10Truth]; done)))); (try simp (disch := omega) only [go_sem, zA, zB, zC, zD, zE, zF, zG, zH, ↓reduceIte, zI, reduceCtorEq, zJ, zK, d1, d2, d3, d4, d5, d6, d7, d8, d9, Option.getD_none, Option.isSome_none, Option.getD_some, Option.isSome_some, Option.map_some, Option.map_none, hgp, hgq, hc1, hc2, m_spec_l10Truth]))
      try first | rfl | exact ⟨rfl, rfl⟩
    | some u =>
      rw [hv1] at hc1
      cases hv2 : q.tr m (asg a) with
      | none =>
        rw [hv2] at hc2
        refine E_walk k_spec_l10Truth m_spec_l10Truth (of_decide_eq_true rfl) ?_
        simp (disch := omega) only [c_spec_l10Truth, go_sem, zA, zB, zC, zD, zE, zF, zG, zH, ↓reduceIte, zI, reduceCtorEq, zJ, zK, d1, d2, d3, d4, d5, d6, d7, d8, d9, Option.getD_none, Option.isSome_none, Option.getD_some, Option.isSome_some, Option.map_some, Option.map_none, hgp, hgq, hc1, hc2, m_spec_l10Truth]
        repeat ((first | (refine go_condT ?_ ?_; (focus (simp (disch := omega) only [go_sem, zA, zB, zC, zD, zE, zF, zG, zH, ↓reduceIte, zI, reduceCtorEq, zJ, zK, d1, d2, d3, d4, d5, d6, d7, d8, d9, Option.getD_none, Option.isSome_none, Option.getD_some, Option.isSome_some, Option.map_some, Option.map_none, hgp, hgq, hc1, hc2, m_spec_l10Truth]; done))) | (refine go_condF ?_ ?_; (focus (simp (disch := omega) only [go_sem, zA, zB, zC, zD, zE, zF, zG, zH, ↓reduceIte, zI, reduceCtorEq, zJ, zK, d1, d2, d3, d4, d5, d6, d7, d8, d9, Option.getD_none, Option.isSome_none, Option.getD_some, Option.isSome_some, Option.map_some, Option.map_none, hgp, hgq, hc1, hc2, m_spec_l10Truth]; done)))); (try simp (disch := omega) only [go_sem, zA, zB, zC, zD, zE, zF, zG, zH, ↓reduceIte, zI, reduceCtorEq, zJ, zK, d1, d2, d3, d4, d5, d6, d7, d8, d9, Option.getD_none, Option.isSome_none, Option.getD_some, Option.isSome_some, Option.map_some, Option.map_none, hgp, hgq, hc1, hc2, m_spec_l10Truth]))
        try first | rfl | exact ⟨rfl, rfl⟩
      | some v =>
        rw [hv2] at hc2
        unfold two conn
        rw [d5, d6]
        cases u
        · refine E_walk k_spec_l10Truth m_spec_l10Truth (of_decide_eq_true rfl) ?_
          simp (disch := omega) only [c_spec_l10Truth, go_sem, zA, zB, zC, zD, zE, zF, zG, zH, ↓reduceIte, zI, reduceCtorEq, zJ, zK, d1, d2, d3, d4, d5, d6, d7, d8, d9, Option.getD_none, Option.isSome_none, Option.getD_some, Option.isSome_some, Option.map_some, Option.map_none, hgp, hgq, hc1, hc2, m_spec_l10Truth]
          repeat ((first | (refine go_condT ?_ ?_; (focus (simp (disch := omega) only [go_sem, zA, zB, zC, zD, zE, zF, zG, zH, ↓reduceIte, zI, reduceCtorEq, zJ, zK, d1, d2, d3, d4, d5, d6, d7, d8, d9, Option.getD_none, Option.isSome_none, Option.getD_some, Option.isSome_some, Option.map_some, Option.map_none, hgp, hgq, hc1, hc2, m_spec_l10Truth]; done))) | (refine go_condF ?_ ?_; (focus (simp (disch := omega) only [go_sem, zA, zB, zC, zD, zE, zF, zG, zH, ↓reduceIte, zI, reduceCtorEq, zJ, zK, d1, d2, d3, d4, d5, d6, d7, d8, d9, Option.getD_none, Option.isSome_none, Option.getD_some, Option.isSome_some, Option.map_some, Option.map_none, hgp, hgq, hc1, hc2, m_spec_l10Truth]; done)))); (try simp (disch := omega) only [go_sem, zA, zB, zC, zD, zE, zF, zG, zH, ↓reduceIte, zI, reduceCtorEq, zJ, zK, d1, d2, d3, d4, d5, d6, d7, d8, d9, Option.getD_none, Option.isSome_none, Option.getD_some, Option.isSome_some, Option.map_some, Option.map_none, hgp, hgq, hc1, hc2, m_spec_l10Truth]))
          try first | rfl | exact ⟨rfl, rfl⟩
        · refine E_walk k_spec_l10Truth m_spec_l10Truth (of_decide_eq_true rfl) ?_
          simp (disch := omega) only [c_spec_l10Truth, go_sem, zA, zB, zC, zD, zE, zF, zG, zH, ↓reduceIte, zI, reduceCtorEq, zJ, zK, d1, d2, d3, d4, d5, d6, d7, d8, d9, Option.getD_none, Option.isSome_none, Option.getD_some, Option.isSome_some, Option.map_some, Option.map_none, hgp, hgq, hc1, hc2, m_spec_l10Truth]
          repeat ((first | (refine go_condT ?_ ?_; (focus (simp (disch := omega) only [go_sem, zA, zB, zC, zD, zE, zF, zG, zH, ↓reduceIte, zI, reduceCtorEq, zJ, zK, d1, d2, d3, d4, d5, d6, d7, d8, d9, Option.getD_none, Option.isSome_none, Option.getD_some, Option.isSome_some, Option.map_some, Option.map_none, hgp, hgq, hc1, hc2, m_spec_l10Truth]; done))) | (refine go_condF ?_ ?_; (focus (simp (disch := omega) only [go_sem, zA, zB, zC, zD, zE, zF, zG, zH, ↓reduceIte, zI, reduceCtorEq, zJ, zK, d1, d2, d3, d4, d5, d6, d7, d8, d9, Option.getD_none, Option.isSome_none, Option.getD_some, Option.isSome_some, Option.map_some, Option.map_none, hgp, hgq, hc1, hc2, m_spec_l10Truth]; done)))); (try simp (disch := omega) only [go_sem, zA, zB, zC, zD, zE, zF, zG, zH, ↓reduceIte, zI, reduceCtorEq, zJ, zK, d1, d2, d3, d4, d5, d6, d7, d8, d9, Option.getD_none, Option.isSome_none, Option.getD_some, Option.isSome_some, Option.map_some, Option.map_none, hgp, hgq, hc1, hc2, m_spec_l10Truth]))
          try first | rfl | exact ⟨rfl, rfl⟩
  · have d1 : dec (x.op = 1) = false := dec_f (by omega)
    have d2 : dec (x.op = 2) = false := dec_f (by omega)
    have d3 : dec (x.op = 3) = false := dec_f (by omega)
    have d4 : dec (x.op = 4) = false := dec_f (by omega)
    have d5 : dec (x.op = 5) = false := dec_f (by omega)
    have d6 : dec (x.op = 6) = false := dec_f (by omega)
    have d7 : dec (x.op = 7) = false := dec_f (by omega)
    have d8 : dec (x.op = 8) = true := dec_t (by omega)
    have d9 : dec (x.op = 9) = false := dec_f (by omega)
    obtain ⟨p, hp⟩ := Fm.form_q hfo (by omega)
    have hp : x.parts = [p] := by rw [hp]; rfl
    have hpn := Fm.nodes_mem (y := p) (xs := x.parts) (by rw [hp]; simp)
    have hc := l10Quantified_of m hm x p (by omega) hp a (by omega) he fun k k0 k1 => ih p (by rw [hp]; simp) _ (by have := withA_len x.var k a; omega) (by rw [asg_with]; exact putE_in he k0 k1 _)
    generalize x.tr m (asg a) = r at *
    refine E_walk k_spec_l10Truth m_spec_l10Truth (of_decide_eq_true rfl) ?_
    simp (disch := omega) only [c_spec_l10Truth, go_sem, zA, zB, zC, zD, zE, zF, zG, zH, ↓reduceIte, zI, reduceCtorEq, zJ, zK, d1, d2, d3, d4, d5, d6, d7, d8, d9, Option.getD_none, Option.isSome_none, Option.getD_some, Option.isSome_some, Option.map_some, Option.map_none, hc, m_spec_l10Quantified]
    repeat ((first | (refine go_condT ?_ ?_; (focus (simp (disch := omega) only [go_sem, zA, zB, zC, zD, zE, zF, zG, zH, ↓reduceIte, zI, reduceCtorEq, zJ, zK, d1, d2, d3, d4, d5, d6, d7, d8, d9, Option.getD_none, Option.isSome_none, Option.getD_some, Option.isSome_some, Option.map_some, Option.map_none, hc, m_spec_l10Quantified]; done))) | (refine go_condF ?_ ?_; (focus (simp (disch := omega) only [go_sem, zA, zB, zC, zD, zE, zF, zG, zH, ↓reduceIte, zI, reduceCtorEq, zJ, zK, d1, d2, d3, d4, d5, d6, d7, d8, d9, Option.getD_none, Option.isSome_none, Option.getD_some, Option.isSome_some, Option.map_some, Option.map_none, hc, m_spec_l10Quantified]; done)))); (try simp (disch := omega) only [go_sem, zA, zB, zC, zD, zE, zF, zG, zH, ↓reduceIte, zI, reduceCtorEq, zJ, zK, d1, d2, d3, d4, d5, d6, d7, d8, d9, Option.getD_none, Option.isSome_none, Option.getD_some, Option.isSome_some, Option.map_some, Option.map_none, hc, m_spec_l10Quantified]))
    try first | rfl | exact ⟨rfl, rfl⟩
  · have d1 : dec (x.op = 1) = false := dec_f (by omega)
    have d2 : dec (x.op = 2) = false := dec_f (by omega)
    have d3 : dec (x.op = 3) = false := dec_f (by omega)
    have d4 : dec (x.op = 4) = false := dec_f (by omega)
    have d5 : dec (x.op = 5) = false := dec_f (by omega)
    have d6 : dec (x.op = 6) = false := dec_f (by omega)
    have d7 : dec (x.op = 7) = false := dec_f (by omega)
    have d8 : dec (x.op = 8) = false := dec_f (by omega)
    have d9 : dec (x.op = 9) = true := dec_t (by omega)
    obtain ⟨p, hp⟩ := Fm.form_q hfo (by omega)
    have hp : x.parts = [p] := by rw [hp]; rfl
    have hpn := Fm.nodes_mem (y := p) (xs := x.parts) (by rw [hp]; simp)
    have hc := l10Quantified_of m hm x p (by omega) hp a (by omega) he fun k k0 k1 => ih p (by rw [hp]; simp) _ (by have := withA_len x.var k a; omega) (by rw [asg_with]; exact putE_in he k0 k1 _)
    generalize x.tr m (asg a) = r at *
    refine E_walk k_spec_l10Truth m_spec_l10Truth (of_decide_eq_true rfl) ?_
    simp (disch := omega) only [c_spec_l10Truth, go_sem, zA, zB, zC, zD, zE, zF, zG, zH, ↓reduceIte, zI, reduceCtorEq, zJ, zK, d1, d2, d3, d4, d5, d6, d7, d8, d9, Option.getD_none, Option.isSome_none, Option.getD_some, Option.isSome_some, Option.map_some, Option.map_none, hc, m_spec_l10Quantified]
    repeat ((first | (refine go_condT ?_ ?_; (focus (simp (disch := omega) only [go_sem, zA, zB, zC, zD, zE, zF, zG, zH, ↓reduceIte, zI, reduceCtorEq, zJ, zK, d1, d2, d3, d4, d5, d6, d7, d8, d9, Option.getD_none, Option.isSome_none, Option.getD_some, Option.isSome_some, Option.map_some, Option.map_none, hc, m_spec_l10Quantified]; done))) | (refine go_condF ?_ ?_; (focus (simp (disch := omega) only [go_sem, zA, zB, zC, zD, zE, zF, zG, zH, ↓reduceIte, zI, reduceCtorEq, zJ, zK, d1, d2, d3, d4, d5, d6, d7, d8, d9, Option.getD_none, Option.isSome_none, Option.getD_some, Option.isSome_some, Option.map_some, Option.map_none, hc, m_spec_l10Quantified]; done)))); (try simp (disch := omega) only [go_sem, zA, zB, zC, zD, zE, zF, zG, zH, ↓reduceIte, zI, reduceCtorEq, zJ, zK, d1, d2, d3, d4, d5, d6, d7, d8, d9, Option.getD_none, Option.isSome_none, Option.getD_some, Option.isSome_some, Option.map_some, Option.map_none, hc, m_spec_l10Quantified]))
    try first | rfl | exact ⟨rfl, rfl⟩
theorem l10Truth_E (m : Ip) (hm : m.ok = true) (ht : m.tame) (x : Fm) (hx : x.forms = true) : TrAll m x :=
  l10Truth_of m hm ht x hx fun y hy => l10Truth_E m hm ht y (Fm.forms_part hx hy)
termination_by SizeOf.sizeOf x
decreasing_by exact Fm.lt_of_mem hy
def c_impl_EvaluateFormula : SC := (.seq (.reg [⟨some 3, none, .boxv 51 2 (.t 0)⟩, ⟨some 5, none, .boxv 34 5 (.t 2)⟩, ⟨some 6, none, .mv (.c (.bool false))⟩, ⟨some 7, none, .mv (.c (.bool false))⟩]) (.seq (.reg [⟨some 11, none, .load true 2 (.t 3)⟩, ⟨some 12, none, .mv (.t 1)⟩, ⟨some 13, none, .call 55 [(.t 11), (.t 12)]⟩, ⟨some 10, none, .mv (.t 13)⟩, ⟨some 14, none, .ext (.t 10) 0⟩, ⟨some 15, none, .ext (.t 10) 1⟩, ⟨some 8, none, .mv (.t 14)⟩, ⟨some 9, none, .mv (.t 15)⟩]) (.seq (.seq (.reg [⟨some 16, none, .load true 2 (.t 3)⟩, ⟨some 17, none, .call 56 [(.t 16)]⟩, ⟨some 18, none, .un .not (.t 17)⟩, ⟨some 19, none, .mv (.t 18)⟩, ⟨(some 20), (some (19, false)), (.mv (.t 9))⟩, ⟨(some 21), (some (19, false)), (.un .not (.t 20))⟩, ⟨some 22, none, .pick (.t 19) (.c (.bool true)) (.t 21)⟩, ⟨some 23, none, .mv (.t 22)⟩, ⟨(some 24), (some (23, false)), (.load true 5 (.t 5))⟩, ⟨(some 25), (some (23, false)), (.call 39 [(.t 24)])⟩, ⟨(some 26), (some (23, false)), (.un .not (.t 25))⟩, ⟨some 27, none, .pick (.t 23) (.c (.bool true)) (.t 26)⟩, ⟨some 28, none, .mv (.t 27)⟩, ⟨(some 29), (some (28, false)), (.load true 2 (.t 3))⟩, ⟨(some 30), (some (28, false)), (.load true 5 (.t 5))⟩, ⟨(some 31), (some (28, false)), (.mv (.t 8))⟩, ⟨(some 32), (some (28, false)), (.call 57 [(.t 29), (.t 30), (.t 31)])⟩, ⟨(some 33), (some (28, false)), (.un .not (.t 32))⟩, ⟨some 34, none, .pick (.t 28) (.c (.bool true)) (.t 33)⟩]) (.cond (.t 34) (.seq (.reg [⟨some 6, none, .mv (.c (.bool false))⟩, ⟨some 7, none, .mv (.c (.bool false))⟩]) .ret) .skip)) (.seq (.reg [⟨some 35, none, .load true 2 (.t 3)⟩, ⟨some 36, none, .load true 5 (.t 5)⟩, ⟨some 37, none, .mv (.t 8)⟩, ⟨some 38, none, .call 58 [(.t 35), (.t 36), (.t 37)]⟩, ⟨some 6, none, .mv (.t 38)⟩, ⟨some 7, none, .mv (.c (.bool true))⟩]) .ret))))
theorem k_impl_EvaluateFormula : codeOf Tryz.prog 19 = some ⟨39, c_impl_EvaluateFormula, [(.tmp 6), (.tmp 7)]⟩ := by kernel_rfl
theorem m_impl_EvaluateFormula : modes 19 = ⟨[], .asis, none, false⟩ := by unfold modes; rfl
def c_spec_EvaluateFormula : SC := (.seq (.reg [⟨some 3, none, .boxv 51 2 (.t 0)⟩, ⟨some 5, none, .boxv 34 5 (.t 2)⟩, ⟨some 6, none, .mv (.c (.bool false))⟩, ⟨some 7, none, .mv (.c (.bool false))⟩]) (.seq (.seq (.reg [⟨some 8, none, .load true 2 (.t 3)⟩, ⟨some 9, none, .call 50 [(.t 8)]⟩, ⟨some 10, none, .un .not (.t 9)⟩, ⟨some 11, none, .mv (.t 10)⟩, ⟨(some 12), (some (11, false)), (.load true 2 (.t 3))⟩, ⟨(some 13), (some (11, false)), (.mv (.t 1))⟩, ⟨(some 14), (some (11, false)), (.call 51 [(.t 12), (.t 13)])⟩, ⟨(some 15), (some (11, false)), (.un .not (.t 14))⟩, ⟨some 16, none, .pick (.t 11) (.c (.bool true)) (.t 15)⟩, ⟨some 17, none, .mv (.t 16)⟩, ⟨(some 18), (some (17, false)), (.load true 5 (.t 5))⟩, ⟨(some 19), (some (17, false)), (.call 35 [(.t 18)])⟩, ⟨(some 20), (some (17, false)), (.un .not (.t 19))⟩, ⟨some 21, none, .pick (.t 17) (.c (.bool true)) (.t 20)⟩]) (.cond (.t 21) (.seq (.reg [⟨some 6, none, .mv (.c (.bool false))⟩, ⟨some 7, none, .mv (.c (.bool false))⟩]) .ret) .skip)) (.seq (.reg [⟨some 22, none, .load true 2 (.t 3)⟩, ⟨some 23, none, .mv (.t 1)⟩, ⟨some 24, none, .load true 5 (.t 5)⟩, ⟨some 25, none, .call 52 [(.t 22), (.t 23), (.t 24)]⟩, ⟨some 26, none, .ext (.t 25) 0⟩, ⟨some 27, none, .ext (.t 25) 1⟩, ⟨some 6, none, .mv (.t 26)⟩, ⟨some 7, none, .mv (.t 27)⟩]) .ret)))
theorem k_spec_EvaluateFormula : codeOf Tryz.prog 16 = some ⟨28, c_spec_EvaluateFormula, [(.tmp 6), (.tmp 7)]⟩ := by kernel_rfl
theorem m_spec_EvaluateFormula : modes 16 = ⟨[], .asis, none, false⟩ := by unfold modes; rfl
noncomputable def evF (m : Ip) (xs : List Ag) (x : Fm) : Option Bool := bif m.ok && (agsB m.size xs && x.valid) then x.tr m (asg xs) else none
theorem Fm.valid_parts {x : Fm} (h : x.valid = true) : x.nodes ≤ 40 ∧ x.forms = true := by
  unfold Fm.valid at h
  rw [Bool.and_eq_true, decide_eq_true_eq] at h
  exact h
set_option maxHeartbeats 4000000 in
theorem evaluateFormula_E (m : Ip) (hm : m.tame) (xs : List Ag) (hl : xs.length ≤ 1048576) (x : Fm) (hta : x.tame) (hn : x.nodes ≤ 1099511627776) : E 19 [m.sv, .arr (xs.map Ag.d), x.sv] [] = some (optB (evF m xs x), []) := by
  have v := isValidInterpretation_E m hm
  have vt := isValidFormula_E x hta hn
  have hxs : x.sv = .agg [.int .i64 x.op, .str x.atom.name, .arr (x.atom.args.map Tm.d), .str x.var, .arr (x.parts.map Fm.d)] := rfl
  unfold evF
  cases hk : m.ok with
  | false =>
    rw [hk] at v
    obtain ⟨f, b, ha⟩ := valuationOf_any m xs (by omega)
    refine E_walk k_impl_EvaluateFormula m_impl_EvaluateFormula (of_decide_eq_true rfl) ?_
    simp (disch := omega) only [c_impl_EvaluateFormula, go_sem, go_cond, zA, zB, zC, zD, zE, zF, zG, zH, ↓reduceIte, zI, reduceCtorEq, zJ, zK, v, vt, ha, m_impl_IsValidInterpretation, m_impl_Interpretation_valuationOf, m_impl_IsValidFormula]
    try first | rfl | exact ⟨rfl, rfl⟩
  | true =>
    rw [hk] at v
    have ha := valuationOf_E m (Ip.ok_parts hk).1 xs (by omega)
    cases hg : agsB m.size xs with
    | false =>
      rw [hg] at ha
      refine E_walk k_impl_EvaluateFormula m_impl_EvaluateFormula (of_decide_eq_true rfl) ?_
      simp (disch := omega) only [c_impl_EvaluateFormula, go_sem, go_cond, zA, zB, zC, zD, zE, zF, zG, zH, ↓reduceIte, zI, reduceCtorEq, zJ, zK, v, vt, ha, m_impl_IsValidInterpretation, m_impl_Interpretation_valuationOf, m_impl_IsValidFormula]
      try first | rfl | exact ⟨rfl, rfl⟩
    | true =>
      rw [hg] at ha
      cases ht : x.valid with
      | false =>
        rw [ht] at vt
        refine E_walk k_impl_EvaluateFormula m_impl_EvaluateFormula (of_decide_eq_true rfl) ?_
        simp (disch := omega) only [c_impl_EvaluateFormula, go_sem, go_cond, zA, zB, zC, zD, zE, zF, zG, zH, ↓reduceIte, zI, reduceCtorEq, zJ, zK, v, vt, ha, m_impl_IsValidInterpretation, m_impl_Interpretation_valuationOf, m_impl_IsValidFormula]
        try first | rfl | exact ⟨rfl, rfl⟩
      | true =>
        rw [ht] at vt
        obtain ⟨hn40, hfo⟩ := Fm.valid_parts ht
        have he := asg_in (agsB_up hg).2
        have hc := canEvaluate_E m hk hm x hfo (by omega) (asg xs) he (FinE.asg xs)
        have hh := holds_E m hk hm x hfo (by omega) (asg xs) he (FinE.asg xs)
        unfold CaC at hc
        unfold HoC at hh
        cases hv : x.tr m (asg xs) with
        | none =>
          rw [hv] at hc
          refine E_walk k_impl_EvaluateFormula m_impl_EvaluateFormula (of_decide_eq_true rfl) ?_
          simp (disch := omega) only [c_impl_EvaluateFormula, go_sem, go_cond, zA, zB, zC, zD, zE, zF, zG, zH, ↓reduceIte, zI, reduceCtorEq, zJ, zK, v, vt, ha, m_impl_IsValidInterpretation, m_impl_Interpretation_valuationOf, m_impl_IsValidFormula, hc, m_impl_Interpretation_canEvaluate, Option.isSome_none, Option.isSome_some, Option.getD_some, Option.getD_none]
          try first | rfl | exact ⟨rfl, rfl⟩
        | some b =>
          rw [hv] at hc
          have hh := hh b hv
          refine E_walk k_impl_EvaluateFormula m_impl_EvaluateFormula (of_decide_eq_true rfl) ?_
          simp (disch := omega) only [c_impl_EvaluateFormula, go_sem, go_cond, zA, zB, zC, zD, zE, zF, zG, zH, ↓reduceIte, zI, reduceCtorEq, zJ, zK, v, vt, ha, m_impl_IsValidInterpretation, m_impl_Interpretation_valuationOf, m_impl_IsValidFormula, hc, hh, m_impl_Interpretation_canEvaluate, m_impl_Interpretation_holds, Option.isSome_none, Option.isSome_some, Option.getD_some, Option.getD_none]
          try first | rfl | exact ⟨rfl, rfl⟩
set_option maxHeartbeats 4000000 in
theorem l10EvaluateFormula_E (m : Ip) (hm : m.tame) (xs : List Ag) (hl : xs.length ≤ 1048576) (x : Fm) (hta : x.tame) (hn : x.nodes ≤ 1099511627776) : E 16 [m.sv, .arr (xs.map Ag.d), x.sv] [] = some (optB (evF m xs x), []) := by
  have v := l10Good_E m hm
  have vt := l8Good_E x hta hn
  have hxs : x.sv = .agg [.int .i64 x.op, .str x.atom.name, .arr (x.atom.args.map Tm.d), .str x.var, .arr (x.parts.map Fm.d)] := rfl
  unfold evF
  cases hk : m.ok with
  | false =>
    rw [hk] at v
    refine E_walk k_spec_EvaluateFormula m_spec_EvaluateFormula (of_decide_eq_true rfl) ?_
    simp (disch := omega) only [c_spec_EvaluateFormula, go_sem, go_cond, zA, zB, zC, zD, zE, zF, zG, zH, ↓reduceIte, zI, reduceCtorEq, zJ, zK, v, vt, m_spec_l10Good, m_spec_l10Assignment, m_spec_l8Good]
    try first | rfl | exact ⟨rfl, rfl⟩
  | true =>
    rw [hk] at v
    have ha := l10Assignment_E m (Ip.ok_parts hk).1 xs (by omega)
    cases hg : agsB m.size xs with
    | false =>
      rw [hg] at ha
      refine E_walk k_spec_EvaluateFormula m_spec_EvaluateFormula (of_decide_eq_true rfl) ?_
      simp (disch := omega) only [c_spec_EvaluateFormula, go_sem, go_cond, zA, zB, zC, zD, zE, zF, zG, zH, ↓reduceIte, zI, reduceCtorEq, zJ, zK, v, vt, ha, m_spec_l10Good, m_spec_l10Assignment, m_spec_l8Good]
      try first | rfl | exact ⟨rfl, rfl⟩
    | true =>
      rw [hg] at ha
      cases ht : x.valid with
      | false =>
        rw [ht] at vt
        refine E_walk k_spec_EvaluateFormula m_spec_EvaluateFormula (of_decide_eq_true rfl) ?_
        simp (disch := omega) only [c_spec_EvaluateFormula, go_sem, go_cond, zA, zB, zC, zD, zE, zF, zG, zH, ↓reduceIte, zI, reduceCtorEq, zJ, zK, v, vt, ha, m_spec_l10Good, m_spec_l10Assignment, m_spec_l8Good]
        try first | rfl | exact ⟨rfl, rfl⟩
      | true =>
        rw [ht] at vt
        obtain ⟨hn40, hfo⟩ := Fm.valid_parts ht
        have hc := l10Truth_E m hk hm x hfo xs (by omega) (asg_in (agsB_up hg).2)
        unfold TrC at hc
        generalize x.tr m (asg xs) = r at *
        refine E_walk k_spec_EvaluateFormula m_spec_EvaluateFormula (of_decide_eq_true rfl) ?_
        simp (disch := omega) only [c_spec_EvaluateFormula, go_sem, go_cond, zA, zB, zC, zD, zE, zF, zG, zH, ↓reduceIte, zI, reduceCtorEq, zJ, zK, v, vt, ha, m_spec_l10Good, m_spec_l10Assignment, m_spec_l8Good, hc, m_spec_l10Truth]
        try first | rfl | exact ⟨rfl, rfl⟩
theorem Fm.bulk_tame (x : Fm) (h : x.bulk ≤ 1048576) : x.tame ∧ x.nodes ≤ 1 + x.bulk := by
  have hb := Fm.bulk_eq x
  have ha := Tm.nodes_bulk x.atom
  have key : ∀ xs : List Fm, (∀ y ∈ xs, y.bulk ≤ 1048576 → y.tame ∧ y.nodes ≤ 1 + y.bulk) → Fm.sumB xs ≤ 1048576 → Fm.tameS xs ∧ Fm.nodeS xs ≤ xs.length + Fm.sumB xs := by
    intro xs
    induction xs with
    | nil => intro _ _; rw [Fm.tameS, Fm.nodeS]; exact ⟨trivial, by simp⟩
    | cons y ys ih =>
      intro hh hs
      rw [Fm.sumB] at hs
      have h1 := hh y (by simp) (by omega)
      have h2 := ih (fun z hz => hh z (by simp [hz])) (by omega)
      rw [Fm.tameS, Fm.nodeS, Fm.sumB, List.length_cons]
      exact ⟨⟨h1.1, h2.1⟩, by omega⟩
  have hk := key x.parts (fun y hy hby => Fm.bulk_tame y hby) (by omega)
  rw [Fm.tame_eq, Fm.nodes_eq]
  exact ⟨⟨by omega, hk.1⟩, by omega⟩
termination_by SizeOf.sizeOf x
decreasing_by exact Fm.lt_of_mem hy
end Go.Proofs.YtihclcmgbkkhfaaGreat
