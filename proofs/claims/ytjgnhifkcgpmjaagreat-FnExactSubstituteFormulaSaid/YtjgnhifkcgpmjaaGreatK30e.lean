/-
  This text tells what the forms and the validity of formulas answer in both packages. No condition.
-/
import Derived.Test.YtjgnhifkcgpmjaaGreatK30d
set_option maxRecDepth 100000
set_option linter.unusedSimpArgs false
set_option linter.unusedVariables false
namespace Go.Proofs.YtjgnhifkcgpmjaaGreat
open Go.RowKit

def c_impl_isQuantifier : SC := (.seq (.reg [⟨(some 2), none, (.mv (.c (.bool false)))⟩]) (.seq (.reg [⟨(some 3), none, (.mv (.t 0))⟩, ⟨(some 4), none, (.bin .eql false (.t 3) (.c (.int .i64 8)))⟩, ⟨(some 5), none, (.mv (.t 4))⟩, ⟨(some 6), (some (5, false)), (.mv (.t 0))⟩, ⟨(some 7), (some (5, false)), (.bin .eql false (.t 6) (.c (.int .i64 9)))⟩, ⟨(some 8), none, (.pick (.t 5) (.c (.bool true)) (.t 7))⟩, ⟨(some 2), none, (.mv (.t 8))⟩]) .ret))
theorem k_impl_isQuantifier : codeOf Tryz.prog 81 = some ⟨9, c_impl_isQuantifier, [(.tmp 2)]⟩ := by kernel_rfl
theorem m_impl_isQuantifier : modes 81 = ⟨[], .asis, none, false⟩ := by unfold modes; rfl

def c_impl_isBinary : SC := (.seq (.reg [⟨(some 2), none, (.mv (.c (.bool false)))⟩]) (.seq (.reg [⟨(some 3), none, (.mv (.t 0))⟩, ⟨(some 4), none, (.bin .eql false (.t 3) (.c (.int .i64 5)))⟩, ⟨(some 5), none, (.mv (.t 4))⟩, ⟨(some 6), (some (5, false)), (.mv (.t 0))⟩, ⟨(some 7), (some (5, false)), (.bin .eql false (.t 6) (.c (.int .i64 6)))⟩, ⟨(some 8), none, (.pick (.t 5) (.c (.bool true)) (.t 7))⟩, ⟨(some 9), none, (.mv (.t 8))⟩, ⟨(some 10), (some (9, false)), (.mv (.t 0))⟩, ⟨(some 11), (some (9, false)), (.bin .eql false (.t 10) (.c (.int .i64 7)))⟩, ⟨(some 12), none, (.pick (.t 9) (.c (.bool true)) (.t 11))⟩, ⟨(some 2), none, (.mv (.t 12))⟩]) .ret))
theorem k_impl_isBinary : codeOf Tryz.prog 99 = some ⟨13, c_impl_isBinary, [(.tmp 2)]⟩ := by kernel_rfl
theorem m_impl_isBinary : modes 99 = ⟨[], .asis, none, false⟩ := by unfold modes; rfl

def c_impl_isZeroTerm : SC := (.seq (.reg [⟨(some 1), none, (.boxv 31 2 (.t 0))⟩, ⟨(some 2), none, (.mv (.c (.bool false)))⟩]) (.seq (.reg [⟨(some 3), none, (.faddr 0 (.t 1))⟩, ⟨(some 4), none, (.load false 1 (.t 3))⟩, ⟨(some 5), none, (.bin .eql false (.t 4) (.c (.str ⟨#[]⟩)))⟩, ⟨(some 6), none, (.mv (.t 5))⟩, ⟨(some 7), (some (6, true)), (.faddr 1 (.t 1))⟩, ⟨(some 8), (some (6, true)), (.load false 1 (.t 7))⟩, ⟨(some 9), (some (6, true)), (.len false (.t 8))⟩, ⟨(some 10), (some (6, true)), (.bin .eql false (.t 9) (.c (.int .i64 0)))⟩, ⟨(some 11), none, (.pick (.t 6) (.t 10) (.c (.bool false)))⟩, ⟨(some 2), none, (.mv (.t 11))⟩]) .ret))
theorem k_impl_isZeroTerm : codeOf Tryz.prog 101 = some ⟨12, c_impl_isZeroTerm, [(.tmp 2)]⟩ := by kernel_rfl
theorem m_impl_isZeroTerm : modes 101 = ⟨[], .asis, none, false⟩ := by unfold modes; rfl

def c_spec_l8None : SC := (.seq (.reg [⟨(some 1), none, (.boxv 31 2 (.t 0))⟩, ⟨(some 2), none, (.mv (.c (.bool false)))⟩]) (.seq (.reg [⟨(some 3), none, (.faddr 0 (.t 1))⟩, ⟨(some 4), none, (.load false 1 (.t 3))⟩, ⟨(some 5), none, (.bin .eql false (.t 4) (.c (.str ⟨#[]⟩)))⟩, ⟨(some 6), none, (.mv (.t 5))⟩, ⟨(some 7), (some (6, true)), (.faddr 1 (.t 1))⟩, ⟨(some 8), (some (6, true)), (.load false 1 (.t 7))⟩, ⟨(some 9), (some (6, true)), (.len false (.t 8))⟩, ⟨(some 10), (some (6, true)), (.bin .eql false (.t 9) (.c (.int .i64 0)))⟩, ⟨(some 11), none, (.pick (.t 6) (.t 10) (.c (.bool false)))⟩, ⟨(some 2), none, (.mv (.t 11))⟩]) .ret))
theorem k_spec_l8None : codeOf Tryz.prog 129 = some ⟨12, c_spec_l8None, [(.tmp 2)]⟩ := by kernel_rfl
theorem m_spec_l8None : modes 129 = ⟨[], .asis, none, false⟩ := by unfold modes; rfl

def c_slices_IndexFunc_impl_Formula_impl_Formula : SC := (.seq (.reg [⟨(some 4), none, (.mv (.c (.int .i64 0)))⟩]) (.seq (.seq (.reg [⟨(some 6), none, (.mv (.t 0))⟩, ⟨(some 7), none, (.len false (.t 6))⟩, ⟨(some 8), none, (.mv (.c (.int .i64 0)))⟩]) (.block 0 (.loop [1, 1, 0, 0, 0, 0, 0, 1, 1, 0, 0, 0, 0, 0, 0, 0, 0, 0, 0] (.seq (.reg [⟨(some 9), none, (.bin .lss false (.t 8) (.t 7))⟩]) (.seq (.cond (.t 9) .skip (.exit 0)) (.seq (.block 1 (.seq (.reg [⟨(some 10), none, (.mv (.t 8))⟩, ⟨(some 5), none, (.mv (.t 10))⟩]) (.seq (.reg [⟨(some 11), none, (.mv (.t 1))⟩, ⟨(some 12), none, (.mv (.t 0))⟩, ⟨(some 13), none, (.mv (.t 5))⟩, ⟨(some 14), none, (.iaddr 5 (.t 12) (.t 13))⟩, ⟨(some 15), none, (.load true 5 (.t 14))⟩, ⟨(some 16), none, (.callv (.t 11) [(.t 15)])⟩]) (.cond (.t 16) (.seq (.reg [⟨(some 17), none, (.mv (.t 5))⟩, ⟨(some 4), none, (.mv (.t 17))⟩]) .ret) .skip)))) (.reg [⟨(some 18), none, (.bin .add false (.t 8) (.c (.int .i64 1)))⟩, ⟨(some 8), none, (.mv (.t 18))⟩]))))))) (.seq (.reg [⟨(some 4), none, (.mv (.c (.int .i64 (-(0 + 1)))))⟩]) .ret)))
theorem k_slices_IndexFunc_impl_Formula_impl_Formula : codeOf Tryz.prog 132 = some ⟨19, c_slices_IndexFunc_impl_Formula_impl_Formula, [(.tmp 4)]⟩ := by kernel_rfl
theorem m_slices_IndexFunc_impl_Formula_impl_Formula : modes 132 = ⟨[], .asis, none, false⟩ := by unfold modes; rfl
def c_slices_ContainsFunc_impl_Formula_impl_Formula : SC := (.seq (.reg [⟨(some 4), none, (.mv (.c (.bool false)))⟩]) (.seq (.reg [⟨(some 5), none, (.mv (.t 0))⟩, ⟨(some 6), none, (.mv (.t 1))⟩, ⟨(some 7), none, (.call 132 [(.t 5), (.t 6)])⟩, ⟨(some 8), none, (.bin .geq false (.t 7) (.c (.int .i64 0)))⟩, ⟨(some 4), none, (.mv (.t 8))⟩]) .ret))
theorem k_slices_ContainsFunc_impl_Formula_impl_Formula : codeOf Tryz.prog 102 = some ⟨9, c_slices_ContainsFunc_impl_Formula_impl_Formula, [(.tmp 4)]⟩ := by kernel_rfl
theorem m_slices_ContainsFunc_impl_Formula_impl_Formula : modes 102 = ⟨[], .asis, none, false⟩ := by unfold modes; rfl
/-- The place of the first hit, or -1. -/
theorem indexFunc_forms (fid : Nat) (p : Fm → Bool) (xs : List Fm) (hl : xs.length ≤ 1099511627776) (hg : goFn Tryz.prog fid = true) (hm : (modes fid).hand = []) (hE : ∀ x ∈ xs, E fid [x.sv] [] = some (.bool (p x), [])) : E 132 [.arr (xs.map Fm.d), .fn fid []] [] = some (.int .i64 (idxP p xs 0), []) := by
  refine E_walk k_slices_IndexFunc_impl_Formula_impl_Formula m_slices_IndexFunc_impl_Formula_impl_Formula (of_decide_eq_true rfl) ?_
  simp (disch := omega) only [c_slices_IndexFunc_impl_Formula_impl_Formula, go_sem, go_cond, Nat.reduceAdd, Nat.reduceSub, Nat.reduceLT, Nat.reduceLeDiff, Nat.reduceEqDiff, Nat.reduceBEq, Nat.reduceBneDiff, Nat.reduceMul, ↓reduceIte, Int.reduceToNat, reduceCtorEq, Int.reduceNeg, Int.reduceAdd]
  refine go_loop (α := Int) (fun a => ⟨slots 19 0 [(0, .arr (xs.map Fm.d)), (1, .fn fid []), (7, .int .i64 xs.length), (8, .int .i64 a)], []⟩) (fun a => ∃ k : Nat, a = k ∧ k ≤ (xs).length ∧ idxP p (xs.drop k) a = idxP p xs 0) (fun a => (xs).length - (a).toNat) 0 ⟨0, rfl, Nat.zero_le _, by rw [List.drop_zero]⟩ (by simp (disch := omega) only [go_sem, go_cond, Nat.reduceAdd, Nat.reduceSub, Nat.reduceLT, Nat.reduceLeDiff, Nat.reduceEqDiff, Nat.reduceBEq, Nat.reduceBneDiff, Nat.reduceMul, ↓reduceIte, Int.reduceToNat, reduceCtorEq, Int.reduceNeg, Int.reduceAdd]) ?_
  rintro i ⟨k, hi, hk, hR⟩
  have hni : i.toNat = k := by omega
  have hni1 : (i + 1).toNat = k + 1 := by omega
  rcases Nat.lt_or_ge k (xs).length with hlt | hge
  · have hg' := get_at Fm.d hlt
    rw [Fm.d_eq] at hg'
    have hc := hE xs[k] (List.getElem_mem hlt)
    rw [List.drop_eq_getElem_cons hlt, idxP] at hR
    cases hp : p xs[k] with
    | true =>
      rw [hp] at hc hR
      simp (disch := omega) only [go_sem, go_cond, Nat.reduceAdd, Nat.reduceSub, Nat.reduceLT, Nat.reduceLeDiff, Nat.reduceEqDiff, Nat.reduceBEq, Nat.reduceBneDiff, Nat.reduceMul, ↓reduceIte, Int.reduceToNat, reduceCtorEq, Int.reduceNeg, Int.reduceAdd, hni, hg', hc, hg, hm]
      simpa using hR
    | false =>
      rw [hp] at hc hR
      simp (disch := omega) only [go_sem, go_cond, Nat.reduceAdd, Nat.reduceSub, Nat.reduceLT, Nat.reduceLeDiff, Nat.reduceEqDiff, Nat.reduceBEq, Nat.reduceBneDiff, Nat.reduceMul, ↓reduceIte, Int.reduceToNat, reduceCtorEq, Int.reduceNeg, Int.reduceAdd, hni, hg', hc, hg, hm]
      exact ⟨i + 1, ⟨k + 1, by omega, hlt, by simpa using hR⟩, by omega, by first | trivial | rfl⟩
  · rw [List.drop_eq_nil_of_le hge, idxP] at hR
    simp (disch := omega) only [go_sem, go_cond, Nat.reduceAdd, Nat.reduceSub, Nat.reduceLT, Nat.reduceLeDiff, Nat.reduceEqDiff, Nat.reduceBEq, Nat.reduceBneDiff, Nat.reduceMul, ↓reduceIte, Int.reduceToNat, reduceCtorEq, Int.reduceNeg, Int.reduceAdd, hni]
    exact hR
theorem containsFunc_forms (fid : Nat) (p : Fm → Bool) (xs : List Fm) (hl : xs.length ≤ 1099511627776) (hg : goFn Tryz.prog fid = true) (hm : (modes fid).hand = []) (hE : ∀ x ∈ xs, E fid [x.sv] [] = some (.bool (p x), [])) : E 102 [.arr (xs.map Fm.d), .fn fid []] [] = some (.bool (xs.any p), []) := by
  have h := indexFunc_forms fid p xs hl hg hm hE
  refine E_walk k_slices_ContainsFunc_impl_Formula_impl_Formula m_slices_ContainsFunc_impl_Formula_impl_Formula (of_decide_eq_true rfl) ?_
  simp (disch := omega) only [c_slices_ContainsFunc_impl_Formula_impl_Formula, go_sem, go_cond, Nat.reduceAdd, Nat.reduceSub, Nat.reduceLT, Nat.reduceLeDiff, Nat.reduceEqDiff, Nat.reduceBEq, Nat.reduceBneDiff, Nat.reduceMul, ↓reduceIte, Int.reduceToNat, reduceCtorEq, Int.reduceNeg, Int.reduceAdd, h, m_slices_IndexFunc_impl_Formula_impl_Formula]
  rw [idxP_any]

def c_impl_hasForm : SC := (.seq (.reg [⟨(some 1), none, (.boxv 34 5 (.t 0))⟩, ⟨(some 2), none, (.mv (.c (.bool false)))⟩]) (.seq (.reg [⟨(some 3), none, (.mv (.c (.int .i64 0)))⟩]) (.seq (.block 0 (.seq (.seq (.reg [⟨(some 5), none, (.faddr 0 (.t 1))⟩, ⟨(some 6), none, (.load false 1 (.t 5))⟩, ⟨(some 7), none, (.bin .eql false (.t 6) (.c (.int .i64 1)))⟩, ⟨(some 4), none, (.mv (.t 7))⟩]) (.cond (.t 4) .skip (.seq (.reg [⟨(some 8), none, (.faddr 0 (.t 1))⟩, ⟨(some 9), none, (.load false 1 (.t 8))⟩, ⟨(some 10), none, (.bin .eql false (.t 9) (.c (.int .i64 2)))⟩, ⟨(some 4), none, (.mv (.t 10))⟩]) (.cond (.t 4) .skip (.reg [⟨(some 11), none, (.faddr 0 (.t 1))⟩, ⟨(some 12), none, (.load false 1 (.t 11))⟩, ⟨(some 13), none, (.bin .eql false (.t 12) (.c (.int .i64 3)))⟩, ⟨(some 4), none, (.mv (.t 13))⟩]))))) (.cond (.t 4) .skip (.seq (.seq (.reg [⟨(some 15), none, (.faddr 0 (.t 1))⟩, ⟨(some 16), none, (.load false 1 (.t 15))⟩, ⟨(some 17), none, (.bin .eql false (.t 16) (.c (.int .i64 4)))⟩, ⟨(some 14), none, (.mv (.t 17))⟩]) (.cond (.t 14) .skip (.reg [⟨(some 18), none, (.faddr 0 (.t 1))⟩, ⟨(some 19), none, (.load false 1 (.t 18))⟩, ⟨(some 20), none, (.call 81 [(.t 19)])⟩, ⟨(some 14), none, (.mv (.t 20))⟩]))) (.cond (.t 14) (.reg [⟨(some 3), none, (.mv (.c (.int .i64 1)))⟩]) (.seq (.reg [⟨(some 22), none, (.faddr 0 (.t 1))⟩, ⟨(some 23), none, (.load false 1 (.t 22))⟩, ⟨(some 24), none, (.call 99 [(.t 23)])⟩, ⟨(some 21), none, (.mv (.t 24))⟩]) (.cond (.t 21) (.reg [⟨(some 3), none, (.mv (.c (.int .i64 2)))⟩]) (.seq (.reg [⟨(some 2), none, (.mv (.c (.bool false)))⟩]) .ret)))))))) (.seq (.seq (.reg [⟨(some 25), none, (.faddr 4 (.t 1))⟩, ⟨(some 26), none, (.load false 1 (.t 25))⟩, ⟨(some 27), none, (.len false (.t 26))⟩, ⟨(some 28), none, (.mv (.t 3))⟩, ⟨(some 29), none, (.bin .neq false (.t 27) (.t 28))⟩, ⟨(some 30), none, (.mv (.t 29))⟩, ⟨(some 31), (some (30, false)), (.faddr 0 (.t 1))⟩, ⟨(some 32), (some (30, false)), (.load false 1 (.t 31))⟩, ⟨(some 33), (some (30, false)), (.call 81 [(.t 32)])⟩, ⟨(some 34), (some (30, false)), (.mv (.t 33))⟩, ⟨(some 35), (some (34, true)), (.faddr 3 (.t 1))⟩, ⟨(some 36), (some (34, true)), (.load false 1 (.t 35))⟩, ⟨(some 37), (some (34, true)), (.call 41 [(.t 36)])⟩, ⟨(some 38), (some (34, true)), (.un .not (.t 37))⟩, ⟨(some 39), (some (30, false)), (.pick (.t 34) (.t 38) (.c (.bool false)))⟩, ⟨(some 40), none, (.pick (.t 30) (.c (.bool true)) (.t 39))⟩, ⟨(some 41), none, (.mv (.t 40))⟩, ⟨(some 42), (some (41, false)), (.faddr 0 (.t 1))⟩, ⟨(some 43), (some (41, false)), (.load false 1 (.t 42))⟩, ⟨(some 44), (some (41, false)), (.call 81 [(.t 43)])⟩, ⟨(some 45), (some (41, false)), (.un .not (.t 44))⟩, ⟨(some 46), (some (41, false)), (.mv (.t 45))⟩, ⟨(some 47), (some (46, true)), (.faddr 3 (.t 1))⟩, ⟨(some 48), (some (46, true)), (.load false 1 (.t 47))⟩, ⟨(some 49), (some (46, true)), (.bin .neq false (.t 48) (.c (.str ⟨#[]⟩)))⟩, ⟨(some 50), (some (41, false)), (.pick (.t 46) (.t 49) (.c (.bool false)))⟩, ⟨(some 51), none, (.pick (.t 41) (.c (.bool true)) (.t 50))⟩]) (.cond (.t 51) (.seq (.reg [⟨(some 2), none, (.mv (.c (.bool false)))⟩]) .ret) .skip)) (.seq (.seq (.reg [⟨(some 52), none, (.faddr 0 (.t 1))⟩, ⟨(some 53), none, (.load false 1 (.t 52))⟩, ⟨(some 54), none, (.bin .eql false (.t 53) (.c (.int .i64 3)))⟩, ⟨(some 55), none, (.mv (.t 54))⟩, ⟨(some 56), (some (55, true)), (.faddr 1 (.t 1))⟩, ⟨(some 57), (some (55, true)), (.load true 2 (.t 56))⟩, ⟨(some 58), (some (55, true)), (.call 100 [(.t 57)])⟩, ⟨(some 59), (some (55, true)), (.un .not (.t 58))⟩, ⟨(some 60), none, (.pick (.t 55) (.t 59) (.c (.bool false)))⟩, ⟨(some 61), none, (.mv (.t 60))⟩, ⟨(some 62), (some (61, false)), (.faddr 0 (.t 1))⟩, ⟨(some 63), (some (61, false)), (.load false 1 (.t 62))⟩, ⟨(some 64), (some (61, false)), (.bin .neq false (.t 63) (.c (.int .i64 3)))⟩, ⟨(some 65), (some (61, false)), (.mv (.t 64))⟩, ⟨(some 66), (some (65, true)), (.faddr 1 (.t 1))⟩, ⟨(some 67), (some (65, true)), (.load true 2 (.t 66))⟩, ⟨(some 68), (some (65, true)), (.call 101 [(.t 67)])⟩, ⟨(some 69), (some (65, true)), (.un .not (.t 68))⟩, ⟨(some 70), (some (61, false)), (.pick (.t 65) (.t 69) (.c (.bool false)))⟩, ⟨(some 71), none, (.pick (.t 61) (.c (.bool true)) (.t 70))⟩]) (.cond (.t 71) (.seq (.reg [⟨(some 2), none, (.mv (.c (.bool false)))⟩]) .ret) .skip)) (.seq (.reg [⟨(some 72), none, (.faddr 4 (.t 1))⟩, ⟨(some 73), none, (.load false 1 (.t 72))⟩, ⟨(some 74), none, (.call 102 [(.t 73), (.c (.fn 103 []))])⟩, ⟨(some 75), none, (.un .not (.t 74))⟩, ⟨(some 2), none, (.mv (.t 75))⟩]) .ret))))))
theorem k_impl_hasForm : codeOf Tryz.prog 59 = some ⟨76, c_impl_hasForm, [(.tmp 2)]⟩ := by kernel_rfl
theorem m_impl_hasForm : modes 59 = ⟨[], .asis, none, false⟩ := by unfold modes; rfl

def c_impl_hasForm_1 : SC := (.seq (.reg [⟨(some 1), none, (.boxv 34 5 (.t 0))⟩, ⟨(some 2), none, (.mv (.c (.bool false)))⟩]) (.seq (.reg [⟨(some 3), none, (.load true 5 (.t 1))⟩, ⟨(some 4), none, (.call 59 [(.t 3)])⟩, ⟨(some 5), none, (.un .not (.t 4))⟩, ⟨(some 2), none, (.mv (.t 5))⟩]) .ret))
theorem k_impl_hasForm_1 : codeOf Tryz.prog 103 = some ⟨6, c_impl_hasForm_1, [(.tmp 2)]⟩ := by kernel_rfl
theorem m_impl_hasForm_1 : modes 103 = ⟨[], .asis, none, false⟩ := by unfold modes; rfl

theorem g_impl_hasForm_1 : goFn Tryz.prog 103 = true := by kernel_rfl

def c_spec_l8Form : SC := (.seq (.reg [⟨(some 1), none, (.boxv 34 5 (.t 0))⟩, ⟨(some 2), none, (.mv (.c (.bool false)))⟩]) (.seq (.reg [⟨(some 4), none, (.faddr 4 (.t 1))⟩, ⟨(some 5), none, (.load false 1 (.t 4))⟩, ⟨(some 6), none, (.len false (.t 5))⟩, ⟨(some 3), none, (.mv (.t 6))⟩]) (.seq (.seq (.reg [⟨(some 7), none, (.faddr 0 (.t 1))⟩, ⟨(some 8), none, (.load false 1 (.t 7))⟩]) (.block 0 (.seq (.seq (.reg [⟨(some 10), none, (.bin .eql false (.t 8) (.c (.int .i64 1)))⟩, ⟨(some 9), none, (.mv (.t 10))⟩]) (.cond (.t 9) .skip (.reg [⟨(some 11), none, (.bin .eql false (.t 8) (.c (.int .i64 2)))⟩, ⟨(some 9), none, (.mv (.t 11))⟩]))) (.cond (.t 9) (.seq (.reg [⟨(some 12), none, (.mv (.t 3))⟩, ⟨(some 13), none, (.bin .eql false (.t 12) (.c (.int .i64 0)))⟩, ⟨(some 14), none, (.mv (.t 13))⟩, ⟨(some 15), (some (14, true)), (.faddr 1 (.t 1))⟩, ⟨(some 16), (some (14, true)), (.load true 2 (.t 15))⟩, ⟨(some 17), (some (14, true)), (.call 129 [(.t 16)])⟩, ⟨(some 18), none, (.pick (.t 14) (.t 17) (.c (.bool false)))⟩, ⟨(some 19), none, (.mv (.t 18))⟩, ⟨(some 20), (some (19, true)), (.faddr 3 (.t 1))⟩, ⟨(some 21), (some (19, true)), (.load false 1 (.t 20))⟩, ⟨(some 22), (some (19, true)), (.bin .eql false (.t 21) (.c (.str ⟨#[]⟩)))⟩, ⟨(some 23), none, (.pick (.t 19) (.t 22) (.c (.bool false)))⟩, ⟨(some 2), none, (.mv (.t 23))⟩]) .ret) (.seq (.reg [⟨(some 25), none, (.bin .eql false (.t 8) (.c (.int .i64 3)))⟩, ⟨(some 24), none, (.mv (.t 25))⟩]) (.cond (.t 24) (.seq (.reg [⟨(some 26), none, (.mv (.t 3))⟩, ⟨(some 27), none, (.bin .eql false (.t 26) (.c (.int .i64 0)))⟩, ⟨(some 28), none, (.mv (.t 27))⟩, ⟨(some 29), (some (28, true)), (.faddr 1 (.t 1))⟩, ⟨(some 30), (some (28, true)), (.load true 2 (.t 29))⟩, ⟨(some 31), (some (28, true)), (.call 72 [(.t 30)])⟩, ⟨(some 32), none, (.pick (.t 28) (.t 31) (.c (.bool false)))⟩, ⟨(some 33), none, (.mv (.t 32))⟩, ⟨(some 34), (some (33, true)), (.faddr 3 (.t 1))⟩, ⟨(some 35), (some (33, true)), (.load false 1 (.t 34))⟩, ⟨(some 36), (some (33, true)), (.bin .eql false (.t 35) (.c (.str ⟨#[]⟩)))⟩, ⟨(some 37), none, (.pick (.t 33) (.t 36) (.c (.bool false)))⟩, ⟨(some 2), none, (.mv (.t 37))⟩]) .ret) (.seq (.reg [⟨(some 39), none, (.bin .eql false (.t 8) (.c (.int .i64 4)))⟩, ⟨(some 38), none, (.mv (.t 39))⟩]) (.cond (.t 38) (.seq (.reg [⟨(some 40), none, (.mv (.t 3))⟩, ⟨(some 41), none, (.bin .eql false (.t 40) (.c (.int .i64 1)))⟩, ⟨(some 42), none, (.mv (.t 41))⟩, ⟨(some 43), (some (42, true)), (.faddr 1 (.t 1))⟩, ⟨(some 44), (some (42, true)), (.load true 2 (.t 43))⟩, ⟨(some 45), (some (42, true)), (.call 129 [(.t 44)])⟩, ⟨(some 46), none, (.pick (.t 42) (.t 45) (.c (.bool false)))⟩, ⟨(some 47), none, (.mv (.t 46))⟩, ⟨(some 48), (some (47, true)), (.faddr 3 (.t 1))⟩, ⟨(some 49), (some (47, true)), (.load false 1 (.t 48))⟩, ⟨(some 50), (some (47, true)), (.bin .eql false (.t 49) (.c (.str ⟨#[]⟩)))⟩, ⟨(some 51), none, (.pick (.t 47) (.t 50) (.c (.bool false)))⟩, ⟨(some 2), none, (.mv (.t 51))⟩]) .ret) (.seq (.seq (.reg [⟨(some 53), none, (.bin .eql false (.t 8) (.c (.int .i64 5)))⟩, ⟨(some 52), none, (.mv (.t 53))⟩]) (.cond (.t 52) .skip (.seq (.reg [⟨(some 54), none, (.bin .eql false (.t 8) (.c (.int .i64 6)))⟩, ⟨(some 52), none, (.mv (.t 54))⟩]) (.cond (.t 52) .skip (.reg [⟨(some 55), none, (.bin .eql false (.t 8) (.c (.int .i64 7)))⟩, ⟨(some 52), none, (.mv (.t 55))⟩]))))) (.cond (.t 52) (.seq (.reg [⟨(some 56), none, (.mv (.t 3))⟩, ⟨(some 57), none, (.bin .eql false (.t 56) (.c (.int .i64 2)))⟩, ⟨(some 58), none, (.mv (.t 57))⟩, ⟨(some 59), (some (58, true)), (.faddr 1 (.t 1))⟩, ⟨(some 60), (some (58, true)), (.load true 2 (.t 59))⟩, ⟨(some 61), (some (58, true)), (.call 129 [(.t 60)])⟩, ⟨(some 62), none, (.pick (.t 58) (.t 61) (.c (.bool false)))⟩, ⟨(some 63), none, (.mv (.t 62))⟩, ⟨(some 64), (some (63, true)), (.faddr 3 (.t 1))⟩, ⟨(some 65), (some (63, true)), (.load false 1 (.t 64))⟩, ⟨(some 66), (some (63, true)), (.bin .eql false (.t 65) (.c (.str ⟨#[]⟩)))⟩, ⟨(some 67), none, (.pick (.t 63) (.t 66) (.c (.bool false)))⟩, ⟨(some 2), none, (.mv (.t 67))⟩]) .ret) (.seq (.seq (.reg [⟨(some 69), none, (.bin .eql false (.t 8) (.c (.int .i64 8)))⟩, ⟨(some 68), none, (.mv (.t 69))⟩]) (.cond (.t 68) .skip (.reg [⟨(some 70), none, (.bin .eql false (.t 8) (.c (.int .i64 9)))⟩, ⟨(some 68), none, (.mv (.t 70))⟩]))) (.cond (.t 68) (.seq (.reg [⟨(some 71), none, (.mv (.t 3))⟩, ⟨(some 72), none, (.bin .eql false (.t 71) (.c (.int .i64 1)))⟩, ⟨(some 73), none, (.mv (.t 72))⟩, ⟨(some 74), (some (73, true)), (.faddr 1 (.t 1))⟩, ⟨(some 75), (some (73, true)), (.load true 2 (.t 74))⟩, ⟨(some 76), (some (73, true)), (.call 129 [(.t 75)])⟩, ⟨(some 77), none, (.pick (.t 73) (.t 76) (.c (.bool false)))⟩, ⟨(some 78), none, (.mv (.t 77))⟩, ⟨(some 79), (some (78, true)), (.faddr 3 (.t 1))⟩, ⟨(some 80), (some (78, true)), (.load false 1 (.t 79))⟩, ⟨(some 81), (some (78, true)), (.call 37 [(.t 80)])⟩, ⟨(some 82), none, (.pick (.t 78) (.t 81) (.c (.bool false)))⟩, ⟨(some 2), none, (.mv (.t 82))⟩]) .ret) .skip)))))))))))) (.seq (.reg [⟨(some 2), none, (.mv (.c (.bool false)))⟩]) .ret))))
theorem k_spec_l8Form : codeOf Tryz.prog 97 = some ⟨83, c_spec_l8Form, [(.tmp 2)]⟩ := by kernel_rfl
theorem m_spec_l8Form : modes 97 = ⟨[], .asis, none, false⟩ := by unfold modes; rfl

def c_spec_l8Forms : SC := (.seq (.reg [⟨(some 1), none, (.boxv 34 5 (.t 0))⟩, ⟨(some 2), none, (.mv (.c (.bool false)))⟩]) (.seq (.seq (.reg [⟨(some 4), none, (.load true 5 (.t 1))⟩, ⟨(some 5), none, (.call 97 [(.t 4)])⟩, ⟨(some 6), none, (.un .not (.t 5))⟩]) (.cond (.t 6) (.seq (.reg [⟨(some 2), none, (.mv (.c (.bool false)))⟩]) .ret) .skip)) (.seq (.seq (.reg [⟨(some 3), none, (.mv (.c (.int .i64 0)))⟩]) (.block 0 (.loop [0, 1, 0, 1, 0, 0, 0, 0, 0, 0, 0, 0, 0, 0, 0, 0, 0, 0, 0, 0, 0] (.seq (.seq (.reg [⟨(some 7), none, (.mv (.t 3))⟩, ⟨(some 8), none, (.faddr 4 (.t 1))⟩, ⟨(some 9), none, (.load false 1 (.t 8))⟩, ⟨(some 10), none, (.len false (.t 9))⟩, ⟨(some 11), none, (.bin .lss false (.t 7) (.t 10))⟩]) (.cond (.t 11) .skip (.exit 0))) (.seq (.block 1 (.seq (.reg [⟨(some 14), none, (.faddr 4 (.t 1))⟩, ⟨(some 15), none, (.load false 1 (.t 14))⟩, ⟨(some 16), none, (.mv (.t 3))⟩, ⟨(some 17), none, (.iaddr 5 (.t 15) (.t 16))⟩, ⟨(some 18), none, (.load true 5 (.t 17))⟩, ⟨(some 19), none, (.call 55 [(.t 18)])⟩, ⟨(some 20), none, (.un .not (.t 19))⟩]) (.cond (.t 20) (.seq (.reg [⟨(some 2), none, (.mv (.c (.bool false)))⟩]) .ret) .skip))) (.reg [⟨(some 12), none, (.mv (.t 3))⟩, ⟨(some 13), none, (.bin .add false (.t 12) (.c (.int .i64 1)))⟩, ⟨(some 3), none, (.mv (.t 13))⟩])))))) (.seq (.reg [⟨(some 2), none, (.mv (.c (.bool true)))⟩]) .ret))))
theorem k_spec_l8Forms : codeOf Tryz.prog 55 = some ⟨21, c_spec_l8Forms, [(.tmp 2)]⟩ := by kernel_rfl
theorem m_spec_l8Forms : modes 55 = ⟨[], .asis, none, false⟩ := by unfold modes; rfl

def c_impl_IsValidFormula : SC := (.seq (.reg [⟨(some 1), none, (.boxv 34 5 (.t 0))⟩, ⟨(some 2), none, (.mv (.c (.bool false)))⟩]) (.seq (.reg [⟨(some 3), none, (.load true 5 (.t 1))⟩, ⟨(some 4), none, (.call 58 [(.t 3)])⟩, ⟨(some 5), none, (.bin .leq false (.t 4) (.c (.int .i64 40)))⟩, ⟨(some 6), none, (.mv (.t 5))⟩, ⟨(some 7), (some (6, true)), (.load true 5 (.t 1))⟩, ⟨(some 8), (some (6, true)), (.call 59 [(.t 7)])⟩, ⟨(some 9), none, (.pick (.t 6) (.t 8) (.c (.bool false)))⟩, ⟨(some 2), none, (.mv (.t 9))⟩]) .ret))
theorem k_impl_IsValidFormula : codeOf Tryz.prog 29 = some ⟨10, c_impl_IsValidFormula, [(.tmp 2)]⟩ := by kernel_rfl
theorem m_impl_IsValidFormula : modes 29 = ⟨[], .asis, none, false⟩ := by unfold modes; rfl

def c_spec_l8Good : SC := (.seq (.reg [⟨(some 1), none, (.boxv 34 5 (.t 0))⟩, ⟨(some 2), none, (.mv (.c (.bool false)))⟩]) (.seq (.reg [⟨(some 3), none, (.load true 5 (.t 1))⟩, ⟨(some 4), none, (.call 54 [(.t 3), (.c (.int .i64 40))])⟩, ⟨(some 5), none, (.bin .leq false (.t 4) (.c (.int .i64 40)))⟩, ⟨(some 6), none, (.mv (.t 5))⟩, ⟨(some 7), (some (6, true)), (.load true 5 (.t 1))⟩, ⟨(some 8), (some (6, true)), (.call 55 [(.t 7)])⟩, ⟨(some 9), none, (.pick (.t 6) (.t 8) (.c (.bool false)))⟩, ⟨(some 2), none, (.mv (.t 9))⟩]) .ret))
theorem k_spec_l8Good : codeOf Tryz.prog 26 = some ⟨10, c_spec_l8Good, [(.tmp 2)]⟩ := by kernel_rfl
theorem m_spec_l8Good : modes 26 = ⟨[], .asis, none, false⟩ := by unfold modes; rfl

theorem isQuantifier_E (n : Int) : E 81 [.int .i64 n] [] = some (.bool (dec (n = 8) || dec (n = 9)), []) := by
  cases h1 : dec (n = 8) with
  | true =>
    refine E_walk k_impl_isQuantifier m_impl_isQuantifier (of_decide_eq_true rfl) ?_
    simp (disch := omega) only [c_impl_isQuantifier, go_sem, go_cond, Nat.reduceAdd, Nat.reduceSub, Nat.reduceLT, Nat.reduceLeDiff, Nat.reduceEqDiff, Nat.reduceBEq, Nat.reduceBneDiff, Nat.reduceMul, ↓reduceIte, Int.reduceToNat, reduceCtorEq, Int.reduceNeg, Int.reduceAdd, h1]
  | false =>
    refine E_walk k_impl_isQuantifier m_impl_isQuantifier (of_decide_eq_true rfl) ?_
    simp (disch := omega) only [c_impl_isQuantifier, go_sem, go_cond, Nat.reduceAdd, Nat.reduceSub, Nat.reduceLT, Nat.reduceLeDiff, Nat.reduceEqDiff, Nat.reduceBEq, Nat.reduceBneDiff, Nat.reduceMul, ↓reduceIte, Int.reduceToNat, reduceCtorEq, Int.reduceNeg, Int.reduceAdd, h1]
theorem isBinary_E (n : Int) : E 99 [.int .i64 n] [] = some (.bool (dec (n = 5) || dec (n = 6) || dec (n = 7)), []) := by
  cases h1 : dec (n = 5) <;> cases h2 : dec (n = 6)
  all_goals
    refine E_walk k_impl_isBinary m_impl_isBinary (of_decide_eq_true rfl) ?_
    simp (disch := omega) only [c_impl_isBinary, go_sem, go_cond, Nat.reduceAdd, Nat.reduceSub, Nat.reduceLT, Nat.reduceLeDiff, Nat.reduceEqDiff, Nat.reduceBEq, Nat.reduceBneDiff, Nat.reduceMul, ↓reduceIte, Int.reduceToNat, reduceCtorEq, Int.reduceNeg, Int.reduceAdd, h1, h2]
theorem isZeroTerm_E (x : Tm) : E 101 [x.sv] [] = some (.bool x.isZ, []) := by
  unfold Tm.isZ
  have hl : dec ((x.args.length : Int) = 0) = (x.args.length == 0) := by
    rw [dec_of]
    cases x.args <;> simp <;> omega
  cases h1 : dec (x.name = ⟨#[]⟩) with
  | true =>
    refine E_walk k_impl_isZeroTerm m_impl_isZeroTerm (of_decide_eq_true rfl) ?_
    simp (disch := omega) only [c_impl_isZeroTerm, go_sem, go_cond, Nat.reduceAdd, Nat.reduceSub, Nat.reduceLT, Nat.reduceLeDiff, Nat.reduceEqDiff, Nat.reduceBEq, Nat.reduceBneDiff, Nat.reduceMul, ↓reduceIte, Int.reduceToNat, reduceCtorEq, Int.reduceNeg, Int.reduceAdd, h1]
    try rw [hl]
  | false =>
    refine E_walk k_impl_isZeroTerm m_impl_isZeroTerm (of_decide_eq_true rfl) ?_
    simp (disch := omega) only [c_impl_isZeroTerm, go_sem, go_cond, Nat.reduceAdd, Nat.reduceSub, Nat.reduceLT, Nat.reduceLeDiff, Nat.reduceEqDiff, Nat.reduceBEq, Nat.reduceBneDiff, Nat.reduceMul, ↓reduceIte, Int.reduceToNat, reduceCtorEq, Int.reduceNeg, Int.reduceAdd, h1]
theorem l8None_E (x : Tm) : E 129 [x.sv] [] = some (.bool x.isZ, []) := by
  unfold Tm.isZ
  have hl : dec ((x.args.length : Int) = 0) = (x.args.length == 0) := by
    rw [dec_of]
    cases x.args <;> simp <;> omega
  cases h1 : dec (x.name = ⟨#[]⟩) with
  | true =>
    refine E_walk k_spec_l8None m_spec_l8None (of_decide_eq_true rfl) ?_
    simp (disch := omega) only [c_spec_l8None, go_sem, go_cond, Nat.reduceAdd, Nat.reduceSub, Nat.reduceLT, Nat.reduceLeDiff, Nat.reduceEqDiff, Nat.reduceBEq, Nat.reduceBneDiff, Nat.reduceMul, ↓reduceIte, Int.reduceToNat, reduceCtorEq, Int.reduceNeg, Int.reduceAdd, h1]
    try rw [hl]
  | false =>
    refine E_walk k_spec_l8None m_spec_l8None (of_decide_eq_true rfl) ?_
    simp (disch := omega) only [c_spec_l8None, go_sem, go_cond, Nat.reduceAdd, Nat.reduceSub, Nat.reduceLT, Nat.reduceLeDiff, Nat.reduceEqDiff, Nat.reduceBEq, Nat.reduceBneDiff, Nat.reduceMul, ↓reduceIte, Int.reduceToNat, reduceCtorEq, Int.reduceNeg, Int.reduceAdd, h1]
theorem l8Form_1 (x : Fm) (hn : x.atom.nodes ≤ 1099511627776) (ho : x.op = 1 ∨ x.op = 2) : E 97 [x.sv] [] = some (.bool x.form, []) := by
  have hf : x.form = (x.parts.length == 0 && x.atom.isZ && dec (x.var = ⟨#[]⟩)) := by unfold Fm.form; rcases ho with ho | ho <;> simp [ho]
  rcases ho with ho | ho
  all_goals
    first
      | (have o1 : dec (x.op = 1) = true := dec_t ho)
      | (have o1 : dec (x.op = 1) = false := dec_f (by omega))
    first
      | (have o2 : dec (x.op = 2) = true := dec_t ho)
      | (have o2 : dec (x.op = 2) = false := dec_f (by omega))
    have o3 : dec (x.op = 3) = false := dec_f (by omega)
    have o4 : dec (x.op = 4) = false := dec_f (by omega)
    have o5 : dec (x.op = 5) = false := dec_f (by omega)
    have o6 : dec (x.op = 6) = false := dec_f (by omega)
    have o7 : dec (x.op = 7) = false := dec_f (by omega)
    have o8 : dec (x.op = 8) = false := dec_f (by omega)
    have o9 : dec (x.op = 9) = false := dec_f (by omega)
    have ha := l8None_E x.atom
    have hv := l2Var_E x.var
    rw [hf]
    by_cases hl : x.parts.length = 0
    · have hl2 : dec ((x.parts.length : Int) = 0) = true := dec_t (by omega)
      rw [hl, beq_self_eq_true, Bool.true_and]
      cases hq : x.atom.isZ with
      | true =>
        rw [hq] at ha
        rw [Bool.true_and]
        refine E_walk k_spec_l8Form m_spec_l8Form (of_decide_eq_true rfl) ?_
        simp (disch := omega) only [c_spec_l8Form, go_sem, Nat.reduceAdd, Nat.reduceSub, Nat.reduceLT, Nat.reduceLeDiff, Nat.reduceEqDiff, Nat.reduceBEq, Nat.reduceBneDiff, Nat.reduceMul, ↓reduceIte, Int.reduceToNat, reduceCtorEq, Int.reduceNeg, Int.reduceAdd, o1, o2, o3, o4, o5, o6, o7, o8, o9, hl2, ha, hv, m_spec_l2Atom, m_spec_l8None, m_spec_l2Var]
        repeat ((first | (refine go_condT ?_ ?_; (focus (simp (disch := omega) only [go_sem, Nat.reduceAdd, Nat.reduceSub, Nat.reduceLT, Nat.reduceLeDiff, Nat.reduceEqDiff, Nat.reduceBEq, Nat.reduceBneDiff, Nat.reduceMul, ↓reduceIte, Int.reduceToNat, reduceCtorEq, Int.reduceNeg, Int.reduceAdd, o1, o2, o3, o4, o5, o6, o7, o8, o9, hl2, ha, hv, m_spec_l2Atom, m_spec_l8None, m_spec_l2Var]; done))) | (refine go_condF ?_ ?_; (focus (simp (disch := omega) only [go_sem, Nat.reduceAdd, Nat.reduceSub, Nat.reduceLT, Nat.reduceLeDiff, Nat.reduceEqDiff, Nat.reduceBEq, Nat.reduceBneDiff, Nat.reduceMul, ↓reduceIte, Int.reduceToNat, reduceCtorEq, Int.reduceNeg, Int.reduceAdd, o1, o2, o3, o4, o5, o6, o7, o8, o9, hl2, ha, hv, m_spec_l2Atom, m_spec_l8None, m_spec_l2Var]; done)))); (try simp (disch := omega) only [go_sem, Nat.reduceAdd, Nat.reduceSub, Nat.reduceLT, Nat.reduceLeDiff, Nat.reduceEqDiff, Nat.reduceBEq, Nat.reduceBneDiff, Nat.reduceMul, ↓reduceIte, Int.reduceToNat, reduceCtorEq, Int.reduceNeg, Int.reduceAdd, o1, o2, o3, o4, o5, o6, o7, o8, o9, hl2, ha, hv, m_spec_l2Atom, m_spec_l8None, m_spec_l2Var]))
      | false =>
        rw [hq] at ha
        rw [Bool.false_and]
        refine E_walk k_spec_l8Form m_spec_l8Form (of_decide_eq_true rfl) ?_
        simp (disch := omega) only [c_spec_l8Form, go_sem, Nat.reduceAdd, Nat.reduceSub, Nat.reduceLT, Nat.reduceLeDiff, Nat.reduceEqDiff, Nat.reduceBEq, Nat.reduceBneDiff, Nat.reduceMul, ↓reduceIte, Int.reduceToNat, reduceCtorEq, Int.reduceNeg, Int.reduceAdd, o1, o2, o3, o4, o5, o6, o7, o8, o9, hl2, ha, hv, m_spec_l2Atom, m_spec_l8None, m_spec_l2Var]
        repeat ((first | (refine go_condT ?_ ?_; (focus (simp (disch := omega) only [go_sem, Nat.reduceAdd, Nat.reduceSub, Nat.reduceLT, Nat.reduceLeDiff, Nat.reduceEqDiff, Nat.reduceBEq, Nat.reduceBneDiff, Nat.reduceMul, ↓reduceIte, Int.reduceToNat, reduceCtorEq, Int.reduceNeg, Int.reduceAdd, o1, o2, o3, o4, o5, o6, o7, o8, o9, hl2, ha, hv, m_spec_l2Atom, m_spec_l8None, m_spec_l2Var]; done))) | (refine go_condF ?_ ?_; (focus (simp (disch := omega) only [go_sem, Nat.reduceAdd, Nat.reduceSub, Nat.reduceLT, Nat.reduceLeDiff, Nat.reduceEqDiff, Nat.reduceBEq, Nat.reduceBneDiff, Nat.reduceMul, ↓reduceIte, Int.reduceToNat, reduceCtorEq, Int.reduceNeg, Int.reduceAdd, o1, o2, o3, o4, o5, o6, o7, o8, o9, hl2, ha, hv, m_spec_l2Atom, m_spec_l8None, m_spec_l2Var]; done)))); (try simp (disch := omega) only [go_sem, Nat.reduceAdd, Nat.reduceSub, Nat.reduceLT, Nat.reduceLeDiff, Nat.reduceEqDiff, Nat.reduceBEq, Nat.reduceBneDiff, Nat.reduceMul, ↓reduceIte, Int.reduceToNat, reduceCtorEq, Int.reduceNeg, Int.reduceAdd, o1, o2, o3, o4, o5, o6, o7, o8, o9, hl2, ha, hv, m_spec_l2Atom, m_spec_l8None, m_spec_l2Var]))
    · have hl2 : dec ((x.parts.length : Int) = 0) = false := dec_f (by omega)
      have hl3 : (x.parts.length == 0) = false := by simpa using hl
      rw [hl3, Bool.false_and, Bool.false_and]
      refine E_walk k_spec_l8Form m_spec_l8Form (of_decide_eq_true rfl) ?_
      simp (disch := omega) only [c_spec_l8Form, go_sem, Nat.reduceAdd, Nat.reduceSub, Nat.reduceLT, Nat.reduceLeDiff, Nat.reduceEqDiff, Nat.reduceBEq, Nat.reduceBneDiff, Nat.reduceMul, ↓reduceIte, Int.reduceToNat, reduceCtorEq, Int.reduceNeg, Int.reduceAdd, o1, o2, o3, o4, o5, o6, o7, o8, o9, hl2, ha, hv, m_spec_l2Atom, m_spec_l8None, m_spec_l2Var]
      repeat ((first | (refine go_condT ?_ ?_; (focus (simp (disch := omega) only [go_sem, Nat.reduceAdd, Nat.reduceSub, Nat.reduceLT, Nat.reduceLeDiff, Nat.reduceEqDiff, Nat.reduceBEq, Nat.reduceBneDiff, Nat.reduceMul, ↓reduceIte, Int.reduceToNat, reduceCtorEq, Int.reduceNeg, Int.reduceAdd, o1, o2, o3, o4, o5, o6, o7, o8, o9, hl2, ha, hv, m_spec_l2Atom, m_spec_l8None, m_spec_l2Var]; done))) | (refine go_condF ?_ ?_; (focus (simp (disch := omega) only [go_sem, Nat.reduceAdd, Nat.reduceSub, Nat.reduceLT, Nat.reduceLeDiff, Nat.reduceEqDiff, Nat.reduceBEq, Nat.reduceBneDiff, Nat.reduceMul, ↓reduceIte, Int.reduceToNat, reduceCtorEq, Int.reduceNeg, Int.reduceAdd, o1, o2, o3, o4, o5, o6, o7, o8, o9, hl2, ha, hv, m_spec_l2Atom, m_spec_l8None, m_spec_l2Var]; done)))); (try simp (disch := omega) only [go_sem, Nat.reduceAdd, Nat.reduceSub, Nat.reduceLT, Nat.reduceLeDiff, Nat.reduceEqDiff, Nat.reduceBEq, Nat.reduceBneDiff, Nat.reduceMul, ↓reduceIte, Int.reduceToNat, reduceCtorEq, Int.reduceNeg, Int.reduceAdd, o1, o2, o3, o4, o5, o6, o7, o8, o9, hl2, ha, hv, m_spec_l2Atom, m_spec_l8None, m_spec_l2Var]))
theorem l8Form_3 (x : Fm) (hn : x.atom.nodes ≤ 1099511627776) (ho : x.op = 3) : E 97 [x.sv] [] = some (.bool x.form, []) := by
  have hf : x.form = (x.parts.length == 0 && x.atom.atom && dec (x.var = ⟨#[]⟩)) := by unfold Fm.form; rcases ho with ho <;> simp [ho]
  rcases ho with ho
  all_goals
    have o1 : dec (x.op = 1) = false := dec_f (by omega)
    have o2 : dec (x.op = 2) = false := dec_f (by omega)
    have o3 : dec (x.op = 3) = true := dec_t ho
    have o4 : dec (x.op = 4) = false := dec_f (by omega)
    have o5 : dec (x.op = 5) = false := dec_f (by omega)
    have o6 : dec (x.op = 6) = false := dec_f (by omega)
    have o7 : dec (x.op = 7) = false := dec_f (by omega)
    have o8 : dec (x.op = 8) = false := dec_f (by omega)
    have o9 : dec (x.op = 9) = false := dec_f (by omega)
    have ha := l2Atom_E x.atom (by omega)
    have hv := l2Var_E x.var
    rw [hf]
    by_cases hl : x.parts.length = 0
    · have hl2 : dec ((x.parts.length : Int) = 0) = true := dec_t (by omega)
      rw [hl, beq_self_eq_true, Bool.true_and]
      cases hq : x.atom.atom with
      | true =>
        rw [hq] at ha
        rw [Bool.true_and]
        refine E_walk k_spec_l8Form m_spec_l8Form (of_decide_eq_true rfl) ?_
        simp (disch := omega) only [c_spec_l8Form, go_sem, Nat.reduceAdd, Nat.reduceSub, Nat.reduceLT, Nat.reduceLeDiff, Nat.reduceEqDiff, Nat.reduceBEq, Nat.reduceBneDiff, Nat.reduceMul, ↓reduceIte, Int.reduceToNat, reduceCtorEq, Int.reduceNeg, Int.reduceAdd, o1, o2, o3, o4, o5, o6, o7, o8, o9, hl2, ha, hv, m_spec_l2Atom, m_spec_l8None, m_spec_l2Var]
        repeat ((first | (refine go_condT ?_ ?_; (focus (simp (disch := omega) only [go_sem, Nat.reduceAdd, Nat.reduceSub, Nat.reduceLT, Nat.reduceLeDiff, Nat.reduceEqDiff, Nat.reduceBEq, Nat.reduceBneDiff, Nat.reduceMul, ↓reduceIte, Int.reduceToNat, reduceCtorEq, Int.reduceNeg, Int.reduceAdd, o1, o2, o3, o4, o5, o6, o7, o8, o9, hl2, ha, hv, m_spec_l2Atom, m_spec_l8None, m_spec_l2Var]; done))) | (refine go_condF ?_ ?_; (focus (simp (disch := omega) only [go_sem, Nat.reduceAdd, Nat.reduceSub, Nat.reduceLT, Nat.reduceLeDiff, Nat.reduceEqDiff, Nat.reduceBEq, Nat.reduceBneDiff, Nat.reduceMul, ↓reduceIte, Int.reduceToNat, reduceCtorEq, Int.reduceNeg, Int.reduceAdd, o1, o2, o3, o4, o5, o6, o7, o8, o9, hl2, ha, hv, m_spec_l2Atom, m_spec_l8None, m_spec_l2Var]; done)))); (try simp (disch := omega) only [go_sem, Nat.reduceAdd, Nat.reduceSub, Nat.reduceLT, Nat.reduceLeDiff, Nat.reduceEqDiff, Nat.reduceBEq, Nat.reduceBneDiff, Nat.reduceMul, ↓reduceIte, Int.reduceToNat, reduceCtorEq, Int.reduceNeg, Int.reduceAdd, o1, o2, o3, o4, o5, o6, o7, o8, o9, hl2, ha, hv, m_spec_l2Atom, m_spec_l8None, m_spec_l2Var]))
      | false =>
        rw [hq] at ha
        rw [Bool.false_and]
        refine E_walk k_spec_l8Form m_spec_l8Form (of_decide_eq_true rfl) ?_
        simp (disch := omega) only [c_spec_l8Form, go_sem, Nat.reduceAdd, Nat.reduceSub, Nat.reduceLT, Nat.reduceLeDiff, Nat.reduceEqDiff, Nat.reduceBEq, Nat.reduceBneDiff, Nat.reduceMul, ↓reduceIte, Int.reduceToNat, reduceCtorEq, Int.reduceNeg, Int.reduceAdd, o1, o2, o3, o4, o5, o6, o7, o8, o9, hl2, ha, hv, m_spec_l2Atom, m_spec_l8None, m_spec_l2Var]
        repeat ((first | (refine go_condT ?_ ?_; (focus (simp (disch := omega) only [go_sem, Nat.reduceAdd, Nat.reduceSub, Nat.reduceLT, Nat.reduceLeDiff, Nat.reduceEqDiff, Nat.reduceBEq, Nat.reduceBneDiff, Nat.reduceMul, ↓reduceIte, Int.reduceToNat, reduceCtorEq, Int.reduceNeg, Int.reduceAdd, o1, o2, o3, o4, o5, o6, o7, o8, o9, hl2, ha, hv, m_spec_l2Atom, m_spec_l8None, m_spec_l2Var]; done))) | (refine go_condF ?_ ?_; (focus (simp (disch := omega) only [go_sem, Nat.reduceAdd, Nat.reduceSub, Nat.reduceLT, Nat.reduceLeDiff, Nat.reduceEqDiff, Nat.reduceBEq, Nat.reduceBneDiff, Nat.reduceMul, ↓reduceIte, Int.reduceToNat, reduceCtorEq, Int.reduceNeg, Int.reduceAdd, o1, o2, o3, o4, o5, o6, o7, o8, o9, hl2, ha, hv, m_spec_l2Atom, m_spec_l8None, m_spec_l2Var]; done)))); (try simp (disch := omega) only [go_sem, Nat.reduceAdd, Nat.reduceSub, Nat.reduceLT, Nat.reduceLeDiff, Nat.reduceEqDiff, Nat.reduceBEq, Nat.reduceBneDiff, Nat.reduceMul, ↓reduceIte, Int.reduceToNat, reduceCtorEq, Int.reduceNeg, Int.reduceAdd, o1, o2, o3, o4, o5, o6, o7, o8, o9, hl2, ha, hv, m_spec_l2Atom, m_spec_l8None, m_spec_l2Var]))
    · have hl2 : dec ((x.parts.length : Int) = 0) = false := dec_f (by omega)
      have hl3 : (x.parts.length == 0) = false := by simpa using hl
      rw [hl3, Bool.false_and, Bool.false_and]
      refine E_walk k_spec_l8Form m_spec_l8Form (of_decide_eq_true rfl) ?_
      simp (disch := omega) only [c_spec_l8Form, go_sem, Nat.reduceAdd, Nat.reduceSub, Nat.reduceLT, Nat.reduceLeDiff, Nat.reduceEqDiff, Nat.reduceBEq, Nat.reduceBneDiff, Nat.reduceMul, ↓reduceIte, Int.reduceToNat, reduceCtorEq, Int.reduceNeg, Int.reduceAdd, o1, o2, o3, o4, o5, o6, o7, o8, o9, hl2, ha, hv, m_spec_l2Atom, m_spec_l8None, m_spec_l2Var]
      repeat ((first | (refine go_condT ?_ ?_; (focus (simp (disch := omega) only [go_sem, Nat.reduceAdd, Nat.reduceSub, Nat.reduceLT, Nat.reduceLeDiff, Nat.reduceEqDiff, Nat.reduceBEq, Nat.reduceBneDiff, Nat.reduceMul, ↓reduceIte, Int.reduceToNat, reduceCtorEq, Int.reduceNeg, Int.reduceAdd, o1, o2, o3, o4, o5, o6, o7, o8, o9, hl2, ha, hv, m_spec_l2Atom, m_spec_l8None, m_spec_l2Var]; done))) | (refine go_condF ?_ ?_; (focus (simp (disch := omega) only [go_sem, Nat.reduceAdd, Nat.reduceSub, Nat.reduceLT, Nat.reduceLeDiff, Nat.reduceEqDiff, Nat.reduceBEq, Nat.reduceBneDiff, Nat.reduceMul, ↓reduceIte, Int.reduceToNat, reduceCtorEq, Int.reduceNeg, Int.reduceAdd, o1, o2, o3, o4, o5, o6, o7, o8, o9, hl2, ha, hv, m_spec_l2Atom, m_spec_l8None, m_spec_l2Var]; done)))); (try simp (disch := omega) only [go_sem, Nat.reduceAdd, Nat.reduceSub, Nat.reduceLT, Nat.reduceLeDiff, Nat.reduceEqDiff, Nat.reduceBEq, Nat.reduceBneDiff, Nat.reduceMul, ↓reduceIte, Int.reduceToNat, reduceCtorEq, Int.reduceNeg, Int.reduceAdd, o1, o2, o3, o4, o5, o6, o7, o8, o9, hl2, ha, hv, m_spec_l2Atom, m_spec_l8None, m_spec_l2Var]))
theorem l8Form_4 (x : Fm) (hn : x.atom.nodes ≤ 1099511627776) (ho : x.op = 4) : E 97 [x.sv] [] = some (.bool x.form, []) := by
  have hf : x.form = (x.parts.length == 1 && x.atom.isZ && dec (x.var = ⟨#[]⟩)) := by unfold Fm.form; rcases ho with ho <;> simp [ho]
  rcases ho with ho
  all_goals
    have o1 : dec (x.op = 1) = false := dec_f (by omega)
    have o2 : dec (x.op = 2) = false := dec_f (by omega)
    have o3 : dec (x.op = 3) = false := dec_f (by omega)
    have o4 : dec (x.op = 4) = true := dec_t ho
    have o5 : dec (x.op = 5) = false := dec_f (by omega)
    have o6 : dec (x.op = 6) = false := dec_f (by omega)
    have o7 : dec (x.op = 7) = false := dec_f (by omega)
    have o8 : dec (x.op = 8) = false := dec_f (by omega)
    have o9 : dec (x.op = 9) = false := dec_f (by omega)
    have ha := l8None_E x.atom
    have hv := l2Var_E x.var
    rw [hf]
    by_cases hl : x.parts.length = 1
    · have hl2 : dec ((x.parts.length : Int) = 1) = true := dec_t (by omega)
      rw [hl, beq_self_eq_true, Bool.true_and]
      cases hq : x.atom.isZ with
      | true =>
        rw [hq] at ha
        rw [Bool.true_and]
        refine E_walk k_spec_l8Form m_spec_l8Form (of_decide_eq_true rfl) ?_
        simp (disch := omega) only [c_spec_l8Form, go_sem, Nat.reduceAdd, Nat.reduceSub, Nat.reduceLT, Nat.reduceLeDiff, Nat.reduceEqDiff, Nat.reduceBEq, Nat.reduceBneDiff, Nat.reduceMul, ↓reduceIte, Int.reduceToNat, reduceCtorEq, Int.reduceNeg, Int.reduceAdd, o1, o2, o3, o4, o5, o6, o7, o8, o9, hl2, ha, hv, m_spec_l2Atom, m_spec_l8None, m_spec_l2Var]
        repeat ((first | (refine go_condT ?_ ?_; (focus (simp (disch := omega) only [go_sem, Nat.reduceAdd, Nat.reduceSub, Nat.reduceLT, Nat.reduceLeDiff, Nat.reduceEqDiff, Nat.reduceBEq, Nat.reduceBneDiff, Nat.reduceMul, ↓reduceIte, Int.reduceToNat, reduceCtorEq, Int.reduceNeg, Int.reduceAdd, o1, o2, o3, o4, o5, o6, o7, o8, o9, hl2, ha, hv, m_spec_l2Atom, m_spec_l8None, m_spec_l2Var]; done))) | (refine go_condF ?_ ?_; (focus (simp (disch := omega) only [go_sem, Nat.reduceAdd, Nat.reduceSub, Nat.reduceLT, Nat.reduceLeDiff, Nat.reduceEqDiff, Nat.reduceBEq, Nat.reduceBneDiff, Nat.reduceMul, ↓reduceIte, Int.reduceToNat, reduceCtorEq, Int.reduceNeg, Int.reduceAdd, o1, o2, o3, o4, o5, o6, o7, o8, o9, hl2, ha, hv, m_spec_l2Atom, m_spec_l8None, m_spec_l2Var]; done)))); (try simp (disch := omega) only [go_sem, Nat.reduceAdd, Nat.reduceSub, Nat.reduceLT, Nat.reduceLeDiff, Nat.reduceEqDiff, Nat.reduceBEq, Nat.reduceBneDiff, Nat.reduceMul, ↓reduceIte, Int.reduceToNat, reduceCtorEq, Int.reduceNeg, Int.reduceAdd, o1, o2, o3, o4, o5, o6, o7, o8, o9, hl2, ha, hv, m_spec_l2Atom, m_spec_l8None, m_spec_l2Var]))
      | false =>
        rw [hq] at ha
        rw [Bool.false_and]
        refine E_walk k_spec_l8Form m_spec_l8Form (of_decide_eq_true rfl) ?_
        simp (disch := omega) only [c_spec_l8Form, go_sem, Nat.reduceAdd, Nat.reduceSub, Nat.reduceLT, Nat.reduceLeDiff, Nat.reduceEqDiff, Nat.reduceBEq, Nat.reduceBneDiff, Nat.reduceMul, ↓reduceIte, Int.reduceToNat, reduceCtorEq, Int.reduceNeg, Int.reduceAdd, o1, o2, o3, o4, o5, o6, o7, o8, o9, hl2, ha, hv, m_spec_l2Atom, m_spec_l8None, m_spec_l2Var]
        repeat ((first | (refine go_condT ?_ ?_; (focus (simp (disch := omega) only [go_sem, Nat.reduceAdd, Nat.reduceSub, Nat.reduceLT, Nat.reduceLeDiff, Nat.reduceEqDiff, Nat.reduceBEq, Nat.reduceBneDiff, Nat.reduceMul, ↓reduceIte, Int.reduceToNat, reduceCtorEq, Int.reduceNeg, Int.reduceAdd, o1, o2, o3, o4, o5, o6, o7, o8, o9, hl2, ha, hv, m_spec_l2Atom, m_spec_l8None, m_spec_l2Var]; done))) | (refine go_condF ?_ ?_; (focus (simp (disch := omega) only [go_sem, Nat.reduceAdd, Nat.reduceSub, Nat.reduceLT, Nat.reduceLeDiff, Nat.reduceEqDiff, Nat.reduceBEq, Nat.reduceBneDiff, Nat.reduceMul, ↓reduceIte, Int.reduceToNat, reduceCtorEq, Int.reduceNeg, Int.reduceAdd, o1, o2, o3, o4, o5, o6, o7, o8, o9, hl2, ha, hv, m_spec_l2Atom, m_spec_l8None, m_spec_l2Var]; done)))); (try simp (disch := omega) only [go_sem, Nat.reduceAdd, Nat.reduceSub, Nat.reduceLT, Nat.reduceLeDiff, Nat.reduceEqDiff, Nat.reduceBEq, Nat.reduceBneDiff, Nat.reduceMul, ↓reduceIte, Int.reduceToNat, reduceCtorEq, Int.reduceNeg, Int.reduceAdd, o1, o2, o3, o4, o5, o6, o7, o8, o9, hl2, ha, hv, m_spec_l2Atom, m_spec_l8None, m_spec_l2Var]))
    · have hl2 : dec ((x.parts.length : Int) = 1) = false := dec_f (by omega)
      have hl3 : (x.parts.length == 1) = false := by simpa using hl
      rw [hl3, Bool.false_and, Bool.false_and]
      refine E_walk k_spec_l8Form m_spec_l8Form (of_decide_eq_true rfl) ?_
      simp (disch := omega) only [c_spec_l8Form, go_sem, Nat.reduceAdd, Nat.reduceSub, Nat.reduceLT, Nat.reduceLeDiff, Nat.reduceEqDiff, Nat.reduceBEq, Nat.reduceBneDiff, Nat.reduceMul, ↓reduceIte, Int.reduceToNat, reduceCtorEq, Int.reduceNeg, Int.reduceAdd, o1, o2, o3, o4, o5, o6, o7, o8, o9, hl2, ha, hv, m_spec_l2Atom, m_spec_l8None, m_spec_l2Var]
      repeat ((first | (refine go_condT ?_ ?_; (focus (simp (disch := omega) only [go_sem, Nat.reduceAdd, Nat.reduceSub, Nat.reduceLT, Nat.reduceLeDiff, Nat.reduceEqDiff, Nat.reduceBEq, Nat.reduceBneDiff, Nat.reduceMul, ↓reduceIte, Int.reduceToNat, reduceCtorEq, Int.reduceNeg, Int.reduceAdd, o1, o2, o3, o4, o5, o6, o7, o8, o9, hl2, ha, hv, m_spec_l2Atom, m_spec_l8None, m_spec_l2Var]; done))) | (refine go_condF ?_ ?_; (focus (simp (disch := omega) only [go_sem, Nat.reduceAdd, Nat.reduceSub, Nat.reduceLT, Nat.reduceLeDiff, Nat.reduceEqDiff, Nat.reduceBEq, Nat.reduceBneDiff, Nat.reduceMul, ↓reduceIte, Int.reduceToNat, reduceCtorEq, Int.reduceNeg, Int.reduceAdd, o1, o2, o3, o4, o5, o6, o7, o8, o9, hl2, ha, hv, m_spec_l2Atom, m_spec_l8None, m_spec_l2Var]; done)))); (try simp (disch := omega) only [go_sem, Nat.reduceAdd, Nat.reduceSub, Nat.reduceLT, Nat.reduceLeDiff, Nat.reduceEqDiff, Nat.reduceBEq, Nat.reduceBneDiff, Nat.reduceMul, ↓reduceIte, Int.reduceToNat, reduceCtorEq, Int.reduceNeg, Int.reduceAdd, o1, o2, o3, o4, o5, o6, o7, o8, o9, hl2, ha, hv, m_spec_l2Atom, m_spec_l8None, m_spec_l2Var]))
theorem l8Form_5 (x : Fm) (hn : x.atom.nodes ≤ 1099511627776) (ho : x.op = 5 ∨ x.op = 6 ∨ x.op = 7) : E 97 [x.sv] [] = some (.bool x.form, []) := by
  have hf : x.form = (x.parts.length == 2 && x.atom.isZ && dec (x.var = ⟨#[]⟩)) := by unfold Fm.form; rcases ho with ho | ho | ho <;> simp [ho]
  rcases ho with ho | ho | ho
  all_goals
    have o1 : dec (x.op = 1) = false := dec_f (by omega)
    have o2 : dec (x.op = 2) = false := dec_f (by omega)
    have o3 : dec (x.op = 3) = false := dec_f (by omega)
    have o4 : dec (x.op = 4) = false := dec_f (by omega)
    first
      | (have o5 : dec (x.op = 5) = true := dec_t ho)
      | (have o5 : dec (x.op = 5) = false := dec_f (by omega))
    first
      | (have o6 : dec (x.op = 6) = true := dec_t ho)
      | (have o6 : dec (x.op = 6) = false := dec_f (by omega))
    first
      | (have o7 : dec (x.op = 7) = true := dec_t ho)
      | (have o7 : dec (x.op = 7) = false := dec_f (by omega))
    have o8 : dec (x.op = 8) = false := dec_f (by omega)
    have o9 : dec (x.op = 9) = false := dec_f (by omega)
    have ha := l8None_E x.atom
    have hv := l2Var_E x.var
    rw [hf]
    by_cases hl : x.parts.length = 2
    · have hl2 : dec ((x.parts.length : Int) = 2) = true := dec_t (by omega)
      rw [hl, beq_self_eq_true, Bool.true_and]
      cases hq : x.atom.isZ with
      | true =>
        rw [hq] at ha
        rw [Bool.true_and]
        refine E_walk k_spec_l8Form m_spec_l8Form (of_decide_eq_true rfl) ?_
        simp (disch := omega) only [c_spec_l8Form, go_sem, Nat.reduceAdd, Nat.reduceSub, Nat.reduceLT, Nat.reduceLeDiff, Nat.reduceEqDiff, Nat.reduceBEq, Nat.reduceBneDiff, Nat.reduceMul, ↓reduceIte, Int.reduceToNat, reduceCtorEq, Int.reduceNeg, Int.reduceAdd, o1, o2, o3, o4, o5, o6, o7, o8, o9, hl2, ha, hv, m_spec_l2Atom, m_spec_l8None, m_spec_l2Var]
        repeat ((first | (refine go_condT ?_ ?_; (focus (simp (disch := omega) only [go_sem, Nat.reduceAdd, Nat.reduceSub, Nat.reduceLT, Nat.reduceLeDiff, Nat.reduceEqDiff, Nat.reduceBEq, Nat.reduceBneDiff, Nat.reduceMul, ↓reduceIte, Int.reduceToNat, reduceCtorEq, Int.reduceNeg, Int.reduceAdd, o1, o2, o3, o4, o5, o6, o7, o8, o9, hl2, ha, hv, m_spec_l2Atom, m_spec_l8None, m_spec_l2Var]; done))) | (refine go_condF ?_ ?_; (focus (simp (disch := omega) only [go_sem, Nat.reduceAdd, Nat.reduceSub, Nat.reduceLT, Nat.reduceLeDiff, Nat.reduceEqDiff, Nat.reduceBEq, Nat.reduceBneDiff, Nat.reduceMul, ↓reduceIte, Int.reduceToNat, reduceCtorEq, Int.reduceNeg, Int.reduceAdd, o1, o2, o3, o4, o5, o6, o7, o8, o9, hl2, ha, hv, m_spec_l2Atom, m_spec_l8None, m_spec_l2Var]; done)))); (try simp (disch := omega) only [go_sem, Nat.reduceAdd, Nat.reduceSub, Nat.reduceLT, Nat.reduceLeDiff, Nat.reduceEqDiff, Nat.reduceBEq, Nat.reduceBneDiff, Nat.reduceMul, ↓reduceIte, Int.reduceToNat, reduceCtorEq, Int.reduceNeg, Int.reduceAdd, o1, o2, o3, o4, o5, o6, o7, o8, o9, hl2, ha, hv, m_spec_l2Atom, m_spec_l8None, m_spec_l2Var]))
      | false =>
        rw [hq] at ha
        rw [Bool.false_and]
        refine E_walk k_spec_l8Form m_spec_l8Form (of_decide_eq_true rfl) ?_
        simp (disch := omega) only [c_spec_l8Form, go_sem, Nat.reduceAdd, Nat.reduceSub, Nat.reduceLT, Nat.reduceLeDiff, Nat.reduceEqDiff, Nat.reduceBEq, Nat.reduceBneDiff, Nat.reduceMul, ↓reduceIte, Int.reduceToNat, reduceCtorEq, Int.reduceNeg, Int.reduceAdd, o1, o2, o3, o4, o5, o6, o7, o8, o9, hl2, ha, hv, m_spec_l2Atom, m_spec_l8None, m_spec_l2Var]
        repeat ((first | (refine go_condT ?_ ?_; (focus (simp (disch := omega) only [go_sem, Nat.reduceAdd, Nat.reduceSub, Nat.reduceLT, Nat.reduceLeDiff, Nat.reduceEqDiff, Nat.reduceBEq, Nat.reduceBneDiff, Nat.reduceMul, ↓reduceIte, Int.reduceToNat, reduceCtorEq, Int.reduceNeg, Int.reduceAdd, o1, o2, o3, o4, o5, o6, o7, o8, o9, hl2, ha, hv, m_spec_l2Atom, m_spec_l8None, m_spec_l2Var]; done))) | (refine go_condF ?_ ?_; (focus (simp (disch := omega) only [go_sem, Nat.reduceAdd, Nat.reduceSub, Nat.reduceLT, Nat.reduceLeDiff, Nat.reduceEqDiff, Nat.reduceBEq, Nat.reduceBneDiff, Nat.reduceMul, ↓reduceIte, Int.reduceToNat, reduceCtorEq, Int.reduceNeg, Int.reduceAdd, o1, o2, o3, o4, o5, o6, o7, o8, o9, hl2, ha, hv, m_spec_l2Atom, m_spec_l8None, m_spec_l2Var]; done)))); (try simp (disch := omega) only [go_sem, Nat.reduceAdd, Nat.reduceSub, Nat.reduceLT, Nat.reduceLeDiff, Nat.reduceEqDiff, Nat.reduceBEq, Nat.reduceBneDiff, Nat.reduceMul, ↓reduceIte, Int.reduceToNat, reduceCtorEq, Int.reduceNeg, Int.reduceAdd, o1, o2, o3, o4, o5, o6, o7, o8, o9, hl2, ha, hv, m_spec_l2Atom, m_spec_l8None, m_spec_l2Var]))
    · have hl2 : dec ((x.parts.length : Int) = 2) = false := dec_f (by omega)
      have hl3 : (x.parts.length == 2) = false := by simpa using hl
      rw [hl3, Bool.false_and, Bool.false_and]
      refine E_walk k_spec_l8Form m_spec_l8Form (of_decide_eq_true rfl) ?_
      simp (disch := omega) only [c_spec_l8Form, go_sem, Nat.reduceAdd, Nat.reduceSub, Nat.reduceLT, Nat.reduceLeDiff, Nat.reduceEqDiff, Nat.reduceBEq, Nat.reduceBneDiff, Nat.reduceMul, ↓reduceIte, Int.reduceToNat, reduceCtorEq, Int.reduceNeg, Int.reduceAdd, o1, o2, o3, o4, o5, o6, o7, o8, o9, hl2, ha, hv, m_spec_l2Atom, m_spec_l8None, m_spec_l2Var]
      repeat ((first | (refine go_condT ?_ ?_; (focus (simp (disch := omega) only [go_sem, Nat.reduceAdd, Nat.reduceSub, Nat.reduceLT, Nat.reduceLeDiff, Nat.reduceEqDiff, Nat.reduceBEq, Nat.reduceBneDiff, Nat.reduceMul, ↓reduceIte, Int.reduceToNat, reduceCtorEq, Int.reduceNeg, Int.reduceAdd, o1, o2, o3, o4, o5, o6, o7, o8, o9, hl2, ha, hv, m_spec_l2Atom, m_spec_l8None, m_spec_l2Var]; done))) | (refine go_condF ?_ ?_; (focus (simp (disch := omega) only [go_sem, Nat.reduceAdd, Nat.reduceSub, Nat.reduceLT, Nat.reduceLeDiff, Nat.reduceEqDiff, Nat.reduceBEq, Nat.reduceBneDiff, Nat.reduceMul, ↓reduceIte, Int.reduceToNat, reduceCtorEq, Int.reduceNeg, Int.reduceAdd, o1, o2, o3, o4, o5, o6, o7, o8, o9, hl2, ha, hv, m_spec_l2Atom, m_spec_l8None, m_spec_l2Var]; done)))); (try simp (disch := omega) only [go_sem, Nat.reduceAdd, Nat.reduceSub, Nat.reduceLT, Nat.reduceLeDiff, Nat.reduceEqDiff, Nat.reduceBEq, Nat.reduceBneDiff, Nat.reduceMul, ↓reduceIte, Int.reduceToNat, reduceCtorEq, Int.reduceNeg, Int.reduceAdd, o1, o2, o3, o4, o5, o6, o7, o8, o9, hl2, ha, hv, m_spec_l2Atom, m_spec_l8None, m_spec_l2Var]))
theorem l8Form_8 (x : Fm) (hn : x.atom.nodes ≤ 1099511627776) (ho : x.op = 8 ∨ x.op = 9) : E 97 [x.sv] [] = some (.bool x.form, []) := by
  have hf : x.form = (x.parts.length == 1 && x.atom.isZ && varB x.var) := by unfold Fm.form; rcases ho with ho | ho <;> simp [ho]
  rcases ho with ho | ho
  all_goals
    have o1 : dec (x.op = 1) = false := dec_f (by omega)
    have o2 : dec (x.op = 2) = false := dec_f (by omega)
    have o3 : dec (x.op = 3) = false := dec_f (by omega)
    have o4 : dec (x.op = 4) = false := dec_f (by omega)
    have o5 : dec (x.op = 5) = false := dec_f (by omega)
    have o6 : dec (x.op = 6) = false := dec_f (by omega)
    have o7 : dec (x.op = 7) = false := dec_f (by omega)
    first
      | (have o8 : dec (x.op = 8) = true := dec_t ho)
      | (have o8 : dec (x.op = 8) = false := dec_f (by omega))
    first
      | (have o9 : dec (x.op = 9) = true := dec_t ho)
      | (have o9 : dec (x.op = 9) = false := dec_f (by omega))
    have ha := l8None_E x.atom
    have hv := l2Var_E x.var
    rw [hf]
    by_cases hl : x.parts.length = 1
    · have hl2 : dec ((x.parts.length : Int) = 1) = true := dec_t (by omega)
      rw [hl, beq_self_eq_true, Bool.true_and]
      cases hq : x.atom.isZ with
      | true =>
        rw [hq] at ha
        rw [Bool.true_and]
        refine E_walk k_spec_l8Form m_spec_l8Form (of_decide_eq_true rfl) ?_
        simp (disch := omega) only [c_spec_l8Form, go_sem, Nat.reduceAdd, Nat.reduceSub, Nat.reduceLT, Nat.reduceLeDiff, Nat.reduceEqDiff, Nat.reduceBEq, Nat.reduceBneDiff, Nat.reduceMul, ↓reduceIte, Int.reduceToNat, reduceCtorEq, Int.reduceNeg, Int.reduceAdd, o1, o2, o3, o4, o5, o6, o7, o8, o9, hl2, ha, hv, m_spec_l2Atom, m_spec_l8None, m_spec_l2Var]
        repeat ((first | (refine go_condT ?_ ?_; (focus (simp (disch := omega) only [go_sem, Nat.reduceAdd, Nat.reduceSub, Nat.reduceLT, Nat.reduceLeDiff, Nat.reduceEqDiff, Nat.reduceBEq, Nat.reduceBneDiff, Nat.reduceMul, ↓reduceIte, Int.reduceToNat, reduceCtorEq, Int.reduceNeg, Int.reduceAdd, o1, o2, o3, o4, o5, o6, o7, o8, o9, hl2, ha, hv, m_spec_l2Atom, m_spec_l8None, m_spec_l2Var]; done))) | (refine go_condF ?_ ?_; (focus (simp (disch := omega) only [go_sem, Nat.reduceAdd, Nat.reduceSub, Nat.reduceLT, Nat.reduceLeDiff, Nat.reduceEqDiff, Nat.reduceBEq, Nat.reduceBneDiff, Nat.reduceMul, ↓reduceIte, Int.reduceToNat, reduceCtorEq, Int.reduceNeg, Int.reduceAdd, o1, o2, o3, o4, o5, o6, o7, o8, o9, hl2, ha, hv, m_spec_l2Atom, m_spec_l8None, m_spec_l2Var]; done)))); (try simp (disch := omega) only [go_sem, Nat.reduceAdd, Nat.reduceSub, Nat.reduceLT, Nat.reduceLeDiff, Nat.reduceEqDiff, Nat.reduceBEq, Nat.reduceBneDiff, Nat.reduceMul, ↓reduceIte, Int.reduceToNat, reduceCtorEq, Int.reduceNeg, Int.reduceAdd, o1, o2, o3, o4, o5, o6, o7, o8, o9, hl2, ha, hv, m_spec_l2Atom, m_spec_l8None, m_spec_l2Var]))
      | false =>
        rw [hq] at ha
        rw [Bool.false_and]
        refine E_walk k_spec_l8Form m_spec_l8Form (of_decide_eq_true rfl) ?_
        simp (disch := omega) only [c_spec_l8Form, go_sem, Nat.reduceAdd, Nat.reduceSub, Nat.reduceLT, Nat.reduceLeDiff, Nat.reduceEqDiff, Nat.reduceBEq, Nat.reduceBneDiff, Nat.reduceMul, ↓reduceIte, Int.reduceToNat, reduceCtorEq, Int.reduceNeg, Int.reduceAdd, o1, o2, o3, o4, o5, o6, o7, o8, o9, hl2, ha, hv, m_spec_l2Atom, m_spec_l8None, m_spec_l2Var]
        repeat ((first | (refine go_condT ?_ ?_; (focus (simp (disch := omega) only [go_sem, Nat.reduceAdd, Nat.reduceSub, Nat.reduceLT, Nat.reduceLeDiff, Nat.reduceEqDiff, Nat.reduceBEq, Nat.reduceBneDiff, Nat.reduceMul, ↓reduceIte, Int.reduceToNat, reduceCtorEq, Int.reduceNeg, Int.reduceAdd, o1, o2, o3, o4, o5, o6, o7, o8, o9, hl2, ha, hv, m_spec_l2Atom, m_spec_l8None, m_spec_l2Var]; done))) | (refine go_condF ?_ ?_; (focus (simp (disch := omega) only [go_sem, Nat.reduceAdd, Nat.reduceSub, Nat.reduceLT, Nat.reduceLeDiff, Nat.reduceEqDiff, Nat.reduceBEq, Nat.reduceBneDiff, Nat.reduceMul, ↓reduceIte, Int.reduceToNat, reduceCtorEq, Int.reduceNeg, Int.reduceAdd, o1, o2, o3, o4, o5, o6, o7, o8, o9, hl2, ha, hv, m_spec_l2Atom, m_spec_l8None, m_spec_l2Var]; done)))); (try simp (disch := omega) only [go_sem, Nat.reduceAdd, Nat.reduceSub, Nat.reduceLT, Nat.reduceLeDiff, Nat.reduceEqDiff, Nat.reduceBEq, Nat.reduceBneDiff, Nat.reduceMul, ↓reduceIte, Int.reduceToNat, reduceCtorEq, Int.reduceNeg, Int.reduceAdd, o1, o2, o3, o4, o5, o6, o7, o8, o9, hl2, ha, hv, m_spec_l2Atom, m_spec_l8None, m_spec_l2Var]))
    · have hl2 : dec ((x.parts.length : Int) = 1) = false := dec_f (by omega)
      have hl3 : (x.parts.length == 1) = false := by simpa using hl
      rw [hl3, Bool.false_and, Bool.false_and]
      refine E_walk k_spec_l8Form m_spec_l8Form (of_decide_eq_true rfl) ?_
      simp (disch := omega) only [c_spec_l8Form, go_sem, Nat.reduceAdd, Nat.reduceSub, Nat.reduceLT, Nat.reduceLeDiff, Nat.reduceEqDiff, Nat.reduceBEq, Nat.reduceBneDiff, Nat.reduceMul, ↓reduceIte, Int.reduceToNat, reduceCtorEq, Int.reduceNeg, Int.reduceAdd, o1, o2, o3, o4, o5, o6, o7, o8, o9, hl2, ha, hv, m_spec_l2Atom, m_spec_l8None, m_spec_l2Var]
      repeat ((first | (refine go_condT ?_ ?_; (focus (simp (disch := omega) only [go_sem, Nat.reduceAdd, Nat.reduceSub, Nat.reduceLT, Nat.reduceLeDiff, Nat.reduceEqDiff, Nat.reduceBEq, Nat.reduceBneDiff, Nat.reduceMul, ↓reduceIte, Int.reduceToNat, reduceCtorEq, Int.reduceNeg, Int.reduceAdd, o1, o2, o3, o4, o5, o6, o7, o8, o9, hl2, ha, hv, m_spec_l2Atom, m_spec_l8None, m_spec_l2Var]; done))) | (refine go_condF ?_ ?_; (focus (simp (disch := omega) only [go_sem, Nat.reduceAdd, Nat.reduceSub, Nat.reduceLT, Nat.reduceLeDiff, Nat.reduceEqDiff, Nat.reduceBEq, Nat.reduceBneDiff, Nat.reduceMul, ↓reduceIte, Int.reduceToNat, reduceCtorEq, Int.reduceNeg, Int.reduceAdd, o1, o2, o3, o4, o5, o6, o7, o8, o9, hl2, ha, hv, m_spec_l2Atom, m_spec_l8None, m_spec_l2Var]; done)))); (try simp (disch := omega) only [go_sem, Nat.reduceAdd, Nat.reduceSub, Nat.reduceLT, Nat.reduceLeDiff, Nat.reduceEqDiff, Nat.reduceBEq, Nat.reduceBneDiff, Nat.reduceMul, ↓reduceIte, Int.reduceToNat, reduceCtorEq, Int.reduceNeg, Int.reduceAdd, o1, o2, o3, o4, o5, o6, o7, o8, o9, hl2, ha, hv, m_spec_l2Atom, m_spec_l8None, m_spec_l2Var]))
theorem l8Form_E (x : Fm) (hn : x.atom.nodes ≤ 1099511627776) : E 97 [x.sv] [] = some (.bool x.form, []) := by
  rcases op_cases x.op with h | h | h | h | h | h | h | h | h | h
  · exact l8Form_1 x hn (.inl h)
  · exact l8Form_1 x hn (.inr h)
  · exact l8Form_3 x hn h
  · exact l8Form_4 x hn h
  · exact l8Form_5 x hn (.inl h)
  · exact l8Form_5 x hn (.inr (.inl h))
  · exact l8Form_5 x hn (.inr (.inr h))
  · exact l8Form_8 x hn (.inl h)
  · exact l8Form_8 x hn (.inr h)
  · obtain ⟨h1, h2, h3, h4, h5, h6, h7, h8, h9⟩ := h
    have hf : x.form = false := by unfold Fm.form; simp [h1, h2, h3, h4, h5, h6, h7, h8, h9]
    have o1 := dec_f h1
    have o2 := dec_f h2
    have o3 := dec_f h3
    have o4 := dec_f h4
    have o5 := dec_f h5
    have o6 := dec_f h6
    have o7 := dec_f h7
    have o8 := dec_f h8
    have o9 := dec_f h9
    rw [hf]
    refine E_walk k_spec_l8Form m_spec_l8Form (of_decide_eq_true rfl) ?_
    simp (disch := omega) only [c_spec_l8Form, go_sem, Nat.reduceAdd, Nat.reduceSub, Nat.reduceLT, Nat.reduceLeDiff, Nat.reduceEqDiff, Nat.reduceBEq, Nat.reduceBneDiff, Nat.reduceMul, ↓reduceIte, Int.reduceToNat, reduceCtorEq, Int.reduceNeg, Int.reduceAdd, o1, o2, o3, o4, o5, o6, o7, o8, o9]
    repeat ((first | (refine go_condT ?_ ?_; (focus (simp (disch := omega) only [go_sem, Nat.reduceAdd, Nat.reduceSub, Nat.reduceLT, Nat.reduceLeDiff, Nat.reduceEqDiff, Nat.reduceBEq, Nat.reduceBneDiff, Nat.reduceMul, ↓reduceIte, Int.reduceToNat, reduceCtorEq, Int.reduceNeg, Int.reduceAdd, o1, o2, o3, o4, o5, o6, o7, o8, o9]; done))) | (refine go_condF ?_ ?_; (focus (simp (disch := omega) only [go_sem, Nat.reduceAdd, Nat.reduceSub, Nat.reduceLT, Nat.reduceLeDiff, Nat.reduceEqDiff, Nat.reduceBEq, Nat.reduceBneDiff, Nat.reduceMul, ↓reduceIte, Int.reduceToNat, reduceCtorEq, Int.reduceNeg, Int.reduceAdd, o1, o2, o3, o4, o5, o6, o7, o8, o9]; done)))); (try simp (disch := omega) only [go_sem, Nat.reduceAdd, Nat.reduceSub, Nat.reduceLT, Nat.reduceLeDiff, Nat.reduceEqDiff, Nat.reduceBEq, Nat.reduceBneDiff, Nat.reduceMul, ↓reduceIte, Int.reduceToNat, reduceCtorEq, Int.reduceNeg, Int.reduceAdd, o1, o2, o3, o4, o5, o6, o7, o8, o9]))
set_option maxHeartbeats 1000000 in
theorem l8Forms_of (x : Fm) (ht : x.tame) (hn : x.nodes ≤ 1099511627776) (ih : ∀ y ∈ x.parts, E 55 [y.sv] [] = some (.bool y.forms, [])) : E 55 [x.sv] [] = some (.bool x.forms, []) := by
  have hl := Fm.length_le x.parts
  have hx := Fm.nodes_eq x
  have hf := l8Form_E x (Fm.tame_at ht)
  rw [Fm.forms_eq]
  cases hq : x.form with
  | false =>
    rw [hq] at hf
    rw [Bool.false_and]
    refine E_walk k_spec_l8Forms m_spec_l8Forms (of_decide_eq_true rfl) ?_
    simp (disch := omega) only [c_spec_l8Forms, go_sem, go_cond, Nat.reduceAdd, Nat.reduceSub, Nat.reduceLT, Nat.reduceLeDiff, Nat.reduceEqDiff, Nat.reduceBEq, Nat.reduceBneDiff, Nat.reduceMul, ↓reduceIte, Int.reduceToNat, reduceCtorEq, Int.reduceNeg, Int.reduceAdd, hf, m_spec_l8Form]
  | true =>
    rw [hq] at hf
    rw [Bool.true_and]
    refine E_walk k_spec_l8Forms m_spec_l8Forms (of_decide_eq_true rfl) ?_
    simp (disch := omega) only [c_spec_l8Forms, go_sem, go_cond, Nat.reduceAdd, Nat.reduceSub, Nat.reduceLT, Nat.reduceLeDiff, Nat.reduceEqDiff, Nat.reduceBEq, Nat.reduceBneDiff, Nat.reduceMul, ↓reduceIte, Int.reduceToNat, reduceCtorEq, Int.reduceNeg, Int.reduceAdd, hf, m_spec_l8Form]
    refine go_loop (α := Int) (fun a => ⟨slots 21 0 [(1, .ptr 0 0), (3, .int .i64 a)], [.box 34 [.int .i64 x.op, .str x.atom.name, .arr (x.atom.args.map Tm.d), .str x.var, .arr (x.parts.map Fm.d)]]⟩) (fun a => ∃ k : Nat, a = k ∧ k ≤ (x.parts).length ∧ Fm.formS (x.parts.drop k) = Fm.formS x.parts) (fun a => (x.parts).length - (a).toNat) 0 ⟨0, rfl, Nat.zero_le _, by rw [List.drop_zero]⟩ (by simp (disch := omega) only [go_sem, go_cond, Nat.reduceAdd, Nat.reduceSub, Nat.reduceLT, Nat.reduceLeDiff, Nat.reduceEqDiff, Nat.reduceBEq, Nat.reduceBneDiff, Nat.reduceMul, ↓reduceIte, Int.reduceToNat, reduceCtorEq, Int.reduceNeg, Int.reduceAdd]) ?_
    rintro i ⟨k, hi, hk, hR⟩
    have hni : i.toNat = k := by omega
    have hni1 : (i + 1).toNat = k + 1 := by omega
    rcases Nat.lt_or_ge k (x.parts).length with hlt | hge
    · have hg := get_at Fm.d hlt
      rw [Fm.d_eq] at hg
      have hc := ih x.parts[k] (List.getElem_mem hlt)
      rw [List.drop_eq_getElem_cons hlt, Fm.formS] at hR
      cases hp : x.parts[k].forms with
      | true =>
        rw [hp] at hc hR
        rw [Bool.true_and] at hR
        simp (disch := omega) only [go_sem, go_cond, Nat.reduceAdd, Nat.reduceSub, Nat.reduceLT, Nat.reduceLeDiff, Nat.reduceEqDiff, Nat.reduceBEq, Nat.reduceBneDiff, Nat.reduceMul, ↓reduceIte, Int.reduceToNat, reduceCtorEq, Int.reduceNeg, Int.reduceAdd, hni, hg, hc, m_spec_l8Forms]
        exact ⟨i + 1, ⟨k + 1, by omega, hlt, hR⟩, by omega, by first | trivial | rfl⟩
      | false =>
        rw [hp] at hc hR
        rw [Bool.false_and] at hR
        simp (disch := omega) only [go_sem, go_cond, Nat.reduceAdd, Nat.reduceSub, Nat.reduceLT, Nat.reduceLeDiff, Nat.reduceEqDiff, Nat.reduceBEq, Nat.reduceBneDiff, Nat.reduceMul, ↓reduceIte, Int.reduceToNat, reduceCtorEq, Int.reduceNeg, Int.reduceAdd, hni, hg, hc, m_spec_l8Forms]
        exact hR
    · rw [List.drop_eq_nil_of_le hge, Fm.formS] at hR
      simp (disch := omega) only [go_sem, go_cond, Nat.reduceAdd, Nat.reduceSub, Nat.reduceLT, Nat.reduceLeDiff, Nat.reduceEqDiff, Nat.reduceBEq, Nat.reduceBneDiff, Nat.reduceMul, ↓reduceIte, Int.reduceToNat, reduceCtorEq, Int.reduceNeg, Int.reduceAdd, hni]
      exact hR
theorem l8Forms_E (x : Fm) (ht : x.tame) (hn : x.nodes ≤ 1099511627776) : E 55 [x.sv] [] = some (.bool x.forms, []) :=
  l8Forms_of x ht hn fun y hy => l8Forms_E y (Fm.tame_part ht hy) (by have := Fm.nodes_mem hy; have := Fm.nodes_eq x; omega)
termination_by SizeOf.sizeOf x
decreasing_by exact Fm.lt_of_mem hy
set_option maxHeartbeats 1000000 in
theorem hasForm_1 (x : Fm) (hn : x.atom.nodes ≤ 1099511627776) (hl0 : x.parts.length ≤ 1099511627776) (ho : x.op = 1 ∨ x.op = 2) (h2 : E 102 [.arr (x.parts.map Fm.d), .fn 103 []] [] = some (.bool (x.parts.any fun y => !y.forms), [])) : E 59 [x.sv] [] = some (.bool x.forms, []) := by
  have hf : x.form = (x.parts.length == 0 && x.atom.isZ && dec (x.var = ⟨#[]⟩)) := by unfold Fm.form; rcases ho with ho | ho <;> simp [ho]
  rcases ho with ho | ho
  all_goals
    first
      | (have o1 : dec (x.op = 1) = true := dec_t ho)
      | (have o1 : dec (x.op = 1) = false := dec_f (by omega))
    first
      | (have o2 : dec (x.op = 2) = true := dec_t ho)
      | (have o2 : dec (x.op = 2) = false := dec_f (by omega))
    have o3 : dec (x.op = 3) = false := dec_f (by omega)
    have o4 : dec (x.op = 4) = false := dec_f (by omega)
    have o5 : dec (x.op = 5) = false := dec_f (by omega)
    have o6 : dec (x.op = 6) = false := dec_f (by omega)
    have o7 : dec (x.op = 7) = false := dec_f (by omega)
    have o8 : dec (x.op = 8) = false := dec_f (by omega)
    have o9 : dec (x.op = 9) = false := dec_f (by omega)
    have ha := isZeroTerm_E x.atom
    have hv := isVariable_E x.var
    have hb := isBinary_E x.op
    have hu := isQuantifier_E x.op
    rw [o5, o6, o7] at hb
    rw [o8, o9] at hu
    rw [Fm.forms_eq, hf, ← Fm.any_not]
    by_cases hl : x.parts.length = 0
    · have hl2 : dec ((x.parts.length : Int) = 0) = true := dec_t (by omega)
      rw [hl, beq_self_eq_true, Bool.true_and]
      cases hw : dec (x.var = ⟨#[]⟩) with
      | false =>
        try rw [hw] at hv
        rw [Bool.and_false, Bool.false_and]
        refine E_walk k_impl_hasForm m_impl_hasForm (of_decide_eq_true rfl) ?_
        simp (disch := omega) only [c_impl_hasForm, go_sem, Nat.reduceAdd, Nat.reduceSub, Nat.reduceLT, Nat.reduceLeDiff, Nat.reduceEqDiff, Nat.reduceBEq, Nat.reduceBneDiff, Nat.reduceMul, ↓reduceIte, Int.reduceToNat, reduceCtorEq, Int.reduceNeg, Int.reduceAdd, o1, o2, o3, o4, o5, o6, o7, o8, o9, hl2, ha, hv, hb, hu, hw, h2, m_impl_IsValidAtom, m_impl_isZeroTerm, m_impl_isVariable, m_impl_isQuantifier, m_impl_isBinary, m_slices_ContainsFunc_impl_Formula_impl_Formula]
        repeat ((first | (refine go_condT ?_ ?_; (focus (simp (disch := omega) only [go_sem, Nat.reduceAdd, Nat.reduceSub, Nat.reduceLT, Nat.reduceLeDiff, Nat.reduceEqDiff, Nat.reduceBEq, Nat.reduceBneDiff, Nat.reduceMul, ↓reduceIte, Int.reduceToNat, reduceCtorEq, Int.reduceNeg, Int.reduceAdd, o1, o2, o3, o4, o5, o6, o7, o8, o9, hl2, ha, hv, hb, hu, hw, h2, m_impl_IsValidAtom, m_impl_isZeroTerm, m_impl_isVariable, m_impl_isQuantifier, m_impl_isBinary, m_slices_ContainsFunc_impl_Formula_impl_Formula]; done))) | (refine go_condF ?_ ?_; (focus (simp (disch := omega) only [go_sem, Nat.reduceAdd, Nat.reduceSub, Nat.reduceLT, Nat.reduceLeDiff, Nat.reduceEqDiff, Nat.reduceBEq, Nat.reduceBneDiff, Nat.reduceMul, ↓reduceIte, Int.reduceToNat, reduceCtorEq, Int.reduceNeg, Int.reduceAdd, o1, o2, o3, o4, o5, o6, o7, o8, o9, hl2, ha, hv, hb, hu, hw, h2, m_impl_IsValidAtom, m_impl_isZeroTerm, m_impl_isVariable, m_impl_isQuantifier, m_impl_isBinary, m_slices_ContainsFunc_impl_Formula_impl_Formula]; done)))); (try simp (disch := omega) only [go_sem, Nat.reduceAdd, Nat.reduceSub, Nat.reduceLT, Nat.reduceLeDiff, Nat.reduceEqDiff, Nat.reduceBEq, Nat.reduceBneDiff, Nat.reduceMul, ↓reduceIte, Int.reduceToNat, reduceCtorEq, Int.reduceNeg, Int.reduceAdd, o1, o2, o3, o4, o5, o6, o7, o8, o9, hl2, ha, hv, hb, hu, hw, h2, m_impl_IsValidAtom, m_impl_isZeroTerm, m_impl_isVariable, m_impl_isQuantifier, m_impl_isBinary, m_slices_ContainsFunc_impl_Formula_impl_Formula]))
      | true =>
        try rw [hw] at hv
        rw [Bool.and_true]
        cases hq : x.atom.isZ with
        | true =>
          rw [hq] at ha
          rw [Bool.true_and]
          refine E_walk k_impl_hasForm m_impl_hasForm (of_decide_eq_true rfl) ?_
          simp (disch := omega) only [c_impl_hasForm, go_sem, Nat.reduceAdd, Nat.reduceSub, Nat.reduceLT, Nat.reduceLeDiff, Nat.reduceEqDiff, Nat.reduceBEq, Nat.reduceBneDiff, Nat.reduceMul, ↓reduceIte, Int.reduceToNat, reduceCtorEq, Int.reduceNeg, Int.reduceAdd, o1, o2, o3, o4, o5, o6, o7, o8, o9, hl2, ha, hv, hb, hu, hw, h2, m_impl_IsValidAtom, m_impl_isZeroTerm, m_impl_isVariable, m_impl_isQuantifier, m_impl_isBinary, m_slices_ContainsFunc_impl_Formula_impl_Formula]
          repeat ((first | (refine go_condT ?_ ?_; (focus (simp (disch := omega) only [go_sem, Nat.reduceAdd, Nat.reduceSub, Nat.reduceLT, Nat.reduceLeDiff, Nat.reduceEqDiff, Nat.reduceBEq, Nat.reduceBneDiff, Nat.reduceMul, ↓reduceIte, Int.reduceToNat, reduceCtorEq, Int.reduceNeg, Int.reduceAdd, o1, o2, o3, o4, o5, o6, o7, o8, o9, hl2, ha, hv, hb, hu, hw, h2, m_impl_IsValidAtom, m_impl_isZeroTerm, m_impl_isVariable, m_impl_isQuantifier, m_impl_isBinary, m_slices_ContainsFunc_impl_Formula_impl_Formula]; done))) | (refine go_condF ?_ ?_; (focus (simp (disch := omega) only [go_sem, Nat.reduceAdd, Nat.reduceSub, Nat.reduceLT, Nat.reduceLeDiff, Nat.reduceEqDiff, Nat.reduceBEq, Nat.reduceBneDiff, Nat.reduceMul, ↓reduceIte, Int.reduceToNat, reduceCtorEq, Int.reduceNeg, Int.reduceAdd, o1, o2, o3, o4, o5, o6, o7, o8, o9, hl2, ha, hv, hb, hu, hw, h2, m_impl_IsValidAtom, m_impl_isZeroTerm, m_impl_isVariable, m_impl_isQuantifier, m_impl_isBinary, m_slices_ContainsFunc_impl_Formula_impl_Formula]; done)))); (try simp (disch := omega) only [go_sem, Nat.reduceAdd, Nat.reduceSub, Nat.reduceLT, Nat.reduceLeDiff, Nat.reduceEqDiff, Nat.reduceBEq, Nat.reduceBneDiff, Nat.reduceMul, ↓reduceIte, Int.reduceToNat, reduceCtorEq, Int.reduceNeg, Int.reduceAdd, o1, o2, o3, o4, o5, o6, o7, o8, o9, hl2, ha, hv, hb, hu, hw, h2, m_impl_IsValidAtom, m_impl_isZeroTerm, m_impl_isVariable, m_impl_isQuantifier, m_impl_isBinary, m_slices_ContainsFunc_impl_Formula_impl_Formula]))
        | false =>
          rw [hq] at ha
          rw [Bool.false_and]
          refine E_walk k_impl_hasForm m_impl_hasForm (of_decide_eq_true rfl) ?_
          simp (disch := omega) only [c_impl_hasForm, go_sem, Nat.reduceAdd, Nat.reduceSub, Nat.reduceLT, Nat.reduceLeDiff, Nat.reduceEqDiff, Nat.reduceBEq, Nat.reduceBneDiff, Nat.reduceMul, ↓reduceIte, Int.reduceToNat, reduceCtorEq, Int.reduceNeg, Int.reduceAdd, o1, o2, o3, o4, o5, o6, o7, o8, o9, hl2, ha, hv, hb, hu, hw, h2, m_impl_IsValidAtom, m_impl_isZeroTerm, m_impl_isVariable, m_impl_isQuantifier, m_impl_isBinary, m_slices_ContainsFunc_impl_Formula_impl_Formula]
          repeat ((first | (refine go_condT ?_ ?_; (focus (simp (disch := omega) only [go_sem, Nat.reduceAdd, Nat.reduceSub, Nat.reduceLT, Nat.reduceLeDiff, Nat.reduceEqDiff, Nat.reduceBEq, Nat.reduceBneDiff, Nat.reduceMul, ↓reduceIte, Int.reduceToNat, reduceCtorEq, Int.reduceNeg, Int.reduceAdd, o1, o2, o3, o4, o5, o6, o7, o8, o9, hl2, ha, hv, hb, hu, hw, h2, m_impl_IsValidAtom, m_impl_isZeroTerm, m_impl_isVariable, m_impl_isQuantifier, m_impl_isBinary, m_slices_ContainsFunc_impl_Formula_impl_Formula]; done))) | (refine go_condF ?_ ?_; (focus (simp (disch := omega) only [go_sem, Nat.reduceAdd, Nat.reduceSub, Nat.reduceLT, Nat.reduceLeDiff, Nat.reduceEqDiff, Nat.reduceBEq, Nat.reduceBneDiff, Nat.reduceMul, ↓reduceIte, Int.reduceToNat, reduceCtorEq, Int.reduceNeg, Int.reduceAdd, o1, o2, o3, o4, o5, o6, o7, o8, o9, hl2, ha, hv, hb, hu, hw, h2, m_impl_IsValidAtom, m_impl_isZeroTerm, m_impl_isVariable, m_impl_isQuantifier, m_impl_isBinary, m_slices_ContainsFunc_impl_Formula_impl_Formula]; done)))); (try simp (disch := omega) only [go_sem, Nat.reduceAdd, Nat.reduceSub, Nat.reduceLT, Nat.reduceLeDiff, Nat.reduceEqDiff, Nat.reduceBEq, Nat.reduceBneDiff, Nat.reduceMul, ↓reduceIte, Int.reduceToNat, reduceCtorEq, Int.reduceNeg, Int.reduceAdd, o1, o2, o3, o4, o5, o6, o7, o8, o9, hl2, ha, hv, hb, hu, hw, h2, m_impl_IsValidAtom, m_impl_isZeroTerm, m_impl_isVariable, m_impl_isQuantifier, m_impl_isBinary, m_slices_ContainsFunc_impl_Formula_impl_Formula]))
    · have hl2 : dec ((x.parts.length : Int) = 0) = false := dec_f (by omega)
      have hl3 : (x.parts.length == 0) = false := by simpa using hl
      rw [hl3, Bool.false_and, Bool.false_and, Bool.false_and]
      refine E_walk k_impl_hasForm m_impl_hasForm (of_decide_eq_true rfl) ?_
      simp (disch := omega) only [c_impl_hasForm, go_sem, Nat.reduceAdd, Nat.reduceSub, Nat.reduceLT, Nat.reduceLeDiff, Nat.reduceEqDiff, Nat.reduceBEq, Nat.reduceBneDiff, Nat.reduceMul, ↓reduceIte, Int.reduceToNat, reduceCtorEq, Int.reduceNeg, Int.reduceAdd, o1, o2, o3, o4, o5, o6, o7, o8, o9, hl2, ha, hv, hb, hu,  h2, m_impl_IsValidAtom, m_impl_isZeroTerm, m_impl_isVariable, m_impl_isQuantifier, m_impl_isBinary, m_slices_ContainsFunc_impl_Formula_impl_Formula]
      repeat ((first | (refine go_condT ?_ ?_; (focus (simp (disch := omega) only [go_sem, Nat.reduceAdd, Nat.reduceSub, Nat.reduceLT, Nat.reduceLeDiff, Nat.reduceEqDiff, Nat.reduceBEq, Nat.reduceBneDiff, Nat.reduceMul, ↓reduceIte, Int.reduceToNat, reduceCtorEq, Int.reduceNeg, Int.reduceAdd, o1, o2, o3, o4, o5, o6, o7, o8, o9, hl2, ha, hv, hb, hu,  h2, m_impl_IsValidAtom, m_impl_isZeroTerm, m_impl_isVariable, m_impl_isQuantifier, m_impl_isBinary, m_slices_ContainsFunc_impl_Formula_impl_Formula]; done))) | (refine go_condF ?_ ?_; (focus (simp (disch := omega) only [go_sem, Nat.reduceAdd, Nat.reduceSub, Nat.reduceLT, Nat.reduceLeDiff, Nat.reduceEqDiff, Nat.reduceBEq, Nat.reduceBneDiff, Nat.reduceMul, ↓reduceIte, Int.reduceToNat, reduceCtorEq, Int.reduceNeg, Int.reduceAdd, o1, o2, o3, o4, o5, o6, o7, o8, o9, hl2, ha, hv, hb, hu,  h2, m_impl_IsValidAtom, m_impl_isZeroTerm, m_impl_isVariable, m_impl_isQuantifier, m_impl_isBinary, m_slices_ContainsFunc_impl_Formula_impl_Formula]; done)))); (try simp (disch := omega) only [go_sem, Nat.reduceAdd, Nat.reduceSub, Nat.reduceLT, Nat.reduceLeDiff, Nat.reduceEqDiff, Nat.reduceBEq, Nat.reduceBneDiff, Nat.reduceMul, ↓reduceIte, Int.reduceToNat, reduceCtorEq, Int.reduceNeg, Int.reduceAdd, o1, o2, o3, o4, o5, o6, o7, o8, o9, hl2, ha, hv, hb, hu,  h2, m_impl_IsValidAtom, m_impl_isZeroTerm, m_impl_isVariable, m_impl_isQuantifier, m_impl_isBinary, m_slices_ContainsFunc_impl_Formula_impl_Formula]))
set_option maxHeartbeats 1000000 in
theorem hasForm_3 (x : Fm) (hn : x.atom.nodes ≤ 1099511627776) (hl0 : x.parts.length ≤ 1099511627776) (ho : x.op = 3) (h2 : E 102 [.arr (x.parts.map Fm.d), .fn 103 []] [] = some (.bool (x.parts.any fun y => !y.forms), [])) : E 59 [x.sv] [] = some (.bool x.forms, []) := by
  have hf : x.form = (x.parts.length == 0 && x.atom.atom && dec (x.var = ⟨#[]⟩)) := by unfold Fm.form; rcases ho with ho <;> simp [ho]
  rcases ho with ho
  all_goals
    have o1 : dec (x.op = 1) = false := dec_f (by omega)
    have o2 : dec (x.op = 2) = false := dec_f (by omega)
    have o3 : dec (x.op = 3) = true := dec_t ho
    have o4 : dec (x.op = 4) = false := dec_f (by omega)
    have o5 : dec (x.op = 5) = false := dec_f (by omega)
    have o6 : dec (x.op = 6) = false := dec_f (by omega)
    have o7 : dec (x.op = 7) = false := dec_f (by omega)
    have o8 : dec (x.op = 8) = false := dec_f (by omega)
    have o9 : dec (x.op = 9) = false := dec_f (by omega)
    have ha := isValidAtom_E x.atom (by omega)
    have hv := isVariable_E x.var
    have hb := isBinary_E x.op
    have hu := isQuantifier_E x.op
    rw [o5, o6, o7] at hb
    rw [o8, o9] at hu
    rw [Fm.forms_eq, hf, ← Fm.any_not]
    by_cases hl : x.parts.length = 0
    · have hl2 : dec ((x.parts.length : Int) = 0) = true := dec_t (by omega)
      rw [hl, beq_self_eq_true, Bool.true_and]
      cases hw : dec (x.var = ⟨#[]⟩) with
      | false =>
        try rw [hw] at hv
        rw [Bool.and_false, Bool.false_and]
        refine E_walk k_impl_hasForm m_impl_hasForm (of_decide_eq_true rfl) ?_
        simp (disch := omega) only [c_impl_hasForm, go_sem, Nat.reduceAdd, Nat.reduceSub, Nat.reduceLT, Nat.reduceLeDiff, Nat.reduceEqDiff, Nat.reduceBEq, Nat.reduceBneDiff, Nat.reduceMul, ↓reduceIte, Int.reduceToNat, reduceCtorEq, Int.reduceNeg, Int.reduceAdd, o1, o2, o3, o4, o5, o6, o7, o8, o9, hl2, ha, hv, hb, hu, hw, h2, m_impl_IsValidAtom, m_impl_isZeroTerm, m_impl_isVariable, m_impl_isQuantifier, m_impl_isBinary, m_slices_ContainsFunc_impl_Formula_impl_Formula]
        repeat ((first | (refine go_condT ?_ ?_; (focus (simp (disch := omega) only [go_sem, Nat.reduceAdd, Nat.reduceSub, Nat.reduceLT, Nat.reduceLeDiff, Nat.reduceEqDiff, Nat.reduceBEq, Nat.reduceBneDiff, Nat.reduceMul, ↓reduceIte, Int.reduceToNat, reduceCtorEq, Int.reduceNeg, Int.reduceAdd, o1, o2, o3, o4, o5, o6, o7, o8, o9, hl2, ha, hv, hb, hu, hw, h2, m_impl_IsValidAtom, m_impl_isZeroTerm, m_impl_isVariable, m_impl_isQuantifier, m_impl_isBinary, m_slices_ContainsFunc_impl_Formula_impl_Formula]; done))) | (refine go_condF ?_ ?_; (focus (simp (disch := omega) only [go_sem, Nat.reduceAdd, Nat.reduceSub, Nat.reduceLT, Nat.reduceLeDiff, Nat.reduceEqDiff, Nat.reduceBEq, Nat.reduceBneDiff, Nat.reduceMul, ↓reduceIte, Int.reduceToNat, reduceCtorEq, Int.reduceNeg, Int.reduceAdd, o1, o2, o3, o4, o5, o6, o7, o8, o9, hl2, ha, hv, hb, hu, hw, h2, m_impl_IsValidAtom, m_impl_isZeroTerm, m_impl_isVariable, m_impl_isQuantifier, m_impl_isBinary, m_slices_ContainsFunc_impl_Formula_impl_Formula]; done)))); (try simp (disch := omega) only [go_sem, Nat.reduceAdd, Nat.reduceSub, Nat.reduceLT, Nat.reduceLeDiff, Nat.reduceEqDiff, Nat.reduceBEq, Nat.reduceBneDiff, Nat.reduceMul, ↓reduceIte, Int.reduceToNat, reduceCtorEq, Int.reduceNeg, Int.reduceAdd, o1, o2, o3, o4, o5, o6, o7, o8, o9, hl2, ha, hv, hb, hu, hw, h2, m_impl_IsValidAtom, m_impl_isZeroTerm, m_impl_isVariable, m_impl_isQuantifier, m_impl_isBinary, m_slices_ContainsFunc_impl_Formula_impl_Formula]))
      | true =>
        try rw [hw] at hv
        rw [Bool.and_true]
        cases hq : x.atom.atom with
        | true =>
          rw [hq] at ha
          rw [Bool.true_and]
          refine E_walk k_impl_hasForm m_impl_hasForm (of_decide_eq_true rfl) ?_
          simp (disch := omega) only [c_impl_hasForm, go_sem, Nat.reduceAdd, Nat.reduceSub, Nat.reduceLT, Nat.reduceLeDiff, Nat.reduceEqDiff, Nat.reduceBEq, Nat.reduceBneDiff, Nat.reduceMul, ↓reduceIte, Int.reduceToNat, reduceCtorEq, Int.reduceNeg, Int.reduceAdd, o1, o2, o3, o4, o5, o6, o7, o8, o9, hl2, ha, hv, hb, hu, hw, h2, m_impl_IsValidAtom, m_impl_isZeroTerm, m_impl_isVariable, m_impl_isQuantifier, m_impl_isBinary, m_slices_ContainsFunc_impl_Formula_impl_Formula]
          repeat ((first | (refine go_condT ?_ ?_; (focus (simp (disch := omega) only [go_sem, Nat.reduceAdd, Nat.reduceSub, Nat.reduceLT, Nat.reduceLeDiff, Nat.reduceEqDiff, Nat.reduceBEq, Nat.reduceBneDiff, Nat.reduceMul, ↓reduceIte, Int.reduceToNat, reduceCtorEq, Int.reduceNeg, Int.reduceAdd, o1, o2, o3, o4, o5, o6, o7, o8, o9, hl2, ha, hv, hb, hu, hw, h2, m_impl_IsValidAtom, m_impl_isZeroTerm, m_impl_isVariable, m_impl_isQuantifier, m_impl_isBinary, m_slices_ContainsFunc_impl_Formula_impl_Formula]; done))) | (refine go_condF ?_ ?_; (focus (simp (disch := omega) only [go_sem, Nat.reduceAdd, Nat.reduceSub, Nat.reduceLT, Nat.reduceLeDiff, Nat.reduceEqDiff, Nat.reduceBEq, Nat.reduceBneDiff, Nat.reduceMul, ↓reduceIte, Int.reduceToNat, reduceCtorEq, Int.reduceNeg, Int.reduceAdd, o1, o2, o3, o4, o5, o6, o7, o8, o9, hl2, ha, hv, hb, hu, hw, h2, m_impl_IsValidAtom, m_impl_isZeroTerm, m_impl_isVariable, m_impl_isQuantifier, m_impl_isBinary, m_slices_ContainsFunc_impl_Formula_impl_Formula]; done)))); (try simp (disch := omega) only [go_sem, Nat.reduceAdd, Nat.reduceSub, Nat.reduceLT, Nat.reduceLeDiff, Nat.reduceEqDiff, Nat.reduceBEq, Nat.reduceBneDiff, Nat.reduceMul, ↓reduceIte, Int.reduceToNat, reduceCtorEq, Int.reduceNeg, Int.reduceAdd, o1, o2, o3, o4, o5, o6, o7, o8, o9, hl2, ha, hv, hb, hu, hw, h2, m_impl_IsValidAtom, m_impl_isZeroTerm, m_impl_isVariable, m_impl_isQuantifier, m_impl_isBinary, m_slices_ContainsFunc_impl_Formula_impl_Formula]))
        | false =>
          rw [hq] at ha
          rw [Bool.false_and]
          refine E_walk k_impl_hasForm m_impl_hasForm (of_decide_eq_true rfl) ?_
          simp (disch := omega) only [c_impl_hasForm, go_sem, Nat.reduceAdd, Nat.reduceSub, Nat.reduceLT, Nat.reduceLeDiff, Nat.reduceEqDiff, Nat.reduceBEq, Nat.reduceBneDiff, Nat.reduceMul, ↓reduceIte, Int.reduceToNat, reduceCtorEq, Int.reduceNeg, Int.reduceAdd, o1, o2, o3, o4, o5, o6, o7, o8, o9, hl2, ha, hv, hb, hu, hw, h2, m_impl_IsValidAtom, m_impl_isZeroTerm, m_impl_isVariable, m_impl_isQuantifier, m_impl_isBinary, m_slices_ContainsFunc_impl_Formula_impl_Formula]
          repeat ((first | (refine go_condT ?_ ?_; (focus (simp (disch := omega) only [go_sem, Nat.reduceAdd, Nat.reduceSub, Nat.reduceLT, Nat.reduceLeDiff, Nat.reduceEqDiff, Nat.reduceBEq, Nat.reduceBneDiff, Nat.reduceMul, ↓reduceIte, Int.reduceToNat, reduceCtorEq, Int.reduceNeg, Int.reduceAdd, o1, o2, o3, o4, o5, o6, o7, o8, o9, hl2, ha, hv, hb, hu, hw, h2, m_impl_IsValidAtom, m_impl_isZeroTerm, m_impl_isVariable, m_impl_isQuantifier, m_impl_isBinary, m_slices_ContainsFunc_impl_Formula_impl_Formula]; done))) | (refine go_condF ?_ ?_; (focus (simp (disch := omega) only [go_sem, Nat.reduceAdd, Nat.reduceSub, Nat.reduceLT, Nat.reduceLeDiff, Nat.reduceEqDiff, Nat.reduceBEq, Nat.reduceBneDiff, Nat.reduceMul, ↓reduceIte, Int.reduceToNat, reduceCtorEq, Int.reduceNeg, Int.reduceAdd, o1, o2, o3, o4, o5, o6, o7, o8, o9, hl2, ha, hv, hb, hu, hw, h2, m_impl_IsValidAtom, m_impl_isZeroTerm, m_impl_isVariable, m_impl_isQuantifier, m_impl_isBinary, m_slices_ContainsFunc_impl_Formula_impl_Formula]; done)))); (try simp (disch := omega) only [go_sem, Nat.reduceAdd, Nat.reduceSub, Nat.reduceLT, Nat.reduceLeDiff, Nat.reduceEqDiff, Nat.reduceBEq, Nat.reduceBneDiff, Nat.reduceMul, ↓reduceIte, Int.reduceToNat, reduceCtorEq, Int.reduceNeg, Int.reduceAdd, o1, o2, o3, o4, o5, o6, o7, o8, o9, hl2, ha, hv, hb, hu, hw, h2, m_impl_IsValidAtom, m_impl_isZeroTerm, m_impl_isVariable, m_impl_isQuantifier, m_impl_isBinary, m_slices_ContainsFunc_impl_Formula_impl_Formula]))
    · have hl2 : dec ((x.parts.length : Int) = 0) = false := dec_f (by omega)
      have hl3 : (x.parts.length == 0) = false := by simpa using hl
      rw [hl3, Bool.false_and, Bool.false_and, Bool.false_and]
      refine E_walk k_impl_hasForm m_impl_hasForm (of_decide_eq_true rfl) ?_
      simp (disch := omega) only [c_impl_hasForm, go_sem, Nat.reduceAdd, Nat.reduceSub, Nat.reduceLT, Nat.reduceLeDiff, Nat.reduceEqDiff, Nat.reduceBEq, Nat.reduceBneDiff, Nat.reduceMul, ↓reduceIte, Int.reduceToNat, reduceCtorEq, Int.reduceNeg, Int.reduceAdd, o1, o2, o3, o4, o5, o6, o7, o8, o9, hl2, ha, hv, hb, hu,  h2, m_impl_IsValidAtom, m_impl_isZeroTerm, m_impl_isVariable, m_impl_isQuantifier, m_impl_isBinary, m_slices_ContainsFunc_impl_Formula_impl_Formula]
      repeat ((first | (refine go_condT ?_ ?_; (focus (simp (disch := omega) only [go_sem, Nat.reduceAdd, Nat.reduceSub, Nat.reduceLT, Nat.reduceLeDiff, Nat.reduceEqDiff, Nat.reduceBEq, Nat.reduceBneDiff, Nat.reduceMul, ↓reduceIte, Int.reduceToNat, reduceCtorEq, Int.reduceNeg, Int.reduceAdd, o1, o2, o3, o4, o5, o6, o7, o8, o9, hl2, ha, hv, hb, hu,  h2, m_impl_IsValidAtom, m_impl_isZeroTerm, m_impl_isVariable, m_impl_isQuantifier, m_impl_isBinary, m_slices_ContainsFunc_impl_Formula_impl_Formula]; done))) | (refine go_condF ?_ ?_; (focus (simp (disch := omega) only [go_sem, Nat.reduceAdd, Nat.reduceSub, Nat.reduceLT, Nat.reduceLeDiff, Nat.reduceEqDiff, Nat.reduceBEq, Nat.reduceBneDiff, Nat.reduceMul, ↓reduceIte, Int.reduceToNat, reduceCtorEq, Int.reduceNeg, Int.reduceAdd, o1, o2, o3, o4, o5, o6, o7, o8, o9, hl2, ha, hv, hb, hu,  h2, m_impl_IsValidAtom, m_impl_isZeroTerm, m_impl_isVariable, m_impl_isQuantifier, m_impl_isBinary, m_slices_ContainsFunc_impl_Formula_impl_Formula]; done)))); (try simp (disch := omega) only [go_sem, Nat.reduceAdd, Nat.reduceSub, Nat.reduceLT, Nat.reduceLeDiff, Nat.reduceEqDiff, Nat.reduceBEq, Nat.reduceBneDiff, Nat.reduceMul, ↓reduceIte, Int.reduceToNat, reduceCtorEq, Int.reduceNeg, Int.reduceAdd, o1, o2, o3, o4, o5, o6, o7, o8, o9, hl2, ha, hv, hb, hu,  h2, m_impl_IsValidAtom, m_impl_isZeroTerm, m_impl_isVariable, m_impl_isQuantifier, m_impl_isBinary, m_slices_ContainsFunc_impl_Formula_impl_Formula]))
set_option maxHeartbeats 1000000 in
theorem hasForm_4 (x : Fm) (hn : x.atom.nodes ≤ 1099511627776) (hl0 : x.parts.length ≤ 1099511627776) (ho : x.op = 4) (h2 : E 102 [.arr (x.parts.map Fm.d), .fn 103 []] [] = some (.bool (x.parts.any fun y => !y.forms), [])) : E 59 [x.sv] [] = some (.bool x.forms, []) := by
  have hf : x.form = (x.parts.length == 1 && x.atom.isZ && dec (x.var = ⟨#[]⟩)) := by unfold Fm.form; rcases ho with ho <;> simp [ho]
  rcases ho with ho
  all_goals
    have o1 : dec (x.op = 1) = false := dec_f (by omega)
    have o2 : dec (x.op = 2) = false := dec_f (by omega)
    have o3 : dec (x.op = 3) = false := dec_f (by omega)
    have o4 : dec (x.op = 4) = true := dec_t ho
    have o5 : dec (x.op = 5) = false := dec_f (by omega)
    have o6 : dec (x.op = 6) = false := dec_f (by omega)
    have o7 : dec (x.op = 7) = false := dec_f (by omega)
    have o8 : dec (x.op = 8) = false := dec_f (by omega)
    have o9 : dec (x.op = 9) = false := dec_f (by omega)
    have ha := isZeroTerm_E x.atom
    have hv := isVariable_E x.var
    have hb := isBinary_E x.op
    have hu := isQuantifier_E x.op
    rw [o5, o6, o7] at hb
    rw [o8, o9] at hu
    rw [Fm.forms_eq, hf, ← Fm.any_not]
    by_cases hl : x.parts.length = 1
    · have hl2 : dec ((x.parts.length : Int) = 1) = true := dec_t (by omega)
      rw [hl, beq_self_eq_true, Bool.true_and]
      cases hw : dec (x.var = ⟨#[]⟩) with
      | false =>
        try rw [hw] at hv
        rw [Bool.and_false, Bool.false_and]
        refine E_walk k_impl_hasForm m_impl_hasForm (of_decide_eq_true rfl) ?_
        simp (disch := omega) only [c_impl_hasForm, go_sem, Nat.reduceAdd, Nat.reduceSub, Nat.reduceLT, Nat.reduceLeDiff, Nat.reduceEqDiff, Nat.reduceBEq, Nat.reduceBneDiff, Nat.reduceMul, ↓reduceIte, Int.reduceToNat, reduceCtorEq, Int.reduceNeg, Int.reduceAdd, o1, o2, o3, o4, o5, o6, o7, o8, o9, hl2, ha, hv, hb, hu, hw, h2, m_impl_IsValidAtom, m_impl_isZeroTerm, m_impl_isVariable, m_impl_isQuantifier, m_impl_isBinary, m_slices_ContainsFunc_impl_Formula_impl_Formula]
        repeat ((first | (refine go_condT ?_ ?_; (focus (simp (disch := omega) only [go_sem, Nat.reduceAdd, Nat.reduceSub, Nat.reduceLT, Nat.reduceLeDiff, Nat.reduceEqDiff, Nat.reduceBEq, Nat.reduceBneDiff, Nat.reduceMul, ↓reduceIte, Int.reduceToNat, reduceCtorEq, Int.reduceNeg, Int.reduceAdd, o1, o2, o3, o4, o5, o6, o7, o8, o9, hl2, ha, hv, hb, hu, hw, h2, m_impl_IsValidAtom, m_impl_isZeroTerm, m_impl_isVariable, m_impl_isQuantifier, m_impl_isBinary, m_slices_ContainsFunc_impl_Formula_impl_Formula]; done))) | (refine go_condF ?_ ?_; (focus (simp (disch := omega) only [go_sem, Nat.reduceAdd, Nat.reduceSub, Nat.reduceLT, Nat.reduceLeDiff, Nat.reduceEqDiff, Nat.reduceBEq, Nat.reduceBneDiff, Nat.reduceMul, ↓reduceIte, Int.reduceToNat, reduceCtorEq, Int.reduceNeg, Int.reduceAdd, o1, o2, o3, o4, o5, o6, o7, o8, o9, hl2, ha, hv, hb, hu, hw, h2, m_impl_IsValidAtom, m_impl_isZeroTerm, m_impl_isVariable, m_impl_isQuantifier, m_impl_isBinary, m_slices_ContainsFunc_impl_Formula_impl_Formula]; done)))); (try simp (disch := omega) only [go_sem, Nat.reduceAdd, Nat.reduceSub, Nat.reduceLT, Nat.reduceLeDiff, Nat.reduceEqDiff, Nat.reduceBEq, Nat.reduceBneDiff, Nat.reduceMul, ↓reduceIte, Int.reduceToNat, reduceCtorEq, Int.reduceNeg, Int.reduceAdd, o1, o2, o3, o4, o5, o6, o7, o8, o9, hl2, ha, hv, hb, hu, hw, h2, m_impl_IsValidAtom, m_impl_isZeroTerm, m_impl_isVariable, m_impl_isQuantifier, m_impl_isBinary, m_slices_ContainsFunc_impl_Formula_impl_Formula]))
      | true =>
        try rw [hw] at hv
        rw [Bool.and_true]
        cases hq : x.atom.isZ with
        | true =>
          rw [hq] at ha
          rw [Bool.true_and]
          refine E_walk k_impl_hasForm m_impl_hasForm (of_decide_eq_true rfl) ?_
          simp (disch := omega) only [c_impl_hasForm, go_sem, Nat.reduceAdd, Nat.reduceSub, Nat.reduceLT, Nat.reduceLeDiff, Nat.reduceEqDiff, Nat.reduceBEq, Nat.reduceBneDiff, Nat.reduceMul, ↓reduceIte, Int.reduceToNat, reduceCtorEq, Int.reduceNeg, Int.reduceAdd, o1, o2, o3, o4, o5, o6, o7, o8, o9, hl2, ha, hv, hb, hu, hw, h2, m_impl_IsValidAtom, m_impl_isZeroTerm, m_impl_isVariable, m_impl_isQuantifier, m_impl_isBinary, m_slices_ContainsFunc_impl_Formula_impl_Formula]
          repeat ((first | (refine go_condT ?_ ?_; (focus (simp (disch := omega) only [go_sem, Nat.reduceAdd, Nat.reduceSub, Nat.reduceLT, Nat.reduceLeDiff, Nat.reduceEqDiff, Nat.reduceBEq, Nat.reduceBneDiff, Nat.reduceMul, ↓reduceIte, Int.reduceToNat, reduceCtorEq, Int.reduceNeg, Int.reduceAdd, o1, o2, o3, o4, o5, o6, o7, o8, o9, hl2, ha, hv, hb, hu, hw, h2, m_impl_IsValidAtom, m_impl_isZeroTerm, m_impl_isVariable, m_impl_isQuantifier, m_impl_isBinary, m_slices_ContainsFunc_impl_Formula_impl_Formula]; done))) | (refine go_condF ?_ ?_; (focus (simp (disch := omega) only [go_sem, Nat.reduceAdd, Nat.reduceSub, Nat.reduceLT, Nat.reduceLeDiff, Nat.reduceEqDiff, Nat.reduceBEq, Nat.reduceBneDiff, Nat.reduceMul, ↓reduceIte, Int.reduceToNat, reduceCtorEq, Int.reduceNeg, Int.reduceAdd, o1, o2, o3, o4, o5, o6, o7, o8, o9, hl2, ha, hv, hb, hu, hw, h2, m_impl_IsValidAtom, m_impl_isZeroTerm, m_impl_isVariable, m_impl_isQuantifier, m_impl_isBinary, m_slices_ContainsFunc_impl_Formula_impl_Formula]; done)))); (try simp (disch := omega) only [go_sem, Nat.reduceAdd, Nat.reduceSub, Nat.reduceLT, Nat.reduceLeDiff, Nat.reduceEqDiff, Nat.reduceBEq, Nat.reduceBneDiff, Nat.reduceMul, ↓reduceIte, Int.reduceToNat, reduceCtorEq, Int.reduceNeg, Int.reduceAdd, o1, o2, o3, o4, o5, o6, o7, o8, o9, hl2, ha, hv, hb, hu, hw, h2, m_impl_IsValidAtom, m_impl_isZeroTerm, m_impl_isVariable, m_impl_isQuantifier, m_impl_isBinary, m_slices_ContainsFunc_impl_Formula_impl_Formula]))
        | false =>
          rw [hq] at ha
          rw [Bool.false_and]
          refine E_walk k_impl_hasForm m_impl_hasForm (of_decide_eq_true rfl) ?_
          simp (disch := omega) only [c_impl_hasForm, go_sem, Nat.reduceAdd, Nat.reduceSub, Nat.reduceLT, Nat.reduceLeDiff, Nat.reduceEqDiff, Nat.reduceBEq, Nat.reduceBneDiff, Nat.reduceMul, ↓reduceIte, Int.reduceToNat, reduceCtorEq, Int.reduceNeg, Int.reduceAdd, o1, o2, o3, o4, o5, o6, o7, o8, o9, hl2, ha, hv, hb, hu, hw, h2, m_impl_IsValidAtom, m_impl_isZeroTerm, m_impl_isVariable, m_impl_isQuantifier, m_impl_isBinary, m_slices_ContainsFunc_impl_Formula_impl_Formula]
          repeat ((first | (refine go_condT ?_ ?_; (focus (simp (disch := omega) only [go_sem, Nat.reduceAdd, Nat.reduceSub, Nat.reduceLT, Nat.reduceLeDiff, Nat.reduceEqDiff, Nat.reduceBEq, Nat.reduceBneDiff, Nat.reduceMul, ↓reduceIte, Int.reduceToNat, reduceCtorEq, Int.reduceNeg, Int.reduceAdd, o1, o2, o3, o4, o5, o6, o7, o8, o9, hl2, ha, hv, hb, hu, hw, h2, m_impl_IsValidAtom, m_impl_isZeroTerm, m_impl_isVariable, m_impl_isQuantifier, m_impl_isBinary, m_slices_ContainsFunc_impl_Formula_impl_Formula]; done))) | (refine go_condF ?_ ?_; (focus (simp (disch := omega) only [go_sem, Nat.reduceAdd, Nat.reduceSub, Nat.reduceLT, Nat.reduceLeDiff, Nat.reduceEqDiff, Nat.reduceBEq, Nat.reduceBneDiff, Nat.reduceMul, ↓reduceIte, Int.reduceToNat, reduceCtorEq, Int.reduceNeg, Int.reduceAdd, o1, o2, o3, o4, o5, o6, o7, o8, o9, hl2, ha, hv, hb, hu, hw, h2, m_impl_IsValidAtom, m_impl_isZeroTerm, m_impl_isVariable, m_impl_isQuantifier, m_impl_isBinary, m_slices_ContainsFunc_impl_Formula_impl_Formula]; done)))); (try simp (disch := omega) only [go_sem, Nat.reduceAdd, Nat.reduceSub, Nat.reduceLT, Nat.reduceLeDiff, Nat.reduceEqDiff, Nat.reduceBEq, Nat.reduceBneDiff, Nat.reduceMul, ↓reduceIte, Int.reduceToNat, reduceCtorEq, Int.reduceNeg, Int.reduceAdd, o1, o2, o3, o4, o5, o6, o7, o8, o9, hl2, ha, hv, hb, hu, hw, h2, m_impl_IsValidAtom, m_impl_isZeroTerm, m_impl_isVariable, m_impl_isQuantifier, m_impl_isBinary, m_slices_ContainsFunc_impl_Formula_impl_Formula]))
    · have hl2 : dec ((x.parts.length : Int) = 1) = false := dec_f (by omega)
      have hl3 : (x.parts.length == 1) = false := by simpa using hl
      rw [hl3, Bool.false_and, Bool.false_and, Bool.false_and]
      refine E_walk k_impl_hasForm m_impl_hasForm (of_decide_eq_true rfl) ?_
      simp (disch := omega) only [c_impl_hasForm, go_sem, Nat.reduceAdd, Nat.reduceSub, Nat.reduceLT, Nat.reduceLeDiff, Nat.reduceEqDiff, Nat.reduceBEq, Nat.reduceBneDiff, Nat.reduceMul, ↓reduceIte, Int.reduceToNat, reduceCtorEq, Int.reduceNeg, Int.reduceAdd, o1, o2, o3, o4, o5, o6, o7, o8, o9, hl2, ha, hv, hb, hu,  h2, m_impl_IsValidAtom, m_impl_isZeroTerm, m_impl_isVariable, m_impl_isQuantifier, m_impl_isBinary, m_slices_ContainsFunc_impl_Formula_impl_Formula]
      repeat ((first | (refine go_condT ?_ ?_; (focus (simp (disch := omega) only [go_sem, Nat.reduceAdd, Nat.reduceSub, Nat.reduceLT, Nat.reduceLeDiff, Nat.reduceEqDiff, Nat.reduceBEq, Nat.reduceBneDiff, Nat.reduceMul, ↓reduceIte, Int.reduceToNat, reduceCtorEq, Int.reduceNeg, Int.reduceAdd, o1, o2, o3, o4, o5, o6, o7, o8, o9, hl2, ha, hv, hb, hu,  h2, m_impl_IsValidAtom, m_impl_isZeroTerm, m_impl_isVariable, m_impl_isQuantifier, m_impl_isBinary, m_slices_ContainsFunc_impl_Formula_impl_Formula]; done))) | (refine go_condF ?_ ?_; (focus (simp (disch := omega) only [go_sem, Nat.reduceAdd, Nat.reduceSub, Nat.reduceLT, Nat.reduceLeDiff, Nat.reduceEqDiff, Nat.reduceBEq, Nat.reduceBneDiff, Nat.reduceMul, ↓reduceIte, Int.reduceToNat, reduceCtorEq, Int.reduceNeg, Int.reduceAdd, o1, o2, o3, o4, o5, o6, o7, o8, o9, hl2, ha, hv, hb, hu,  h2, m_impl_IsValidAtom, m_impl_isZeroTerm, m_impl_isVariable, m_impl_isQuantifier, m_impl_isBinary, m_slices_ContainsFunc_impl_Formula_impl_Formula]; done)))); (try simp (disch := omega) only [go_sem, Nat.reduceAdd, Nat.reduceSub, Nat.reduceLT, Nat.reduceLeDiff, Nat.reduceEqDiff, Nat.reduceBEq, Nat.reduceBneDiff, Nat.reduceMul, ↓reduceIte, Int.reduceToNat, reduceCtorEq, Int.reduceNeg, Int.reduceAdd, o1, o2, o3, o4, o5, o6, o7, o8, o9, hl2, ha, hv, hb, hu,  h2, m_impl_IsValidAtom, m_impl_isZeroTerm, m_impl_isVariable, m_impl_isQuantifier, m_impl_isBinary, m_slices_ContainsFunc_impl_Formula_impl_Formula]))
set_option maxHeartbeats 1000000 in
theorem hasForm_5 (x : Fm) (hn : x.atom.nodes ≤ 1099511627776) (hl0 : x.parts.length ≤ 1099511627776) (ho : x.op = 5 ∨ x.op = 6 ∨ x.op = 7) (h2 : E 102 [.arr (x.parts.map Fm.d), .fn 103 []] [] = some (.bool (x.parts.any fun y => !y.forms), [])) : E 59 [x.sv] [] = some (.bool x.forms, []) := by
  have hf : x.form = (x.parts.length == 2 && x.atom.isZ && dec (x.var = ⟨#[]⟩)) := by unfold Fm.form; rcases ho with ho | ho | ho <;> simp [ho]
  rcases ho with ho | ho | ho
  all_goals
    have o1 : dec (x.op = 1) = false := dec_f (by omega)
    have o2 : dec (x.op = 2) = false := dec_f (by omega)
    have o3 : dec (x.op = 3) = false := dec_f (by omega)
    have o4 : dec (x.op = 4) = false := dec_f (by omega)
    first
      | (have o5 : dec (x.op = 5) = true := dec_t ho)
      | (have o5 : dec (x.op = 5) = false := dec_f (by omega))
    first
      | (have o6 : dec (x.op = 6) = true := dec_t ho)
      | (have o6 : dec (x.op = 6) = false := dec_f (by omega))
    first
      | (have o7 : dec (x.op = 7) = true := dec_t ho)
      | (have o7 : dec (x.op = 7) = false := dec_f (by omega))
    have o8 : dec (x.op = 8) = false := dec_f (by omega)
    have o9 : dec (x.op = 9) = false := dec_f (by omega)
    have ha := isZeroTerm_E x.atom
    have hv := isVariable_E x.var
    have hb := isBinary_E x.op
    have hu := isQuantifier_E x.op
    rw [o5, o6, o7] at hb
    rw [o8, o9] at hu
    rw [Fm.forms_eq, hf, ← Fm.any_not]
    by_cases hl : x.parts.length = 2
    · have hl2 : dec ((x.parts.length : Int) = 2) = true := dec_t (by omega)
      rw [hl, beq_self_eq_true, Bool.true_and]
      cases hw : dec (x.var = ⟨#[]⟩) with
      | false =>
        try rw [hw] at hv
        rw [Bool.and_false, Bool.false_and]
        refine E_walk k_impl_hasForm m_impl_hasForm (of_decide_eq_true rfl) ?_
        simp (disch := omega) only [c_impl_hasForm, go_sem, Nat.reduceAdd, Nat.reduceSub, Nat.reduceLT, Nat.reduceLeDiff, Nat.reduceEqDiff, Nat.reduceBEq, Nat.reduceBneDiff, Nat.reduceMul, ↓reduceIte, Int.reduceToNat, reduceCtorEq, Int.reduceNeg, Int.reduceAdd, o1, o2, o3, o4, o5, o6, o7, o8, o9, hl2, ha, hv, hb, hu, hw, h2, m_impl_IsValidAtom, m_impl_isZeroTerm, m_impl_isVariable, m_impl_isQuantifier, m_impl_isBinary, m_slices_ContainsFunc_impl_Formula_impl_Formula]
        repeat ((first | (refine go_condT ?_ ?_; (focus (simp (disch := omega) only [go_sem, Nat.reduceAdd, Nat.reduceSub, Nat.reduceLT, Nat.reduceLeDiff, Nat.reduceEqDiff, Nat.reduceBEq, Nat.reduceBneDiff, Nat.reduceMul, ↓reduceIte, Int.reduceToNat, reduceCtorEq, Int.reduceNeg, Int.reduceAdd, o1, o2, o3, o4, o5, o6, o7, o8, o9, hl2, ha, hv, hb, hu, hw, h2, m_impl_IsValidAtom, m_impl_isZeroTerm, m_impl_isVariable, m_impl_isQuantifier, m_impl_isBinary, m_slices_ContainsFunc_impl_Formula_impl_Formula]; done))) | (refine go_condF ?_ ?_; (focus (simp (disch := omega) only [go_sem, Nat.reduceAdd, Nat.reduceSub, Nat.reduceLT, Nat.reduceLeDiff, Nat.reduceEqDiff, Nat.reduceBEq, Nat.reduceBneDiff, Nat.reduceMul, ↓reduceIte, Int.reduceToNat, reduceCtorEq, Int.reduceNeg, Int.reduceAdd, o1, o2, o3, o4, o5, o6, o7, o8, o9, hl2, ha, hv, hb, hu, hw, h2, m_impl_IsValidAtom, m_impl_isZeroTerm, m_impl_isVariable, m_impl_isQuantifier, m_impl_isBinary, m_slices_ContainsFunc_impl_Formula_impl_Formula]; done)))); (try simp (disch := omega) only [go_sem, Nat.reduceAdd, Nat.reduceSub, Nat.reduceLT, Nat.reduceLeDiff, Nat.reduceEqDiff, Nat.reduceBEq, Nat.reduceBneDiff, Nat.reduceMul, ↓reduceIte, Int.reduceToNat, reduceCtorEq, Int.reduceNeg, Int.reduceAdd, o1, o2, o3, o4, o5, o6, o7, o8, o9, hl2, ha, hv, hb, hu, hw, h2, m_impl_IsValidAtom, m_impl_isZeroTerm, m_impl_isVariable, m_impl_isQuantifier, m_impl_isBinary, m_slices_ContainsFunc_impl_Formula_impl_Formula]))
      | true =>
        try rw [hw] at hv
        rw [Bool.and_true]
        cases hq : x.atom.isZ with
        | true =>
          rw [hq] at ha
          rw [Bool.true_and]
          refine E_walk k_impl_hasForm m_impl_hasForm (of_decide_eq_true rfl) ?_
          simp (disch := omega) only [c_impl_hasForm, go_sem, Nat.reduceAdd, Nat.reduceSub, Nat.reduceLT, Nat.reduceLeDiff, Nat.reduceEqDiff, Nat.reduceBEq, Nat.reduceBneDiff, Nat.reduceMul, ↓reduceIte, Int.reduceToNat, reduceCtorEq, Int.reduceNeg, Int.reduceAdd, o1, o2, o3, o4, o5, o6, o7, o8, o9, hl2, ha, hv, hb, hu, hw, h2, m_impl_IsValidAtom, m_impl_isZeroTerm, m_impl_isVariable, m_impl_isQuantifier, m_impl_isBinary, m_slices_ContainsFunc_impl_Formula_impl_Formula]
          repeat ((first | (refine go_condT ?_ ?_; (focus (simp (disch := omega) only [go_sem, Nat.reduceAdd, Nat.reduceSub, Nat.reduceLT, Nat.reduceLeDiff, Nat.reduceEqDiff, Nat.reduceBEq, Nat.reduceBneDiff, Nat.reduceMul, ↓reduceIte, Int.reduceToNat, reduceCtorEq, Int.reduceNeg, Int.reduceAdd, o1, o2, o3, o4, o5, o6, o7, o8, o9, hl2, ha, hv, hb, hu, hw, h2, m_impl_IsValidAtom, m_impl_isZeroTerm, m_impl_isVariable, m_impl_isQuantifier, m_impl_isBinary, m_slices_ContainsFunc_impl_Formula_impl_Formula]; done))) | (refine go_condF ?_ ?_; (focus (simp (disch := omega) only [go_sem, Nat.reduceAdd, Nat.reduceSub, Nat.reduceLT, Nat.reduceLeDiff, Nat.reduceEqDiff, Nat.reduceBEq, Nat.reduceBneDiff, Nat.reduceMul, ↓reduceIte, Int.reduceToNat, reduceCtorEq, Int.reduceNeg, Int.reduceAdd, o1, o2, o3, o4, o5, o6, o7, o8, o9, hl2, ha, hv, hb, hu, hw, h2, m_impl_IsValidAtom, m_impl_isZeroTerm, m_impl_isVariable, m_impl_isQuantifier, m_impl_isBinary, m_slices_ContainsFunc_impl_Formula_impl_Formula]; done)))); (try simp (disch := omega) only [go_sem, Nat.reduceAdd, Nat.reduceSub, Nat.reduceLT, Nat.reduceLeDiff, Nat.reduceEqDiff, Nat.reduceBEq, Nat.reduceBneDiff, Nat.reduceMul, ↓reduceIte, Int.reduceToNat, reduceCtorEq, Int.reduceNeg, Int.reduceAdd, o1, o2, o3, o4, o5, o6, o7, o8, o9, hl2, ha, hv, hb, hu, hw, h2, m_impl_IsValidAtom, m_impl_isZeroTerm, m_impl_isVariable, m_impl_isQuantifier, m_impl_isBinary, m_slices_ContainsFunc_impl_Formula_impl_Formula]))
        | false =>
          rw [hq] at ha
          rw [Bool.false_and]
          refine E_walk k_impl_hasForm m_impl_hasForm (of_decide_eq_true rfl) ?_
          simp (disch := omega) only [c_impl_hasForm, go_sem, Nat.reduceAdd, Nat.reduceSub, Nat.reduceLT, Nat.reduceLeDiff, Nat.reduceEqDiff, Nat.reduceBEq, Nat.reduceBneDiff, Nat.reduceMul, ↓reduceIte, Int.reduceToNat, reduceCtorEq, Int.reduceNeg, Int.reduceAdd, o1, o2, o3, o4, o5, o6, o7, o8, o9, hl2, ha, hv, hb, hu, hw, h2, m_impl_IsValidAtom, m_impl_isZeroTerm, m_impl_isVariable, m_impl_isQuantifier, m_impl_isBinary, m_slices_ContainsFunc_impl_Formula_impl_Formula]
          repeat ((first | (refine go_condT ?_ ?_; (focus (simp (disch := omega) only [go_sem, Nat.reduceAdd, Nat.reduceSub, Nat.reduceLT, Nat.reduceLeDiff, Nat.reduceEqDiff, Nat.reduceBEq, Nat.reduceBneDiff, Nat.reduceMul, ↓reduceIte, Int.reduceToNat, reduceCtorEq, Int.reduceNeg, Int.reduceAdd, o1, o2, o3, o4, o5, o6, o7, o8, o9, hl2, ha, hv, hb, hu, hw, h2, m_impl_IsValidAtom, m_impl_isZeroTerm, m_impl_isVariable, m_impl_isQuantifier, m_impl_isBinary, m_slices_ContainsFunc_impl_Formula_impl_Formula]; done))) | (refine go_condF ?_ ?_; (focus (simp (disch := omega) only [go_sem, Nat.reduceAdd, Nat.reduceSub, Nat.reduceLT, Nat.reduceLeDiff, Nat.reduceEqDiff, Nat.reduceBEq, Nat.reduceBneDiff, Nat.reduceMul, ↓reduceIte, Int.reduceToNat, reduceCtorEq, Int.reduceNeg, Int.reduceAdd, o1, o2, o3, o4, o5, o6, o7, o8, o9, hl2, ha, hv, hb, hu, hw, h2, m_impl_IsValidAtom, m_impl_isZeroTerm, m_impl_isVariable, m_impl_isQuantifier, m_impl_isBinary, m_slices_ContainsFunc_impl_Formula_impl_Formula]; done)))); (try simp (disch := omega) only [go_sem, Nat.reduceAdd, Nat.reduceSub, Nat.reduceLT, Nat.reduceLeDiff, Nat.reduceEqDiff, Nat.reduceBEq, Nat.reduceBneDiff, Nat.reduceMul, ↓reduceIte, Int.reduceToNat, reduceCtorEq, Int.reduceNeg, Int.reduceAdd, o1, o2, o3, o4, o5, o6, o7, o8, o9, hl2, ha, hv, hb, hu, hw, h2, m_impl_IsValidAtom, m_impl_isZeroTerm, m_impl_isVariable, m_impl_isQuantifier, m_impl_isBinary, m_slices_ContainsFunc_impl_Formula_impl_Formula]))
    · have hl2 : dec ((x.parts.length : Int) = 2) = false := dec_f (by omega)
      have hl3 : (x.parts.length == 2) = false := by simpa using hl
      rw [hl3, Bool.false_and, Bool.false_and, Bool.false_and]
      refine E_walk k_impl_hasForm m_impl_hasForm (of_decide_eq_true rfl) ?_
      simp (disch := omega) only [c_impl_hasForm, go_sem, Nat.reduceAdd, Nat.reduceSub, Nat.reduceLT, Nat.reduceLeDiff, Nat.reduceEqDiff, Nat.reduceBEq, Nat.reduceBneDiff, Nat.reduceMul, ↓reduceIte, Int.reduceToNat, reduceCtorEq, Int.reduceNeg, Int.reduceAdd, o1, o2, o3, o4, o5, o6, o7, o8, o9, hl2, ha, hv, hb, hu,  h2, m_impl_IsValidAtom, m_impl_isZeroTerm, m_impl_isVariable, m_impl_isQuantifier, m_impl_isBinary, m_slices_ContainsFunc_impl_Formula_impl_Formula]
      repeat ((first | (refine go_condT ?_ ?_; (focus (simp (disch := omega) only [go_sem, Nat.reduceAdd, Nat.reduceSub, Nat.reduceLT, Nat.reduceLeDiff, Nat.reduceEqDiff, Nat.reduceBEq, Nat.reduceBneDiff, Nat.reduceMul, ↓reduceIte, Int.reduceToNat, reduceCtorEq, Int.reduceNeg, Int.reduceAdd, o1, o2, o3, o4, o5, o6, o7, o8, o9, hl2, ha, hv, hb, hu,  h2, m_impl_IsValidAtom, m_impl_isZeroTerm, m_impl_isVariable, m_impl_isQuantifier, m_impl_isBinary, m_slices_ContainsFunc_impl_Formula_impl_Formula]; done))) | (refine go_condF ?_ ?_; (focus (simp (disch := omega) only [go_sem, Nat.reduceAdd, Nat.reduceSub, Nat.reduceLT, Nat.reduceLeDiff, Nat.reduceEqDiff, Nat.reduceBEq, Nat.reduceBneDiff, Nat.reduceMul, ↓reduceIte, Int.reduceToNat, reduceCtorEq, Int.reduceNeg, Int.reduceAdd, o1, o2, o3, o4, o5, o6, o7, o8, o9, hl2, ha, hv, hb, hu,  h2, m_impl_IsValidAtom, m_impl_isZeroTerm, m_impl_isVariable, m_impl_isQuantifier, m_impl_isBinary, m_slices_ContainsFunc_impl_Formula_impl_Formula]; done)))); (try simp (disch := omega) only [go_sem, Nat.reduceAdd, Nat.reduceSub, Nat.reduceLT, Nat.reduceLeDiff, Nat.reduceEqDiff, Nat.reduceBEq, Nat.reduceBneDiff, Nat.reduceMul, ↓reduceIte, Int.reduceToNat, reduceCtorEq, Int.reduceNeg, Int.reduceAdd, o1, o2, o3, o4, o5, o6, o7, o8, o9, hl2, ha, hv, hb, hu,  h2, m_impl_IsValidAtom, m_impl_isZeroTerm, m_impl_isVariable, m_impl_isQuantifier, m_impl_isBinary, m_slices_ContainsFunc_impl_Formula_impl_Formula]))
set_option maxHeartbeats 1000000 in
theorem hasForm_8 (x : Fm) (hn : x.atom.nodes ≤ 1099511627776) (hl0 : x.parts.length ≤ 1099511627776) (ho : x.op = 8 ∨ x.op = 9) (h2 : E 102 [.arr (x.parts.map Fm.d), .fn 103 []] [] = some (.bool (x.parts.any fun y => !y.forms), [])) : E 59 [x.sv] [] = some (.bool x.forms, []) := by
  have hf : x.form = (x.parts.length == 1 && x.atom.isZ && varB x.var) := by unfold Fm.form; rcases ho with ho | ho <;> simp [ho]
  rcases ho with ho | ho
  all_goals
    have o1 : dec (x.op = 1) = false := dec_f (by omega)
    have o2 : dec (x.op = 2) = false := dec_f (by omega)
    have o3 : dec (x.op = 3) = false := dec_f (by omega)
    have o4 : dec (x.op = 4) = false := dec_f (by omega)
    have o5 : dec (x.op = 5) = false := dec_f (by omega)
    have o6 : dec (x.op = 6) = false := dec_f (by omega)
    have o7 : dec (x.op = 7) = false := dec_f (by omega)
    first
      | (have o8 : dec (x.op = 8) = true := dec_t ho)
      | (have o8 : dec (x.op = 8) = false := dec_f (by omega))
    first
      | (have o9 : dec (x.op = 9) = true := dec_t ho)
      | (have o9 : dec (x.op = 9) = false := dec_f (by omega))
    have ha := isZeroTerm_E x.atom
    have hv := isVariable_E x.var
    have hb := isBinary_E x.op
    have hu := isQuantifier_E x.op
    rw [o5, o6, o7] at hb
    rw [o8, o9] at hu
    rw [Fm.forms_eq, hf, ← Fm.any_not]
    by_cases hl : x.parts.length = 1
    · have hl2 : dec ((x.parts.length : Int) = 1) = true := dec_t (by omega)
      rw [hl, beq_self_eq_true, Bool.true_and]
      cases hw : varB x.var with
      | false =>
        try rw [hw] at hv
        rw [Bool.and_false, Bool.false_and]
        refine E_walk k_impl_hasForm m_impl_hasForm (of_decide_eq_true rfl) ?_
        simp (disch := omega) only [c_impl_hasForm, go_sem, Nat.reduceAdd, Nat.reduceSub, Nat.reduceLT, Nat.reduceLeDiff, Nat.reduceEqDiff, Nat.reduceBEq, Nat.reduceBneDiff, Nat.reduceMul, ↓reduceIte, Int.reduceToNat, reduceCtorEq, Int.reduceNeg, Int.reduceAdd, o1, o2, o3, o4, o5, o6, o7, o8, o9, hl2, ha, hv, hb, hu,  h2, m_impl_IsValidAtom, m_impl_isZeroTerm, m_impl_isVariable, m_impl_isQuantifier, m_impl_isBinary, m_slices_ContainsFunc_impl_Formula_impl_Formula]
        repeat ((first | (refine go_condT ?_ ?_; (focus (simp (disch := omega) only [go_sem, Nat.reduceAdd, Nat.reduceSub, Nat.reduceLT, Nat.reduceLeDiff, Nat.reduceEqDiff, Nat.reduceBEq, Nat.reduceBneDiff, Nat.reduceMul, ↓reduceIte, Int.reduceToNat, reduceCtorEq, Int.reduceNeg, Int.reduceAdd, o1, o2, o3, o4, o5, o6, o7, o8, o9, hl2, ha, hv, hb, hu,  h2, m_impl_IsValidAtom, m_impl_isZeroTerm, m_impl_isVariable, m_impl_isQuantifier, m_impl_isBinary, m_slices_ContainsFunc_impl_Formula_impl_Formula]; done))) | (refine go_condF ?_ ?_; (focus (simp (disch := omega) only [go_sem, Nat.reduceAdd, Nat.reduceSub, Nat.reduceLT, Nat.reduceLeDiff, Nat.reduceEqDiff, Nat.reduceBEq, Nat.reduceBneDiff, Nat.reduceMul, ↓reduceIte, Int.reduceToNat, reduceCtorEq, Int.reduceNeg, Int.reduceAdd, o1, o2, o3, o4, o5, o6, o7, o8, o9, hl2, ha, hv, hb, hu,  h2, m_impl_IsValidAtom, m_impl_isZeroTerm, m_impl_isVariable, m_impl_isQuantifier, m_impl_isBinary, m_slices_ContainsFunc_impl_Formula_impl_Formula]; done)))); (try simp (disch := omega) only [go_sem, Nat.reduceAdd, Nat.reduceSub, Nat.reduceLT, Nat.reduceLeDiff, Nat.reduceEqDiff, Nat.reduceBEq, Nat.reduceBneDiff, Nat.reduceMul, ↓reduceIte, Int.reduceToNat, reduceCtorEq, Int.reduceNeg, Int.reduceAdd, o1, o2, o3, o4, o5, o6, o7, o8, o9, hl2, ha, hv, hb, hu,  h2, m_impl_IsValidAtom, m_impl_isZeroTerm, m_impl_isVariable, m_impl_isQuantifier, m_impl_isBinary, m_slices_ContainsFunc_impl_Formula_impl_Formula]))
      | true =>
        try rw [hw] at hv
        rw [Bool.and_true]
        cases hq : x.atom.isZ with
        | true =>
          rw [hq] at ha
          rw [Bool.true_and]
          refine E_walk k_impl_hasForm m_impl_hasForm (of_decide_eq_true rfl) ?_
          simp (disch := omega) only [c_impl_hasForm, go_sem, Nat.reduceAdd, Nat.reduceSub, Nat.reduceLT, Nat.reduceLeDiff, Nat.reduceEqDiff, Nat.reduceBEq, Nat.reduceBneDiff, Nat.reduceMul, ↓reduceIte, Int.reduceToNat, reduceCtorEq, Int.reduceNeg, Int.reduceAdd, o1, o2, o3, o4, o5, o6, o7, o8, o9, hl2, ha, hv, hb, hu,  h2, m_impl_IsValidAtom, m_impl_isZeroTerm, m_impl_isVariable, m_impl_isQuantifier, m_impl_isBinary, m_slices_ContainsFunc_impl_Formula_impl_Formula]
          repeat ((first | (refine go_condT ?_ ?_; (focus (simp (disch := omega) only [go_sem, Nat.reduceAdd, Nat.reduceSub, Nat.reduceLT, Nat.reduceLeDiff, Nat.reduceEqDiff, Nat.reduceBEq, Nat.reduceBneDiff, Nat.reduceMul, ↓reduceIte, Int.reduceToNat, reduceCtorEq, Int.reduceNeg, Int.reduceAdd, o1, o2, o3, o4, o5, o6, o7, o8, o9, hl2, ha, hv, hb, hu,  h2, m_impl_IsValidAtom, m_impl_isZeroTerm, m_impl_isVariable, m_impl_isQuantifier, m_impl_isBinary, m_slices_ContainsFunc_impl_Formula_impl_Formula]; done))) | (refine go_condF ?_ ?_; (focus (simp (disch := omega) only [go_sem, Nat.reduceAdd, Nat.reduceSub, Nat.reduceLT, Nat.reduceLeDiff, Nat.reduceEqDiff, Nat.reduceBEq, Nat.reduceBneDiff, Nat.reduceMul, ↓reduceIte, Int.reduceToNat, reduceCtorEq, Int.reduceNeg, Int.reduceAdd, o1, o2, o3, o4, o5, o6, o7, o8, o9, hl2, ha, hv, hb, hu,  h2, m_impl_IsValidAtom, m_impl_isZeroTerm, m_impl_isVariable, m_impl_isQuantifier, m_impl_isBinary, m_slices_ContainsFunc_impl_Formula_impl_Formula]; done)))); (try simp (disch := omega) only [go_sem, Nat.reduceAdd, Nat.reduceSub, Nat.reduceLT, Nat.reduceLeDiff, Nat.reduceEqDiff, Nat.reduceBEq, Nat.reduceBneDiff, Nat.reduceMul, ↓reduceIte, Int.reduceToNat, reduceCtorEq, Int.reduceNeg, Int.reduceAdd, o1, o2, o3, o4, o5, o6, o7, o8, o9, hl2, ha, hv, hb, hu,  h2, m_impl_IsValidAtom, m_impl_isZeroTerm, m_impl_isVariable, m_impl_isQuantifier, m_impl_isBinary, m_slices_ContainsFunc_impl_Formula_impl_Formula]))
        | false =>
          rw [hq] at ha
          rw [Bool.false_and]
          refine E_walk k_impl_hasForm m_impl_hasForm (of_decide_eq_true rfl) ?_
          simp (disch := omega) only [c_impl_hasForm, go_sem, Nat.reduceAdd, Nat.reduceSub, Nat.reduceLT, Nat.reduceLeDiff, Nat.reduceEqDiff, Nat.reduceBEq, Nat.reduceBneDiff, Nat.reduceMul, ↓reduceIte, Int.reduceToNat, reduceCtorEq, Int.reduceNeg, Int.reduceAdd, o1, o2, o3, o4, o5, o6, o7, o8, o9, hl2, ha, hv, hb, hu,  h2, m_impl_IsValidAtom, m_impl_isZeroTerm, m_impl_isVariable, m_impl_isQuantifier, m_impl_isBinary, m_slices_ContainsFunc_impl_Formula_impl_Formula]
          repeat ((first | (refine go_condT ?_ ?_; (focus (simp (disch := omega) only [go_sem, Nat.reduceAdd, Nat.reduceSub, Nat.reduceLT, Nat.reduceLeDiff, Nat.reduceEqDiff, Nat.reduceBEq, Nat.reduceBneDiff, Nat.reduceMul, ↓reduceIte, Int.reduceToNat, reduceCtorEq, Int.reduceNeg, Int.reduceAdd, o1, o2, o3, o4, o5, o6, o7, o8, o9, hl2, ha, hv, hb, hu,  h2, m_impl_IsValidAtom, m_impl_isZeroTerm, m_impl_isVariable, m_impl_isQuantifier, m_impl_isBinary, m_slices_ContainsFunc_impl_Formula_impl_Formula]; done))) | (refine go_condF ?_ ?_; (focus (simp (disch := omega) only [go_sem, Nat.reduceAdd, Nat.reduceSub, Nat.reduceLT, Nat.reduceLeDiff, Nat.reduceEqDiff, Nat.reduceBEq, Nat.reduceBneDiff, Nat.reduceMul, ↓reduceIte, Int.reduceToNat, reduceCtorEq, Int.reduceNeg, Int.reduceAdd, o1, o2, o3, o4, o5, o6, o7, o8, o9, hl2, ha, hv, hb, hu,  h2, m_impl_IsValidAtom, m_impl_isZeroTerm, m_impl_isVariable, m_impl_isQuantifier, m_impl_isBinary, m_slices_ContainsFunc_impl_Formula_impl_Formula]; done)))); (try simp (disch := omega) only [go_sem, Nat.reduceAdd, Nat.reduceSub, Nat.reduceLT, Nat.reduceLeDiff, Nat.reduceEqDiff, Nat.reduceBEq, Nat.reduceBneDiff, Nat.reduceMul, ↓reduceIte, Int.reduceToNat, reduceCtorEq, Int.reduceNeg, Int.reduceAdd, o1, o2, o3, o4, o5, o6, o7, o8, o9, hl2, ha, hv, hb, hu,  h2, m_impl_IsValidAtom, m_impl_isZeroTerm, m_impl_isVariable, m_impl_isQuantifier, m_impl_isBinary, m_slices_ContainsFunc_impl_Formula_impl_Formula]))
    · have hl2 : dec ((x.parts.length : Int) = 1) = false := dec_f (by omega)
      have hl3 : (x.parts.length == 1) = false := by simpa using hl
      rw [hl3, Bool.false_and, Bool.false_and, Bool.false_and]
      refine E_walk k_impl_hasForm m_impl_hasForm (of_decide_eq_true rfl) ?_
      simp (disch := omega) only [c_impl_hasForm, go_sem, Nat.reduceAdd, Nat.reduceSub, Nat.reduceLT, Nat.reduceLeDiff, Nat.reduceEqDiff, Nat.reduceBEq, Nat.reduceBneDiff, Nat.reduceMul, ↓reduceIte, Int.reduceToNat, reduceCtorEq, Int.reduceNeg, Int.reduceAdd, o1, o2, o3, o4, o5, o6, o7, o8, o9, hl2, ha, hv, hb, hu,  h2, m_impl_IsValidAtom, m_impl_isZeroTerm, m_impl_isVariable, m_impl_isQuantifier, m_impl_isBinary, m_slices_ContainsFunc_impl_Formula_impl_Formula]
      repeat ((first | (refine go_condT ?_ ?_; (focus (simp (disch := omega) only [go_sem, Nat.reduceAdd, Nat.reduceSub, Nat.reduceLT, Nat.reduceLeDiff, Nat.reduceEqDiff, Nat.reduceBEq, Nat.reduceBneDiff, Nat.reduceMul, ↓reduceIte, Int.reduceToNat, reduceCtorEq, Int.reduceNeg, Int.reduceAdd, o1, o2, o3, o4, o5, o6, o7, o8, o9, hl2, ha, hv, hb, hu,  h2, m_impl_IsValidAtom, m_impl_isZeroTerm, m_impl_isVariable, m_impl_isQuantifier, m_impl_isBinary, m_slices_ContainsFunc_impl_Formula_impl_Formula]; done))) | (refine go_condF ?_ ?_; (focus (simp (disch := omega) only [go_sem, Nat.reduceAdd, Nat.reduceSub, Nat.reduceLT, Nat.reduceLeDiff, Nat.reduceEqDiff, Nat.reduceBEq, Nat.reduceBneDiff, Nat.reduceMul, ↓reduceIte, Int.reduceToNat, reduceCtorEq, Int.reduceNeg, Int.reduceAdd, o1, o2, o3, o4, o5, o6, o7, o8, o9, hl2, ha, hv, hb, hu,  h2, m_impl_IsValidAtom, m_impl_isZeroTerm, m_impl_isVariable, m_impl_isQuantifier, m_impl_isBinary, m_slices_ContainsFunc_impl_Formula_impl_Formula]; done)))); (try simp (disch := omega) only [go_sem, Nat.reduceAdd, Nat.reduceSub, Nat.reduceLT, Nat.reduceLeDiff, Nat.reduceEqDiff, Nat.reduceBEq, Nat.reduceBneDiff, Nat.reduceMul, ↓reduceIte, Int.reduceToNat, reduceCtorEq, Int.reduceNeg, Int.reduceAdd, o1, o2, o3, o4, o5, o6, o7, o8, o9, hl2, ha, hv, hb, hu,  h2, m_impl_IsValidAtom, m_impl_isZeroTerm, m_impl_isVariable, m_impl_isQuantifier, m_impl_isBinary, m_slices_ContainsFunc_impl_Formula_impl_Formula]))
theorem hasForm_of (x : Fm) (ht : x.tame) (hn : x.nodes ≤ 1099511627776) (ih : ∀ y ∈ x.parts, E 59 [y.sv] [] = some (.bool y.forms, [])) : E 59 [x.sv] [] = some (.bool x.forms, []) := by
  have hl := Fm.length_le x.parts
  have hx := Fm.nodes_eq x
  have ha := Fm.tame_at ht
  have h1 : ∀ y ∈ x.parts, E 103 [y.sv] [] = some (.bool (!y.forms), []) := fun y hy => by
    have h := ih y hy
    refine E_walk k_impl_hasForm_1 m_impl_hasForm_1 (of_decide_eq_true rfl) ?_
    simp (disch := omega) only [c_impl_hasForm_1, go_sem, go_cond, Nat.reduceAdd, Nat.reduceSub, Nat.reduceLT, Nat.reduceLeDiff, Nat.reduceEqDiff, Nat.reduceBEq, Nat.reduceBneDiff, Nat.reduceMul, ↓reduceIte, Int.reduceToNat, reduceCtorEq, Int.reduceNeg, Int.reduceAdd, h, m_impl_hasForm]
  have h2 := containsFunc_forms 103 (fun y => !y.forms) x.parts (by omega) g_impl_hasForm_1 (by rw [m_impl_hasForm_1]) h1
  rcases op_cases x.op with h | h | h | h | h | h | h | h | h | h
  · exact hasForm_1 x ha (by omega) (.inl h) h2
  · exact hasForm_1 x ha (by omega) (.inr h) h2
  · exact hasForm_3 x ha (by omega) h h2
  · exact hasForm_4 x ha (by omega) h h2
  · exact hasForm_5 x ha (by omega) (.inl h) h2
  · exact hasForm_5 x ha (by omega) (.inr (.inl h)) h2
  · exact hasForm_5 x ha (by omega) (.inr (.inr h)) h2
  · exact hasForm_8 x ha (by omega) (.inl h) h2
  · exact hasForm_8 x ha (by omega) (.inr h) h2
  · obtain ⟨k1, k2, k3, k4, k5, k6, k7, k8, k9⟩ := h
    have hf : x.form = false := by unfold Fm.form; simp [k1, k2, k3, k4, k5, k6, k7, k8, k9]
    have o1 := dec_f k1
    have o2 := dec_f k2
    have o3 := dec_f k3
    have o4 := dec_f k4
    have o5 := dec_f k5
    have o6 := dec_f k6
    have o7 := dec_f k7
    have o8 := dec_f k8
    have o9 := dec_f k9
    have hb := isBinary_E x.op
    have hu := isQuantifier_E x.op
    rw [o5, o6, o7] at hb
    rw [o8, o9] at hu
    rw [Fm.forms_eq, hf, Bool.false_and]
    refine E_walk k_impl_hasForm m_impl_hasForm (of_decide_eq_true rfl) ?_
    simp (disch := omega) only [c_impl_hasForm, go_sem, Nat.reduceAdd, Nat.reduceSub, Nat.reduceLT, Nat.reduceLeDiff, Nat.reduceEqDiff, Nat.reduceBEq, Nat.reduceBneDiff, Nat.reduceMul, ↓reduceIte, Int.reduceToNat, reduceCtorEq, Int.reduceNeg, Int.reduceAdd, o1, o2, o3, o4, o5, o6, o7, o8, o9, hb, hu, m_impl_isQuantifier, m_impl_isBinary]
    repeat ((first | (refine go_condT ?_ ?_; (focus (simp (disch := omega) only [go_sem, Nat.reduceAdd, Nat.reduceSub, Nat.reduceLT, Nat.reduceLeDiff, Nat.reduceEqDiff, Nat.reduceBEq, Nat.reduceBneDiff, Nat.reduceMul, ↓reduceIte, Int.reduceToNat, reduceCtorEq, Int.reduceNeg, Int.reduceAdd, o1, o2, o3, o4, o5, o6, o7, o8, o9, hb, hu, m_impl_isQuantifier, m_impl_isBinary]; done))) | (refine go_condF ?_ ?_; (focus (simp (disch := omega) only [go_sem, Nat.reduceAdd, Nat.reduceSub, Nat.reduceLT, Nat.reduceLeDiff, Nat.reduceEqDiff, Nat.reduceBEq, Nat.reduceBneDiff, Nat.reduceMul, ↓reduceIte, Int.reduceToNat, reduceCtorEq, Int.reduceNeg, Int.reduceAdd, o1, o2, o3, o4, o5, o6, o7, o8, o9, hb, hu, m_impl_isQuantifier, m_impl_isBinary]; done)))); (try simp (disch := omega) only [go_sem, Nat.reduceAdd, Nat.reduceSub, Nat.reduceLT, Nat.reduceLeDiff, Nat.reduceEqDiff, Nat.reduceBEq, Nat.reduceBneDiff, Nat.reduceMul, ↓reduceIte, Int.reduceToNat, reduceCtorEq, Int.reduceNeg, Int.reduceAdd, o1, o2, o3, o4, o5, o6, o7, o8, o9, hb, hu, m_impl_isQuantifier, m_impl_isBinary]))
theorem hasForm_E (x : Fm) (ht : x.tame) (hn : x.nodes ≤ 1099511627776) : E 59 [x.sv] [] = some (.bool x.forms, []) :=
  hasForm_of x ht hn fun y hy => hasForm_E y (Fm.tame_part ht hy) (by have := Fm.nodes_mem hy; have := Fm.nodes_eq x; omega)
termination_by SizeOf.sizeOf x
decreasing_by exact Fm.lt_of_mem hy
theorem isValidFormula_E (x : Fm) (ht : x.tame) (hn : x.nodes ≤ 1099511627776) : E 29 [x.sv] [] = some (.bool x.valid, []) := by
  have h1 := sizeF_E x hn
  have h2 := hasForm_E x ht hn
  have h3 := Fm.cap_spec x
  unfold Fm.valid
  rcases Nat.lt_or_ge 40 x.nodes with h5 | h5
  · rw [decide_eq_false (by omega), Bool.false_and]
    have d : dec (x.cap ≤ 40) = false := dec_f (by omega)
    refine E_walk k_impl_IsValidFormula m_impl_IsValidFormula (of_decide_eq_true rfl) ?_
    simp (disch := omega) only [c_impl_IsValidFormula, go_sem, go_cond, Nat.reduceAdd, Nat.reduceSub, Nat.reduceLT, Nat.reduceLeDiff, Nat.reduceEqDiff, Nat.reduceBEq, Nat.reduceBneDiff, Nat.reduceMul, ↓reduceIte, Int.reduceToNat, reduceCtorEq, Int.reduceNeg, Int.reduceAdd, h1, h2, d, m_impl_sizeOf, m_impl_hasForm]
  · rw [decide_eq_true h5, Bool.true_and]
    have d : dec (x.cap ≤ 40) = true := dec_t (by omega)
    refine E_walk k_impl_IsValidFormula m_impl_IsValidFormula (of_decide_eq_true rfl) ?_
    simp (disch := omega) only [c_impl_IsValidFormula, go_sem, go_cond, Nat.reduceAdd, Nat.reduceSub, Nat.reduceLT, Nat.reduceLeDiff, Nat.reduceEqDiff, Nat.reduceBEq, Nat.reduceBneDiff, Nat.reduceMul, ↓reduceIte, Int.reduceToNat, reduceCtorEq, Int.reduceNeg, Int.reduceAdd, h1, h2, d, m_impl_sizeOf, m_impl_hasForm]
theorem l8Good_E (x : Fm) (ht : x.tame) (hn : x.nodes ≤ 1099511627776) : E 26 [x.sv] [] = some (.bool x.valid, []) := by
  have h1 := manyF_E x 40 (by omega) (by omega) hn
  have h2 := l8Forms_E x ht hn
  have h3 := Fm.many_spec x 40
  unfold Fm.valid
  rcases Nat.lt_or_ge 40 x.nodes with h5 | h5
  · rw [decide_eq_false (by omega), Bool.false_and]
    have d : dec ((x.many 40) ≤ 40) = false := dec_f (by omega)
    refine E_walk k_spec_l8Good m_spec_l8Good (of_decide_eq_true rfl) ?_
    simp (disch := omega) only [c_spec_l8Good, go_sem, go_cond, Nat.reduceAdd, Nat.reduceSub, Nat.reduceLT, Nat.reduceLeDiff, Nat.reduceEqDiff, Nat.reduceBEq, Nat.reduceBneDiff, Nat.reduceMul, ↓reduceIte, Int.reduceToNat, reduceCtorEq, Int.reduceNeg, Int.reduceAdd, h1, h2, d, m_spec_l8Many, m_spec_l8Forms]
  · rw [decide_eq_true h5, Bool.true_and]
    have d : dec ((x.many 40) ≤ 40) = true := dec_t (by omega)
    refine E_walk k_spec_l8Good m_spec_l8Good (of_decide_eq_true rfl) ?_
    simp (disch := omega) only [c_spec_l8Good, go_sem, go_cond, Nat.reduceAdd, Nat.reduceSub, Nat.reduceLT, Nat.reduceLeDiff, Nat.reduceEqDiff, Nat.reduceBEq, Nat.reduceBneDiff, Nat.reduceMul, ↓reduceIte, Int.reduceToNat, reduceCtorEq, Int.reduceNeg, Int.reduceAdd, h1, h2, d, m_spec_l8Many, m_spec_l8Forms]
end Go.Proofs.YtjgnhifkcgpmjaaGreat
