/-
  This text holds, one behind the other: This text tells what the order of terms answers in both packages. No condition.
  This text holds plain laws of interpretations: validity, values of terms, truth of atoms. No condition.
  This text holds plain laws of the order of names. No condition.
  This text holds plain laws of interpretations: assignments as maps, values of terms and atoms. No condition.
  This text tells that no name is a variable and a symbol. No condition.
  This text holds plain laws of formulas: sizes, forms, validity. No condition.
  This text holds plain laws of formulas: what their forms say. No condition.
  This text holds a plain law of atoms. No condition.
  This text tells what the variables of a term answer in both packages. No condition.
  This text tells what the variables of a term answer in the reference. No condition.
  This text holds plain laws of sorted names: putting one after the other at its place sorts. No condition.
  This text holds plain laws of formulas: free variables, substituting a variable. No condition.
  This text holds plain laws of the truth of formulas in an interpretation. No condition.
  This text tells what the comparisons of terms and literals answer in both packages. No condition.
  This text tells what the comparison of literals and the validity of clauses answer in both packages. No condition.
  This text tells what the variables of a clause answer in both packages. No condition.
  This text holds plain laws of clauses in an interpretation: truth, the first counterexample. No condition.
  This text holds a rule for runs of which a part of the answer is left open. No condition.
  This text tells what the validity of interpretations answers in both packages. No condition.
  This text tells what the reference's validity of interpretations answers. No condition.
  This text tells what assignments and values of terms answer in both packages. No condition.
  This text tells what values of terms and EvaluateTerm answer in both packages. No condition.
  This text tells what the truth of atoms answers in both packages, and a valuation with one more variable. No condition.
-/
import Derived.Test.YtolhlpglgheldaaGreatK39c
open Nat renaming reduceAdd → zA, reduceSub → zB, reduceLT → zC, reduceLeDiff → zD, reduceEqDiff → zE, reduceBEq → zF, reduceBneDiff → zG, reduceMul → zH
open Int renaming reduceToNat → zI, reduceNeg → zJ, reduceAdd → zK
set_option maxRecDepth 100000
set_option linter.unusedSimpArgs false
set_option linter.unusedVariables false
namespace Go.Proofs.YtolhlpglgheldaaGreat
open Go.RowKit
noncomputable def cmpB (a b : ByteArray) : Int := bif strLt a b then -1 else bif dec (a = b) then 0 else 1
noncomputable def cmpI (a b : Int) : Int := bif dec (a < b) then -1 else bif dec (b < a) then 1 else 0
def orZ (x y : Int) : Int := if x = 0 then y else x
mutual
noncomputable def Tm.cmp : Tm → Tm → Int
  | .mk n xs, y => if varB n && !varB y.name then -1 else if varB y.name && !varB n then 1 else orZ (orZ (cmpB n y.name) (cmpI xs.length y.args.length)) (Tm.cmpL xs y.args)
noncomputable def Tm.cmpL : List Tm → List Tm → Int
  | [], [] => 0
  | [], _ :: _ => -1
  | _ :: _, [] => 1
  | x :: xs, y :: ys => orZ (Tm.cmp x y) (Tm.cmpL xs ys)
end
theorem Tm.cmp_eq (x y : Tm) : x.cmp y = if varB x.name && !varB y.name then -1 else if varB y.name && !varB x.name then 1 else orZ (orZ (cmpB x.name y.name) (cmpI x.args.length y.args.length)) (Tm.cmpL x.args y.args) := by
  obtain ⟨n, xs⟩ := x
  rw [Tm.cmp]; rfl
def nameC (s : ByteArray) : Bool := decide (0 < s.size) && (uppB (byteZ s 0) == varB s)
mutual
def Tm.cok : Tm → Bool
  | .mk n xs => nameC n && Tm.cokS xs
def Tm.cokS : List Tm → Bool
  | [] => true
  | x :: xs => Tm.cok x && Tm.cokS xs
end
theorem Tm.cok_eq (x : Tm) : x.cok = (nameC x.name && Tm.cokS x.args) := by
  obtain ⟨n, xs⟩ := x
  rw [Tm.cok]; rfl
theorem Tm.cokS_mem {xs : List Tm} (h : Tm.cokS xs = true) {y : Tm} (hy : y ∈ xs) : y.cok = true := by
  induction xs with
  | nil => cases hy
  | cons x xs ih =>
    rw [Tm.cokS, Bool.and_eq_true] at h
    rcases List.mem_cons.1 hy with rfl | hy
    · exact h.1
    · exact ih h.2 hy
theorem cmpL_drop {xs ys : List Tm} {k : Nat} (h : k < xs.length) (h' : k < ys.length) : Tm.cmpL (xs.drop k) (ys.drop k) = orZ (xs[k].cmp ys[k]) (Tm.cmpL (xs.drop (k + 1)) (ys.drop (k + 1))) := by
  rw [List.drop_eq_getElem_cons h, List.drop_eq_getElem_cons h', Tm.cmpL]
theorem cmpL_short {xs ys : List Tm} {k : Nat} (h : k < xs.length) (h' : ys.length ≤ k) : Tm.cmpL (xs.drop k) (ys.drop k) = 1 := by
  rw [List.drop_eq_getElem_cons h, List.drop_eq_nil_of_le h', Tm.cmpL]
theorem cmpL_end {xs ys : List Tm} {k : Nat} (h : xs.length ≤ k) (h' : k < ys.length) : Tm.cmpL (xs.drop k) (ys.drop k) = -1 := by
  rw [List.drop_eq_getElem_cons h', List.drop_eq_nil_of_le h, Tm.cmpL]
theorem cmpL_both {xs ys : List Tm} {k : Nat} (h : xs.length ≤ k) (h' : ys.length ≤ k) : Tm.cmpL (xs.drop k) (ys.drop k) = 0 := by
  rw [List.drop_eq_nil_of_le h', List.drop_eq_nil_of_le h, Tm.cmpL]
theorem loopB_zero {p : Nat → Int → Bool} {s : ByteArray} (h : loopB p s s.size = true) (hs : 0 < s.size) : p 0 (byteZ s 0) = true := by
  unfold loopB at h
  rw [List.all_eq_true] at h
  exact h 0 (List.mem_range.2 hs)
theorem nameC_var {s : ByteArray} (h : varB s = true) : nameC s = true := by
  have h0 := h
  unfold varB inB at h
  rw [Bool.and_eq_true, Bool.and_eq_true, decide_eq_true_eq, decide_eq_true_eq] at h
  have hs : 0 < s.size := by omega
  have h1 := loopB_zero h.1 hs
  unfold varOk at h1
  unfold nameC
  rw [h0]
  simp at h1
  simp [hs, h1]
theorem nameC_not {s : ByteArray} (hs : 0 < s.size) (h : uppB (byteZ s 0) = false) : nameC s = true := by
  have hv : varB s = false := by
    rw [Bool.eq_false_iff]
    intro hv
    unfold varB at hv
    rw [Bool.and_eq_true] at hv
    have h1 := loopB_zero hv.1 hs
    unfold varOk at h1
    rw [h] at h1
    simp at h1
  unfold nameC
  rw [hv, h]
  simp [hs]
theorem nameC_sym {s : ByteArray} (h : symB s = true) : nameC s = true := by
  unfold symB inB at h
  rw [Bool.and_eq_true, Bool.and_eq_true, Bool.and_eq_true, decide_eq_true_eq, decide_eq_true_eq] at h
  have hs : 0 < s.size := by omega
  refine nameC_not hs ?_
  have h1 := loopB_zero h.1.1 hs
  unfold symOk at h1
  simp at h1
  have h2 := h1.1
  unfold lowB at h2
  unfold uppB
  simp at h2 ⊢
  omega
theorem nameC_eqn {s : ByteArray} (h : s.toList = [61]) : nameC s = true := by
  have hs : s.size = 1 := by
    have := congrArg List.length h
    rw [ByteArray.toList_eq] at this
    simpa using this
  refine nameC_not (by omega) ?_
  unfold byteZ
  rw [h]
  rfl
mutual
theorem Tm.cok_names : ∀ x : Tm, x.names = true → x.cok = true
  | .mk n xs, h => by
    rw [Tm.names] at h
    rw [Tm.cok, Bool.and_eq_true]
    split at h
    · rename_i hv
      have : xs = [] := by
        rw [beq_iff_eq] at h
        exact List.eq_nil_of_length_eq_zero h
      subst this
      exact ⟨nameC_var hv, rfl⟩
    · rw [Bool.and_eq_true, Bool.and_eq_true] at h
      exact ⟨nameC_sym h.1.1, Tm.cokS_names xs h.2⟩
theorem Tm.cokS_names : ∀ xs : List Tm, Tm.nameS xs = true → Tm.cokS xs = true
  | [], _ => rfl
  | x :: xs, h => by
    rw [Tm.nameS, Bool.and_eq_true] at h
    rw [Tm.cokS, Bool.and_eq_true]
    exact ⟨Tm.cok_names x h.1, Tm.cokS_names xs h.2⟩
end
theorem Tm.atom_cok {x : Tm} (h : x.atom = true) : x.cok = true := by
  unfold Tm.atom at h
  rcases he : x.eqn with _ | _
  · rw [he, if_neg (by simp), Bool.and_eq_true] at h
    unfold Tm.valid at h
    rw [Bool.and_eq_true] at h
    exact Tm.cok_names x h.2.2
  · rw [he, if_pos rfl, Bool.and_eq_true, Bool.and_eq_true] at h
    unfold Tm.eqn at he
    rw [dec_iff] at he
    rw [Tm.cok_eq, Bool.and_eq_true]
    exact ⟨nameC_eqn (by rw [he, ByteArray.toList_eq]), Tm.cokS_names _ h.2⟩
theorem byteAt_eq {s : ByteArray} {k : Nat} (h : k < s.size) : byteAt s k = byteZ s k := by
  rw [← byteZ_get h]
  unfold byteAt
  rw [show s[k]? = some s[k] from getElem?_pos s k h]; rfl
theorem nameC_upp {s : ByteArray} (h : nameC s = true) : 0 < s.size ∧ (dec (65 ≤ byteAt s 0) && dec (byteAt s 0 ≤ 90)) = varB s := by
  unfold nameC at h
  rw [Bool.and_eq_true, decide_eq_true_eq, beq_iff_eq] at h
  refine ⟨h.1, ?_⟩
  rw [← h.2, byteAt_eq h.1, dec_of, dec_of]
  unfold uppB
  rfl
theorem strLt_self (a : ByteArray) : strLt a a = false := by
  unfold strLt
  have key : ∀ l : List UInt8, Op.bytesLess l l = false := by
    intro l
    induction l with
    | nil => rfl
    | cons x l ih => simp [Op.bytesLess, ih]
  exact key _
def c_cmp_isNaN_string : SC := (.seq (.reg [⟨some 2, none, .mv (.c (.bool false))⟩]) (.seq (.reg [⟨some 3, none, .mv (.t 0)⟩, ⟨some 4, none, .mv (.t 0)⟩, ⟨some 5, none, .bin .neq false (.t 3) (.t 4)⟩, ⟨some 2, none, .mv (.t 5)⟩]) .ret))
theorem k_cmp_isNaN_string : codeOf Tryz.prog 157 = some ⟨6, c_cmp_isNaN_string, [(.tmp 2)]⟩ := by kernel_rfl
theorem m_cmp_isNaN_string : modes 157 = ⟨[], .asis, none, false⟩ := by unfold modes; rfl
def c_cmp_isNaN_int : SC := (.seq (.reg [⟨some 2, none, .mv (.c (.bool false))⟩]) (.seq (.reg [⟨some 3, none, .mv (.t 0)⟩, ⟨some 4, none, .mv (.t 0)⟩, ⟨some 5, none, .bin .neq false (.t 3) (.t 4)⟩, ⟨some 2, none, .mv (.t 5)⟩]) .ret))
theorem k_cmp_isNaN_int : codeOf Tryz.prog 139 = some ⟨6, c_cmp_isNaN_int, [(.tmp 2)]⟩ := by kernel_rfl
theorem m_cmp_isNaN_int : modes 139 = ⟨[], .asis, none, false⟩ := by unfold modes; rfl
def c_cmp_Compare_string : SC := (.seq (.reg [⟨some 4, none, .mv (.c (.int .i64 0))⟩]) (.seq (.reg [⟨some 7, none, .mv (.t 0)⟩, ⟨some 8, none, .call 157 [(.t 7)]⟩, ⟨some 5, none, .mv (.t 8)⟩]) (.seq (.reg [⟨some 9, none, .mv (.t 1)⟩, ⟨some 10, none, .call 157 [(.t 9)]⟩, ⟨some 6, none, .mv (.t 10)⟩]) (.seq (.seq (.reg [⟨some 11, none, .mv (.t 5)⟩]) (.cond (.t 11) (.seq (.seq (.reg [⟨some 12, none, .mv (.t 6)⟩]) (.cond (.t 12) (.seq (.reg [⟨some 4, none, .mv (.c (.int .i64 0))⟩]) .ret) .skip)) (.seq (.reg [⟨some 4, none, .mv (.c (.int .i64 (-(0 + 1))))⟩]) .ret)) .skip)) (.seq (.seq (.reg [⟨some 13, none, .mv (.t 6)⟩]) (.cond (.t 13) (.seq (.reg [⟨some 4, none, .mv (.c (.int .i64 1))⟩]) .ret) .skip)) (.seq (.seq (.reg [⟨some 14, none, .mv (.t 0)⟩, ⟨some 15, none, .mv (.t 1)⟩, ⟨some 16, none, .bin .lss false (.t 14) (.t 15)⟩]) (.cond (.t 16) (.seq (.reg [⟨some 4, none, .mv (.c (.int .i64 (-(0 + 1))))⟩]) .ret) .skip)) (.seq (.seq (.reg [⟨some 17, none, .mv (.t 0)⟩, ⟨some 18, none, .mv (.t 1)⟩, ⟨some 19, none, .bin .gtr false (.t 17) (.t 18)⟩]) (.cond (.t 19) (.seq (.reg [⟨some 4, none, .mv (.c (.int .i64 1))⟩]) .ret) .skip)) (.seq (.reg [⟨some 4, none, .mv (.c (.int .i64 0))⟩]) .ret))))))))
theorem k_cmp_Compare_string : codeOf Tryz.prog 135 = some ⟨20, c_cmp_Compare_string, [(.tmp 4)]⟩ := by kernel_rfl
theorem m_cmp_Compare_string : modes 135 = ⟨[], .asis, none, false⟩ := by unfold modes; rfl
def c_cmp_Compare_int : SC := (.seq (.reg [⟨some 4, none, .mv (.c (.int .i64 0))⟩]) (.seq (.reg [⟨some 7, none, .mv (.t 0)⟩, ⟨some 8, none, .call 139 [(.t 7)]⟩, ⟨some 5, none, .mv (.t 8)⟩]) (.seq (.reg [⟨some 9, none, .mv (.t 1)⟩, ⟨some 10, none, .call 139 [(.t 9)]⟩, ⟨some 6, none, .mv (.t 10)⟩]) (.seq (.seq (.reg [⟨some 11, none, .mv (.t 5)⟩]) (.cond (.t 11) (.seq (.seq (.reg [⟨some 12, none, .mv (.t 6)⟩]) (.cond (.t 12) (.seq (.reg [⟨some 4, none, .mv (.c (.int .i64 0))⟩]) .ret) .skip)) (.seq (.reg [⟨some 4, none, .mv (.c (.int .i64 (-(0 + 1))))⟩]) .ret)) .skip)) (.seq (.seq (.reg [⟨some 13, none, .mv (.t 6)⟩]) (.cond (.t 13) (.seq (.reg [⟨some 4, none, .mv (.c (.int .i64 1))⟩]) .ret) .skip)) (.seq (.seq (.reg [⟨some 14, none, .mv (.t 0)⟩, ⟨some 15, none, .mv (.t 1)⟩, ⟨some 16, none, .bin .lss false (.t 14) (.t 15)⟩]) (.cond (.t 16) (.seq (.reg [⟨some 4, none, .mv (.c (.int .i64 (-(0 + 1))))⟩]) .ret) .skip)) (.seq (.seq (.reg [⟨some 17, none, .mv (.t 0)⟩, ⟨some 18, none, .mv (.t 1)⟩, ⟨some 19, none, .bin .gtr false (.t 17) (.t 18)⟩]) (.cond (.t 19) (.seq (.reg [⟨some 4, none, .mv (.c (.int .i64 1))⟩]) .ret) .skip)) (.seq (.reg [⟨some 4, none, .mv (.c (.int .i64 0))⟩]) .ret))))))))
theorem k_cmp_Compare_int : codeOf Tryz.prog 107 = some ⟨20, c_cmp_Compare_int, [(.tmp 4)]⟩ := by kernel_rfl
theorem m_cmp_Compare_int : modes 107 = ⟨[], .asis, none, false⟩ := by unfold modes; rfl
def c_cmp_Or_int : SC := (.seq (.reg [⟨some 2, none, .mv (.c (.int .i64 0))⟩]) (.seq (.reg [⟨some 3, none, .mv (.c (.int .i64 0))⟩]) (.seq (.seq (.reg [⟨some 6, none, .mv (.t 0)⟩, ⟨some 7, none, .len false (.t 6)⟩, ⟨some 8, none, .mv (.c (.int .i64 0))⟩]) (.block 0 (.loop [0, 0, 0, 1, 0, 0, 1, 1, 1, 0, 0, 0, 0, 0, 0, 0, 0, 0] (.seq (.reg [⟨some 9, none, .bin .lss false (.t 8) (.t 7)⟩]) (.seq (.cond (.t 9) .skip (.exit 0)) (.seq (.block 1 (.seq (.reg [⟨some 10, none, .iaddr 1 (.t 6) (.t 8)⟩, ⟨some 11, none, .load false 1 (.t 10)⟩, ⟨some 5, none, .mv (.t 11)⟩]) (.seq (.reg [⟨some 12, none, .mv (.t 5)⟩, ⟨some 13, none, .mv (.t 3)⟩, ⟨some 14, none, .bin .neq false (.t 12) (.t 13)⟩]) (.cond (.t 14) (.seq (.reg [⟨some 15, none, .mv (.t 5)⟩, ⟨some 2, none, .mv (.t 15)⟩]) .ret) .skip)))) (.reg [⟨some 16, none, .bin .add false (.t 8) (.c (.int .i64 1))⟩, ⟨some 8, none, .mv (.t 16)⟩]))))))) (.seq (.reg [⟨some 17, none, .mv (.t 3)⟩, ⟨some 2, none, .mv (.t 17)⟩]) .ret))))
theorem k_cmp_Or_int : codeOf Tryz.prog 105 = some ⟨18, c_cmp_Or_int, [(.tmp 2)]⟩ := by kernel_rfl
theorem m_cmp_Or_int : modes 105 = ⟨[], .asis, none, false⟩ := by unfold modes; rfl
theorem isNaNS_E (a : ByteArray) : E 157 [.str a] [] = some (.bool false, []) := by
  refine E_walk k_cmp_isNaN_string m_cmp_isNaN_string (of_decide_eq_true rfl) ?_
  simp (disch := omega) only [c_cmp_isNaN_string, go_sem, go_cond, zA, zB, zC, zD, zE, zF, zG, zH, ↓reduceIte, zI, reduceCtorEq, zJ, zK]
theorem isNaNI_E (a : Int) : E 139 [.int .i64 a] [] = some (.bool false, []) := by
  refine E_walk k_cmp_isNaN_int m_cmp_isNaN_int (of_decide_eq_true rfl) ?_
  simp (disch := omega) only [c_cmp_isNaN_int, go_sem, go_cond, zA, zB, zC, zD, zE, zF, zG, zH, ↓reduceIte, zI, reduceCtorEq, zJ, zK]
theorem compareS_E (a b : ByteArray) : E 135 [.str a, .str b] [] = some (.int .i64 (cmpB a b), []) := by
  have h1 := isNaNS_E a
  have h2 := isNaNS_E b
  unfold cmpB
  cases h3 : strLt a b
  · cases h4 : dec (a = b)
    · refine E_walk k_cmp_Compare_string m_cmp_Compare_string (of_decide_eq_true rfl) ?_
      simp (disch := omega) only [c_cmp_Compare_string, go_sem, go_cond, zA, zB, zC, zD, zE, zF, zG, zH, ↓reduceIte, zI, reduceCtorEq, zJ, zK, h1, h2, h3, h4, m_cmp_isNaN_string]
    · refine E_walk k_cmp_Compare_string m_cmp_Compare_string (of_decide_eq_true rfl) ?_
      simp (disch := omega) only [c_cmp_Compare_string, go_sem, go_cond, zA, zB, zC, zD, zE, zF, zG, zH, ↓reduceIte, zI, reduceCtorEq, zJ, zK, h1, h2, h3, h4, m_cmp_isNaN_string]
  · refine E_walk k_cmp_Compare_string m_cmp_Compare_string (of_decide_eq_true rfl) ?_
    simp (disch := omega) only [c_cmp_Compare_string, go_sem, go_cond, zA, zB, zC, zD, zE, zF, zG, zH, ↓reduceIte, zI, reduceCtorEq, zJ, zK, h1, h2, h3, m_cmp_isNaN_string]
theorem compareI_E (a b : Int) : E 107 [.int .i64 a, .int .i64 b] [] = some (.int .i64 (cmpI a b), []) := by
  have h1 := isNaNI_E a
  have h2 := isNaNI_E b
  unfold cmpI
  cases h3 : dec (a < b)
  · cases h4 : dec (b < a)
    · refine E_walk k_cmp_Compare_int m_cmp_Compare_int (of_decide_eq_true rfl) ?_
      simp (disch := omega) only [c_cmp_Compare_int, go_sem, go_cond, zA, zB, zC, zD, zE, zF, zG, zH, ↓reduceIte, zI, reduceCtorEq, zJ, zK, h1, h2, h3, h4, m_cmp_isNaN_int]
    · refine E_walk k_cmp_Compare_int m_cmp_Compare_int (of_decide_eq_true rfl) ?_
      simp (disch := omega) only [c_cmp_Compare_int, go_sem, go_cond, zA, zB, zC, zD, zE, zF, zG, zH, ↓reduceIte, zI, reduceCtorEq, zJ, zK, h1, h2, h3, h4, m_cmp_isNaN_int]
  · refine E_walk k_cmp_Compare_int m_cmp_Compare_int (of_decide_eq_true rfl) ?_
    simp (disch := omega) only [c_cmp_Compare_int, go_sem, go_cond, zA, zB, zC, zD, zE, zF, zG, zH, ↓reduceIte, zI, reduceCtorEq, zJ, zK, h1, h2, h3, m_cmp_isNaN_int]
def orL : List Int → Int
  | [] => 0
  | x :: xs => if x = 0 then orL xs else x
theorem or_E (xs : List Int) (hl : xs.length ≤ 1099511627776) : E 105 [.arr (xs.map fun n => [D.int n])] [] = some (.int .i64 (orL xs), []) := by
  refine E_walk k_cmp_Or_int m_cmp_Or_int (of_decide_eq_true rfl) ?_
  simp (disch := omega) only [c_cmp_Or_int, go_sem, go_cond, zA, zB, zC, zD, zE, zF, zG, zH, ↓reduceIte, zI, reduceCtorEq, zJ, zK]
  refine go_loop (α := Int) (fun a => ⟨slots 18 0 [(3, .int .i64 0), (6, .arr (xs.map fun n => [D.int n])), (7, .int .i64 xs.length), (8, .int .i64 a)], []⟩) (fun a => ∃ k : Nat, a = k ∧ k ≤ (xs).length ∧ orL (xs.drop k) = orL xs) (fun a => (xs).length - (a).toNat) 0 ⟨0, rfl, Nat.zero_le _, by rw [List.drop_zero]⟩ (by simp (disch := omega) only [go_sem, go_cond, zA, zB, zC, zD, zE, zF, zG, zH, ↓reduceIte, zI, reduceCtorEq, zJ, zK]) ?_
  rintro i ⟨k, hi, hk, hR⟩
  have hni : i.toNat = k := by omega
  have hni1 : (i + 1).toNat = k + 1 := by omega
  rcases Nat.lt_or_ge k (xs).length with hlt | hge
  · have hg := get_at (fun n => [D.int n]) hlt
    rw [List.drop_eq_getElem_cons hlt, orL] at hR
    by_cases h0 : xs[k] = 0
    · rw [if_pos h0] at hR
      simp (disch := omega) only [go_sem, go_cond, zA, zB, zC, zD, zE, zF, zG, zH, ↓reduceIte, zI, reduceCtorEq, zJ, zK, hni, hg, h0]
      exact ⟨i + 1, ⟨k + 1, by omega, hlt, hR⟩, by omega, by first | trivial | rfl⟩
    · rw [if_neg h0] at hR
      simp (disch := omega) only [go_sem, go_cond, zA, zB, zC, zD, zE, zF, zG, zH, ↓reduceIte, zI, reduceCtorEq, zJ, zK, hni, hg, h0]
      exact hR
  · rw [List.drop_eq_nil_of_le hge, orL] at hR
    simp (disch := omega) only [go_sem, go_cond, zA, zB, zC, zD, zE, zF, zG, zH, ↓reduceIte, zI, reduceCtorEq, zJ, zK, hni]
    exact hR
theorem or2_E (a b : Int) : E 105 [.arr [[.int a], [.int b]]] [] = some (.int .i64 (orZ a b), []) := by
  have h := or_E [a, b] (by simp)
  have e : orL [a, b] = orZ a b := by
    simp only [orL, orZ]
    split
    · split <;> omega
    · rfl
  rw [e] at h
  exact h
def c_impl_isUpper : SC := (.seq (.reg [⟨some 2, none, .mv (.c (.bool false))⟩]) (.seq (.reg [⟨some 3, none, .mv (.t 0)⟩, ⟨some 4, none, .bin .geq false (.t 3) (.c (.int .u8 65))⟩, ⟨some 5, none, .mv (.t 4)⟩, ⟨(some 6), (some (5, true)), (.mv (.t 0))⟩, ⟨(some 7), (some (5, true)), (.bin .leq false (.t 6) (.c (.int .u8 90)))⟩, ⟨some 8, none, .pick (.t 5) (.t 7) (.c (.bool false))⟩, ⟨some 2, none, .mv (.t 8)⟩]) .ret))
theorem k_impl_isUpper : codeOf Tryz.prog 120 = some ⟨9, c_impl_isUpper, [(.tmp 2)]⟩ := by kernel_rfl
theorem m_impl_isUpper : modes 120 = ⟨[], .asis, none, false⟩ := by unfold modes; rfl
def c_impl_isVar : SC := (.seq (.reg [⟨some 1, none, .boxv 105 2 (.t 0)⟩, ⟨some 2, none, .mv (.c (.bool false))⟩]) (.seq (.reg [⟨some 3, none, .faddr 0 (.t 1)⟩, ⟨some 4, none, .load false 1 (.t 3)⟩, ⟨some 5, none, .idx (.t 4) (.c (.int .i64 0))⟩, ⟨some 6, none, .call 120 [(.t 5)]⟩, ⟨some 2, none, .mv (.t 6)⟩]) .ret))
theorem k_impl_isVar : codeOf Tryz.prog 137 = some ⟨7, c_impl_isVar, [(.tmp 2)]⟩ := by kernel_rfl
theorem m_impl_isVar : modes 137 = ⟨[], .asis, none, false⟩ := by unfold modes; rfl
theorem isUpper_E (n : Int) : E 120 [.int .u8 n] [] = some (.bool (dec (65 ≤ n) && dec (n ≤ 90)), []) := by
  cases h1 : dec (65 ≤ n)
  · refine E_walk k_impl_isUpper m_impl_isUpper (of_decide_eq_true rfl) ?_
    simp (disch := omega) only [c_impl_isUpper, go_sem, go_cond, zA, zB, zC, zD, zE, zF, zG, zH, ↓reduceIte, zI, reduceCtorEq, zJ, zK, h1]
  · refine E_walk k_impl_isUpper m_impl_isUpper (of_decide_eq_true rfl) ?_
    simp (disch := omega) only [c_impl_isUpper, go_sem, go_cond, zA, zB, zC, zD, zE, zF, zG, zH, ↓reduceIte, zI, reduceCtorEq, zJ, zK, h1]
theorem isVar_E (x : Tm) (h : x.cok = true) : E 137 [x.sv] [] = some (.bool (varB x.name), []) := by
  rw [Tm.cok_eq, Bool.and_eq_true] at h
  obtain ⟨h1, h2⟩ := nameC_upp h.1
  have h3 := isUpper_E (byteAt x.name 0)
  rw [h2] at h3
  refine E_walk k_impl_isVar m_impl_isVar (of_decide_eq_true rfl) ?_
  simp (disch := omega) only [c_impl_isVar, go_sem, go_cond, zA, zB, zC, zD, zE, zF, zG, zH, ↓reduceIte, zI, reduceCtorEq, zJ, zK, h3, m_impl_isUpper]
def allTo (p : Nat → Bool) : Nat → Bool
  | 0 => true
  | k + 1 => allTo p k && p k
theorem allTo_mono {p : Nat → Bool} {k n : Nat} (h : allTo p k = false) (hn : k ≤ n) : allTo p n = false := by
  induction n with
  | zero => obtain rfl : k = 0 := by omega
            exact h
  | succ n ih =>
    rcases Nat.lt_or_ge n k with h1 | h1
    · obtain rfl : k = n + 1 := by omega
      exact h
    · rw [allTo, ih h1]; rfl
theorem allTo_at {p : Nat → Bool} {k j : Nat} (h : allTo p k = true) (hj : j < k) : p j = true := by
  induction k with
  | zero => omega
  | succ k ih =>
    rw [allTo, Bool.and_eq_true] at h
    rcases Nat.lt_or_ge j k with h1 | h1
    · exact ih h.1 h1
    · obtain rfl : j = k := by omega
      exact h.2
theorem allTo_no {p : Nat → Bool} {k n : Nat} (h : p k = false) (hk : k < n) : allTo p n = false := allTo_mono (k := k + 1) (by rw [allTo, h, Bool.and_false]) (by omega)
noncomputable def inI (x lo hi : Int) : Bool := dec (lo ≤ x) && dec (x ≤ hi)
theorem inI_iff {x lo hi : Int} : inI x lo hi = true ↔ lo ≤ x ∧ x ≤ hi := by unfold inI; rw [Bool.and_eq_true, dec_iff, dec_iff]
def pw (b : Int) : Nat → Int
  | 0 => 1
  | k + 1 => pw b k * b
theorem pw_bound {b : Int} (h1 : 1 ≤ b) (h3 : b ≤ 3) : ∀ k : Nat, 1 ≤ pw b k ∧ pw b k ≤ (3 : Int) ^ k
  | 0 => by simp [pw]
  | k + 1 => by
    obtain ⟨i1, i2⟩ := pw_bound h1 h3 k
    rw [pw, Int.pow_succ]
    constructor
    · have := Int.mul_le_mul i1 h1 (by omega) (by omega)
      simpa using this
    · exact Int.mul_le_mul i2 h3 (by omega) (by omega)
theorem pow3_mono {k n : Nat} (h : k ≤ n) : (3 : Int) ^ k ≤ 3 ^ n := by
  have := Nat.pow_le_pow_right (n := 3) (by omega) h
  exact_mod_cast this
theorem pw_small {b : Int} (h1 : 1 ≤ b) (h3 : b ≤ 3) {k : Nat} (hk : k ≤ 12) : 1 ≤ pw b k ∧ pw b k ≤ 531441 := by
  obtain ⟨i1, i2⟩ := pw_bound h1 h3 k
  have := pow3_mono hk
  have e : (3 : Int) ^ 12 = 531441 := by decide
  omega
theorem pw_mid {b : Int} (h1 : 1 ≤ b) (h3 : b ≤ 3) {k : Nat} (hk : k ≤ 30) : 1 ≤ pw b k ∧ pw b k ≤ 205891132094649 := by
  obtain ⟨i1, i2⟩ := pw_bound h1 h3 k
  have := pow3_mono hk
  have e : (3 : Int) ^ 30 = 205891132094649 := by decide
  omega
noncomputable def keyLt (a b : Tl) : Bool := strLt a.name b.name || (dec (a.name = b.name) && dec (a.arity < b.arity))
noncomputable def tlAt (ts : List Tl) (k : Nat) : Bool := match ts[k]? with
  | none => true
  | some t => symB t.name && (inI t.arity 0 3 && (match k with
    | 0 => true
    | j + 1 => match ts[j]? with
      | none => true
      | some u => keyLt u t))
theorem tlAt_zero {ts : List Tl} (h : 0 < ts.length) : tlAt ts 0 = (symB ts[0].name && inI ts[0].arity 0 3) := by
  unfold tlAt
  rw [List.getElem?_eq_getElem h]
  simp
theorem tlAt_succ {ts : List Tl} {j : Nat} (h : j + 1 < ts.length) : tlAt ts (j + 1) = (symB ts[j + 1].name && (inI ts[j + 1].arity 0 3 && keyLt ts[j] ts[j + 1])) := by
  unfold tlAt
  rw [List.getElem?_eq_getElem h]
  simp only [List.getElem?_eq_getElem (show j < ts.length by omega)]
theorem tlAt_parts {ts : List Tl} {k : Nat} (h : k < ts.length) (ht : tlAt ts k = true) : symB ts[k].name = true ∧ inI ts[k].arity 0 3 = true := by
  cases k with
  | zero => rw [tlAt_zero h, Bool.and_eq_true] at ht; exact ht
  | succ j => rw [tlAt_succ h, Bool.and_eq_true, Bool.and_eq_true] at ht; exact ⟨ht.1, ht.2.1⟩
noncomputable def tabsB (ts : List Tl) : Bool := allTo (tlAt ts) ts.length && decide (ts.length ≤ 12)
def kinds (sz : Int) (t : Tl) : Int := if t.pred then 2 else sz
noncomputable def tlB (sz : Int) (t : Tl) : Bool := dec ((t.vals.length : Int) = pw sz t.arity.toNat) && t.vals.all fun v => inI v 0 (kinds sz t - 1)
noncomputable def Ip.ok (m : Ip) : Bool := inI m.size 1 3 && (tabsB m.tables && m.tables.all (tlB m.size))
theorem Ip.ok_parts {m : Ip} (h : m.ok = true) : (1 ≤ m.size ∧ m.size ≤ 3) ∧ tabsB m.tables = true ∧ m.tables.all (tlB m.size) = true := by
  unfold Ip.ok at h
  rw [Bool.and_eq_true, Bool.and_eq_true, inI_iff] at h
  exact h
theorem tabsB_arity {ts : List Tl} (h : tabsB ts = true) {t : Tl} (ht : t ∈ ts) : 0 ≤ t.arity ∧ t.arity ≤ 3 := by
  unfold tabsB at h
  rw [Bool.and_eq_true] at h
  obtain ⟨k, hk, rfl⟩ := List.getElem_of_mem ht
  exact inI_iff.1 (tlAt_parts hk (allTo_at h.1 hk)).2
def Ip.tame (m : Ip) : Prop := m.tables.length ≤ 1099511627776 ∧ ∀ t ∈ m.tables, t.vals.length ≤ 1099511627776
theorem less_asymm : ∀ x y : List UInt8, Op.bytesLess x y = true → Op.bytesLess y x = false
  | [], [], h => by simp [Op.bytesLess] at h
  | [], _ :: _, _ => rfl
  | _ :: _, [], h => by simp [Op.bytesLess] at h
  | a :: x, b :: y, h => by
    simp only [Op.bytesLess, Bool.or_eq_true, decide_eq_true_eq, Bool.and_eq_true, beq_iff_eq] at h
    simp only [Op.bytesLess, Bool.or_eq_false_iff, decide_eq_false_iff_not]
    rcases h with h | ⟨rfl, h⟩
    · have h2 : ¬ b < a := by intro h3; exact absurd (UInt8.lt_trans h h3) (UInt8.lt_irrefl _)
      have h3 : (b == a) = false := by
        rw [beq_eq_false_iff_ne]; rintro rfl; exact UInt8.lt_irrefl _ h
      exact ⟨h2, by rw [h3]; rfl⟩
    · exact ⟨UInt8.lt_irrefl _, by rw [less_asymm x y h]; simp⟩
theorem less_total : ∀ x y : List UInt8, Op.bytesLess x y = false → Op.bytesLess y x = false → x = y
  | [], [], _, _ => rfl
  | [], _ :: _, h, _ => by simp [Op.bytesLess] at h
  | _ :: _, [], _, h => by simp [Op.bytesLess] at h
  | a :: x, b :: y, h, k => by
    simp only [Op.bytesLess, Bool.or_eq_false_iff, decide_eq_false_iff_not] at h k
    have hab : a = b := by
      have h1 := h.1; have h2 := k.1
      rw [UInt8.lt_iff_toNat_lt] at h1 h2
      exact UInt8.toNat_inj.1 (by omega)
    subst hab
    have h1 : Op.bytesLess x y = false := by simpa using h.2
    have h2 : Op.bytesLess y x = false := by simpa using k.2
    rw [less_total x y h1 h2]
theorem strLt_asymm {a b : ByteArray} (h : strLt a b = true) : strLt b a = false := less_asymm _ _ h
theorem strLt_total {a b : ByteArray} (h : strLt a b = false) (h' : strLt b a = false) : a = b := bytes_ext (less_total _ _ h h')
theorem less_trans : ∀ x y z : List UInt8, Op.bytesLess x y = true → Op.bytesLess y z = true → Op.bytesLess x z = true
  | _, _, [], _, h => by simp [Op.bytesLess] at h
  | [], [], _ :: _, h, _ => by simp [Op.bytesLess] at h
  | [], _ :: _, _ :: _, _, _ => rfl
  | _ :: _, [], _ :: _, h, _ => by simp [Op.bytesLess] at h
  | a :: x, b :: y, c :: z, h, k => by
    simp only [Op.bytesLess, Bool.or_eq_true, decide_eq_true_eq, Bool.and_eq_true, beq_iff_eq] at h k ⊢
    rcases h with h | ⟨rfl, h⟩
    · rcases k with k | ⟨rfl, k⟩
      · exact .inl (UInt8.lt_trans h k)
      · exact .inl h
    · rcases k with k | ⟨rfl, k⟩
      · exact .inl k
      · exact .inr ⟨rfl, less_trans x y z h k⟩
theorem strLt_trans {a b c : ByteArray} (h : strLt a b = true) (k : strLt b c = true) : strLt a c = true := less_trans _ _ _ h k
theorem strLt_ne {a b : ByteArray} (h : strLt a b = true) : ¬ a = b := by rintro rfl; rw [strLt_self] at h; cases h
abbrev Env := ByteArray → Option Int
def envM (e : Env) : MF
  | .str s => match e s with
    | some n => some (false, [.int n])
    | none => none
  | .int _ => none
theorem envM_str (e : Env) (s : ByteArray) : envM e (.str s) = match e s with | some n => some (false, [.int n]) | none => none := rfl
noncomputable def putE (e : Env) (s : ByteArray) (n : Int) : Env := fun q => bif dec (q = s) then some n else e q
theorem envM_put (e : Env) (s : ByteArray) (n : Int) : mput (envM e) (.str s) (false, [.int n]) = envM (putE e s n) := by
  funext k
  cases k with
  | int i => rw [mput_ne (fun h => by cases h)]; rfl
  | str q =>
    rw [mput_str, envM_str, envM_str]
    unfold putE
    cases dec (q = s) <;> rfl
theorem envM_none : envM (fun _ => none) = nomap := by
  funext k
  cases k <;> rfl
def InE (sz : Int) (e : Env) : Prop := ∀ s n, e s = some n → 0 ≤ n ∧ n < sz
noncomputable def asg : List Ag → Env
  | [], _ => none
  | x :: r, s => bif dec (x.var = s) then some x.elem else asg r s
theorem asg_in {sz : Int} : ∀ {xs : List Ag}, (∀ x ∈ xs, 0 ≤ x.elem ∧ x.elem < sz) → InE sz (asg xs)
  | [], _ => fun s n h => by rw [asg] at h; cases h
  | x :: r, h => fun s n hs => by
    rw [asg] at hs
    by_cases he : x.var = s
    · rw [dec_t he, cond_true] at hs
      obtain rfl := Option.some.inj hs
      exact h x (by simp)
    · rw [dec_f he, cond_false] at hs
      exact asg_in (fun y hy => h y (by simp [hy])) s n hs
noncomputable def tabF (ts : List Tl) (n : ByteArray) (k : Int) (p : Bool) : Option Tl := ts.find? fun t => dec (t.name = n) && (dec (t.arity = k) && (t.pred == p))
noncomputable def readT (ts : List Tl) (n : ByteArray) (k : Int) (p : Bool) (at_ : Option Int) : Option Int :=
  match tabF ts n k p, at_ with
  | some t, some i => some (t.vals.getD i.toNat 0)
  | _, _ => none
mutual
noncomputable def Tm.val (m : Ip) (e : Env) : Tm → Option Int
  | .mk n args => bif varB n then e n else readT m.tables n args.length false (Tm.valS m e args 0)
noncomputable def Tm.valS (m : Ip) (e : Env) : List Tm → Int → Option Int
  | [], i => some i
  | x :: xs, i => match Tm.val m e x with
    | some v => Tm.valS m e xs (i * m.size + v)
    | none => none
end
theorem Tm.val_eq (m : Ip) (e : Env) (x : Tm) : x.val m e = bif varB x.name then e x.name else readT m.tables x.name x.args.length false (Tm.valS m e x.args 0) := by
  obtain ⟨n, a⟩ := x
  rw [Tm.val]; rfl
theorem valS_range {m : Ip} {e : Env} (h1 : 1 ≤ m.size) : ∀ {xs : List Tm} {i r : Int}, (∀ x ∈ xs, ∀ v, x.val m e = some v → 0 ≤ v ∧ v < m.size) → 0 ≤ i → Tm.valS m e xs i = some r → i * pw m.size xs.length ≤ r ∧ r < (i + 1) * pw m.size xs.length
  | [], i, r, _, h0, h => by
    rw [Tm.valS] at h
    obtain rfl := Option.some.inj h
    simp [pw]
    omega
  | x :: xs, i, r, hx, h0, h => by
    rw [Tm.valS] at h
    cases hv : x.val m e with
    | none => rw [hv] at h; cases h
    | some v =>
      rw [hv] at h
      obtain ⟨v0, v1⟩ := hx x (by simp) v hv
      have hn : 0 ≤ i * m.size + v := by
        have := Int.mul_nonneg h0 (show 0 ≤ m.size by omega)
        omega
      obtain ⟨g1, g2⟩ := valS_range h1 (fun y hy => hx y (by simp [hy])) hn h
      have hp : 0 ≤ pw m.size xs.length := by
        clear g1 g2 h hx
        induction xs with
        | nil => simp [pw]
        | cons y ys ih => rw [List.length_cons, pw]; exact Int.mul_nonneg ih (by omega)
      rw [List.length_cons, pw]
      have e1 : i * (pw m.size xs.length * m.size) = (i * m.size) * pw m.size xs.length := by rw [Int.mul_assoc, Int.mul_comm m.size]
      have e2 : (i + 1) * (pw m.size xs.length * m.size) = (i * m.size + m.size) * pw m.size xs.length := by
        rw [Int.mul_comm (pw m.size xs.length), ← Int.mul_assoc, Int.add_mul i 1 m.size, Int.one_mul]
      rw [e1, e2]
      have k1 : (i * m.size) * pw m.size xs.length ≤ (i * m.size + v) * pw m.size xs.length := Int.mul_le_mul_of_nonneg_right (by omega) hp
      have k2 : (i * m.size + v + 1) * pw m.size xs.length ≤ (i * m.size + m.size) * pw m.size xs.length := Int.mul_le_mul_of_nonneg_right (by omega) hp
      omega
theorem tabF_some {ts : List Tl} {n : ByteArray} {k : Int} {p : Bool} {t : Tl} (h : tabF ts n k p = some t) : t ∈ ts ∧ t.name = n ∧ t.arity = k ∧ t.pred = p := by
  unfold tabF at h
  have h1 := List.mem_of_find?_eq_some h
  have h2 := List.find?_some h
  rw [Bool.and_eq_true, Bool.and_eq_true, dec_iff, dec_iff] at h2
  exact ⟨h1, h2.1, h2.2.1, by simpa using h2.2.2⟩
theorem read_in {m : Ip} (hm : m.ok = true) {n : ByteArray} {l : Nat} {p : Bool} {t : Tl} (ht : tabF m.tables n l p = some t) {i : Int} (h0 : 0 ≤ i) (h1 : i < pw m.size l) : ∃ h : i.toNat < t.vals.length, t.vals.getD i.toNat 0 = t.vals[i.toNat] ∧ 0 ≤ t.vals[i.toNat] ∧ t.vals[i.toNat] < kinds m.size t := by
  obtain ⟨_, _, h3⟩ := Ip.ok_parts hm
  obtain ⟨t1, t2, t3, t4⟩ := tabF_some ht
  have := (List.all_eq_true.1 h3) t t1
  unfold tlB at this
  rw [Bool.and_eq_true, dec_iff, List.all_eq_true, t3] at this
  have e : (l : Int).toNat = l := by omega
  rw [e] at this
  have hl : i.toNat < t.vals.length := by omega
  refine ⟨hl, by rw [List.getD_eq_getElem?_getD, List.getElem?_eq_getElem hl]; rfl, ?_⟩
  have h5 := inI_iff.1 (this.2 _ (List.getElem_mem hl))
  omega
theorem Tm.val_in {m : Ip} (hm : m.ok = true) {e : Env} (he : InE m.size e) (x : Tm) : ∀ v, x.val m e = some v → 0 ≤ v ∧ v < m.size := by
  intro v hv
  have ih : ∀ y ∈ x.args, ∀ v, y.val m e = some v → 0 ≤ v ∧ v < m.size := fun y hy => Tm.val_in hm he y
  obtain ⟨⟨h1, _⟩, _⟩ := Ip.ok_parts hm
  rw [Tm.val_eq] at hv
  cases hb : varB x.name with
  | true => rw [hb] at hv; exact he _ _ hv
  | false =>
    rw [hb, cond_false] at hv
    unfold readT at hv
    split at hv
    · rename_i t i ht hi
      obtain rfl := Option.some.inj hv
      obtain ⟨g1, g2⟩ := valS_range h1 ih (Int.le_refl 0) hi
      rw [Int.zero_mul] at g1
      rw [Int.zero_add, Int.one_mul] at g2
      obtain ⟨h2, h3, h4, h5⟩ := read_in hm ht g1 g2
      rw [h3]
      obtain ⟨_, _, _, t4⟩ := tabF_some ht
      unfold kinds at h5
      rw [t4] at h5
      simp at h5
      exact ⟨h4, h5⟩
    · cases hv
termination_by SizeOf.sizeOf x
decreasing_by exact Tm.lt_of_mem hy
noncomputable def Tm.tru (m : Ip) (e : Env) (x : Tm) : Option Int :=
  if x.eqn then match Tm.valS m e x.args 0 with
    | some i => some (bif dec (i.tmod m.size = i.tdiv m.size) then 1 else 0)
    | none => none
  else readT m.tables x.name x.args.length true (Tm.valS m e x.args 0)
theorem var_noSym {s : ByteArray} (h : varB s = true) : symB s = false := by
  unfold varB at h
  rw [Bool.and_eq_true] at h
  have hsz : 0 < s.size := by
    have h2 := h.2
    unfold inB at h2
    rw [Bool.and_eq_true, decide_eq_true_eq, decide_eq_true_eq] at h2
    omega
  have h0 := loopB_zero h.1 hsz
  unfold symB
  have h1 : loopB symOk s s.size = false := loopB_stop (k := 0) hsz (by
    unfold varOk at h0
    unfold symOk
    rw [Bool.and_eq_true] at h0
    have hu : uppB (byteZ s 0) = true := by simpa using h0.1
    have hlo : lowB (byteZ s 0) = false := by
      unfold uppB at hu
      unfold lowB
      rw [Bool.and_eq_true, decide_eq_true_eq, decide_eq_true_eq] at hu
      rw [decide_eq_false (by omega)]
      rfl
    rw [hlo]
    rfl)
  rw [h1]
  rfl
mutual
def Fm.nodes : Fm → Nat
  | .mk _ _ _ args => 1 + Fm.nodeS args
def Fm.nodeS : List Fm → Nat
  | [] => 0
  | x :: xs => Fm.nodes x + Fm.nodeS xs
end
theorem Fm.nodes_eq (x : Fm) : x.nodes = 1 + Fm.nodeS x.parts := by
  obtain ⟨op, atom, var, parts⟩ := x
  rw [Fm.nodes]; rfl
theorem Fm.nodes_pos (x : Fm) : 1 ≤ x.nodes := by rw [Fm.nodes_eq]; omega
theorem Fm.nodes_le : ∀ (xs : List Fm) (k : Nat) (h : k < xs.length), xs[k].nodes ≤ Fm.nodeS xs
  | [], k, h => absurd h (by simp)
  | x :: xs, 0, _ => by rw [Fm.nodeS]; simp
  | x :: xs, k + 1, h => by
    have := Fm.nodes_le xs k (by simpa using h)
    rw [Fm.nodeS]; simp only [List.getElem_cons_succ]; omega
theorem Fm.nodes_mem {xs : List Fm} {y : Fm} (h : y ∈ xs) : y.nodes ≤ Fm.nodeS xs := by
  obtain ⟨k, hk, rfl⟩ := List.getElem_of_mem h
  exact Fm.nodes_le xs k hk
mutual
def Fm.cap : Fm → Int
  | .mk _ _ _ xs => Fm.capL xs 1
def Fm.capL : List Fm → Int → Int
  | [], n => n
  | x :: xs, n => if 40 < n then n else Fm.capL xs (n + Fm.cap x)
end
theorem Fm.cap_eq (x : Fm) : x.cap = Fm.capL x.parts 1 := by
  obtain ⟨op, atom, var, xs⟩ := x
  rw [Fm.cap]; rfl
theorem Fm.capL_spec : ∀ (xs : List Fm) (n : Int), (∀ x ∈ xs, 1 ≤ x.cap ∧ x.cap ≤ x.nodes ∧ (x.cap ≤ 40 → x.cap = x.nodes)) → 1 ≤ n → n ≤ Fm.capL xs n ∧ Fm.capL xs n ≤ n + Fm.nodeS xs ∧ (Fm.capL xs n ≤ 40 → Fm.capL xs n = n + Fm.nodeS xs)
  | [], n, _, h => by simp [Fm.capL, Fm.nodeS]
  | x :: xs, n, hx, h => by
    rw [Fm.capL, Fm.nodeS]
    have h1 := hx x (by simp)
    split
    · omega
    · have := Fm.capL_spec xs (n + x.cap) (fun y hy => hx y (by simp [hy])) (by omega)
      omega
theorem Fm.cap_spec (x : Fm) : 1 ≤ x.cap ∧ x.cap ≤ x.nodes ∧ (x.cap ≤ 40 → x.cap = x.nodes) := by
  rw [Fm.cap_eq, Fm.nodes_eq]
  have := Fm.capL_spec x.parts 1 (fun y hy => Fm.cap_spec y) (by omega)
  omega
termination_by SizeOf.sizeOf x
decreasing_by exact Fm.lt_of_mem hy
mutual
def Fm.many : Fm → Int → Int
  | .mk _ _ _ xs, m => Fm.manyL xs m 1
def Fm.manyL : List Fm → Int → Int → Int
  | [], _, n => n
  | x :: xs, m, n => if n ≤ m then Fm.manyL xs m (n + Fm.many x (m - n)) else n
end
theorem Fm.many_eq (x : Fm) (m : Int) : x.many m = Fm.manyL x.parts m 1 := by
  obtain ⟨op, atom, var, xs⟩ := x
  rw [Fm.many]; rfl
theorem Fm.manyL_spec (m : Int) : ∀ (xs : List Fm) (n : Int), (∀ x ∈ xs, ∀ m, 0 ≤ m → 1 ≤ x.many m ∧ x.many m ≤ x.nodes ∧ (x.many m ≤ m → x.many m = x.nodes)) → 1 ≤ n → n ≤ Fm.manyL xs m n ∧ Fm.manyL xs m n ≤ n + Fm.nodeS xs ∧ (Fm.manyL xs m n ≤ m → Fm.manyL xs m n = n + Fm.nodeS xs)
  | [], n, _, h => by simp [Fm.manyL, Fm.nodeS]
  | x :: xs, n, hx, h => by
    rw [Fm.manyL, Fm.nodeS]
    split
    · have h1 := hx x (by simp) (m - n) (by omega)
      have := Fm.manyL_spec m xs (n + x.many (m - n)) (fun y hy => hx y (by simp [hy])) (by omega)
      omega
    · omega
theorem Fm.many_spec (x : Fm) (m : Int) : 1 ≤ x.many m ∧ x.many m ≤ x.nodes ∧ (x.many m ≤ m → x.many m = x.nodes) := by
  rw [Fm.many_eq, Fm.nodes_eq]
  have := Fm.manyL_spec m x.parts 1 (fun y hy m _ => Fm.many_spec y m) (by omega)
  omega
termination_by SizeOf.sizeOf x
decreasing_by exact Fm.lt_of_mem hy
noncomputable def Tm.isZ (x : Tm) : Bool := dec (x.name = ⟨#[]⟩) && x.args.length == 0
noncomputable def Fm.form (x : Fm) : Bool :=
  if x.op = 1 ∨ x.op = 2 then x.parts.length == 0 && x.atom.isZ && dec (x.var = ⟨#[]⟩)
  else if x.op = 3 then x.parts.length == 0 && x.atom.atom && dec (x.var = ⟨#[]⟩)
  else if x.op = 4 then x.parts.length == 1 && x.atom.isZ && dec (x.var = ⟨#[]⟩)
  else if x.op = 5 ∨ x.op = 6 ∨ x.op = 7 then x.parts.length == 2 && x.atom.isZ && dec (x.var = ⟨#[]⟩)
  else if x.op = 8 ∨ x.op = 9 then x.parts.length == 1 && x.atom.isZ && varB x.var
  else false
mutual
noncomputable def Fm.forms : Fm → Bool
  | .mk op atom var parts => Fm.form (.mk op atom var parts) && Fm.formS parts
noncomputable def Fm.formS : List Fm → Bool
  | [] => true
  | x :: xs => Fm.forms x && Fm.formS xs
end
theorem Fm.formS_all : ∀ xs : List Fm, Fm.formS xs = xs.all Fm.forms
  | [] => rfl
  | x :: xs => by rw [Fm.formS, Fm.formS_all xs]; rfl
theorem Fm.any_not (xs : List Fm) : (!xs.any fun y => !y.forms) = Fm.formS xs := by
  rw [Fm.formS_all]
  induction xs with
  | nil => rfl
  | cons x xs ih => simp only [List.any_cons, List.all_cons, Bool.not_or, Bool.not_not, ih]
noncomputable def Fm.valid (x : Fm) : Bool := decide (x.nodes ≤ 40) && x.forms
theorem Fm.length_le : ∀ xs : List Fm, xs.length ≤ Fm.nodeS xs
  | [] => by simp
  | x :: xs => by
    have h := Fm.length_le xs
    have h1 := Fm.nodes_pos x
    rw [Fm.nodeS, List.length_cons]; omega
mutual
def Fm.tame : Fm → Prop
  | .mk _ atom _ parts => atom.nodes ≤ 1099511627776 ∧ Fm.tameS parts
def Fm.tameS : List Fm → Prop
  | [] => True
  | x :: xs => Fm.tame x ∧ Fm.tameS xs
end
theorem Fm.tame_eq (x : Fm) : x.tame = (x.atom.nodes ≤ 1099511627776 ∧ Fm.tameS x.parts) := by
  obtain ⟨op, atom, var, parts⟩ := x
  rw [Fm.tame]; rfl
theorem Fm.tame_at {x : Fm} (h : x.tame) : x.atom.nodes ≤ 1099511627776 := by rw [Fm.tame_eq] at h; exact h.1
noncomputable def qB (op : Int) : Bool := dec (op = 8) || dec (op = 9)
theorem Tm.atom_nodes {x : Tm} (h : x.atom = true) : x.nodes ≤ 30 := by
  have key : x.small = true := by
    unfold Tm.atom at h
    split at h
    · rw [Bool.and_eq_true, Bool.and_eq_true] at h; exact h.1.2
    · rw [Bool.and_eq_true] at h
      have h2 := h.2
      unfold Tm.valid at h2
      rw [Bool.and_eq_true] at h2; exact h2.1
  unfold Tm.small at key
  rw [Bool.and_eq_true, decide_eq_true_eq] at key
  exact key.1
theorem Tm.atom_args {x : Tm} (h : x.atom = true) : (varB x.name = true → x.args = []) ∧ ∀ y ∈ x.args, y.names = true := by
  unfold Tm.atom at h
  cases he : x.eqn with
  | true =>
    rw [he, if_pos rfl, Bool.and_eq_true, Bool.and_eq_true] at h
    have h2 := h.2
    rw [Tm.nameS_all, List.all_eq_true] at h2
    refine ⟨fun hv => ?_, h2⟩
    have hn := dec_iff.1 he
    have hnv0 : varB ⟨#[61]⟩ = false := by kernel_rfl
    rw [hn, hnv0] at hv
    cases hv
  | false =>
    rw [he, if_neg (by simp), Bool.and_eq_true] at h
    have hnm : x.names = true := by have h3 := h.2; unfold Tm.valid at h3; rw [Bool.and_eq_true] at h3; exact h3.2
    exact ⟨fun hv => Tm.names_var hnm hv, fun y hy => Tm.names_arg hnm hy⟩
mutual
noncomputable def Tm.vs : Tm → List ByteArray
  | .mk name args => bif varB name then [name] else Tm.vsL args
noncomputable def Tm.vsL : List Tm → List ByteArray
  | [] => []
  | x :: xs => Tm.vs x ++ Tm.vsL xs
end
theorem Tm.vs_eq (x : Tm) : x.vs = bif varB x.name then [x.name] else Tm.vsL x.args := by
  obtain ⟨n, a⟩ := x
  rw [Tm.vs]; rfl
theorem Tm.vsL_mem {v : ByteArray} : ∀ {xs : List Tm}, v ∈ Tm.vsL xs ↔ ∃ x ∈ xs, v ∈ x.vs
  | [] => by simp [Tm.vsL]
  | x :: xs => by rw [Tm.vsL, List.mem_append, Tm.vsL_mem (xs := xs)]; simp
theorem Tm.vsL_len : ∀ xs : List Tm, (∀ x ∈ xs, x.vs.length ≤ x.nodes) → (Tm.vsL xs).length ≤ Tm.nodeS xs
  | [], _ => by simp [Tm.vsL]
  | x :: xs, h => by
    have h1 := h x (by simp)
    have h2 := Tm.vsL_len xs fun y hy => h y (by simp [hy])
    rw [Tm.vsL, Tm.nodeS, List.length_append]; omega
theorem Tm.vs_len (x : Tm) : x.vs.length ≤ x.nodes := by
  have h := Tm.vsL_len x.args fun y hy => Tm.vs_len y
  rw [Tm.vs_eq, Tm.nodes_eq]
  cases varB x.name with
  | true => simp
  | false => simp only [cond_false]; omega
termination_by SizeOf.sizeOf x
decreasing_by exact Tm.lt_of_mem hy
noncomputable def addU (l : List ByteArray) (n : ByteArray) : List ByteArray := bif dec (n ∈ l) then l else l ++ [n]
theorem addU_len (l : List ByteArray) (n : ByteArray) : (addU l n).length ≤ l.length + 1 := by
  unfold addU
  cases dec (n ∈ l) <;> simp
theorem addU_mem {l : List ByteArray} {n m : ByteArray} : m ∈ addU l n ↔ m ∈ l ∨ m = n := by
  unfold addU
  by_cases h : n ∈ l
  · rw [dec_t h, cond_true]
    exact ⟨.inl, fun h' => h'.elim id fun e => e ▸ h⟩
  · rw [dec_f h, cond_false]
    simp
theorem addU_nodup {l : List ByteArray} {n : ByteArray} (h : l.Nodup) : (addU l n).Nodup := by
  unfold addU
  by_cases k : n ∈ l
  · rw [dec_t k]; exact h
  · rw [dec_f k, cond_false, List.nodup_append]
    exact ⟨h, by simp, fun a ha b hb e => by simp at hb; subst hb; subst e; exact k ha⟩
noncomputable def addA (l ns : List ByteArray) : List ByteArray := ns.foldl addU l
theorem addA_len : ∀ (ns l : List ByteArray), (addA l ns).length ≤ l.length + ns.length
  | [], l => by simp [addA]
  | n :: ns, l => by
    have h := addA_len ns (addU l n)
    have h2 := addU_len l n
    simp only [addA, List.foldl_cons, List.length_cons] at h ⊢
    omega
theorem addA_mem : ∀ {ns l : List ByteArray} {m : ByteArray}, m ∈ addA l ns ↔ m ∈ l ∨ m ∈ ns
  | [], l, m => by simp [addA]
  | n :: ns, l, m => by
    have h := addA_mem (ns := ns) (l := addU l n) (m := m)
    simp only [addA, List.foldl_cons] at h ⊢
    rw [h, addU_mem]
    simp only [List.mem_cons]
    exact or_assoc
theorem addA_nodup : ∀ {ns l : List ByteArray}, l.Nodup → (addA l ns).Nodup
  | [], l, h => h
  | n :: ns, l, h => addA_nodup (ns := ns) (addU_nodup h)
theorem addA_app (l a b : List ByteArray) : addA l (a ++ b) = addA (addA l a) b := List.foldl_append
def c_slices_Index_string_string : SC := (.seq (.reg [⟨some 4, none, .mv (.c (.int .i64 0))⟩]) (.seq (.seq (.reg [⟨some 6, none, .mv (.t 0)⟩, ⟨some 7, none, .len false (.t 6)⟩, ⟨some 8, none, .mv (.c (.int .i64 0))⟩]) (.block 0 (.loop [1, 1, 0, 0, 0, 0, 0, 1, 1, 0, 0, 0, 0, 0, 0, 0, 0, 0, 0] (.seq (.reg [⟨some 9, none, .bin .lss false (.t 8) (.t 7)⟩]) (.seq (.cond (.t 9) .skip (.exit 0)) (.seq (.block 1 (.seq (.reg [⟨some 10, none, .mv (.t 8)⟩, ⟨some 5, none, .mv (.t 10)⟩]) (.seq (.reg [⟨some 11, none, .mv (.t 1)⟩, ⟨some 12, none, .mv (.t 0)⟩, ⟨some 13, none, .mv (.t 5)⟩, ⟨some 14, none, .iaddr 1 (.t 12) (.t 13)⟩, ⟨some 15, none, .load false 1 (.t 14)⟩, ⟨some 16, none, .bin .eql false (.t 11) (.t 15)⟩]) (.cond (.t 16) (.seq (.reg [⟨some 17, none, .mv (.t 5)⟩, ⟨some 4, none, .mv (.t 17)⟩]) .ret) .skip)))) (.reg [⟨some 18, none, .bin .add false (.t 8) (.c (.int .i64 1))⟩, ⟨some 8, none, .mv (.t 18)⟩]))))))) (.seq (.reg [⟨some 4, none, .mv (.c (.int .i64 (-(0 + 1))))⟩]) .ret)))
theorem k_slices_Index_string_string : codeOf Tryz.prog 156 = some ⟨19, c_slices_Index_string_string, [(.tmp 4)]⟩ := by kernel_rfl
theorem m_slices_Index_string_string : modes 156 = ⟨[], .asis, none, false⟩ := by unfold modes; rfl
def c_slices_Contains_string_string : SC := (.seq (.reg [⟨some 4, none, .mv (.c (.bool false))⟩]) (.seq (.reg [⟨some 5, none, .mv (.t 0)⟩, ⟨some 6, none, .mv (.t 1)⟩, ⟨some 7, none, .call 156 [(.t 5), (.t 6)]⟩, ⟨some 8, none, .bin .geq false (.t 7) (.c (.int .i64 0))⟩, ⟨some 4, none, .mv (.t 8)⟩]) .ret))
theorem k_slices_Contains_string_string : codeOf Tryz.prog 133 = some ⟨9, c_slices_Contains_string_string, [(.tmp 4)]⟩ := by kernel_rfl
theorem m_slices_Contains_string_string : modes 133 = ⟨[], .asis, none, false⟩ := by unfold modes; rfl
theorem indexS_E (xs : List ByteArray) (n : ByteArray) (hl : xs.length ≤ 1099511627776) : E 156 [.arr (xs.map fun s => [D.str s]), .str n] [] = some (.int .i64 (idxP (fun s => dec (n = s)) xs 0), []) := by
  refine E_walk k_slices_Index_string_string m_slices_Index_string_string (of_decide_eq_true rfl) ?_
  simp (disch := omega) only [c_slices_Index_string_string, go_sem, go_cond, zA, zB, zC, zD, zE, zF, zG, zH, ↓reduceIte, zI, reduceCtorEq, zJ, zK]
  refine go_loop (α := Int) (fun a => ⟨slots 19 0 [(0, .arr (xs.map fun s => [D.str s])), (1, .str n), (7, .int .i64 xs.length), (8, .int .i64 a)], []⟩) (fun a => ∃ k : Nat, a = k ∧ k ≤ (xs).length ∧ idxP (fun s => dec (n = s)) (xs.drop k) a = idxP (fun s => dec (n = s)) xs 0) (fun a => (xs).length - (a).toNat) 0 ⟨0, rfl, Nat.zero_le _, by rw [List.drop_zero]⟩ (by simp (disch := omega) only [go_sem, go_cond, zA, zB, zC, zD, zE, zF, zG, zH, ↓reduceIte, zI, reduceCtorEq, zJ, zK]) ?_
  rintro i ⟨k, hi, hk, hR⟩
  have hni : i.toNat = k := by omega
  have hni1 : (i + 1).toNat = k + 1 := by omega
  rcases Nat.lt_or_ge k (xs).length with hlt | hge
  · have hg := get_at (fun s => [D.str s]) hlt
    rw [List.drop_eq_getElem_cons hlt, idxP] at hR
    cases hp : dec (n = xs[k]) with
    | true =>
      rw [hp] at hR
      simp (disch := omega) only [go_sem, go_cond, zA, zB, zC, zD, zE, zF, zG, zH, ↓reduceIte, zI, reduceCtorEq, zJ, zK, hni, hg, hp]
      simpa using hR
    | false =>
      rw [hp] at hR
      simp (disch := omega) only [go_sem, go_cond, zA, zB, zC, zD, zE, zF, zG, zH, ↓reduceIte, zI, reduceCtorEq, zJ, zK, hni, hg, hp]
      exact ⟨i + 1, ⟨k + 1, by omega, hlt, by simpa using hR⟩, by omega, by first | trivial | rfl⟩
  · rw [List.drop_eq_nil_of_le hge, idxP] at hR
    simp (disch := omega) only [go_sem, go_cond, zA, zB, zC, zD, zE, zF, zG, zH, ↓reduceIte, zI, reduceCtorEq, zJ, zK, hni]
    exact hR
theorem containsS_E (xs : List ByteArray) (n : ByteArray) (hl : xs.length ≤ 1099511627776) : E 133 [.arr (xs.map fun s => [D.str s]), .str n] [] = some (.bool (dec (n ∈ xs)), []) := by
  have h := indexS_E xs n hl
  have e : dec (n ∈ xs) = dec (0 ≤ idxP (fun s => dec (n = s)) xs 0) := by
    rw [idxP_any]
    by_cases hm : n ∈ xs
    · rw [dec_t hm]
      exact (List.any_eq_true.2 ⟨n, hm, dec_t rfl⟩).symm
    · rw [dec_f hm]
      refine Eq.symm (Bool.eq_false_iff.2 fun h => ?_)
      obtain ⟨x, h1, h2⟩ := List.any_eq_true.1 h
      have e := dec_iff.1 h2
      subst e
      exact hm h1
  rw [e]
  refine E_walk k_slices_Contains_string_string m_slices_Contains_string_string (of_decide_eq_true rfl) ?_
  simp (disch := omega) only [c_slices_Contains_string_string, go_sem, go_cond, zA, zB, zC, zD, zE, zF, zG, zH, ↓reduceIte, zI, reduceCtorEq, zJ, zK, h, m_slices_Index_string_string]
theorem addA_grow : ∀ (ns l : List ByteArray), l.length ≤ (addA l ns).length
  | [], l => by simp [addA]
  | n :: ns, l => by
    have h := addA_grow ns (addU l n)
    have h2 : l.length ≤ (addU l n).length := by unfold addU; cases dec (n ∈ l) <;> simp
    simp only [addA, List.foldl_cons] at h ⊢
    omega
def c_impl_collect : SC := (.seq (.reg [⟨some 3, none, .boxv 105 2 (.t 1)⟩, ⟨some 4, none, .mv (.c .nil)⟩]) (.seq (.seq (.reg [⟨some 7, none, .faddr 1 (.t 3)⟩, ⟨some 8, none, .load false 1 (.t 7)⟩, ⟨some 9, none, .len false (.t 8)⟩, ⟨some 10, none, .bin .eql false (.t 9) (.c (.int .i64 0))⟩, ⟨some 11, none, .mv (.t 10)⟩, ⟨(some 12), (some (11, true)), (.load true 2 (.t 3))⟩, ⟨(some 13), (some (11, true)), (.call 137 [(.t 12)])⟩, ⟨some 14, none, .pick (.t 11) (.t 13) (.c (.bool false))⟩]) (.cond (.t 14) (.seq (.seq (.reg [⟨some 15, none, .mv (.t 0)⟩, ⟨some 16, none, .faddr 0 (.t 3)⟩, ⟨some 17, none, .load false 1 (.t 16)⟩, ⟨some 18, none, .call 133 [(.t 15), (.t 17)]⟩, ⟨some 19, none, .un .not (.t 18)⟩]) (.cond (.t 19) (.reg [⟨some 20, none, .mv (.t 0)⟩, ⟨some 21, none, .faddr 0 (.t 3)⟩, ⟨some 22, none, .load false 1 (.t 21)⟩, ⟨(some 23), none, (.mkrow 9 1 [(.str ⟨#[]⟩)] 1 [(0, (.t 22))])⟩, ⟨(some 24), none, (.append 9 1 16 [(.str ⟨#[]⟩)] (.t 20) (.t 23))⟩, ⟨some 0, none, .mv (.t 24)⟩]) .skip)) (.seq (.reg [⟨some 25, none, .mv (.t 0)⟩, ⟨some 4, none, .mv (.t 25)⟩]) .ret)) .skip)) (.seq (.seq (.reg [⟨some 26, none, .faddr 1 (.t 3)⟩, ⟨some 27, none, .load false 1 (.t 26)⟩, ⟨some 28, none, .len false (.t 27)⟩, ⟨some 29, none, .mv (.c (.int .i64 0))⟩]) (.block 0 (.loop [1, 0, 0, 0, 0, 0, 0, 0, 0, 0, 0, 0, 0, 0, 0, 0, 0, 0, 0, 0, 0, 0, 0, 0, 0, 0, 0, 1, 1, 1, 0, 0, 0, 0, 0, 0, 0, 0] (.seq (.reg [⟨some 30, none, .bin .lss false (.t 29) (.t 28)⟩]) (.seq (.cond (.t 30) .skip (.exit 0)) (.seq (.block 1 (.seq (.reg [⟨some 31, none, .iaddr 2 (.t 27) (.t 29)⟩, ⟨some 32, none, .load true 2 (.t 31)⟩, ⟨(some 6), none, (.alloc 105 [(.str ⟨#[]⟩), .nil])⟩, ⟨none, none, (.store 2 (.t 6) (.t 32))⟩]) (.reg [⟨some 33, none, .mv (.t 0)⟩, ⟨some 34, none, .load true 2 (.t 6)⟩, ⟨some 35, none, .call 109 [(.t 33), (.t 34)]⟩, ⟨some 0, none, .mv (.t 35)⟩]))) (.reg [⟨some 36, none, .bin .add false (.t 29) (.c (.int .i64 1))⟩, ⟨some 29, none, .mv (.t 36)⟩]))))))) (.seq (.reg [⟨some 37, none, .mv (.t 0)⟩, ⟨some 4, none, .mv (.t 37)⟩]) .ret))))
theorem k_impl_collect : codeOf Tryz.prog 109 = some ⟨38, c_impl_collect, [(.tmp 4)]⟩ := by kernel_rfl
theorem m_impl_collect : modes 109 = ⟨[true], .asis, none, false⟩ := by unfold modes; rfl
abbrev ColC (x : Tm) : Prop := ∀ l : List ByteArray, l.length + x.nodes ≤ 1048576 → E 109 [.ref 0, x.sv] [.row 9 1 (l.map fun s => [OT.str s])] = some ((bif dec (l.length < (addA l x.vs).length) then .ref 1 else .ref 0), (bif dec (l.length < (addA l x.vs).length) then [.gone, .row 9 1 ((addA l x.vs).map fun s => [OT.str s])] else [.row 9 1 ((addA l x.vs).map fun s => [OT.str s])]))
set_option maxHeartbeats 4000000 in
theorem collect_of (x : Tm) (hva : varB x.name = true → x.args = []) (hc : x.cok = true) (ih : ∀ y ∈ x.args, ColC y) : ColC x := by
  intro l hn
  have hl := Tm.length_le x.args
  have hne := Tm.nodes_eq x
  have hv := isVar_E x hc
  have hvs := Tm.vs_eq x
  rcases Nat.eq_zero_or_pos x.args.length with h0 | h0
  · have hx0 : x.args = [] := List.eq_nil_of_length_eq_zero h0
    have hz : ((x.args.length : Int) = 0) = True := by rw [hx0]; simp
    cases hvv : varB x.name with
    | true =>
      rw [hvv] at hv hvs
      have h1 := containsS_E l x.name (by omega)
      rw [hvs]
      cases hm : dec (x.name ∈ l) with
      | true =>
        have e : addA l [x.name] = l := by simp only [addA, List.foldl_cons, List.foldl_nil, addU, hm, cond_true]
        rw [hm] at h1
        simp only [cond_true, e]
        refine E_walk k_impl_collect m_impl_collect (of_decide_eq_true rfl) ?_
        simp (disch := omega) only [c_impl_collect, go_sem, go_cond, zA, zB, zC, zD, zE, zF, zG, zH, ↓reduceIte, zI, reduceCtorEq, zJ, zK, hz, hv, h1, m_impl_isVar, m_slices_Contains_string_string]
      | false =>
        have e : addA l [x.name] = l ++ [x.name] := by simp only [addA, List.foldl_cons, List.foldl_nil, addU, hm, cond_false]
        have hg : l.length < (l ++ [x.name]).length := by simp
        rw [hm] at h1
        simp only [cond_true, e, dec_t hg]
        refine E_walk k_impl_collect m_impl_collect (of_decide_eq_true rfl) ?_
        simp (disch := omega) only [c_impl_collect, go_sem, go_cond, zA, zB, zC, zD, zE, zF, zG, zH, ↓reduceIte, zI, reduceCtorEq, zJ, zK, hz, hv, h1, m_impl_isVar, m_slices_Contains_string_string]
        simp only [List.map_append, List.map_cons, List.map_nil]
    | false =>
      rw [hvv] at hv hvs
      have e : addA l x.vs = l := by rw [hvs, hx0]; simp only [cond_false, Tm.vsL]; rfl
      rw [e]
      refine E_walk k_impl_collect m_impl_collect (of_decide_eq_true rfl) ?_
      simp (disch := omega) only [c_impl_collect, go_sem, go_cond, zA, zB, zC, zD, zE, zF, zG, zH, ↓reduceIte, zI, reduceCtorEq, zJ, zK, hz, hv, m_impl_isVar]
      refine go_loop (α := Int) (fun a => ⟨slots 38 0 [(0, .ref 0), (27, .arr (x.args.map Tm.d)), (28, .int .i64 x.args.length), (29, .int .i64 a)], [.row 9 1 (l.map fun s => [OT.str s])]⟩) (fun a => ∃ k : Nat, a = k ∧ k ≤ (x.args).length) (fun a => (x.args).length - (a).toNat) 0 ⟨0, rfl, Nat.zero_le _⟩ (by simp (disch := omega) only [go_sem, go_cond, zA, zB, zC, zD, zE, zF, zG, zH, ↓reduceIte, zI, reduceCtorEq, zJ, zK]) ?_
      rintro i ⟨k, hi, hk⟩
      have hni : i.toNat = k := by omega
      have hni1 : (i + 1).toNat = k + 1 := by omega
      rcases Nat.lt_or_ge k (x.args).length with hlt | hge
      · omega
      · simp (disch := omega) only [go_sem, go_cond, zA, zB, zC, zD, zE, zF, zG, zH, ↓reduceIte, zI, reduceCtorEq, zJ, zK, hni]
  · have hz : ((x.args.length : Int) = 0) = False := eq_false (by omega)
    have hvv : varB x.name = false := by
      cases h : varB x.name with
      | false => rfl
      | true => rw [hva h] at h0; simp at h0
    rw [hvv] at hvs
    simp only [cond_false] at hvs
    rw [hvs]
    refine E_walk k_impl_collect m_impl_collect (of_decide_eq_true rfl) ?_
    simp (disch := omega) only [c_impl_collect, go_sem, go_cond, zA, zB, zC, zD, zE, zF, zG, zH, ↓reduceIte, zI, reduceCtorEq, zJ, zK, hz]
    refine go_loop (α := Int × (List ByteArray)) (fun a => ⟨slots 38 0 [(0, (bif dec (l.length < (a.2).length) then .ref 1 else .ref 0)), (27, .arr (x.args.map Tm.d)), (28, .int .i64 x.args.length), (29, .int .i64 (a.1))], (bif dec (l.length < (a.2).length) then [.gone, .row 9 1 ((a.2).map fun s => [OT.str s])] else [.row 9 1 ((a.2).map fun s => [OT.str s])])⟩) (fun a => ∃ k : Nat, a.1 = k ∧ k ≤ (x.args).length ∧ addA (a.2) (Tm.vsL (x.args.drop k)) = addA l (Tm.vsL x.args) ∧ (a.2).length + Tm.nodeS (x.args.drop k) ≤ 1048576 ∧ l.length ≤ (a.2).length) (fun a => (x.args).length - (a.1).toNat) (0, l) ⟨0, rfl, Nat.zero_le _, by rw [List.drop_zero], by rw [List.drop_zero]; dsimp only; omega, Nat.le_refl _⟩ (by simp (disch := omega) only [go_sem, go_cond, zA, zB, zC, zD, zE, zF, zG, zH, ↓reduceIte, zI, reduceCtorEq, zJ, zK]) ?_
    rintro ⟨i, acc⟩ ⟨k, hi, hk, hR⟩
    dsimp only at hi hR
    have hni : i.toNat = k := by omega
    have hni1 : (i + 1).toNat = k + 1 := by omega
    rcases Nat.lt_or_ge k (x.args).length with hlt | hge
    · have hg := get_at Tm.d hlt
      rw [Tm.d_eq] at hg
      obtain ⟨hR1, hR2, hR3⟩ := hR
      rw [List.drop_eq_getElem_cons hlt, Tm.vsL, addA_app] at hR1
      rw [List.drop_eq_getElem_cons hlt, Tm.nodeS] at hR2
      have hc := ih x.args[k] (List.getElem_mem hlt) acc (by omega)
      have hlen := addA_len x.args[k].vs acc
      have hgr := addA_grow x.args[k].vs acc
      have hvl := Tm.vs_len x.args[k]
      obtain ⟨acc2, ha2⟩ : ∃ a, a = addA acc x.args[k].vs := ⟨_, rfl⟩
      rw [← ha2] at hc hlen hgr hR1
      rcases Nat.lt_or_ge l.length acc.length with q1 | q1 <;> rcases Nat.lt_or_ge acc.length acc2.length with q2 | q2
      all_goals
        first
          | rw [dec_t q2] at hc
          | rw [dec_f (Nat.not_lt.2 q2)] at hc
        simp only [cond_true, cond_false] at hc
        simp (disch := omega) only [go_sem, go_cond, zA, zB, zC, zD, zE, zF, zG, zH, ↓reduceIte, zI, reduceCtorEq, zJ, zK, hni, hg, hc, m_impl_collect]
        refine ⟨(i + 1, acc2), ⟨k + 1, by dsimp only; omega, hlt, hR1, by dsimp only; omega, by dsimp only; omega⟩, by dsimp only; omega, ?_⟩
        first | done | simp (disch := omega) only [go_sem, go_cond, zA, zB, zC, zD, zE, zF, zG, zH, ↓reduceIte, zI, reduceCtorEq, zJ, zK]
    · rw [List.drop_eq_nil_of_le hge, Tm.vsL] at hR
      obtain ⟨hR1, hR2, hR3⟩ := hR
      have hR1 : acc = addA l (Tm.vsL x.args) := hR1
      rw [← hR1]
      rcases Nat.lt_or_ge l.length acc.length with q1 | q1
      · simp (disch := omega) only [go_sem, go_cond, zA, zB, zC, zD, zE, zF, zG, zH, ↓reduceIte, zI, reduceCtorEq, zJ, zK, hni]
      · simp (disch := omega) only [go_sem, go_cond, zA, zB, zC, zD, zE, zF, zG, zH, ↓reduceIte, zI, reduceCtorEq, zJ, zK, hni]
theorem collect_E (x : Tm) (hx : x.names = true) (hc : x.cok = true) : ColC x :=
  collect_of x (fun h => Tm.names_var hx h) hc fun y hy => collect_E y (Tm.names_arg hx hy) (by rw [Tm.cok_eq, Bool.and_eq_true] at hc; exact Tm.cokS_mem hc.2 hy)
termination_by SizeOf.sizeOf x
decreasing_by exact Tm.lt_of_mem hy
noncomputable def srtB (l : List ByteArray) : List ByteArray := (srt (l.map (·.toList))).map fun x => ⟨x.toArray⟩
theorem srtB_perm (l : List ByteArray) : (srtB l).Perm l := by
  unfold srtB
  have h : (srt (l.map (·.toList))).Perm (l.map (·.toList)) := List.mergeSort_perm _ _
  have h2 := h.map fun x : List UInt8 => (⟨x.toArray⟩ : ByteArray)
  rw [List.map_map] at h2
  have e : ((fun x : List UInt8 => (⟨x.toArray⟩ : ByteArray)) ∘ fun x : ByteArray => x.toList) = id := by
    funext x
    exact bytes_back x
  rw [e, List.map_id] at h2
  exact h2
theorem m_slices_Sort_string_string : modes 110 = ⟨[true], .asis, some sortStr, false⟩ := by unfold modes; rfl
theorem sortS_E (l : List ByteArray) (hl : l.length ≤ 1099511627776) : E 110 [.ref 0] [.row 9 1 (l.map fun s => [OT.str s])] = some (.tup [], [.row 9 1 ((srtB l).map fun s => [OT.str s])]) := by
  rw [E_extO (g := sortStr) (congrArg FM.ext m_slices_Sort_string_string)]
  unfold sortStr
  simp only
  rw [dec_t ⟨by first | trivial | rfl, fun e he => by obtain ⟨s, _, rfl⟩ := List.mem_map.1 he; exact ⟨s, rfl⟩, by simpa using hl⟩, cond_true]
  have e1 : (l.map fun s => [OT.str s]).map (fun e => (keyB e).toList) = l.map (·.toList) := by rw [List.map_map]; rfl
  rw [e1]
  unfold srtB
  rw [List.map_map]
  rfl
noncomputable def Tm.vars (x : Tm) : List ByteArray := srtB (addA [] x.vs)
theorem collectA_E (x : Tm) (h : x.atom = true) : ColC x :=
  collect_of x (Tm.atom_args h).1 (Tm.atom_cok h) fun y hy => collect_E y ((Tm.atom_args h).2 y hy) (Tm.cok_names y ((Tm.atom_args h).2 y hy))
noncomputable def insU : List ByteArray → ByteArray → List ByteArray
  | [], n => [n]
  | x :: xs, n => bif strLt x n then x :: insU xs n else bif dec (x = n) then x :: xs else n :: x :: xs
noncomputable def lowS : List ByteArray → ByteArray → Nat
  | [], _ => 0
  | x :: xs, n => bif strLt x n then lowS xs n + 1 else 0
theorem insU_mem : ∀ {xs : List ByteArray} {n m : ByteArray}, m ∈ insU xs n ↔ m ∈ xs ∨ m = n
  | [], n, m => by simp [insU]
  | x :: xs, n, m => by
    rw [insU]
    cases strLt x n with
    | true => rw [cond_true, List.mem_cons, insU_mem, List.mem_cons, or_assoc]
    | false =>
      rw [cond_false]
      by_cases h : x = n
      · rw [dec_t h, cond_true]
        exact ⟨.inl, fun h' => h'.elim id fun e => by subst e; subst h; simp⟩
      · rw [dec_f h, cond_false, List.mem_cons]
        exact or_comm
theorem insU_len : ∀ (xs : List ByteArray) (n : ByteArray), (insU xs n).length ≤ xs.length + 1
  | [], n => by simp [insU]
  | x :: xs, n => by
    have h := insU_len xs n
    rw [insU]
    cases strLt x n with
    | true => simp only [cond_true, List.length_cons]; omega
    | false =>
      rw [cond_false]
      cases dec (x = n) with
      | true => simp only [cond_true, List.length_cons]; omega
      | false => simp only [cond_false, List.length_cons]; omega
theorem lowS_le : ∀ (xs : List ByteArray) (n : ByteArray), lowS xs n ≤ xs.length
  | [], n => by simp [lowS]
  | x :: xs, n => by
    have h := lowS_le xs n
    rw [lowS]
    cases strLt x n with
    | true => simp only [cond_true, List.length_cons]; omega
    | false => simp only [cond_false, List.length_cons]; omega
theorem insU_there : ∀ {xs : List ByteArray} {n : ByteArray} (h : lowS xs n < xs.length), xs[lowS xs n] = n → insU xs n = xs
  | [], n, h, _ => by simp at h
  | x :: xs, n, h, e => by
    rw [insU]
    cases hq : strLt x n with
    | true =>
      simp only [lowS, hq, cond_true, List.length_cons, List.getElem_cons_succ] at h e
      rw [cond_true, insU_there (by omega) e]
    | false =>
      simp only [lowS, hq, cond_false, List.getElem_cons_zero] at e
      rw [cond_false, dec_t e]; rfl
theorem insU_new : ∀ {xs : List ByteArray} {n : ByteArray}, (∀ h : lowS xs n < xs.length, ¬ xs[lowS xs n] = n) → insU xs n = xs.take (lowS xs n) ++ n :: xs.drop (lowS xs n)
  | [], n, _ => by simp [insU, lowS]
  | x :: xs, n, h => by
    rw [insU]
    cases hq : strLt x n with
    | true =>
      simp only [lowS, hq, cond_true, List.length_cons, List.getElem_cons_succ] at h ⊢
      rw [insU_new fun h' => h (by omega)]
      simp
    | false =>
      simp only [lowS, hq, cond_false, List.getElem_cons_zero] at h ⊢
      rw [dec_f (h (by simp))]
      simp
theorem lowS_drop {xs : List ByteArray} {n : ByteArray} {k : Nat} (h : k + lowS (xs.drop k) n = lowS xs n) (hk : k < xs.length) : (strLt xs[k] n = true ∧ k + 1 + lowS (xs.drop (k + 1)) n = lowS xs n) ∨ (strLt xs[k] n = false ∧ k = lowS xs n) := by
  rw [List.drop_eq_getElem_cons hk, lowS] at h
  cases hq : strLt xs[k] n with
  | true => rw [hq, cond_true] at h; exact .inl ⟨rfl, by omega⟩
  | false => rw [hq, cond_false] at h; exact .inr ⟨rfl, by omega⟩
theorem ot_take (xs : List ByteArray) (k : Nat) : ((xs.map fun s => [D.str s]).take k).map (fun x => x.map D.ot) = (xs.take k).map fun s => [OT.str s] := by
  rw [← List.map_take, List.map_map]; rfl
theorem ot_drop (xs : List ByteArray) (k : Nat) : ((xs.map fun s => [D.str s]).drop k).map (fun x => x.map D.ot) = (xs.drop k).map fun s => [OT.str s] := by
  rw [← List.map_drop, List.map_map]; rfl
theorem al_strs (xs : List ByteArray) : ((xs.map fun s => [OT.str s]).all fun l => l.length == 1) = true := by
  rw [List.all_map, List.all_eq_true]
  intro x _; rfl
theorem al_dstrs (xs : List ByteArray) : ((xs.map fun s => [D.str s]).all fun l => l.length == 1) = true := by
  rw [List.all_map, List.all_eq_true]
  intro x _; rfl
def c_spec_l2Put : SC := (.seq (.reg [⟨some 4, none, .mv (.c .nil)⟩]) (.seq (.reg [⟨some 5, none, .mv (.c (.int .i64 0))⟩]) (.seq (.block 0 (.loop [1, 1, 0, 0, 0, 1, 0, 0, 0, 0, 0, 0, 0, 0, 0, 0, 0, 0, 0, 0, 0, 0, 0, 0, 0, 0, 0, 0, 0, 0, 0, 0, 0, 0, 0, 0, 0, 0, 0, 0, 0, 0, 0, 0, 0] (.seq (.seq (.reg [⟨some 6, none, .mv (.t 5)⟩, ⟨some 7, none, .mv (.t 0)⟩, ⟨some 8, none, .len false (.t 7)⟩, ⟨some 9, none, .bin .lss false (.t 6) (.t 8)⟩, ⟨some 10, none, .mv (.t 9)⟩, ⟨(some 11), (some (10, true)), (.mv (.t 0))⟩, ⟨(some 12), (some (10, true)), (.mv (.t 5))⟩, ⟨(some 13), (some (10, true)), (.iaddr 1 (.t 11) (.t 12))⟩, ⟨(some 14), (some (10, true)), (.load false 1 (.t 13))⟩, ⟨(some 15), (some (10, true)), (.mv (.t 1))⟩, ⟨(some 16), (some (10, true)), (.bin .lss false (.t 14) (.t 15))⟩, ⟨some 17, none, .pick (.t 10) (.t 16) (.c (.bool false))⟩]) (.cond (.t 17) .skip (.exit 0))) (.block 1 (.reg [⟨some 18, none, .mv (.t 5)⟩, ⟨some 19, none, .bin .add false (.t 18) (.c (.int .i64 1))⟩, ⟨some 5, none, .mv (.t 19)⟩]))))) (.seq (.seq (.reg [⟨some 20, none, .mv (.t 5)⟩, ⟨some 21, none, .mv (.t 0)⟩, ⟨some 22, none, .len false (.t 21)⟩, ⟨some 23, none, .bin .lss false (.t 20) (.t 22)⟩, ⟨some 24, none, .mv (.t 23)⟩, ⟨(some 25), (some (24, true)), (.mv (.t 0))⟩, ⟨(some 26), (some (24, true)), (.mv (.t 5))⟩, ⟨(some 27), (some (24, true)), (.iaddr 1 (.t 25) (.t 26))⟩, ⟨(some 28), (some (24, true)), (.load false 1 (.t 27))⟩, ⟨(some 29), (some (24, true)), (.mv (.t 1))⟩, ⟨(some 30), (some (24, true)), (.bin .eql false (.t 28) (.t 29))⟩, ⟨some 31, none, .pick (.t 24) (.t 30) (.c (.bool false))⟩]) (.cond (.t 31) (.seq (.reg [⟨some 32, none, .mv (.t 0)⟩, ⟨some 4, none, .mv (.t 32)⟩]) .ret) .skip)) (.seq (.dreg [[], [], [], [1, 2], [0, 3, 1, 2], [], [5], [4, 0, 3, 1, 2, 6, 5], [], [], [8, 9], [7, 4, 0, 3, 1, 2, 6, 5, 10, 8, 9], [11, 7, 4, 0, 3, 1, 2, 6, 5, 10, 8, 9]] [⟨(some 33), none, (.mkrow 9 1 [(.str ⟨#[]⟩)] 0 [])⟩, ⟨some 34, none, .mv (.t 0)⟩, ⟨some 35, none, .mv (.t 5)⟩, ⟨some 36, none, .slice false 1 (.t 34) none (some (.t 35))⟩, ⟨(some 37), none, (.append 9 1 16 [(.str ⟨#[]⟩)] (.t 33) (.t 36))⟩, ⟨some 38, none, .mv (.t 1)⟩, ⟨(some 39), none, (.mkrow 9 1 [(.str ⟨#[]⟩)] 1 [(0, (.t 38))])⟩, ⟨(some 40), none, (.append 9 1 16 [(.str ⟨#[]⟩)] (.t 37) (.t 39))⟩, ⟨some 41, none, .mv (.t 0)⟩, ⟨some 42, none, .mv (.t 5)⟩, ⟨some 43, none, .slice false 1 (.t 41) (some (.t 42)) none⟩, ⟨(some 44), none, (.append 9 1 16 [(.str ⟨#[]⟩)] (.t 40) (.t 43))⟩, ⟨some 4, none, .mv (.t 44)⟩]) .ret)))))
theorem k_spec_l2Put : codeOf Tryz.prog 131 = some ⟨45, c_spec_l2Put, [(.tmp 4)]⟩ := by kernel_rfl
theorem m_spec_l2Put : modes 131 = ⟨[], .frz, none, false⟩ := by unfold modes; rfl
set_option maxHeartbeats 4000000 in
theorem l2Put_E (xs : List ByteArray) (n : ByteArray) (hl : xs.length ≤ 1048576) : E 131 [.arr (xs.map fun s => [D.str s]), .str n] [] = some (.arr ((insU xs n).map fun s => [D.str s]), []) := by
  have e1 := ot_take xs (lowS xs n)
  have e2 := ot_drop xs (lowS xs n)
  have e3 := al_strs (xs.take (lowS xs n))
  have e4 := al_strs (xs.drop (lowS xs n))
  have e5 := al_dstrs xs
  have l1 := lowS_le xs n
  have e6 : (xs.map fun s => [D.str s]).take xs.length = xs.map fun s => [D.str s] := List.take_of_length_le (by simp)
  have e7 : (xs.take (lowS xs n)).length = lowS xs n := by rw [List.length_take]; omega
  have e8 : (xs.drop (lowS xs n)).length = xs.length - lowS xs n := List.length_drop
  have hf : ∀ ys : List ByteArray, ys = insU xs n → (ys.map fun s => [OT.str s]) = (insU xs n).map fun s => [OT.str s] := fun ys h => by rw [h]
  refine E_walk k_spec_l2Put m_spec_l2Put (of_decide_eq_true rfl) ?_
  simp (disch := omega) only [c_spec_l2Put, go_sem, go_cond, zA, zB, zC, zD, zE, zF, zG, zH, ↓reduceIte, zI, reduceCtorEq, zJ, zK]
  refine go_loop (α := Int) (fun a => ⟨slots 45 0 [(0, .arr (xs.map fun s => [D.str s])), (1, .str n), (5, .int .i64 a)], []⟩) (fun a => ∃ k : Nat, a = k ∧ k ≤ (xs).length ∧ k + lowS (xs.drop k) n = lowS xs n) (fun a => (xs).length - (a).toNat) 0 ⟨0, rfl, Nat.zero_le _, by rw [List.drop_zero, Nat.zero_add]⟩ (by simp (disch := omega) only [go_sem, go_cond, zA, zB, zC, zD, zE, zF, zG, zH, ↓reduceIte, zI, reduceCtorEq, zJ, zK]) ?_
  rintro i ⟨k, hi, hk, hR⟩
  have hni : i.toNat = k := by omega
  have hni1 : (i + 1).toNat = k + 1 := by omega
  rcases Nat.lt_or_ge k (xs).length with hlt | hge
  · have hg := get_at (fun s => [D.str s]) hlt
    rcases lowS_drop hR hlt with ⟨q, hR'⟩ | ⟨q, hk'⟩
    · simp (disch := omega) only [go_sem, go_cond, zA, zB, zC, zD, zE, zF, zG, zH, ↓reduceIte, zI, reduceCtorEq, zJ, zK, hni, hg, q]
      exact ⟨i + 1, ⟨k + 1, by omega, hlt, hR'⟩, by omega, by first | trivial | rfl⟩
    · subst hk'
      by_cases h0 : xs[lowS xs n] = n
      · have hi0 := insU_there hlt h0
        rw [hi0]
        simp (disch := omega) only [go_sem, go_cond, zA, zB, zC, zD, zE, zF, zG, zH, ↓reduceIte, zI, reduceCtorEq, zJ, zK, hni, hg, q, h0, e6, strLt_self, dec_refl]
      · have hi0 := insU_new (fun _ => h0)
        have hx : (xs.take (lowS xs n)).map (fun s => [OT.str s]) ++ ([[OT.str n]] ++ (xs.drop (lowS xs n)).map (fun s => [OT.str s])) = (insU xs n).map fun s => [OT.str s] := by rw [hi0]; simp
        have hx2 : (xs.take (lowS xs n)).map (fun s => [OT.str s]) ++ [[OT.str n]] ++ (xs.drop (lowS xs n)).map (fun s => [OT.str s]) = (insU xs n).map fun s => [OT.str s] := by rw [hi0]; simp
        simp (disch := omega) only [go_sem, go_cond, zA, zB, zC, zD, zE, zF, zG, zH, ↓reduceIte, zI, reduceCtorEq, zJ, zK, hni, hg, q, h0, e1, e2, e3, e4, e5, e6, e7, e8, hx2, List.length_append, Int.toNat_zero]
  · obtain rfl : k = xs.length := by omega
    have hk' : xs.length = lowS xs n := by rw [← hR, List.drop_eq_nil_of_le (Nat.le_refl _)]; simp [lowS]
    have hi0 := insU_new (xs := xs) (n := n) (fun h => by omega)
    have hx2 : (xs.take (lowS xs n)).map (fun s => [OT.str s]) ++ [[OT.str n]] ++ (xs.drop (lowS xs n)).map (fun s => [OT.str s]) = (insU xs n).map fun s => [OT.str s] := by rw [hi0]; simp
    rw [hk'] at hni
    simp (disch := omega) only [go_sem, go_cond, zA, zB, zC, zD, zE, zF, zG, zH, ↓reduceIte, zI, reduceCtorEq, zJ, zK, hni, e1, e2, e3, e4, e5, e6, e7, e8, hx2, List.length_append, Int.toNat_zero]
noncomputable def insA (l ns : List ByteArray) : List ByteArray := ns.foldl insU l
theorem insA_len : ∀ (ns l : List ByteArray), (insA l ns).length ≤ l.length + ns.length
  | [], l => by simp [insA]
  | n :: ns, l => by
    have h := insA_len ns (insU l n)
    have h2 := insU_len l n
    simp only [insA, List.foldl_cons, List.length_cons] at h ⊢
    omega
theorem insA_mem : ∀ {ns l : List ByteArray} {m : ByteArray}, m ∈ insA l ns ↔ m ∈ l ∨ m ∈ ns
  | [], l, m => by simp [insA]
  | n :: ns, l, m => by
    have h := insA_mem (ns := ns) (l := insU l n) (m := m)
    simp only [insA, List.foldl_cons] at h ⊢
    rw [h, insU_mem]
    simp only [List.mem_cons]
    exact or_assoc
theorem insA_app (l a b : List ByteArray) : insA l (a ++ b) = insA (insA l a) b := List.foldl_append
def c_spec_l2Into : SC := (.seq (.reg [⟨some 3, none, .boxv 105 2 (.t 1)⟩, ⟨some 4, none, .mv (.c .nil)⟩]) (.seq (.seq (.reg [⟨some 6, none, .faddr 0 (.t 3)⟩, ⟨some 7, none, .load false 1 (.t 6)⟩, ⟨some 8, none, .call 79 [(.t 7)]⟩]) (.cond (.t 8) (.seq (.reg [⟨some 9, none, .mv (.t 0)⟩, ⟨some 10, none, .faddr 0 (.t 3)⟩, ⟨some 11, none, .load false 1 (.t 10)⟩, ⟨some 12, none, .call 131 [(.t 9), (.t 11)]⟩, ⟨some 4, none, .mv (.t 12)⟩]) .ret) .skip)) (.seq (.seq (.reg [⟨some 5, none, .mv (.c (.int .i64 0))⟩]) (.block 0 (.loop [1, 0, 0, 1, 0, 1, 0, 0, 0, 0, 0, 0, 0, 0, 0, 0, 0, 0, 0, 0, 0, 0, 0, 0, 0, 0, 0, 0] (.seq (.seq (.reg [⟨some 13, none, .mv (.t 5)⟩, ⟨some 14, none, .faddr 1 (.t 3)⟩, ⟨some 15, none, .load false 1 (.t 14)⟩, ⟨some 16, none, .len false (.t 15)⟩, ⟨some 17, none, .bin .lss false (.t 13) (.t 16)⟩]) (.cond (.t 17) .skip (.exit 0))) (.seq (.block 1 (.reg [⟨some 20, none, .mv (.t 0)⟩, ⟨some 21, none, .faddr 1 (.t 3)⟩, ⟨some 22, none, .load false 1 (.t 21)⟩, ⟨some 23, none, .mv (.t 5)⟩, ⟨some 24, none, .iaddr 2 (.t 22) (.t 23)⟩, ⟨some 25, none, .load true 2 (.t 24)⟩, ⟨some 26, none, .call 96 [(.t 20), (.t 25)]⟩, ⟨some 0, none, .mv (.t 26)⟩])) (.reg [⟨some 18, none, .mv (.t 5)⟩, ⟨some 19, none, .bin .add false (.t 18) (.c (.int .i64 1))⟩, ⟨some 5, none, .mv (.t 19)⟩])))))) (.seq (.reg [⟨some 27, none, .mv (.t 0)⟩, ⟨some 4, none, .mv (.t 27)⟩]) .ret))))
theorem k_spec_l2Into : codeOf Tryz.prog 96 = some ⟨28, c_spec_l2Into, [(.tmp 4)]⟩ := by kernel_rfl
theorem m_spec_l2Into : modes 96 = ⟨[], .asis, none, false⟩ := by unfold modes; rfl
abbrev IntoC (x : Tm) : Prop := ∀ l : List ByteArray, l.length + x.nodes ≤ 1048576 → E 96 [.arr (l.map fun s => [D.str s]), x.sv] [] = some (.arr ((insA l x.vs).map fun s => [D.str s]), [])
set_option maxHeartbeats 4000000 in
theorem l2Into_of (x : Tm) (ih : ∀ y ∈ x.args, IntoC y) : IntoC x := by
  intro l hn
  have hl := Tm.length_le x.args
  have hne := Tm.nodes_eq x
  have hvs := Tm.vs_eq x
  have hp := l2Put_E l x.name (by omega)
  cases hvv : varB x.name with
  | true =>
    rw [hvv] at hvs
    have e : insA l x.vs = insU l x.name := by rw [hvs]; rfl
    rw [e]
    refine E_walk k_spec_l2Into m_spec_l2Into (of_decide_eq_true rfl) ?_
    simp (disch := omega) only [c_spec_l2Into, go_sem, go_cond, zA, zB, zC, zD, zE, zF, zG, zH, ↓reduceIte, zI, reduceCtorEq, zJ, zK, hvv, hp, m_spec_l2Var, l2Var_E, m_spec_l2Put]
  | false =>
    rw [hvv] at hvs
    simp only [cond_false] at hvs
    rw [hvs]
    refine E_walk k_spec_l2Into m_spec_l2Into (of_decide_eq_true rfl) ?_
    simp (disch := omega) only [c_spec_l2Into, go_sem, go_cond, zA, zB, zC, zD, zE, zF, zG, zH, ↓reduceIte, zI, reduceCtorEq, zJ, zK, hvv, m_spec_l2Var, l2Var_E]
    refine go_loop (α := Int × (List ByteArray)) (fun a => ⟨slots 28 0 [(0, .arr ((a.2).map fun s => [D.str s])), (3, .ptr 0 0), (5, .int .i64 (a.1))], [.box 105 [.str x.name, .arr (x.args.map Tm.d)]]⟩) (fun a => ∃ k : Nat, a.1 = k ∧ k ≤ (x.args).length ∧ insA (a.2) (Tm.vsL (x.args.drop k)) = insA l (Tm.vsL x.args) ∧ (a.2).length + Tm.nodeS (x.args.drop k) ≤ 1048576) (fun a => (x.args).length - (a.1).toNat) (0, l) ⟨0, rfl, Nat.zero_le _, by rw [List.drop_zero], by rw [List.drop_zero]; dsimp only; omega⟩ (by simp (disch := omega) only [go_sem, go_cond, zA, zB, zC, zD, zE, zF, zG, zH, ↓reduceIte, zI, reduceCtorEq, zJ, zK]) ?_
    rintro ⟨i, acc⟩ ⟨k, hi, hk, hR⟩
    dsimp only at hi hR
    have hni : i.toNat = k := by omega
    have hni1 : (i + 1).toNat = k + 1 := by omega
    rcases Nat.lt_or_ge k (x.args).length with hlt | hge
    · have hg := get_at Tm.d hlt
      rw [Tm.d_eq] at hg
      obtain ⟨hR1, hR2⟩ := hR
      rw [List.drop_eq_getElem_cons hlt, Tm.vsL, insA_app] at hR1
      rw [List.drop_eq_getElem_cons hlt, Tm.nodeS] at hR2
      have hc := ih x.args[k] (List.getElem_mem hlt) acc (by omega)
      have hlen := insA_len x.args[k].vs acc
      have hvl := Tm.vs_len x.args[k]
      simp (disch := omega) only [go_sem, go_cond, zA, zB, zC, zD, zE, zF, zG, zH, ↓reduceIte, zI, reduceCtorEq, zJ, zK, hni, hg, hc, m_spec_l2Into]
      exact ⟨(i + 1, insA acc x.args[k].vs), ⟨k + 1, by dsimp only; omega, hlt, hR1, by dsimp only; omega⟩, by dsimp only; omega, by first | trivial | rfl⟩
    · rw [List.drop_eq_nil_of_le hge, Tm.vsL] at hR
      obtain ⟨hR1, hR2⟩ := hR
      have hR1 : acc = insA l (Tm.vsL x.args) := hR1
      rw [← hR1]
      simp (disch := omega) only [go_sem, go_cond, zA, zB, zC, zD, zE, zF, zG, zH, ↓reduceIte, zI, reduceCtorEq, zJ, zK, hni]
theorem l2Into_E (x : Tm) : IntoC x := l2Into_of x fun y hy => l2Into_E y
termination_by SizeOf.sizeOf x
decreasing_by exact Tm.lt_of_mem hy
theorem less_lt : ∀ x y : List UInt8, Op.bytesLess x y = true ↔ x < y
  | [], [] => by simp [Op.bytesLess]
  | [], b :: y => by simp [Op.bytesLess]
  | a :: x, [] => by simp [Op.bytesLess]
  | a :: x, b :: y => by
    have h := less_lt x y
    rw [List.cons_lt_cons_iff, ← h]
    simp only [Op.bytesLess, Bool.or_eq_true, decide_eq_true_eq, Bool.and_eq_true, beq_iff_eq]
theorem strLt_lt (a b : ByteArray) : strLt a b = true ↔ a.toList < b.toList := less_lt _ _
theorem insU_pair (n : ByteArray) : ∀ xs : List ByteArray, xs.Pairwise (fun x y => strLt x y = true) → (insU xs n).Pairwise fun x y => strLt x y = true
  | [], _ => by simp [insU]
  | x :: xs, h => by
    rw [insU]
    rw [List.pairwise_cons] at h
    cases hq : strLt x n with
    | true =>
      rw [cond_true, List.pairwise_cons]
      refine ⟨fun y hy => ?_, insU_pair n xs h.2⟩
      rcases insU_mem.1 hy with hy | rfl
      · exact h.1 y hy
      · exact hq
    | false =>
      rw [cond_false]
      by_cases he : x = n
      · rw [dec_t he, cond_true, List.pairwise_cons]; exact h
      · rw [dec_f he, cond_false, List.pairwise_cons, List.pairwise_cons]
        have hn : strLt n x = true := by
          cases hh : strLt n x with
          | true => rfl
          | false => exact absurd (strLt_total hq hh) he
        refine ⟨fun y hy => ?_, h⟩
        rcases List.mem_cons.1 hy with rfl | hy
        · exact hn
        · exact strLt_trans hn (h.1 y hy)
theorem insA_pair : ∀ (ns xs : List ByteArray), xs.Pairwise (fun x y => strLt x y = true) → (insA xs ns).Pairwise fun x y => strLt x y = true
  | [], xs, h => h
  | n :: ns, xs, h => insA_pair ns (insU xs n) (insU_pair n xs h)
theorem pair_nodup {xs : List ByteArray} (h : xs.Pairwise fun x y => strLt x y = true) : xs.Nodup :=
  h.imp fun {a b} hab e => by rw [e, strLt_self] at hab; cases hab
theorem srtB_pair (l : List ByteArray) : (srtB l).Pairwise fun x y => strLt y x = false := by
  unfold srtB srt
  rw [List.pairwise_map]
  have h := List.pairwise_mergeSort (le := fun x y : List UInt8 => decide (x ≤ y)) (fun a b c h k => by
    rw [decide_eq_true_eq] at h k ⊢; exact List.le_trans h k) (fun a b => by
    rw [Bool.or_eq_true, decide_eq_true_eq, decide_eq_true_eq]; exact List.le_total a b) (l.map (·.toList))
  refine h.imp fun {a b} hab => ?_
  rw [decide_eq_true_eq] at hab
  rw [Bool.eq_false_iff]
  intro hh
  have := (strLt_lt _ _).1 hh
  rw [ByteArray.toList_eq, ByteArray.toList_eq] at this
  exact absurd this (List.not_lt.2 hab)
theorem srtB_insA (ns : List ByteArray) : srtB (addA [] ns) = insA [] ns := by
  have h1 := insA_pair ns [] List.Pairwise.nil
  have n1 := pair_nodup h1
  have n2 : (addA [] ns).Nodup := addA_nodup List.nodup_nil
  have hp : (srtB (addA [] ns)).Perm (insA [] ns) := (srtB_perm _).trans ((List.perm_ext_iff_of_nodup n2 n1).2 fun a => by rw [addA_mem, insA_mem])
  refine List.Perm.eq_of_pairwise (le := fun x y => strLt y x = false) (fun a b _ _ h k => strLt_total k h) (srtB_pair _) (h1.imp fun h => strLt_asymm h) hp
mutual
noncomputable def Fm.fv : Fm → List ByteArray → List ByteArray
  | .mk op atom var parts, b => bif dec (op = 3) then (insA [] atom.vs).filter (fun n => !dec (n ∈ b)) else Fm.fvL parts (bif qB op then b ++ [var] else b)
noncomputable def Fm.fvL : List Fm → List ByteArray → List ByteArray
  | [], _ => []
  | x :: xs, b => Fm.fv x b ++ Fm.fvL xs b
end
noncomputable def Fm.free (x : Fm) : List ByteArray := insA [] (x.fv [])
theorem valS_two {m : Ip} {e : Env} (hm : m.ok = true) (he : InE m.size e) (a b : Tm) : (match Tm.valS m e [a, b] 0 with
    | some i => some (bif dec (i.tmod m.size = i.tdiv m.size) then (1 : Int) else 0)
    | none => none) = match a.val m e, b.val m e with
    | some u, some v => some (bif dec (u = v) then 1 else 0)
    | _, _ => none := by
  obtain ⟨⟨h1, _⟩, _⟩ := Ip.ok_parts hm
  rw [Tm.valS]
  cases ha : a.val m e with
  | none => rfl
  | some u =>
    simp only [Tm.valS]
    cases hb : b.val m e with
    | none => rfl
    | some v =>
      obtain ⟨u0, u1⟩ := Tm.val_in hm he a u ha
      obtain ⟨v0, v1⟩ := Tm.val_in hm he b v hb
      simp only [Int.zero_mul, Int.zero_add]
      have e1 : (u * m.size + v).tmod m.size = v := by
        rw [Int.tmod_eq_emod_of_nonneg (by have := Int.mul_nonneg u0 (show 0 ≤ m.size by omega); omega), Int.add_comm, Int.add_mul_emod_self_right]
        exact Int.emod_eq_of_lt v0 v1
      have e2 : (u * m.size + v).tdiv m.size = u := by
        rw [Int.tdiv_eq_ediv_of_nonneg (by have := Int.mul_nonneg u0 (show 0 ≤ m.size by omega); omega), Int.add_comm, Int.add_mul_ediv_right _ _ (by omega), Int.ediv_eq_zero_of_lt v0 v1]
        omega
      rw [e1, e2]
      have e3 : (v = u) = (u = v) := propext ⟨Eq.symm, Eq.symm⟩
      rw [e3]
abbrev TF := Env → Option Bool
noncomputable def conn (op : Int) (a b : Bool) : Bool := bif dec (op = 5) then a && b else bif dec (op = 6) then a || b else !a || b
def overE (p : Int → Option Bool) : Nat → Option (Bool × Bool)
  | 0 => some (true, false)
  | k + 1 => match overE p k, p k with
    | some (a, s), some v => some (a && v, s || v)
    | _, _ => none
noncomputable def qres (op : Int) : Option (Bool × Bool) → Option Bool
  | some (a, s) => some (bif dec (op = 8) then a else s)
  | none => none
noncomputable def two (op : Int) : Option Bool → Option Bool → Option Bool
  | some a, some b => some (conn op a b)
  | _, _ => none
noncomputable def trF (m : Ip) (op : Int) (atom : Tm) (var : ByteArray) (ps : List TF) (e : Env) : Option Bool :=
  bif dec (op = 1) then some true else bif dec (op = 2) then some false
  else bif dec (op = 3) then (atom.tru m e).map fun n => dec (n = 1)
  else bif qB op then qres op (overE (fun x => ps.getD 0 (fun _ => none) (putE e var x)) m.size.toNat)
  else bif dec (op = 4) then (ps.getD 0 (fun _ => none) e).map (fun b => !b)
  else two op (ps.getD 0 (fun _ => none) e) (ps.getD 1 (fun _ => none) e)
mutual
noncomputable def Fm.tr (m : Ip) : Fm → TF
  | .mk op atom var parts => trF m op atom var (Fm.trL m parts)
noncomputable def Fm.trL (m : Ip) : List Fm → List TF
  | [] => []
  | x :: xs => Fm.tr m x :: Fm.trL m xs
end
section
variable {m : Ip} {x p q : Fm} {e : Env}
end
def FinE (e : Env) : Prop := ∃ l : List ByteArray, ∀ s, e s ≠ none → s ∈ l
theorem FinE.put {e : Env} (h : FinE e) (s : ByteArray) (n : Int) : FinE (putE e s n) := by
  obtain ⟨l, hl⟩ := h
  refine ⟨s :: l, fun q hq => ?_⟩
  unfold putE at hq
  by_cases he : q = s
  · simp [he]
  · rw [dec_f he, cond_false] at hq
    simp [hl q hq]
theorem FinE.asg : ∀ xs : List Ag, FinE (asg xs)
  | [] => ⟨[], fun s h => absurd rfl h⟩
  | x :: xs => by
    obtain ⟨l, hl⟩ := FinE.asg xs
    refine ⟨x.var :: l, fun s hs => ?_⟩
    rw [Go.Proofs.YtolhlpglgheldaaGreat.asg] at hs
    by_cases he : x.var = s
    · simp [he]
    · rw [dec_f he, cond_false] at hs
      simp [hl s hs]
def c_slices_CompareFunc_impl_Term_impl_Term_impl_Term_impl_Term : SC := (.seq (.reg [⟨some 6, none, .mv (.c (.int .i64 0))⟩]) (.seq (.seq (.reg [⟨some 11, none, .mv (.t 0)⟩, ⟨some 12, none, .len false (.t 11)⟩, ⟨some 13, none, .mv (.c (.int .i64 0))⟩]) (.block 0 (.loop [1, 1, 1, 0, 0, 0, 0, 0, 0, 0, 0, 1, 1, 1, 0, 0, 0, 0, 0, 0, 0, 0, 0, 0, 0, 0, 0, 0, 0, 0, 0, 0, 0, 0, 0, 0, 0, 0, 0] (.seq (.reg [⟨some 14, none, .bin .lss false (.t 13) (.t 12)⟩]) (.seq (.cond (.t 14) .skip (.exit 0)) (.seq (.block 1 (.seq (.reg [⟨some 15, none, .mv (.t 13)⟩, ⟨some 16, none, .iaddr 2 (.t 11) (.t 13)⟩, ⟨some 17, none, .load true 2 (.t 16)⟩, ⟨(some 8), none, (.alloc 105 [(.str ⟨#[]⟩), .nil])⟩, ⟨some 7, none, .mv (.t 15)⟩, ⟨none, none, (.store 2 (.t 8) (.t 17))⟩]) (.seq (.seq (.reg [⟨some 18, none, .mv (.t 7)⟩, ⟨some 19, none, .mv (.t 1)⟩, ⟨some 20, none, .len false (.t 19)⟩, ⟨some 21, none, .bin .geq false (.t 18) (.t 20)⟩]) (.cond (.t 21) (.seq (.reg [⟨some 6, none, .mv (.c (.int .i64 1))⟩]) .ret) .skip)) (.seq (.reg [⟨some 22, none, .mv (.t 1)⟩, ⟨some 23, none, .mv (.t 7)⟩, ⟨some 24, none, .iaddr 2 (.t 22) (.t 23)⟩, ⟨some 25, none, .load true 2 (.t 24)⟩, ⟨(some 9), none, (.alloc 105 [(.str ⟨#[]⟩), .nil])⟩, ⟨none, none, (.store 2 (.t 9) (.t 25))⟩]) (.seq (.reg [⟨some 26, none, .mv (.t 2)⟩, ⟨some 27, none, .load true 2 (.t 8)⟩, ⟨some 28, none, .load true 2 (.t 9)⟩, ⟨some 29, none, .callv (.t 26) [(.t 27), (.t 28)]⟩, ⟨some 10, none, .mv (.t 29)⟩]) (.seq (.reg [⟨some 30, none, .mv (.t 10)⟩, ⟨some 31, none, .bin .neq false (.t 30) (.c (.int .i64 0))⟩]) (.cond (.t 31) (.seq (.reg [⟨some 32, none, .mv (.t 10)⟩, ⟨some 6, none, .mv (.t 32)⟩]) .ret) .skip))))))) (.reg [⟨some 33, none, .bin .add false (.t 13) (.c (.int .i64 1))⟩, ⟨some 13, none, .mv (.t 33)⟩]))))))) (.seq (.seq (.reg [⟨some 34, none, .mv (.t 0)⟩, ⟨some 35, none, .len false (.t 34)⟩, ⟨some 36, none, .mv (.t 1)⟩, ⟨some 37, none, .len false (.t 36)⟩, ⟨some 38, none, .bin .lss false (.t 35) (.t 37)⟩]) (.cond (.t 38) (.seq (.reg [⟨some 6, none, .mv (.c (.int .i64 (-(0 + 1))))⟩]) .ret) .skip)) (.seq (.reg [⟨some 6, none, .mv (.c (.int .i64 0))⟩]) .ret))))
theorem k_slices_CompareFunc_impl_Term_impl_Term_impl_Term_impl_Term : codeOf Tryz.prog 138 = some ⟨39, c_slices_CompareFunc_impl_Term_impl_Term_impl_Term_impl_Term, [(.tmp 6)]⟩ := by kernel_rfl
theorem m_slices_CompareFunc_impl_Term_impl_Term_impl_Term_impl_Term : modes 138 = ⟨[], .asis, none, false⟩ := by unfold modes; rfl
def c_impl_compareTerms : SC := (.seq (.reg [⟨some 2, none, .boxv 105 2 (.t 0)⟩, ⟨some 3, none, .boxv 105 2 (.t 1)⟩, ⟨some 4, none, .mv (.c (.int .i64 0))⟩]) (.seq (.dreg [[], [0], [], [2, 1, 0], [1, 0, 3, 2], [3, 2, 1, 0, 4]] [⟨some 8, none, .load true 2 (.t 2)⟩, ⟨some 9, none, .call 137 [(.t 8)]⟩, ⟨some 10, none, .load true 2 (.t 3)⟩, ⟨some 11, none, .call 137 [(.t 10)]⟩, ⟨some 5, none, .mv (.t 9)⟩, ⟨some 6, none, .mv (.t 11)⟩]) (.seq (.block 0 (.seq (.reg [⟨some 13, none, .mv (.t 5)⟩, ⟨some 14, none, .mv (.t 13)⟩, ⟨(some 15), (some (14, true)), (.mv (.t 6))⟩, ⟨(some 16), (some (14, true)), (.un .not (.t 15))⟩, ⟨some 17, none, .pick (.t 14) (.t 16) (.c (.bool false))⟩, ⟨some 12, none, .mv (.t 17)⟩]) (.cond (.t 12) (.seq (.reg [⟨some 4, none, .mv (.c (.int .i64 (-(0 + 1))))⟩]) .ret) (.seq (.reg [⟨some 19, none, .mv (.t 6)⟩, ⟨some 20, none, .mv (.t 19)⟩, ⟨(some 21), (some (20, true)), (.mv (.t 5))⟩, ⟨(some 22), (some (20, true)), (.un .not (.t 21))⟩, ⟨some 23, none, .pick (.t 20) (.t 22) (.c (.bool false))⟩, ⟨some 18, none, .mv (.t 23)⟩]) (.cond (.t 18) (.seq (.reg [⟨some 4, none, .mv (.c (.int .i64 1))⟩]) .ret) .skip))))) (.seq (.seq (.dreg [[], [0], [], [2], [1, 0, 3, 2], [], [5], [6, 5], [], [8], [9, 8], [7, 6, 5, 10, 9, 8, 4, 1, 0, 3, 2], [4, 1, 0, 3, 2, 11, 7, 6, 5, 10, 9, 8], [12, 4, 1, 0, 3, 2, 11, 7, 6, 5, 10, 9, 8], [13, 12, 4, 1, 0, 3, 2, 11, 7, 6, 5, 10, 9, 8]] [⟨some 24, none, .faddr 0 (.t 2)⟩, ⟨some 25, none, .load false 1 (.t 24)⟩, ⟨some 26, none, .faddr 0 (.t 3)⟩, ⟨some 27, none, .load false 1 (.t 26)⟩, ⟨some 28, none, .call 135 [(.t 25), (.t 27)]⟩, ⟨some 29, none, .faddr 1 (.t 2)⟩, ⟨some 30, none, .load false 1 (.t 29)⟩, ⟨some 31, none, .len false (.t 30)⟩, ⟨some 32, none, .faddr 1 (.t 3)⟩, ⟨some 33, none, .load false 1 (.t 32)⟩, ⟨some 34, none, .len false (.t 33)⟩, ⟨some 35, none, .call 107 [(.t 31), (.t 34)]⟩, ⟨some 36, none, .mkrow 3 1 [(.int .i64 0)] 2 [(0, (.t 28)), (1, (.t 35))]⟩, ⟨some 37, none, .call 105 [(.t 36)]⟩, ⟨some 7, none, .mv (.t 37)⟩]) (.seq (.reg [⟨some 38, none, .mv (.t 7)⟩, ⟨some 39, none, .bin .neq false (.t 38) (.c (.int .i64 0))⟩]) (.cond (.t 39) (.seq (.reg [⟨some 40, none, .mv (.t 7)⟩, ⟨some 4, none, .mv (.t 40)⟩]) .ret) .skip))) (.seq (.reg [⟨some 41, none, .faddr 1 (.t 2)⟩, ⟨some 42, none, .load false 1 (.t 41)⟩, ⟨some 43, none, .faddr 1 (.t 3)⟩, ⟨some 44, none, .load false 1 (.t 43)⟩, ⟨some 45, none, .call 138 [(.t 42), (.t 44), (.c (.fn 106 []))]⟩, ⟨some 4, none, .mv (.t 45)⟩]) .ret)))))
theorem k_impl_compareTerms : codeOf Tryz.prog 106 = some ⟨46, c_impl_compareTerms, [(.tmp 4)]⟩ := by kernel_rfl
theorem m_impl_compareTerms : modes 106 = ⟨[], .asis, none, false⟩ := by unfold modes; rfl
theorem g_impl_compareTerms : goFn Tryz.prog 106 = true := by kernel_rfl
set_option maxHeartbeats 1000000 in
theorem compareFunc_E (fid : Nat) (xs ys : List Tm) (hl : xs.length ≤ 1099511627776) (hl' : ys.length ≤ 1099511627776) (hg : goFn Tryz.prog fid = true) (hm : (modes fid).hand = []) (hE : ∀ x ∈ xs, ∀ y ∈ ys, E fid [x.sv, y.sv] [] = some (.int .i64 (x.cmp y), [])) : E 138 [.arr (xs.map Tm.d), .arr (ys.map Tm.d), .fn fid []] [] = some (.int .i64 (Tm.cmpL xs ys), []) := by
  refine E_walk k_slices_CompareFunc_impl_Term_impl_Term_impl_Term_impl_Term m_slices_CompareFunc_impl_Term_impl_Term_impl_Term_impl_Term (of_decide_eq_true rfl) ?_
  simp (disch := omega) only [c_slices_CompareFunc_impl_Term_impl_Term_impl_Term_impl_Term, go_sem, go_cond, zA, zB, zC, zD, zE, zF, zG, zH, ↓reduceIte, zI, reduceCtorEq, zJ, zK]
  refine go_loop (α := Int) (fun a => ⟨slots 39 0 [(0, .arr (xs.map Tm.d)), (1, .arr (ys.map Tm.d)), (2, .fn fid []), (11, .arr (xs.map Tm.d)), (12, .int .i64 xs.length), (13, .int .i64 a)], []⟩) (fun a => ∃ k : Nat, a = k ∧ k ≤ (xs).length ∧ k ≤ ys.length ∧ Tm.cmpL (xs.drop k) (ys.drop k) = Tm.cmpL xs ys) (fun a => (xs).length - (a).toNat) 0 ⟨0, rfl, Nat.zero_le _, Nat.zero_le _, by rw [List.drop_zero, List.drop_zero]⟩ (by simp (disch := omega) only [go_sem, go_cond, zA, zB, zC, zD, zE, zF, zG, zH, ↓reduceIte, zI, reduceCtorEq, zJ, zK]) ?_
  rintro i ⟨k, hi, hk, hR⟩
  have hni : i.toNat = k := by omega
  have hni1 : (i + 1).toNat = k + 1 := by omega
  rcases Nat.lt_or_ge k (xs).length with hlt | hge
  · obtain ⟨hk', hR⟩ := hR
    have hgx := get_at Tm.d hlt
    rw [Tm.d_eq] at hgx
    rcases Nat.lt_or_ge k ys.length with hlt' | hge'
    · have hgy := get_at Tm.d hlt'
      rw [Tm.d_eq] at hgy
      have hc := hE xs[k] (List.getElem_mem hlt) ys[k] (List.getElem_mem hlt')
      rw [cmpL_drop hlt hlt'] at hR
      by_cases h0 : xs[k].cmp ys[k] = 0
      · rw [orZ, if_pos h0] at hR
        rw [h0] at hc
        simp (disch := omega) only [go_sem, go_cond, zA, zB, zC, zD, zE, zF, zG, zH, ↓reduceIte, zI, reduceCtorEq, zJ, zK, hni, hgx, hgy, hc, hg, hm]
        exact ⟨i + 1, ⟨k + 1, by omega, hlt, hlt', hR⟩, by omega, by first | trivial | rfl⟩
      · rw [orZ, if_neg h0] at hR
        simp (disch := omega) only [go_sem, go_cond, zA, zB, zC, zD, zE, zF, zG, zH, ↓reduceIte, zI, reduceCtorEq, zJ, zK, hni, hgx, hgy, hc, hg, hm, h0]
        exact hR
    · rw [cmpL_short hlt hge'] at hR
      simp (disch := omega) only [go_sem, go_cond, zA, zB, zC, zD, zE, zF, zG, zH, ↓reduceIte, zI, reduceCtorEq, zJ, zK, hni, hgx]
      exact hR
  · obtain ⟨hk', hR⟩ := hR
    obtain rfl : k = xs.length := by omega
    rcases Nat.lt_or_ge xs.length ys.length with hlt' | hge'
    · rw [cmpL_end (Nat.le_refl _) hlt'] at hR
      simp (disch := omega) only [go_sem, go_cond, zA, zB, zC, zD, zE, zF, zG, zH, ↓reduceIte, zI, reduceCtorEq, zJ, zK, hni]
      exact hR
    · rw [cmpL_both (Nat.le_refl _) hge'] at hR
      simp (disch := omega) only [go_sem, go_cond, zA, zB, zC, zD, zE, zF, zG, zH, ↓reduceIte, zI, reduceCtorEq, zJ, zK, hni]
      exact hR
abbrev CmpC (f : FuncId) (x y : Tm) : Prop := x.cok = true → y.cok = true → x.nodes ≤ 1099511627776 → y.nodes ≤ 1099511627776 → E f [x.sv, y.sv] [] = some (.int .i64 (x.cmp y), [])
set_option maxHeartbeats 1000000 in
theorem compareTerms_of (x : Tm) (ih : ∀ x' ∈ x.args, ∀ y, CmpC 106 x' y) (y : Tm) : CmpC 106 x y := by
  intro hx hy hnx hny
  have lx := Tm.length_le x.args
  have ly := Tm.length_le y.args
  have nx := Tm.nodes_eq x
  have ny := Tm.nodes_eq y
  have h1 := isVar_E x hx
  have h2 := isVar_E y hy
  have h3 := compareS_E x.name y.name
  have h4 := compareI_E x.args.length y.args.length
  have h5 := or2_E (cmpB x.name y.name) (cmpI x.args.length y.args.length)
  rw [Tm.cok_eq, Bool.and_eq_true] at hx hy
  have h6 := compareFunc_E 106 x.args y.args (by omega) (by omega) g_impl_compareTerms (by rw [m_impl_compareTerms]) fun x' hx' y' hy' => ih x' hx' y' (Tm.cokS_mem hx.2 hx') (Tm.cokS_mem hy.2 hy') (by have := Tm.nodes_mem hx'; omega) (by have := Tm.nodes_mem hy'; omega)
  rw [Tm.cmp_eq]
  cases vx : varB x.name <;> rw [vx] at h1 <;> cases vy : varB y.name <;> rw [vy] at h2
  all_goals
    simp only [Bool.not_true, Bool.not_false, Bool.and_true, Bool.and_false, Bool.true_and, Bool.false_and, if_true, if_false, Bool.false_eq_true]
    by_cases h0 : orZ (cmpB x.name y.name) (cmpI x.args.length y.args.length) = 0
    · rw [h0] at h5
      try rw [h0]
      refine E_walk k_impl_compareTerms m_impl_compareTerms (of_decide_eq_true rfl) ?_
      simp (disch := omega) only [c_impl_compareTerms, go_sem, go_cond, zA, zB, zC, zD, zE, zF, zG, zH, ↓reduceIte, zI, reduceCtorEq, zJ, zK, h1, h2, h3, h4, h5, h6, m_impl_isVar, m_cmp_Compare_string, m_cmp_Compare_int, m_cmp_Or_int, m_slices_CompareFunc_impl_Term_impl_Term_impl_Term_impl_Term]
      try rfl
    · try rw [orZ.eq_1 (orZ _ _) _, if_neg h0]
      refine E_walk k_impl_compareTerms m_impl_compareTerms (of_decide_eq_true rfl) ?_
      simp (disch := omega) only [c_impl_compareTerms, go_sem, go_cond, zA, zB, zC, zD, zE, zF, zG, zH, ↓reduceIte, zI, reduceCtorEq, zJ, zK, h0, h1, h2, h3, h4, h5, m_impl_isVar, m_cmp_Compare_string, m_cmp_Compare_int, m_cmp_Or_int]
theorem compareTerms_E (x y : Tm) : CmpC 106 x y := compareTerms_of x (fun x' hx' y' => compareTerms_E x' y') y
termination_by SizeOf.sizeOf x
decreasing_by exact Tm.lt_of_mem hx'
def c_spec_l2Text : SC := (.seq (.reg [⟨some 4, none, .mv (.c (.int .i64 0))⟩]) (.seq (.block 0 (.seq (.reg [⟨some 6, none, .mv (.t 0)⟩, ⟨some 7, none, .mv (.t 1)⟩, ⟨some 8, none, .bin .lss false (.t 6) (.t 7)⟩, ⟨some 5, none, .mv (.t 8)⟩]) (.cond (.t 5) (.seq (.reg [⟨some 4, none, .mv (.c (.int .i64 (-(0 + 1))))⟩]) .ret) (.seq (.reg [⟨some 10, none, .mv (.t 0)⟩, ⟨some 11, none, .mv (.t 1)⟩, ⟨some 12, none, .bin .gtr false (.t 10) (.t 11)⟩, ⟨some 9, none, .mv (.t 12)⟩]) (.cond (.t 9) (.seq (.reg [⟨some 4, none, .mv (.c (.int .i64 1))⟩]) .ret) .skip))))) (.seq (.reg [⟨some 4, none, .mv (.c (.int .i64 0))⟩]) .ret)))
theorem k_spec_l2Text : codeOf Tryz.prog 147 = some ⟨13, c_spec_l2Text, [(.tmp 4)]⟩ := by kernel_rfl
theorem m_spec_l2Text : modes 147 = ⟨[], .asis, none, false⟩ := by unfold modes; rfl
def c_spec_l2Compare : SC := (.seq (.reg [⟨some 2, none, .boxv 105 2 (.t 0)⟩, ⟨some 3, none, .boxv 105 2 (.t 1)⟩, ⟨some 4, none, .mv (.c (.int .i64 0))⟩]) (.seq (.dreg [[], [0], [1, 0], [], [3], [4, 3, 2, 1, 0], [2, 1, 0, 5, 4, 3], [5, 4, 3, 2, 1, 0, 6]] [⟨some 9, none, .faddr 0 (.t 2)⟩, ⟨some 10, none, .load false 1 (.t 9)⟩, ⟨some 11, none, .call 79 [(.t 10)]⟩, ⟨some 12, none, .faddr 0 (.t 3)⟩, ⟨some 13, none, .load false 1 (.t 12)⟩, ⟨some 14, none, .call 79 [(.t 13)]⟩, ⟨some 5, none, .mv (.t 11)⟩, ⟨some 6, none, .mv (.t 14)⟩]) (.seq (.block 0 (.seq (.reg [⟨some 16, none, .mv (.t 5)⟩, ⟨some 17, none, .mv (.t 16)⟩, ⟨(some 18), (some (17, true)), (.mv (.t 6))⟩, ⟨(some 19), (some (17, true)), (.un .not (.t 18))⟩, ⟨some 20, none, .pick (.t 17) (.t 19) (.c (.bool false))⟩, ⟨some 15, none, .mv (.t 20)⟩]) (.cond (.t 15) (.seq (.reg [⟨some 4, none, .mv (.c (.int .i64 (-(0 + 1))))⟩]) .ret) (.seq (.reg [⟨some 22, none, .mv (.t 5)⟩, ⟨some 23, none, .un .not (.t 22)⟩, ⟨some 24, none, .mv (.t 23)⟩, ⟨(some 25), (some (24, true)), (.mv (.t 6))⟩, ⟨some 26, none, .pick (.t 24) (.t 25) (.c (.bool false))⟩, ⟨some 21, none, .mv (.t 26)⟩]) (.cond (.t 21) (.seq (.reg [⟨some 4, none, .mv (.c (.int .i64 1))⟩]) .ret) (.seq (.reg [⟨some 28, none, .faddr 0 (.t 2)⟩, ⟨some 29, none, .load false 1 (.t 28)⟩, ⟨some 30, none, .faddr 0 (.t 3)⟩, ⟨some 31, none, .load false 1 (.t 30)⟩, ⟨some 32, none, .bin .neq false (.t 29) (.t 31)⟩, ⟨some 27, none, .mv (.t 32)⟩]) (.cond (.t 27) (.seq (.reg [⟨some 33, none, .faddr 0 (.t 2)⟩, ⟨some 34, none, .load false 1 (.t 33)⟩, ⟨some 35, none, .faddr 0 (.t 3)⟩, ⟨some 36, none, .load false 1 (.t 35)⟩, ⟨some 37, none, .call 147 [(.t 34), (.t 36)]⟩, ⟨some 4, none, .mv (.t 37)⟩]) .ret) (.seq (.reg [⟨some 39, none, .faddr 1 (.t 2)⟩, ⟨some 40, none, .load false 1 (.t 39)⟩, ⟨some 41, none, .len false (.t 40)⟩, ⟨some 42, none, .faddr 1 (.t 3)⟩, ⟨some 43, none, .load false 1 (.t 42)⟩, ⟨some 44, none, .len false (.t 43)⟩, ⟨some 45, none, .bin .lss false (.t 41) (.t 44)⟩, ⟨some 38, none, .mv (.t 45)⟩]) (.cond (.t 38) (.seq (.reg [⟨some 4, none, .mv (.c (.int .i64 (-(0 + 1))))⟩]) .ret) (.seq (.reg [⟨some 47, none, .faddr 1 (.t 2)⟩, ⟨some 48, none, .load false 1 (.t 47)⟩, ⟨some 49, none, .len false (.t 48)⟩, ⟨some 50, none, .faddr 1 (.t 3)⟩, ⟨some 51, none, .load false 1 (.t 50)⟩, ⟨some 52, none, .len false (.t 51)⟩, ⟨some 53, none, .bin .gtr false (.t 49) (.t 52)⟩, ⟨some 46, none, .mv (.t 53)⟩]) (.cond (.t 46) (.seq (.reg [⟨some 4, none, .mv (.c (.int .i64 1))⟩]) .ret) .skip))))))))))) (.seq (.seq (.reg [⟨some 7, none, .mv (.c (.int .i64 0))⟩]) (.block 1 (.loop [0, 0, 1, 1, 0, 0, 0, 1, 0, 0, 0, 0, 0, 0, 0, 0, 0, 0, 0, 0, 0, 0, 0, 0, 0, 0, 0, 0, 0, 0, 0, 0, 0, 0, 0, 0, 0, 0, 0, 0, 0, 0, 0, 0, 0, 0, 0, 0, 0, 0, 0, 0, 0, 0, 0, 0, 0, 0, 0, 0, 0, 0, 0, 0, 0, 0, 0, 0, 0, 0, 0, 0, 0, 0, 0] (.seq (.seq (.reg [⟨some 54, none, .mv (.t 7)⟩, ⟨some 55, none, .faddr 1 (.t 2)⟩, ⟨some 56, none, .load false 1 (.t 55)⟩, ⟨some 57, none, .len false (.t 56)⟩, ⟨some 58, none, .bin .lss false (.t 54) (.t 57)⟩]) (.cond (.t 58) .skip (.exit 1))) (.seq (.block 2 (.seq (.dreg [[], [0], [], [1, 0, 2], [3, 1, 0, 2], [], [5], [], [6, 5, 7], [8, 6, 5, 7], [4, 3, 1, 0, 2, 9, 8, 6, 5, 7], [10, 4, 3, 1, 0, 2, 9, 8, 6, 5, 7]] [⟨some 61, none, .faddr 1 (.t 2)⟩, ⟨some 62, none, .load false 1 (.t 61)⟩, ⟨some 63, none, .mv (.t 7)⟩, ⟨some 64, none, .iaddr 2 (.t 62) (.t 63)⟩, ⟨some 65, none, .load true 2 (.t 64)⟩, ⟨some 66, none, .faddr 1 (.t 3)⟩, ⟨some 67, none, .load false 1 (.t 66)⟩, ⟨some 68, none, .mv (.t 7)⟩, ⟨some 69, none, .iaddr 2 (.t 67) (.t 68)⟩, ⟨some 70, none, .load true 2 (.t 69)⟩, ⟨some 71, none, .call 117 [(.t 65), (.t 70)]⟩, ⟨some 8, none, .mv (.t 71)⟩]) (.seq (.reg [⟨some 72, none, .mv (.t 8)⟩, ⟨some 73, none, .bin .neq false (.t 72) (.c (.int .i64 0))⟩]) (.cond (.t 73) (.seq (.reg [⟨some 74, none, .mv (.t 8)⟩, ⟨some 4, none, .mv (.t 74)⟩]) .ret) .skip)))) (.reg [⟨some 59, none, .mv (.t 7)⟩, ⟨some 60, none, .bin .add false (.t 59) (.c (.int .i64 1))⟩, ⟨some 7, none, .mv (.t 60)⟩])))))) (.seq (.reg [⟨some 4, none, .mv (.c (.int .i64 0))⟩]) .ret)))))
theorem k_spec_l2Compare : codeOf Tryz.prog 117 = some ⟨75, c_spec_l2Compare, [(.tmp 4)]⟩ := by kernel_rfl
theorem m_spec_l2Compare : modes 117 = ⟨[], .asis, none, false⟩ := by unfold modes; rfl
theorem l2Text_E (a b : ByteArray) : E 147 [.str a, .str b] [] = some (.int .i64 (cmpB a b), []) := by
  unfold cmpB
  cases h3 : strLt a b
  · cases h4 : dec (a = b)
    · refine E_walk k_spec_l2Text m_spec_l2Text (of_decide_eq_true rfl) ?_
      simp (disch := omega) only [c_spec_l2Text, go_sem, go_cond, zA, zB, zC, zD, zE, zF, zG, zH, ↓reduceIte, zI, reduceCtorEq, zJ, zK, h3, h4]
    · refine E_walk k_spec_l2Text m_spec_l2Text (of_decide_eq_true rfl) ?_
      simp (disch := omega) only [c_spec_l2Text, go_sem, go_cond, zA, zB, zC, zD, zE, zF, zG, zH, ↓reduceIte, zI, reduceCtorEq, zJ, zK, h3, h4]
  · refine E_walk k_spec_l2Text m_spec_l2Text (of_decide_eq_true rfl) ?_
    simp (disch := omega) only [c_spec_l2Text, go_sem, go_cond, zA, zB, zC, zD, zE, zF, zG, zH, ↓reduceIte, zI, reduceCtorEq, zJ, zK, h3]
theorem cmpB_ne {a b : ByteArray} (h : ¬ a = b) : cmpB a b ≠ 0 := by
  unfold cmpB
  rw [dec_f h]
  cases strLt a b <;> simp
theorem cmpB_eq (a : ByteArray) : cmpB a a = 0 := by
  unfold cmpB
  rw [strLt_self, dec_t rfl]; rfl
set_option maxHeartbeats 2000000 in
theorem l2Compare_of (x : Tm) (ih : ∀ x' ∈ x.args, ∀ y, CmpC 117 x' y) (y : Tm) : CmpC 117 x y := by
  intro hx hy hnx hny
  have lx := Tm.length_le x.args
  have ly := Tm.length_le y.args
  have nx := Tm.nodes_eq x
  have ny := Tm.nodes_eq y
  have h1 := l2Var_E x.name
  have h2 := l2Var_E y.name
  have h3 := l2Text_E x.name y.name
  rw [Tm.cok_eq, Bool.and_eq_true] at hx hy
  rw [Tm.cmp_eq]
  cases vx : varB x.name <;> rw [vx] at h1 <;> cases vy : varB y.name <;> rw [vy] at h2
  case' false.true => refine E_walk k_spec_l2Compare m_spec_l2Compare (of_decide_eq_true rfl) ?_
                      simp (disch := omega) only [c_spec_l2Compare, go_sem, go_cond, zA, zB, zC, zD, zE, zF, zG, zH, ↓reduceIte, zI, reduceCtorEq, zJ, zK, h1, h2, m_spec_l2Var]
  case' true.false => refine E_walk k_spec_l2Compare m_spec_l2Compare (of_decide_eq_true rfl) ?_
                      simp (disch := omega) only [c_spec_l2Compare, go_sem, go_cond, zA, zB, zC, zD, zE, zF, zG, zH, ↓reduceIte, zI, reduceCtorEq, zJ, zK, h1, h2, m_spec_l2Var]
  case' false.false => skip
  case' true.true => skip
  all_goals (try trivial)
  all_goals
    simp only [Bool.not_true, Bool.not_false, Bool.and_true, Bool.and_false, Bool.true_and, Bool.false_and, if_true, if_false, Bool.false_eq_true]
    by_cases h0 : x.name = y.name
    · rw [show cmpB x.name y.name = 0 by rw [h0]; exact cmpB_eq _]
      unfold cmpI
      rcases Nat.lt_or_ge x.args.length y.args.length with h4 | h4
      · rw [dec_t (by omega)]
        refine E_walk k_spec_l2Compare m_spec_l2Compare (of_decide_eq_true rfl) ?_
        simp (disch := omega) only [c_spec_l2Compare, go_sem, go_cond, zA, zB, zC, zD, zE, zF, zG, zH, ↓reduceIte, zI, reduceCtorEq, zJ, zK, h0, h1, h2, m_spec_l2Var]
        rfl
      · rcases Nat.lt_or_ge y.args.length x.args.length with h5 | h5
        · rw [dec_f (by omega), dec_t (by omega)]
          refine E_walk k_spec_l2Compare m_spec_l2Compare (of_decide_eq_true rfl) ?_
          simp (disch := omega) only [c_spec_l2Compare, go_sem, go_cond, zA, zB, zC, zD, zE, zF, zG, zH, ↓reduceIte, zI, reduceCtorEq, zJ, zK, h0, h1, h2, m_spec_l2Var]
          rfl
        · rw [dec_f (by omega), dec_f (by omega)]
          refine E_walk k_spec_l2Compare m_spec_l2Compare (of_decide_eq_true rfl) ?_
          simp (disch := omega) only [c_spec_l2Compare, go_sem, go_cond, zA, zB, zC, zD, zE, zF, zG, zH, ↓reduceIte, zI, reduceCtorEq, zJ, zK, h0, h1, h2, m_spec_l2Var]
          refine go_loop (α := Int) (fun a => ⟨slots 75 0 [(2, .ptr 0 0), (3, .ptr 1 0), (7, .int .i64 a)], [.box 105 [.str x.name, .arr (x.args.map Tm.d)], .box 105 [.str y.name, .arr (y.args.map Tm.d)]]⟩) (fun a => ∃ k : Nat, a = k ∧ k ≤ (x.args).length ∧ Tm.cmpL (x.args.drop k) (y.args.drop k) = Tm.cmpL x.args y.args) (fun a => (x.args).length - (a).toNat) 0 ⟨0, rfl, Nat.zero_le _, by rw [List.drop_zero, List.drop_zero]⟩ (by simp (disch := omega) only [go_sem, go_cond, zA, zB, zC, zD, zE, zF, zG, zH, ↓reduceIte, zI, reduceCtorEq, zJ, zK, h0]) ?_
          rintro i ⟨k, hi, hk, hR⟩
          have hni : i.toNat = k := by omega
          have hni1 : (i + 1).toNat = k + 1 := by omega
          rcases Nat.lt_or_ge k (x.args).length with hlt | hge
          · have hlt' : k < y.args.length := by omega
            have hgx := get_at Tm.d hlt
            rw [Tm.d_eq] at hgx
            have hgy := get_at Tm.d hlt'
            rw [Tm.d_eq] at hgy
            have hc := ih x.args[k] (List.getElem_mem hlt) y.args[k] (Tm.cokS_mem hx.2 (List.getElem_mem hlt)) (Tm.cokS_mem hy.2 (List.getElem_mem hlt')) (by have := Tm.nodes_le x.args k hlt; omega) (by have := Tm.nodes_le y.args k hlt'; omega)
            rw [cmpL_drop hlt hlt'] at hR
            by_cases hz : x.args[k].cmp y.args[k] = 0
            · rw [orZ, if_pos hz] at hR
              rw [hz] at hc
              simp (disch := omega) only [go_sem, go_cond, zA, zB, zC, zD, zE, zF, zG, zH, ↓reduceIte, zI, reduceCtorEq, zJ, zK, hni, hgx, hgy, hc, m_spec_l2Compare]
              exact ⟨i + 1, ⟨k + 1, by omega, hlt, hR⟩, by omega, by first | trivial | rfl | simp only [h0, and_self]⟩
            · rw [orZ, if_neg hz] at hR
              simp (disch := omega) only [go_sem, go_cond, zA, zB, zC, zD, zE, zF, zG, zH, ↓reduceIte, zI, reduceCtorEq, zJ, zK, hni, hgx, hgy, hc, hz, m_spec_l2Compare]
              exact hR
          · rw [cmpL_both hge (by omega)] at hR
            simp (disch := omega) only [go_sem, go_cond, zA, zB, zC, zD, zE, zF, zG, zH, ↓reduceIte, zI, reduceCtorEq, zJ, zK, hni]
            exact hR
    · have h6 := cmpB_ne h0
      rw [show orZ (orZ (cmpB x.name y.name) (cmpI x.args.length y.args.length)) (Tm.cmpL x.args y.args) = cmpB x.name y.name by unfold orZ; rw [if_neg h6, if_neg h6]]
      refine E_walk k_spec_l2Compare m_spec_l2Compare (of_decide_eq_true rfl) ?_
      simp (disch := omega) only [c_spec_l2Compare, go_sem, go_cond, zA, zB, zC, zD, zE, zF, zG, zH, ↓reduceIte, zI, reduceCtorEq, zJ, zK, h0, h1, h2, h3, m_spec_l2Var, m_spec_l2Text]
theorem l2Compare_E (x y : Tm) : CmpC 117 x y := l2Compare_of x (fun x' hx' y' => l2Compare_E x' y') y
termination_by SizeOf.sizeOf x
decreasing_by exact Tm.lt_of_mem hx'
def flagZ (b : Bool) : Int := if b then 1 else 0
noncomputable def Lt.cmp (x y : Lt) : Int := orZ (x.atom.cmp y.atom) (cmpI (flagZ x.pos) (flagZ y.pos))
noncomputable def ltAt (xs : List Lt) (k : Nat) : Bool := match xs[k]? with
  | none => true
  | some x => x.atom.atom && (match k with
    | 0 => true
    | j + 1 => match xs[j]? with
      | none => true
      | some y => decide (y.cmp x < 0))
noncomputable def ltTo (xs : List Lt) : Nat → Bool
  | 0 => true
  | k + 1 => ltTo xs k && ltAt xs k
theorem ltTo_mono {xs : List Lt} {k n : Nat} (h : ltTo xs k = false) (hn : k ≤ n) : ltTo xs n = false := by
  induction n with
  | zero => obtain rfl : k = 0 := by omega
            exact h
  | succ n ih =>
    rcases Nat.lt_or_ge n k with h1 | h1
    · obtain rfl : k = n + 1 := by omega
      exact h
    · rw [ltTo, ih h1]; rfl
theorem ltAt_zero {xs : List Lt} (h : 0 < xs.length) : ltAt xs 0 = xs[0].atom.atom := by
  unfold ltAt
  rw [List.getElem?_eq_getElem h]
  simp
theorem ltAt_succ {xs : List Lt} {j : Nat} (h : j + 1 < xs.length) : ltAt xs (j + 1) = (xs[j + 1].atom.atom && decide (xs[j].cmp xs[j + 1] < 0)) := by
  unfold ltAt
  rw [List.getElem?_eq_getElem h]
  simp only [List.getElem?_eq_getElem (show j < xs.length by omega)]
theorem ltTo_atom {xs : List Lt} {k j : Nat} (h : ltTo xs k = true) (hj : j < k) (hl : j < xs.length) : xs[j].atom.atom = true := by
  induction k with
  | zero => omega
  | succ k ih =>
    rw [ltTo, Bool.and_eq_true] at h
    rcases Nat.lt_or_ge j k with h1 | h1
    · exact ih h.1 h1
    · obtain rfl : j = k := by omega
      cases j with
      | zero => rw [← ltAt_zero hl]; exact h.2
      | succ j =>
        have := h.2
        rw [ltAt_succ hl, Bool.and_eq_true] at this
        exact this.1
noncomputable def Cl.ok (x : Cl) : Bool := decide (x.lits.length ≤ 8) && ltTo x.lits x.lits.length
theorem Cl.not_ok {x : Cl} {k : Nat} (h : ltTo x.lits k = true) (h' : ltAt x.lits k = false) (hk : k < x.lits.length) : x.ok = false := by
  have : ltTo x.lits x.lits.length = false := ltTo_mono (k := k + 1) (by rw [ltTo, h, h']; rfl) (by omega)
  unfold Cl.ok
  rw [this, Bool.and_false]
def Cl.tame (x : Cl) : Prop := x.lits.length ≤ 1099511627776 ∧ ∀ y ∈ x.lits, y.atom.nodes ≤ 1099511627776
theorem Cl.tame_at {x : Cl} (h : x.tame) {k : Nat} (hk : k < x.lits.length) : x.lits[k].atom.nodes ≤ 1099511627776 := h.2 _ (List.getElem_mem hk)
def c_impl_flag : SC := (.seq (.reg [⟨some 2, none, .mv (.c (.int .i64 0))⟩]) (.seq (.seq (.reg [⟨some 3, none, .mv (.t 0)⟩]) (.cond (.t 3) (.seq (.reg [⟨some 2, none, .mv (.c (.int .i64 1))⟩]) .ret) .skip)) (.seq (.reg [⟨some 2, none, .mv (.c (.int .i64 0))⟩]) .ret)))
theorem k_impl_flag : codeOf Tryz.prog 108 = some ⟨4, c_impl_flag, [(.tmp 2)]⟩ := by kernel_rfl
theorem m_impl_flag : modes 108 = ⟨[], .asis, none, false⟩ := by unfold modes; rfl
def c_impl_compareLiterals : SC := (.seq (.reg [⟨some 2, none, .boxv 107 3 (.t 0)⟩, ⟨some 3, none, .boxv 107 3 (.t 1)⟩, ⟨some 4, none, .mv (.c (.int .i64 0))⟩]) (.seq (.dreg [[], [0], [], [2], [1, 0, 3, 2], [], [5], [6, 5, 4, 1, 0, 3, 2], [], [8], [9, 8, 7, 6, 5, 4, 1, 0, 3, 2], [7, 6, 5, 4, 1, 0, 3, 2, 10, 9, 8], [4, 1, 0, 3, 2, 11, 7, 6, 5, 10, 9, 8], [12, 4, 1, 0, 3, 2, 11, 7, 6, 5, 10, 9, 8], [13, 12, 4, 1, 0, 3, 2, 11, 7, 6, 5, 10, 9, 8]] [⟨some 5, none, .faddr 1 (.t 2)⟩, ⟨some 6, none, .load true 2 (.t 5)⟩, ⟨some 7, none, .faddr 1 (.t 3)⟩, ⟨some 8, none, .load true 2 (.t 7)⟩, ⟨some 9, none, .call 106 [(.t 6), (.t 8)]⟩, ⟨some 10, none, .faddr 0 (.t 2)⟩, ⟨some 11, none, .load false 1 (.t 10)⟩, ⟨some 12, none, .call 108 [(.t 11)]⟩, ⟨some 13, none, .faddr 0 (.t 3)⟩, ⟨some 14, none, .load false 1 (.t 13)⟩, ⟨some 15, none, .call 108 [(.t 14)]⟩, ⟨some 16, none, .call 107 [(.t 12), (.t 15)]⟩, ⟨some 17, none, .mkrow 3 1 [(.int .i64 0)] 2 [(0, (.t 9)), (1, (.t 16))]⟩, ⟨some 18, none, .call 105 [(.t 17)]⟩, ⟨some 4, none, .mv (.t 18)⟩]) .ret))
theorem k_impl_compareLiterals : codeOf Tryz.prog 70 = some ⟨19, c_impl_compareLiterals, [(.tmp 4)]⟩ := by kernel_rfl
theorem m_impl_compareLiterals : modes 70 = ⟨[], .asis, none, false⟩ := by unfold modes; rfl
def c_spec_l7Literals : SC := (.seq (.reg [⟨some 2, none, .boxv 107 3 (.t 0)⟩, ⟨some 3, none, .boxv 107 3 (.t 1)⟩, ⟨some 4, none, .mv (.c (.int .i64 0))⟩]) (.seq (.reg [⟨some 6, none, .faddr 1 (.t 2)⟩, ⟨some 7, none, .load true 2 (.t 6)⟩, ⟨some 8, none, .faddr 1 (.t 3)⟩, ⟨some 9, none, .load true 2 (.t 8)⟩, ⟨some 10, none, .call 117 [(.t 7), (.t 9)]⟩, ⟨some 5, none, .mv (.t 10)⟩]) (.seq (.block 0 (.seq (.reg [⟨some 12, none, .mv (.t 5)⟩, ⟨some 13, none, .bin .neq false (.t 12) (.c (.int .i64 0))⟩, ⟨some 11, none, .mv (.t 13)⟩]) (.cond (.t 11) (.seq (.reg [⟨some 14, none, .mv (.t 5)⟩, ⟨some 4, none, .mv (.t 14)⟩]) .ret) (.seq (.reg [⟨some 16, none, .faddr 0 (.t 2)⟩, ⟨some 17, none, .load false 1 (.t 16)⟩, ⟨some 18, none, .un .not (.t 17)⟩, ⟨some 19, none, .mv (.t 18)⟩, ⟨(some 20), (some (19, true)), (.faddr 0 (.t 3))⟩, ⟨(some 21), (some (19, true)), (.load false 1 (.t 20))⟩, ⟨some 22, none, .pick (.t 19) (.t 21) (.c (.bool false))⟩, ⟨some 15, none, .mv (.t 22)⟩]) (.cond (.t 15) (.seq (.reg [⟨some 4, none, .mv (.c (.int .i64 (-(0 + 1))))⟩]) .ret) (.seq (.reg [⟨some 24, none, .faddr 0 (.t 2)⟩, ⟨some 25, none, .load false 1 (.t 24)⟩, ⟨some 26, none, .mv (.t 25)⟩, ⟨(some 27), (some (26, true)), (.faddr 0 (.t 3))⟩, ⟨(some 28), (some (26, true)), (.load false 1 (.t 27))⟩, ⟨(some 29), (some (26, true)), (.un .not (.t 28))⟩, ⟨some 30, none, .pick (.t 26) (.t 29) (.c (.bool false))⟩, ⟨some 23, none, .mv (.t 30)⟩]) (.cond (.t 23) (.seq (.reg [⟨some 4, none, .mv (.c (.int .i64 1))⟩]) .ret) .skip))))))) (.seq (.reg [⟨some 4, none, .mv (.c (.int .i64 0))⟩]) .ret))))
theorem k_spec_l7Literals : codeOf Tryz.prog 82 = some ⟨31, c_spec_l7Literals, [(.tmp 4)]⟩ := by kernel_rfl
theorem m_spec_l7Literals : modes 82 = ⟨[], .asis, none, false⟩ := by unfold modes; rfl
def c_impl_IsValidLiteral : SC := (.seq (.reg [⟨some 1, none, .boxv 107 3 (.t 0)⟩, ⟨some 2, none, .mv (.c (.bool false))⟩]) (.seq (.reg [⟨some 3, none, .faddr 1 (.t 1)⟩, ⟨some 4, none, .load true 2 (.t 3)⟩, ⟨some 5, none, .call 104 [(.t 4)]⟩, ⟨some 2, none, .mv (.t 5)⟩]) .ret))
theorem k_impl_IsValidLiteral : codeOf Tryz.prog 69 = some ⟨6, c_impl_IsValidLiteral, [(.tmp 2)]⟩ := by kernel_rfl
theorem m_impl_IsValidLiteral : modes 69 = ⟨[], .asis, none, false⟩ := by unfold modes; rfl
def c_impl_IsValidClause : SC := (.seq (.reg [⟨some 1, none, .boxv 39 1 (.t 0)⟩, ⟨some 2, none, .mv (.c (.bool false))⟩]) (.seq (.seq (.reg [⟨some 5, none, .faddr 0 (.t 1)⟩, ⟨some 6, none, .load false 1 (.t 5)⟩, ⟨some 7, none, .len false (.t 6)⟩, ⟨some 8, none, .mv (.c (.int .i64 0))⟩]) (.block 0 (.loop [0, 1, 0, 0, 0, 0, 1, 1, 1, 0, 0, 0, 0, 0, 0, 0, 0, 0, 0, 0, 0, 0, 0, 0, 0, 0, 0, 0, 0, 0, 0, 0, 0, 0, 0, 0] (.seq (.reg [⟨some 9, none, .bin .lss false (.t 8) (.t 7)⟩]) (.seq (.cond (.t 9) .skip (.exit 0)) (.seq (.block 1 (.seq (.reg [⟨some 10, none, .mv (.t 8)⟩, ⟨some 11, none, .iaddr 3 (.t 6) (.t 8)⟩, ⟨some 12, none, .load true 3 (.t 11)⟩, ⟨(some 4), none, (.alloc 107 [(.bool false), (.str ⟨#[]⟩), .nil])⟩, ⟨some 3, none, .mv (.t 10)⟩, ⟨none, none, (.store 3 (.t 4) (.t 12))⟩]) (.seq (.dreg [[], [0], [1, 0], [2, 1, 0], [3, 2, 1, 0], [4, 3, 2, 1, 0], [5, 4, 3, 2, 1, 0], [6, 5, 4, 3, 2, 1, 0], [7, 6, 5, 4, 3, 2, 1, 0], [6, 5, 4, 3, 2, 1, 0], [9, 6, 5, 4, 3, 2, 1, 0], [8, 7, 6, 5, 4, 3, 2, 1, 0, 10, 9], [11, 8, 7, 6, 5, 4, 3, 2, 1, 0, 10, 9], [6, 5, 4, 3, 2, 1, 0], [12, 11, 8, 7, 6, 5, 4, 3, 2, 1, 0, 10, 9, 13], [14, 12, 11, 8, 7, 6, 5, 4, 3, 2, 1, 0, 10, 9, 13], [6, 5, 4, 3, 2, 1, 0, 15, 14, 12, 11, 8, 7, 10, 9, 13], [3, 2, 1, 0, 16, 6, 5, 4, 15, 14, 12, 11, 8, 7, 10, 9, 13]] [⟨some 13, none, .load true 3 (.t 4)⟩, ⟨some 14, none, .call 69 [(.t 13)]⟩, ⟨some 15, none, .un .not (.t 14)⟩, ⟨some 16, none, .mv (.t 15)⟩, ⟨(some 17), (some (16, false)), (.mv (.t 3))⟩, ⟨(some 18), (some (16, false)), (.bin .gtr false (.t 17) (.c (.int .i64 0)))⟩, ⟨(some 19), (some (16, false)), (.mv (.t 18))⟩, ⟨(some 20), (some (19, true)), (.faddr 0 (.t 1))⟩, ⟨(some 21), (some (19, true)), (.load false 1 (.t 20))⟩, ⟨(some 22), (some (19, true)), (.mv (.t 3))⟩, ⟨(some 23), (some (19, true)), (.bin .sub false (.t 22) (.c (.int .i64 1)))⟩, ⟨(some 24), (some (19, true)), (.iaddr 3 (.t 21) (.t 23))⟩, ⟨(some 25), (some (19, true)), (.load true 3 (.t 24))⟩, ⟨(some 26), (some (19, true)), (.load true 3 (.t 4))⟩, ⟨(some 27), (some (19, true)), (.call 70 [(.t 25), (.t 26)])⟩, ⟨(some 28), (some (19, true)), (.bin .geq false (.t 27) (.c (.int .i64 0)))⟩, ⟨(some 29), (some (16, false)), (.pick (.t 19) (.t 28) (.c (.bool false)))⟩, ⟨some 30, none, .pick (.t 16) (.c (.bool true)) (.t 29)⟩]) (.cond (.t 30) (.seq (.reg [⟨some 2, none, .mv (.c (.bool false))⟩]) .ret) .skip)))) (.reg [⟨some 31, none, .bin .add false (.t 8) (.c (.int .i64 1))⟩, ⟨some 8, none, .mv (.t 31)⟩]))))))) (.seq (.reg [⟨some 32, none, .faddr 0 (.t 1)⟩, ⟨some 33, none, .load false 1 (.t 32)⟩, ⟨some 34, none, .len false (.t 33)⟩, ⟨some 35, none, .bin .leq false (.t 34) (.c (.int .i64 8))⟩, ⟨some 2, none, .mv (.t 35)⟩]) .ret)))
theorem k_impl_IsValidClause : codeOf Tryz.prog 33 = some ⟨36, c_impl_IsValidClause, [(.tmp 2)]⟩ := by kernel_rfl
theorem m_impl_IsValidClause : modes 33 = ⟨[], .asis, none, false⟩ := by unfold modes; rfl
def c_spec_l7Good : SC := (.seq (.reg [⟨some 1, none, .boxv 39 1 (.t 0)⟩, ⟨some 2, none, .mv (.c (.bool false))⟩]) (.seq (.seq (.reg [⟨some 4, none, .faddr 0 (.t 1)⟩, ⟨some 5, none, .load false 1 (.t 4)⟩, ⟨some 6, none, .len false (.t 5)⟩, ⟨some 7, none, .bin .gtr false (.t 6) (.c (.int .i64 8))⟩]) (.cond (.t 7) (.seq (.reg [⟨some 2, none, .mv (.c (.bool false))⟩]) .ret) .skip)) (.seq (.seq (.reg [⟨some 3, none, .mv (.c (.int .i64 0))⟩]) (.block 0 (.loop [0, 1, 0, 1, 0, 0, 0, 0, 0, 0, 0, 0, 0, 0, 0, 0, 0, 0, 0, 0, 0, 0, 0, 0, 0, 0, 0, 0, 0, 0, 0, 0, 0, 0, 0, 0, 0, 0, 0, 0, 0, 0] (.seq (.seq (.reg [⟨some 8, none, .mv (.t 3)⟩, ⟨some 9, none, .faddr 0 (.t 1)⟩, ⟨some 10, none, .load false 1 (.t 9)⟩, ⟨some 11, none, .len false (.t 10)⟩, ⟨some 12, none, .bin .lss false (.t 8) (.t 11)⟩]) (.cond (.t 12) .skip (.exit 0))) (.seq (.block 1 (.seq (.dreg [[], [0], [], [1, 0, 2], [3, 1, 0, 2], [4, 3, 1, 0, 2], [5, 4, 3, 1, 0, 2], [6, 5, 4, 3, 1, 0, 2], [7, 6, 5, 4, 3, 1, 0, 2], [8, 7, 6, 5, 4, 3, 1, 0, 2], [9, 8, 7, 6, 5, 4, 3, 1, 0, 2], [10, 9, 8, 7, 6, 5, 4, 3, 1, 0, 2], [11, 10, 9, 8, 7, 6, 5, 4, 3, 1, 0, 2], [12, 11, 10, 9, 8, 7, 6, 5, 4, 3, 1, 0, 2], [11, 10, 9, 8, 7, 6, 5, 4, 3, 1, 0, 2], [14, 11, 10, 9, 8, 7, 6, 5, 4, 3, 1, 0, 2], [13, 12, 11, 10, 9, 8, 7, 6, 5, 4, 3, 1, 0, 2, 15, 14], [16, 13, 12, 11, 10, 9, 8, 7, 6, 5, 4, 3, 1, 0, 2, 15, 14], [11, 10, 9, 8, 7, 6, 5, 4, 3, 1, 0, 2], [18, 11, 10, 9, 8, 7, 6, 5, 4, 3, 1, 0, 2], [11, 10, 9, 8, 7, 6, 5, 4, 3, 1, 0, 2], [19, 18, 11, 10, 9, 8, 7, 6, 5, 4, 3, 1, 0, 2, 20], [21, 19, 18, 11, 10, 9, 8, 7, 6, 5, 4, 3, 1, 0, 2, 20], [17, 16, 13, 12, 11, 10, 9, 8, 7, 6, 5, 4, 3, 1, 0, 2, 15, 14, 22, 21, 19, 18, 20], [23, 17, 16, 13, 12, 11, 10, 9, 8, 7, 6, 5, 4, 3, 1, 0, 2, 15, 14, 22, 21, 19, 18, 20], [11, 10, 9, 8, 7, 6, 5, 4, 3, 1, 0, 2, 24, 23, 17, 16, 13, 12, 15, 14, 22, 21, 19, 18, 20], [8, 7, 6, 5, 4, 3, 1, 0, 2, 25, 11, 10, 9, 24, 23, 17, 16, 13, 12, 15, 14, 22, 21, 19, 18, 20]] [⟨some 15, none, .faddr 0 (.t 1)⟩, ⟨some 16, none, .load false 1 (.t 15)⟩, ⟨some 17, none, .mv (.t 3)⟩, ⟨some 18, none, .iaddr 3 (.t 16) (.t 17)⟩, ⟨some 19, none, .faddr 1 (.t 18)⟩, ⟨some 20, none, .load true 2 (.t 19)⟩, ⟨some 21, none, .call 81 [(.t 20)]⟩, ⟨some 22, none, .un .not (.t 21)⟩, ⟨some 23, none, .mv (.t 22)⟩, ⟨(some 24), (some (23, false)), (.mv (.t 3))⟩, ⟨(some 25), (some (23, false)), (.bin .gtr false (.t 24) (.c (.int .i64 0)))⟩, ⟨(some 26), (some (23, false)), (.mv (.t 25))⟩, ⟨(some 27), (some (26, true)), (.faddr 0 (.t 1))⟩, ⟨(some 28), (some (26, true)), (.load false 1 (.t 27))⟩, ⟨(some 29), (some (26, true)), (.mv (.t 3))⟩, ⟨(some 30), (some (26, true)), (.bin .sub false (.t 29) (.c (.int .i64 1)))⟩, ⟨(some 31), (some (26, true)), (.iaddr 3 (.t 28) (.t 30))⟩, ⟨(some 32), (some (26, true)), (.load true 3 (.t 31))⟩, ⟨(some 33), (some (26, true)), (.faddr 0 (.t 1))⟩, ⟨(some 34), (some (26, true)), (.load false 1 (.t 33))⟩, ⟨(some 35), (some (26, true)), (.mv (.t 3))⟩, ⟨(some 36), (some (26, true)), (.iaddr 3 (.t 34) (.t 35))⟩, ⟨(some 37), (some (26, true)), (.load true 3 (.t 36))⟩, ⟨(some 38), (some (26, true)), (.call 82 [(.t 32), (.t 37)])⟩, ⟨(some 39), (some (26, true)), (.bin .geq false (.t 38) (.c (.int .i64 0)))⟩, ⟨(some 40), (some (23, false)), (.pick (.t 26) (.t 39) (.c (.bool false)))⟩, ⟨some 41, none, .pick (.t 23) (.c (.bool true)) (.t 40)⟩]) (.cond (.t 41) (.seq (.reg [⟨some 2, none, .mv (.c (.bool false))⟩]) .ret) .skip))) (.reg [⟨some 13, none, .mv (.t 3)⟩, ⟨some 14, none, .bin .add false (.t 13) (.c (.int .i64 1))⟩, ⟨some 3, none, .mv (.t 14)⟩])))))) (.seq (.reg [⟨some 2, none, .mv (.c (.bool true))⟩]) .ret))))
theorem k_spec_l7Good : codeOf Tryz.prog 44 = some ⟨42, c_spec_l7Good, [(.tmp 2)]⟩ := by kernel_rfl
theorem m_spec_l7Good : modes 44 = ⟨[], .asis, none, false⟩ := by unfold modes; rfl
theorem flag_E (b : Bool) : E 108 [.bool b] [] = some (.int .i64 (flagZ b), []) := by
  cases b
  · refine E_walk k_impl_flag m_impl_flag (of_decide_eq_true rfl) ?_
    simp (disch := omega) only [c_impl_flag, go_sem, go_cond, zA, zB, zC, zD, zE, zF, zG, zH, ↓reduceIte, zI, reduceCtorEq, zJ, zK]
    rfl
  · refine E_walk k_impl_flag m_impl_flag (of_decide_eq_true rfl) ?_
    simp (disch := omega) only [c_impl_flag, go_sem, go_cond, zA, zB, zC, zD, zE, zF, zG, zH, ↓reduceIte, zI, reduceCtorEq, zJ, zK]
    rfl
theorem compareLiterals_E (x y : Lt) (hx : x.atom.cok = true) (hy : y.atom.cok = true) (hnx : x.atom.nodes ≤ 1099511627776) (hny : y.atom.nodes ≤ 1099511627776) : E 70 [x.sv, y.sv] [] = some (.int .i64 (x.cmp y), []) := by
  have h1 := compareTerms_E x.atom y.atom hx hy hnx hny
  have h2 := flag_E x.pos
  have h3 := flag_E y.pos
  have h4 := compareI_E (flagZ x.pos) (flagZ y.pos)
  have h5 := or2_E (x.atom.cmp y.atom) (cmpI (flagZ x.pos) (flagZ y.pos))
  unfold Lt.cmp
  refine E_walk k_impl_compareLiterals m_impl_compareLiterals (of_decide_eq_true rfl) ?_
  simp (disch := omega) only [c_impl_compareLiterals, go_sem, go_cond, zA, zB, zC, zD, zE, zF, zG, zH, ↓reduceIte, zI, reduceCtorEq, zJ, zK, h1, h2, h3, h4, h5, m_impl_compareTerms, m_impl_flag, m_cmp_Compare_int, m_cmp_Or_int]
theorem l7Literals_E (x y : Lt) (hx : x.atom.cok = true) (hy : y.atom.cok = true) (hnx : x.atom.nodes ≤ 1099511627776) (hny : y.atom.nodes ≤ 1099511627776) : E 82 [x.sv, y.sv] [] = some (.int .i64 (x.cmp y), []) := by
  have h1 := l2Compare_E x.atom y.atom hx hy hnx hny
  unfold Lt.cmp
  by_cases h0 : x.atom.cmp y.atom = 0
  · rw [h0] at h1 ⊢
    cases hp : x.pos <;> cases hq : y.pos
    all_goals
      simp only [flagZ, cmpI, orZ, if_true, if_false, Bool.false_eq_true]
      refine E_walk k_spec_l7Literals m_spec_l7Literals (of_decide_eq_true rfl) ?_
      simp (disch := omega) only [c_spec_l7Literals, go_sem, go_cond, zA, zB, zC, zD, zE, zF, zG, zH, ↓reduceIte, zI, reduceCtorEq, zJ, zK, h1, hp, hq, m_spec_l2Compare]
  · rw [orZ, if_neg h0]
    refine E_walk k_spec_l7Literals m_spec_l7Literals (of_decide_eq_true rfl) ?_
    simp (disch := omega) only [c_spec_l7Literals, go_sem, go_cond, zA, zB, zC, zD, zE, zF, zG, zH, ↓reduceIte, zI, reduceCtorEq, zJ, zK, h1, h0, m_spec_l2Compare]
theorem isValidLiteral_E (x : Lt) (hn : x.atom.nodes ≤ 1099511627776) : E 69 [x.sv] [] = some (.bool x.atom.atom, []) := by
  have h := isValidAtom_E x.atom hn
  refine E_walk k_impl_IsValidLiteral m_impl_IsValidLiteral (of_decide_eq_true rfl) ?_
  simp (disch := omega) only [c_impl_IsValidLiteral, go_sem, go_cond, zA, zB, zC, zD, zE, zF, zG, zH, ↓reduceIte, zI, reduceCtorEq, zJ, zK, h, m_impl_IsValidAtom]
set_option maxHeartbeats 2000000 in
theorem isValidClause_E (x : Cl) (hn : x.tame) : E 33 [x.sv] [] = some (.bool x.ok, []) := by
  have hl := hn.1
  refine E_walk k_impl_IsValidClause m_impl_IsValidClause (of_decide_eq_true rfl) ?_
  simp (disch := omega) only [c_impl_IsValidClause, go_sem, go_cond, zA, zB, zC, zD, zE, zF, zG, zH, ↓reduceIte, zI, reduceCtorEq, zJ, zK]
  refine go_loop (α := Int) (fun a => ⟨slots 36 0 [(1, .ptr 0 0), (6, .arr (x.lits.map Lt.d)), (7, .int .i64 x.lits.length), (8, .int .i64 a)], [.box 39 [.arr (x.lits.map Lt.d)]]⟩) (fun a => ∃ k : Nat, a = k ∧ k ≤ (x.lits).length ∧ ltTo x.lits k = true) (fun a => (x.lits).length - (a).toNat) 0 ⟨0, rfl, Nat.zero_le _, by rw [ltTo]⟩ (by simp (disch := omega) only [go_sem, go_cond, zA, zB, zC, zD, zE, zF, zG, zH, ↓reduceIte, zI, reduceCtorEq, zJ, zK]) ?_
  rintro i ⟨k, hi, hk, hR⟩
  have hni : i.toNat = k := by omega
  have hni1 : (i + 1).toNat = k + 1 := by omega
  rcases Nat.lt_or_ge k (x.lits).length with hlt | hge
  · have hg := get_at Lt.d hlt
    rw [Lt.d_eq] at hg
    have hv := isValidLiteral_E x.lits[k] (Cl.tame_at hn hlt)
    cases ha : x.lits[k].atom.atom <;> rw [ha] at hv
    · have e : x.ok = false := Cl.not_ok hR (by cases k with | zero => rw [ltAt_zero hlt, ha] | succ j => rw [ltAt_succ hlt, ha, Bool.false_and]) hlt
      rw [e]
      simp (disch := omega) only [go_sem, go_cond, zA, zB, zC, zD, zE, zF, zG, zH, ↓reduceIte, zI, reduceCtorEq, zJ, zK, hni, hg, hv, m_impl_IsValidLiteral, m_impl_compareLiterals]
    · cases k with
      | zero =>
        obtain rfl : i = 0 := hi
        simp (disch := omega) only [go_sem, go_cond, zA, zB, zC, zD, zE, zF, zG, zH, ↓reduceIte, zI, reduceCtorEq, zJ, zK, hni, hg, hv, m_impl_IsValidLiteral, m_impl_compareLiterals]
        exact ⟨1, ⟨1, rfl, hlt, by rw [ltTo, hR, ltAt_zero hlt, ha]; rfl⟩, by omega, by first | trivial | rfl⟩
      | succ j =>
        have hj : j < x.lits.length := by omega
        have hg2 := get_at Lt.d hj
        rw [Lt.d_eq] at hg2
        have hni2 : (i - 1).toNat = j := by omega
        have hc := compareLiterals_E x.lits[j] x.lits[j + 1] (Tm.atom_cok (ltTo_atom hR (by omega) (by omega))) (Tm.atom_cok ha) (Cl.tame_at hn hj) (Cl.tame_at hn hlt)
        rcases Int.lt_or_le (x.lits[j].cmp x.lits[j + 1]) 0 with hq | hq
        · simp (disch := omega) only [go_sem, go_cond, zA, zB, zC, zD, zE, zF, zG, zH, ↓reduceIte, zI, reduceCtorEq, zJ, zK, hni, hg, hv, m_impl_IsValidLiteral, m_impl_compareLiterals, hni2, hg2, hc]
          exact ⟨i + 1, ⟨j + 1 + 1, by omega, hlt, by rw [ltTo, hR, ltAt_succ hlt, ha, decide_eq_true hq]; rfl⟩, by omega, by first | trivial | rfl⟩
        · have e : x.ok = false := Cl.not_ok hR (by rw [ltAt_succ hlt, ha, decide_eq_false (by omega)]; rfl) hlt
          rw [e]
          simp (disch := omega) only [go_sem, go_cond, zA, zB, zC, zD, zE, zF, zG, zH, ↓reduceIte, zI, reduceCtorEq, zJ, zK, hni, hg, hv, m_impl_IsValidLiteral, m_impl_compareLiterals, hni2, hg2, hc]
  · obtain rfl : k = x.lits.length := by omega
    simp (disch := omega) only [go_sem, go_cond, zA, zB, zC, zD, zE, zF, zG, zH, ↓reduceIte, zI, reduceCtorEq, zJ, zK, hni]
    unfold Cl.ok
    rw [hR, Bool.and_true, dec_of]
    exact decide_eq_decide.2 (by omega)
set_option maxHeartbeats 2000000 in
theorem l7Good_E (x : Cl) (hn : x.tame) : E 44 [x.sv] [] = some (.bool x.ok, []) := by
  have hl := hn.1
  rcases Nat.lt_or_ge 8 x.lits.length with h8 | h8
  · have e : x.ok = false := by unfold Cl.ok; rw [decide_eq_false (by omega), Bool.false_and]
    rw [e]
    refine E_walk k_spec_l7Good m_spec_l7Good (of_decide_eq_true rfl) ?_
    simp (disch := omega) only [c_spec_l7Good, go_sem, go_cond, zA, zB, zC, zD, zE, zF, zG, zH, ↓reduceIte, zI, reduceCtorEq, zJ, zK]
  refine E_walk k_spec_l7Good m_spec_l7Good (of_decide_eq_true rfl) ?_
  simp (disch := omega) only [c_spec_l7Good, go_sem, go_cond, zA, zB, zC, zD, zE, zF, zG, zH, ↓reduceIte, zI, reduceCtorEq, zJ, zK]
  refine go_loop (α := Int) (fun a => ⟨slots 42 0 [(1, .ptr 0 0), (3, .int .i64 a)], [.box 39 [.arr (x.lits.map Lt.d)]]⟩) (fun a => ∃ k : Nat, a = k ∧ k ≤ (x.lits).length ∧ ltTo x.lits k = true) (fun a => (x.lits).length - (a).toNat) 0 ⟨0, rfl, Nat.zero_le _, by rw [ltTo]⟩ (by simp (disch := omega) only [go_sem, go_cond, zA, zB, zC, zD, zE, zF, zG, zH, ↓reduceIte, zI, reduceCtorEq, zJ, zK]) ?_
  rintro i ⟨k, hi, hk, hR⟩
  have hni : i.toNat = k := by omega
  have hni1 : (i + 1).toNat = k + 1 := by omega
  rcases Nat.lt_or_ge k (x.lits).length with hlt | hge
  · have hg := get_at Lt.d hlt
    rw [Lt.d_eq] at hg
    have hv := l2Atom_E x.lits[k].atom (Cl.tame_at hn hlt)
    cases ha : x.lits[k].atom.atom <;> rw [ha] at hv
    · have e : x.ok = false := Cl.not_ok hR (by cases k with | zero => rw [ltAt_zero hlt, ha] | succ j => rw [ltAt_succ hlt, ha, Bool.false_and]) hlt
      rw [e]
      simp (disch := omega) only [go_sem, go_cond, zA, zB, zC, zD, zE, zF, zG, zH, ↓reduceIte, zI, reduceCtorEq, zJ, zK, hni, hg, hv, m_spec_l2Atom, m_spec_l7Literals]
    · cases k with
      | zero =>
        obtain rfl : i = 0 := hi
        simp (disch := omega) only [go_sem, go_cond, zA, zB, zC, zD, zE, zF, zG, zH, ↓reduceIte, zI, reduceCtorEq, zJ, zK, hni, hg, hv, m_spec_l2Atom, m_spec_l7Literals]
        exact ⟨1, ⟨1, rfl, hlt, by rw [ltTo, hR, ltAt_zero hlt, ha]; rfl⟩, by omega, by first | trivial | rfl⟩
      | succ j =>
        have hj : j < x.lits.length := by omega
        have hg2 := get_at Lt.d hj
        rw [Lt.d_eq] at hg2
        have hni2 : (i - 1).toNat = j := by omega
        have hc := l7Literals_E x.lits[j] x.lits[j + 1] (Tm.atom_cok (ltTo_atom hR (by omega) (by omega))) (Tm.atom_cok ha) (Cl.tame_at hn hj) (Cl.tame_at hn hlt)
        rcases Int.lt_or_le (x.lits[j].cmp x.lits[j + 1]) 0 with hq | hq
        · simp (disch := omega) only [go_sem, go_cond, zA, zB, zC, zD, zE, zF, zG, zH, ↓reduceIte, zI, reduceCtorEq, zJ, zK, hni, hg, hv, m_spec_l2Atom, m_spec_l7Literals, hni2, hg2, hc]
          exact ⟨i + 1, ⟨j + 1 + 1, by omega, hlt, by rw [ltTo, hR, ltAt_succ hlt, ha, decide_eq_true hq]; rfl⟩, by omega, by first | trivial | rfl⟩
        · have e : x.ok = false := Cl.not_ok hR (by rw [ltAt_succ hlt, ha, decide_eq_false (by omega)]; rfl) hlt
          rw [e]
          simp (disch := omega) only [go_sem, go_cond, zA, zB, zC, zD, zE, zF, zG, zH, ↓reduceIte, zI, reduceCtorEq, zJ, zK, hni, hg, hv, m_spec_l2Atom, m_spec_l7Literals, hni2, hg2, hc]
  · obtain rfl : k = x.lits.length := by omega
    simp (disch := omega) only [go_sem, go_cond, zA, zB, zC, zD, zE, zF, zG, zH, ↓reduceIte, zI, reduceCtorEq, zJ, zK, hni]
    unfold Cl.ok
    rw [hR, decide_eq_true h8]; rfl
noncomputable def Lt.vsL : List Lt → List ByteArray
  | [] => []
  | x :: xs => x.atom.vs ++ Lt.vsL xs
theorem Cl.ok_len {x : Cl} (h : x.ok = true) : x.lits.length ≤ 8 := by
  unfold Cl.ok at h
  rw [Bool.and_eq_true, decide_eq_true_eq] at h
  exact h.1
theorem Cl.ok_atom {x : Cl} (h : x.ok = true) {k : Nat} (hk : k < x.lits.length) : x.lits[k].atom.atom = true := by
  unfold Cl.ok at h
  rw [Bool.and_eq_true, decide_eq_true_eq] at h
  exact ltTo_atom h.2 hk hk
theorem names_len (ns : List ByteArray) : (addA [] ns).length = (insA [] ns).length := by
  rw [← srtB_insA, (srtB_perm _).length_eq]
def c_impl_namesIn : SC := (.seq (.reg [⟨some 1, none, .boxv 39 1 (.t 0)⟩, ⟨some 2, none, .mv (.c .nil)⟩]) (.seq (.reg [⟨(some 6), none, (.mkrow 9 1 [(.str ⟨#[]⟩)] 0 [])⟩, ⟨some 3, none, .mv (.t 6)⟩]) (.seq (.seq (.reg [⟨some 7, none, .faddr 0 (.t 1)⟩, ⟨some 8, none, .load false 1 (.t 7)⟩, ⟨some 9, none, .len false (.t 8)⟩, ⟨some 10, none, .mv (.c (.int .i64 0))⟩]) (.block 0 (.loop [0, 0, 0, 1, 0, 0, 0, 0, 1, 1, 1, 0, 0, 0, 0, 0, 0, 0, 0, 0] (.seq (.reg [⟨some 11, none, .bin .lss false (.t 10) (.t 9)⟩]) (.seq (.cond (.t 11) .skip (.exit 0)) (.seq (.block 1 (.seq (.reg [⟨some 12, none, .iaddr 3 (.t 8) (.t 10)⟩, ⟨some 13, none, .load true 3 (.t 12)⟩, ⟨(some 5), none, (.alloc 107 [(.bool false), (.str ⟨#[]⟩), .nil])⟩, ⟨none, none, (.store 3 (.t 5) (.t 13))⟩]) (.reg [⟨some 14, none, .mv (.t 3)⟩, ⟨some 15, none, .faddr 1 (.t 5)⟩, ⟨some 16, none, .load true 2 (.t 15)⟩, ⟨some 17, none, .call 109 [(.t 14), (.t 16)]⟩, ⟨some 3, none, .mv (.t 17)⟩]))) (.reg [⟨some 18, none, .bin .add false (.t 10) (.c (.int .i64 1))⟩, ⟨some 10, none, .mv (.t 18)⟩]))))))) (.seq (.reg [⟨some 19, none, .mv (.t 3)⟩, ⟨some 2, none, .mv (.t 19)⟩]) .ret))))
theorem k_impl_namesIn : codeOf Tryz.prog 71 = some ⟨20, c_impl_namesIn, [(.tmp 2)]⟩ := by kernel_rfl
theorem m_impl_namesIn : modes 71 = ⟨[], .asis, none, false⟩ := by unfold modes; rfl
set_option maxHeartbeats 4000000 in
theorem namesIn_E (c : Cl) (hc : c.ok = true) : E 71 [c.sv] [] = some (.ref 0, [.row 9 1 ((addA [] (Lt.vsL c.lits)).map fun s => [OT.str s])]) := by
  have hl := Cl.ok_len hc
  refine E_walk k_impl_namesIn m_impl_namesIn (of_decide_eq_true rfl) ?_
  simp (disch := omega) only [c_impl_namesIn, go_sem, go_cond, zA, zB, zC, zD, zE, zF, zG, zH, ↓reduceIte, zI, reduceCtorEq, zJ, zK]
  refine go_loop (α := Int × (List ByteArray)) (fun a => ⟨slots 20 0 [(3, .ref 0), (8, .arr (c.lits.map Lt.d)), (9, .int .i64 c.lits.length), (10, .int .i64 (a.1))], [.row 9 1 ((a.2).map fun s => [OT.str s])]⟩) (fun a => ∃ k : Nat, a.1 = k ∧ k ≤ (c.lits).length ∧ addA (a.2) (Lt.vsL (c.lits.drop k)) = addA [] (Lt.vsL c.lits) ∧ (a.2).length ≤ 30 * k) (fun a => (c.lits).length - (a.1).toNat) (0, []) ⟨0, rfl, Nat.zero_le _, by rw [List.drop_zero], Nat.le_refl _⟩ (by simp (disch := omega) only [go_sem, go_cond, zA, zB, zC, zD, zE, zF, zG, zH, ↓reduceIte, zI, reduceCtorEq, zJ, zK]) ?_
  rintro ⟨i, acc⟩ ⟨k, hi, hk, hR⟩
  dsimp only at hi hR
  have hni : i.toNat = k := by omega
  have hni1 : (i + 1).toNat = k + 1 := by omega
  rcases Nat.lt_or_ge k (c.lits).length with hlt | hge
  · have hg := get_at Lt.d hlt
    rw [Lt.d_eq] at hg
    obtain ⟨hR1, hR2⟩ := hR
    rw [List.drop_eq_getElem_cons hlt, Lt.vsL, addA_app] at hR1
    have hnn := Tm.atom_nodes (Cl.ok_atom hc hlt)
    have hcl := collectA_E c.lits[k].atom (Cl.ok_atom hc hlt) acc (by omega)
    have has : c.lits[k].atom.sv = .agg [.str c.lits[k].atom.name, .arr (c.lits[k].atom.args.map Tm.d)] := rfl
    have hlen := addA_len c.lits[k].atom.vs acc
    have hvl := Tm.vs_len c.lits[k].atom
    obtain ⟨acc2, ha2⟩ : ∃ a, a = addA acc c.lits[k].atom.vs := ⟨_, rfl⟩
    rw [← ha2] at hcl hlen hR1
    rcases Nat.lt_or_ge acc.length acc2.length with q2 | q2
    all_goals
      first
        | rw [dec_t q2] at hcl
        | rw [dec_f (Nat.not_lt.2 q2)] at hcl
      simp only [cond_true, cond_false] at hcl
      simp (disch := omega) only [go_sem, go_cond, zA, zB, zC, zD, zE, zF, zG, zH, ↓reduceIte, zI, reduceCtorEq, zJ, zK, hni, hg, has, hcl, m_impl_collect]
      refine ⟨(i + 1, acc2), ⟨k + 1, by dsimp only; omega, hlt, hR1, by dsimp only; omega⟩, by dsimp only; omega, ?_⟩
      first | trivial | rfl | exact ⟨rfl, rfl⟩
  · rw [List.drop_eq_nil_of_le hge, Lt.vsL] at hR
    obtain ⟨hR1, hR2⟩ := hR
    have hR1 : acc = _ := hR1
    rw [← hR1]
    simp (disch := omega) only [go_sem, go_cond, zA, zB, zC, zD, zE, zF, zG, zH, ↓reduceIte, zI, reduceCtorEq, zJ, zK, hni]
def c_impl_clauseVariables : SC := (.seq (.reg [⟨some 1, none, .boxv 39 1 (.t 0)⟩, ⟨some 2, none, .mv (.c .nil)⟩]) (.seq (.reg [⟨some 4, none, .load true 1 (.t 1)⟩, ⟨some 5, none, .call 71 [(.t 4)]⟩, ⟨some 3, none, .mv (.t 5)⟩]) (.seq (.reg [⟨some 6, none, .mv (.t 3)⟩, ⟨some 7, none, .call 110 [(.t 6)]⟩]) (.seq (.reg [⟨some 8, none, .mv (.t 3)⟩, ⟨some 2, none, .mv (.t 8)⟩]) .ret))))
theorem k_impl_clauseVariables : codeOf Tryz.prog 72 = some ⟨9, c_impl_clauseVariables, [(.tmp 2)]⟩ := by kernel_rfl
theorem m_impl_clauseVariables : modes 72 = ⟨[], .asis, none, false⟩ := by unfold modes; rfl
theorem Cl.vs_len {c : Cl} (hc : c.ok = true) : (Lt.vsL c.lits).length ≤ 240 := by
  have hl := Cl.ok_len hc
  have key : ∀ xs : List Lt, (∀ x ∈ xs, x.atom.nodes ≤ 30) → (Lt.vsL xs).length ≤ 30 * xs.length := by
    intro xs
    induction xs with
    | nil => intro _; exact Nat.le_refl _
    | cons x xs ih =>
      intro h
      have h1 := h x (by simp)
      have h2 := ih fun y hy => h y (by simp [hy])
      have h3 := Tm.vs_len x.atom
      rw [Lt.vsL, List.length_append, List.length_cons]; omega
  have := key c.lits fun x hx => by
    obtain ⟨k, hk, rfl⟩ := List.getElem_of_mem hx
    exact Tm.atom_nodes (Cl.ok_atom hc hk)
  omega
theorem clauseVariables_E (c : Cl) (hc : c.ok = true) : E 72 [c.sv] [] = some (.ref 0, [.row 9 1 ((insA [] (Lt.vsL c.lits)).map fun s => [OT.str s])]) := by
  have h1 := namesIn_E c hc
  have hl := Cl.vs_len hc
  have hlen := addA_len (Lt.vsL c.lits) []
  rw [List.length_nil, Nat.zero_add] at hlen
  have h2 := sortS_E (addA [] (Lt.vsL c.lits)) (by omega)
  rw [srtB_insA] at h2
  refine E_walk k_impl_clauseVariables m_impl_clauseVariables (of_decide_eq_true rfl) ?_
  simp (disch := omega) only [c_impl_clauseVariables, go_sem, go_cond, zA, zB, zC, zD, zE, zF, zG, zH, ↓reduceIte, zI, reduceCtorEq, zJ, zK, h1, h2, m_impl_namesIn, m_slices_Sort_string_string]
def c_impl_isNarrow : SC := (.seq (.reg [⟨some 1, none, .boxv 39 1 (.t 0)⟩, ⟨some 2, none, .mv (.c (.bool false))⟩]) (.seq (.reg [⟨some 3, none, .load true 1 (.t 1)⟩, ⟨some 4, none, .call 71 [(.t 3)]⟩, ⟨some 5, none, .len false (.t 4)⟩, ⟨some 6, none, .bin .leq false (.t 5) (.c (.int .i64 6))⟩, ⟨some 2, none, .mv (.t 6)⟩]) .ret))
theorem k_impl_isNarrow : codeOf Tryz.prog 34 = some ⟨7, c_impl_isNarrow, [(.tmp 2)]⟩ := by kernel_rfl
theorem m_impl_isNarrow : modes 34 = ⟨[], .asis, none, false⟩ := by unfold modes; rfl
noncomputable def Cl.narrow (c : Cl) : Bool := dec (((insA [] (Lt.vsL c.lits)).length : Int) ≤ 6)
theorem isNarrow_E (c : Cl) (hc : c.ok = true) : E 34 [c.sv] [] = some (.bool c.narrow, []) := by
  have h1 := namesIn_E c hc
  have h2 := names_len (Lt.vsL c.lits)
  unfold Cl.narrow
  refine E_walk k_impl_isNarrow m_impl_isNarrow (of_decide_eq_true rfl) ?_
  simp (disch := omega) only [c_impl_isNarrow, go_sem, go_cond, zA, zB, zC, zD, zE, zF, zG, zH, ↓reduceIte, zI, reduceCtorEq, zJ, zK, h1, h2, m_impl_namesIn]
def c_spec_l10Names : SC := (.seq (.reg [⟨some 1, none, .boxv 39 1 (.t 0)⟩, ⟨some 2, none, .mv (.c .nil)⟩]) (.seq (.reg [⟨(some 5), none, (.mkrow 9 1 [(.str ⟨#[]⟩)] 0 [])⟩, ⟨some 3, none, .mv (.t 5)⟩]) (.seq (.seq (.reg [⟨some 4, none, .mv (.c (.int .i64 0))⟩]) (.block 0 (.loop [0, 1, 0, 1, 1, 0, 0, 0, 0, 0, 0, 0, 0, 0, 0, 0, 0, 0, 0, 0, 0, 0] (.seq (.seq (.reg [⟨some 6, none, .mv (.t 4)⟩, ⟨some 7, none, .faddr 0 (.t 1)⟩, ⟨some 8, none, .load false 1 (.t 7)⟩, ⟨some 9, none, .len false (.t 8)⟩, ⟨some 10, none, .bin .lss false (.t 6) (.t 9)⟩]) (.cond (.t 10) .skip (.exit 0))) (.seq (.block 1 (.reg [⟨some 13, none, .mv (.t 3)⟩, ⟨some 14, none, .faddr 0 (.t 1)⟩, ⟨some 15, none, .load false 1 (.t 14)⟩, ⟨some 16, none, .mv (.t 4)⟩, ⟨some 17, none, .iaddr 3 (.t 15) (.t 16)⟩, ⟨some 18, none, .faddr 1 (.t 17)⟩, ⟨some 19, none, .load true 2 (.t 18)⟩, ⟨some 20, none, .call 96 [(.t 13), (.t 19)]⟩, ⟨some 3, none, .mv (.t 20)⟩])) (.reg [⟨some 11, none, .mv (.t 4)⟩, ⟨some 12, none, .bin .add false (.t 11) (.c (.int .i64 1))⟩, ⟨some 4, none, .mv (.t 12)⟩])))))) (.seq (.reg [⟨some 21, none, .mv (.t 3)⟩, ⟨some 2, none, .mv (.t 21)⟩]) .ret))))
theorem k_spec_l10Names : codeOf Tryz.prog 57 = some ⟨22, c_spec_l10Names, [(.tmp 2)]⟩ := by kernel_rfl
theorem m_spec_l10Names : modes 57 = ⟨[], .frz, none, false⟩ := by unfold modes; rfl
set_option maxHeartbeats 4000000 in
theorem l10Names_E (c : Cl) (hc : c.ok = true) : E 57 [c.sv] [] = some (.arr ((insA [] (Lt.vsL c.lits)).map fun s => [D.str s]), []) := by
  have hl := Cl.ok_len hc
  refine E_walk k_spec_l10Names m_spec_l10Names (of_decide_eq_true rfl) ?_
  simp (disch := omega) only [c_spec_l10Names, go_sem, go_cond, zA, zB, zC, zD, zE, zF, zG, zH, ↓reduceIte, zI, reduceCtorEq, zJ, zK]
  refine go_loop (α := Int × (List ByteArray)) (fun a => ⟨slots 22 0 [(1, .ptr 0 0), (3, (if (a.1) = 0 then .ref 1 else .arr ((a.2).map fun s => [D.str s]))), (4, .int .i64 (a.1))], (if (a.1) = 0 then [.box 39 [.arr (c.lits.map Lt.d)], .row 9 1 []] else [.box 39 [.arr (c.lits.map Lt.d)]])⟩) (fun a => ∃ k : Nat, a.1 = k ∧ k ≤ (c.lits).length ∧ insA (a.2) (Lt.vsL (c.lits.drop k)) = insA [] (Lt.vsL c.lits) ∧ (a.2).length ≤ 30 * k) (fun a => (c.lits).length - (a.1).toNat) (0, []) ⟨0, rfl, Nat.zero_le _, by rw [List.drop_zero], Nat.le_refl _⟩ (by simp (disch := omega) only [go_sem, go_cond, zA, zB, zC, zD, zE, zF, zG, zH, ↓reduceIte, zI, reduceCtorEq, zJ, zK, eq_self, if_true]) ?_
  rintro ⟨i, acc⟩ ⟨k, hi, hk, hR⟩
  dsimp only at hi hR
  have hni : i.toNat = k := by omega
  have hni1 : (i + 1).toNat = k + 1 := by omega
  rcases Nat.lt_or_ge k (c.lits).length with hlt | hge
  · have hg := get_at Lt.d hlt
    rw [Lt.d_eq] at hg
    obtain ⟨hR1, hR2⟩ := hR
    rw [List.drop_eq_getElem_cons hlt, Lt.vsL, insA_app] at hR1
    have hnn := Tm.atom_nodes (Cl.ok_atom hc hlt)
    have hcl := l2Into_E c.lits[k].atom acc (by omega)
    have has : c.lits[k].atom.sv = .agg [.str c.lits[k].atom.name, .arr (c.lits[k].atom.args.map Tm.d)] := rfl
    have hlen := insA_len c.lits[k].atom.vs acc
    have hvl := Tm.vs_len c.lits[k].atom
    have hi1 : (i + 1 = 0) = False := eq_false (by omega)
    obtain ⟨acc2, ha2⟩ : ∃ a, a = insA acc c.lits[k].atom.vs := ⟨_, rfl⟩
    rw [← ha2] at hcl hlen hR1
    rcases Nat.eq_zero_or_pos k with h0 | h0
    · have hi0 : i = 0 := by omega
      subst hi0
      subst h0
      have e0 : acc = [] := List.eq_nil_of_length_eq_zero (by omega)
      subst e0
      rw [List.map_nil] at hcl
      simp (disch := omega) only [go_sem, go_cond, zA, zB, zC, zD, zE, zF, zG, zH, ↓reduceIte, zI, reduceCtorEq, zJ, zK, hni, hg, has, hcl, eq_self, if_true, m_spec_l2Into, er_strs, List.map_nil, OT.erss, Int.toNat_zero]
      refine ⟨(1, acc2), ⟨1, rfl, hlt, hR1, by dsimp only; omega⟩, by dsimp only; omega, ?_⟩
      simp (disch := omega) only [go_sem, go_cond, zA, zB, zC, zD, zE, zF, zG, zH, ↓reduceIte, zI, reduceCtorEq, zJ, zK, hi1, Int.reduceEq, if_false]
    · have hi0 : (i = 0) = False := eq_false (by omega)
      simp (disch := omega) only [go_sem, go_cond, zA, zB, zC, zD, zE, zF, zG, zH, ↓reduceIte, zI, reduceCtorEq, zJ, zK, hni, hg, has, hcl, hi0, if_false, m_spec_l2Into]
      refine ⟨(i + 1, acc2), ⟨k + 1, by dsimp only; omega, hlt, hR1, by dsimp only; omega⟩, by dsimp only; omega, ?_⟩
      simp (disch := omega) only [go_sem, go_cond, zA, zB, zC, zD, zE, zF, zG, zH, ↓reduceIte, zI, reduceCtorEq, zJ, zK, hi1, Int.reduceEq, if_false]
  · rw [List.drop_eq_nil_of_le hge, Lt.vsL] at hR
    obtain ⟨hR1, hR2⟩ := hR
    have hR1 : acc = _ := hR1
    rw [← hR1]
    rcases Nat.eq_zero_or_pos k with h0 | h0
    · have hi0 : i = 0 := by omega
      subst hi0
      have e0 : acc = [] := List.eq_nil_of_length_eq_zero (by omega)
      subst e0
      simp (disch := omega) only [go_sem, go_cond, zA, zB, zC, zD, zE, zF, zG, zH, ↓reduceIte, zI, reduceCtorEq, zJ, zK, hni, eq_self, if_true, OT.erss, OT.noShss, List.map_nil, Int.toNat_zero]
    · have hi0 : (i = 0) = False := eq_false (by omega)
      simp (disch := omega) only [go_sem, go_cond, zA, zB, zC, zD, zE, zF, zG, zH, ↓reduceIte, zI, reduceCtorEq, zJ, zK, hni, hi0, if_false]
def c_spec_l10Clause : SC := (.seq (.reg [⟨some 1, none, .boxv 39 1 (.t 0)⟩, ⟨some 2, none, .mv (.c (.bool false))⟩]) (.seq (.reg [⟨some 3, none, .load true 1 (.t 1)⟩, ⟨some 4, none, .call 44 [(.t 3)]⟩, ⟨some 5, none, .mv (.t 4)⟩, ⟨(some 6), (some (5, true)), (.load true 1 (.t 1))⟩, ⟨(some 7), (some (5, true)), (.call 57 [(.t 6)])⟩, ⟨(some 8), (some (5, true)), (.len false (.t 7))⟩, ⟨(some 9), (some (5, true)), (.bin .leq false (.t 8) (.c (.int .i64 6)))⟩, ⟨some 10, none, .pick (.t 5) (.t 9) (.c (.bool false))⟩, ⟨some 2, none, .mv (.t 10)⟩]) .ret))
theorem k_spec_l10Clause : codeOf Tryz.prog 28 = some ⟨11, c_spec_l10Clause, [(.tmp 2)]⟩ := by kernel_rfl
theorem m_spec_l10Clause : modes 28 = ⟨[], .asis, none, false⟩ := by unfold modes; rfl
theorem l10Clause_E (c : Cl) (ht : c.tame) : E 28 [c.sv] [] = some (.bool (c.ok && c.narrow), []) := by
  have h1 := l7Good_E c ht
  cases hc : c.ok with
  | false =>
    rw [hc] at h1
    rw [Bool.false_and]
    refine E_walk k_spec_l10Clause m_spec_l10Clause (of_decide_eq_true rfl) ?_
    simp (disch := omega) only [c_spec_l10Clause, go_sem, go_cond, zA, zB, zC, zD, zE, zF, zG, zH, ↓reduceIte, zI, reduceCtorEq, zJ, zK, h1, m_spec_l7Good]
  | true =>
    rw [hc] at h1
    have h2 := l10Names_E c hc
    rw [Bool.true_and]
    unfold Cl.narrow
    refine E_walk k_spec_l10Clause m_spec_l10Clause (of_decide_eq_true rfl) ?_
    simp (disch := omega) only [c_spec_l10Clause, go_sem, go_cond, zA, zB, zC, zD, zE, zF, zG, zH, ↓reduceIte, zI, reduceCtorEq, zJ, zK, h1, h2, m_spec_l7Good, m_spec_l10Names]
noncomputable def satA (m : Ip) (e : Env) : List Lt → Bool → Option Bool
  | [], b => some b
  | l :: r, b => match l.atom.tru m e with
    | some n => satA m e r (b || (dec (n = 1) == l.pos))
    | none => none
def digA (sz : Int) : List ByteArray → Int → List Ag × Int
  | [], n => ([], n)
  | v :: r, n => (⟨v, (digA sz r n).2.tmod sz⟩ :: (digA sz r n).1, (digA sz r n).2.tdiv sz)
theorem digA_len (sz n : Int) : ∀ l : List ByteArray, (digA sz l n).1.length = l.length
  | [] => rfl
  | v :: r => by rw [digA]; simp only [List.length_cons]; rw [digA_len sz n r]
theorem tdiv_le {a b : Int} (h0 : 0 ≤ a) (h1 : 1 ≤ b) : 0 ≤ a.tdiv b ∧ a.tdiv b ≤ a := by
  rw [Int.tdiv_eq_ediv_of_nonneg h0]
  exact ⟨Int.ediv_nonneg h0 (by omega), Int.ediv_le_self _ h0⟩
theorem tmod_in {a b : Int} (h0 : 0 ≤ a) (h1 : 1 ≤ b) : 0 ≤ a.tmod b ∧ a.tmod b < b := by
  rw [Int.tmod_eq_emod_of_nonneg h0]
  exact ⟨Int.emod_nonneg _ (by omega), Int.emod_lt_of_pos _ (by omega)⟩
theorem digA_rest {sz n : Int} (hs : 1 ≤ sz) (hn : 0 ≤ n) : ∀ l : List ByteArray, 0 ≤ (digA sz l n).2 ∧ (digA sz l n).2 ≤ n
  | [] => ⟨hn, Int.le_refl _⟩
  | v :: r => by
    have h := digA_rest hs hn r
    have h2 := tdiv_le h.1 hs
    rw [digA]
    dsimp only
    omega
theorem digA_in {sz n : Int} (hs : 1 ≤ sz) (hn : 0 ≤ n) : ∀ (l : List ByteArray) (x : Ag), x ∈ (digA sz l n).1 → 0 ≤ x.elem ∧ x.elem < sz
  | [], x, h => by cases h
  | v :: r, x, h => by
    rw [digA] at h
    rcases List.mem_cons.1 h with rfl | h
    · exact tmod_in (digA_rest hs hn r).1 hs
    · exact digA_in hs hn r x h
theorem asg_cons (x : Ag) (r : List Ag) : asg (x :: r) = putE (asg r) x.var x.elem := by
  funext s
  rw [asg, putE]
  have e : (x.var = s) = (s = x.var) := propext ⟨Eq.symm, Eq.symm⟩
  rw [e]
noncomputable def Cl.vars (c : Cl) : List ByteArray := insA [] (Lt.vsL c.lits)
noncomputable def cexN (m : Ip) (c : Cl) : Nat → Int → Option (Option (List Ag))
  | 0, _ => some none
  | k + 1, n => match satA m (asg (digA m.size c.vars n).1) c.lits false with
    | none => none
    | some true => cexN m c k (n + 1)
    | some false => some (some (digA m.size c.vars n).1)
noncomputable def cexAll (m : Ip) (c : Cl) : Option (Option (List Ag)) := cexN m c (pw m.size c.vars.length).toNat 0
def cexL : Option (Option (List Ag)) → List Ag
  | some (some a) => a
  | _ => []
def cexF : Option (Option (List Ag)) → Bool
  | some (some _) => true
  | _ => false
def cexZ : Option (Option (List Ag)) → Int
  | some (some _) => 1
  | some none => 0
  | none => -1
theorem cexN_go {m : Ip} {c : Cl} {P k : Nat} {n : Int} (h : k < P) (hs : satA m (asg (digA m.size c.vars n).1) c.lits false = some true) : cexN m c (P - k) n = cexN m c (P - (k + 1)) (n + 1) := by
  obtain ⟨j, hj⟩ : ∃ j, P - k = j + 1 := ⟨P - k - 1, by omega⟩
  have hj2 : P - (k + 1) = j := by omega
  rw [hj, hj2, cexN, hs]
theorem cexN_hit {m : Ip} {c : Cl} {P k : Nat} {n : Int} (h : k < P) (hs : satA m (asg (digA m.size c.vars n).1) c.lits false = some false) : cexN m c (P - k) n = some (some (digA m.size c.vars n).1) := by
  obtain ⟨j, hj⟩ : ∃ j, P - k = j + 1 := ⟨P - k - 1, by omega⟩
  rw [hj, cexN, hs]
theorem cexN_no {m : Ip} {c : Cl} {P k : Nat} {n : Int} (h : k < P) (hs : satA m (asg (digA m.size c.vars n).1) c.lits false = none) : cexN m c (P - k) n = none := by
  obtain ⟨j, hj⟩ : ∃ j, P - k = j + 1 := ⟨P - k - 1, by omega⟩
  rw [hj, cexN, hs]
def padA (j : Nat) (L : List (List OT)) : List (List OT) := List.replicate j [.str ⟨#[]⟩, .int 0] ++ L
theorem padA_len (j : Nat) (L : List (List OT)) : (padA j L).length = j + L.length := by unfold padA; simp
theorem padA_set (e : List OT) (L : List (List OT)) (j : Nat) : (padA (j + 1) L).set j e = padA j (e :: L) := by
  unfold padA
  rw [List.replicate_succ', List.append_assoc]
  have hl : (List.replicate j ([.str ⟨#[]⟩, .int 0] : List OT)).length = j := List.length_replicate
  rw [List.set_append_right _ _ (by omega), hl, Nat.sub_self]
  rfl
theorem padA_get (L : List (List OT)) (j : Nat) : (padA (j + 1) L)[j]? = some [.str ⟨#[]⟩, .int 0] := by
  unfold padA
  rw [List.getElem?_append_left (by simp)]
  simp
theorem padA_zero (L : List (List OT)) : padA 0 L = L := rfl
theorem padA_new (n : Nat) : List.replicate n ([.str ⟨#[]⟩, .int 0] : List OT) = padA n [] := by unfold padA; rw [List.append_nil]
theorem pw_nar {b : Int} (h1 : 1 ≤ b) (h3 : b ≤ 3) {k : Nat} (hk : k ≤ 6) : 1 ≤ pw b k ∧ pw b k ≤ 531441 := pw_small h1 h3 (by omega)
def finQ (res : RM) (n0 : Nat) (rs : List RX) (Q : SV × List Ob → Prop) (x : X) (st : St) : Prop := ∃ out, finK res n0 rs out x st ∧ Q out
theorem exq {α : Type} {a : α} {Q : α → Prop} : (∃ out, some a = some out ∧ Q out) = Q a := propext ⟨fun ⟨o, h, q⟩ => by obtain rfl := Option.some.inj h; exact q, fun q => ⟨a, rfl, q⟩⟩
theorem finQ_r {res : RM} {n0 : Nat} {rs : List RX} {Q : SV × List Ob → Prop} {sl : List SV} {ob : List Ob} : finQ res n0 rs Q .ret ⟨sl, ob⟩ = ∃ out, resF1 res n0 ob (resV ⟨sl, ob⟩ rs) = some out ∧ Q out := rfl
theorem finQ_n {res : RM} {n0 : Nat} {rs : List RX} {Q : SV × List Ob → Prop} {sl : List SV} {ob : List Ob} : finQ res n0 rs Q .normal ⟨sl, ob⟩ = ∃ out, resF1 res n0 ob (resV ⟨sl, ob⟩ rs) = some out ∧ Q out := rfl
attribute [go_sem] finQ_r finQ_n exq
def c_impl_within : SC := (.seq (.reg [⟨some 6, none, .mv (.c (.bool false))⟩]) (.seq (.reg [⟨some 7, none, .mv (.t 0)⟩, ⟨some 8, none, .mv (.t 1)⟩, ⟨some 9, none, .bin .geq false (.t 7) (.t 8)⟩, ⟨some 10, none, .mv (.t 9)⟩, ⟨(some 11), (some (10, true)), (.mv (.t 0))⟩, ⟨(some 12), (some (10, true)), (.mv (.t 2))⟩, ⟨(some 13), (some (10, true)), (.bin .leq false (.t 11) (.t 12))⟩, ⟨some 14, none, .pick (.t 10) (.t 13) (.c (.bool false))⟩, ⟨some 6, none, .mv (.t 14)⟩]) .ret))
theorem k_impl_within : codeOf Tryz.prog 61 = some ⟨15, c_impl_within, [(.tmp 6)]⟩ := by kernel_rfl
theorem m_impl_within : modes 61 = ⟨[], .asis, none, false⟩ := by unfold modes; rfl
def c_spec_l1In : SC := (.seq (.reg [⟨some 6, none, .mv (.c (.bool false))⟩]) (.seq (.reg [⟨some 7, none, .mv (.t 0)⟩, ⟨some 8, none, .mv (.t 1)⟩, ⟨some 9, none, .bin .geq false (.t 7) (.t 8)⟩, ⟨some 10, none, .mv (.t 9)⟩, ⟨(some 11), (some (10, true)), (.mv (.t 0))⟩, ⟨(some 12), (some (10, true)), (.mv (.t 2))⟩, ⟨(some 13), (some (10, true)), (.bin .leq false (.t 11) (.t 12))⟩, ⟨some 14, none, .pick (.t 10) (.t 13) (.c (.bool false))⟩, ⟨some 6, none, .mv (.t 14)⟩]) .ret))
theorem k_spec_l1In : codeOf Tryz.prog 54 = some ⟨15, c_spec_l1In, [(.tmp 6)]⟩ := by kernel_rfl
theorem m_spec_l1In : modes 54 = ⟨[], .asis, none, false⟩ := by unfold modes; rfl
def c_impl_power : SC := (.seq (.reg [⟨some 4, none, .mv (.c (.int .i64 0))⟩]) (.seq (.reg [⟨some 5, none, .mv (.c (.int .i64 1))⟩]) (.seq (.seq (.reg [⟨some 6, none, .mv (.t 1)⟩, ⟨some 7, none, .mv (.c (.int .i64 0))⟩]) (.block 0 (.loop [1, 0, 0, 0, 0, 1, 1, 1, 0, 0, 0, 0, 0, 0] (.seq (.reg [⟨some 8, none, .bin .lss false (.t 7) (.t 6)⟩]) (.seq (.cond (.t 8) .skip (.exit 0)) (.seq (.block 1 (.reg [⟨some 9, none, .mv (.t 5)⟩, ⟨some 10, none, .mv (.t 0)⟩, ⟨some 11, none, .bin .mul false (.t 9) (.t 10)⟩, ⟨some 5, none, .mv (.t 11)⟩])) (.reg [⟨some 12, none, .bin .add false (.t 7) (.c (.int .i64 1))⟩, ⟨some 7, none, .mv (.t 12)⟩]))))))) (.seq (.reg [⟨some 13, none, .mv (.t 5)⟩, ⟨some 4, none, .mv (.t 13)⟩]) .ret))))
theorem k_impl_power : codeOf Tryz.prog 65 = some ⟨14, c_impl_power, [(.tmp 4)]⟩ := by kernel_rfl
theorem m_impl_power : modes 65 = ⟨[], .asis, none, false⟩ := by unfold modes; rfl
def c_spec_l10Power : SC := (.seq (.reg [⟨some 4, none, .mv (.c (.int .i64 0))⟩]) (.seq (.reg [⟨some 5, none, .mv (.c (.int .i64 1))⟩]) (.seq (.seq (.reg [⟨some 6, none, .mv (.c (.int .i64 0))⟩]) (.block 0 (.loop [1, 1, 0, 0, 0, 1, 1, 0, 0, 0, 0, 0, 0, 0, 0, 0] (.seq (.seq (.reg [⟨some 7, none, .mv (.t 6)⟩, ⟨some 8, none, .mv (.t 1)⟩, ⟨some 9, none, .bin .lss false (.t 7) (.t 8)⟩]) (.cond (.t 9) .skip (.exit 0))) (.seq (.block 1 (.reg [⟨some 12, none, .mv (.t 5)⟩, ⟨some 13, none, .mv (.t 0)⟩, ⟨some 14, none, .bin .mul false (.t 12) (.t 13)⟩, ⟨some 5, none, .mv (.t 14)⟩])) (.reg [⟨some 10, none, .mv (.t 6)⟩, ⟨some 11, none, .bin .add false (.t 10) (.c (.int .i64 1))⟩, ⟨some 6, none, .mv (.t 11)⟩])))))) (.seq (.reg [⟨some 15, none, .mv (.t 5)⟩, ⟨some 4, none, .mv (.t 15)⟩]) .ret))))
theorem k_spec_l10Power : codeOf Tryz.prog 56 = some ⟨16, c_spec_l10Power, [(.tmp 4)]⟩ := by kernel_rfl
theorem m_spec_l10Power : modes 56 = ⟨[], .asis, none, false⟩ := by unfold modes; rfl
def c_impl_compareTables : SC := (.seq (.reg [⟨some 2, none, .boxv 97 4 (.t 0)⟩, ⟨some 3, none, .boxv 97 4 (.t 1)⟩, ⟨some 4, none, .mv (.c (.int .i64 0))⟩]) (.seq (.dreg [[], [0], [], [2], [1, 0, 3, 2], [], [5], [], [7], [6, 5, 8, 7, 4, 1, 0, 3, 2], [4, 1, 0, 3, 2, 9, 6, 5, 8, 7], [10, 4, 1, 0, 3, 2, 9, 6, 5, 8, 7], [11, 10, 4, 1, 0, 3, 2, 9, 6, 5, 8, 7]] [⟨some 5, none, .faddr 0 (.t 2)⟩, ⟨some 6, none, .load false 1 (.t 5)⟩, ⟨some 7, none, .faddr 0 (.t 3)⟩, ⟨some 8, none, .load false 1 (.t 7)⟩, ⟨some 9, none, .call 135 [(.t 6), (.t 8)]⟩, ⟨some 10, none, .faddr 1 (.t 2)⟩, ⟨some 11, none, .load false 1 (.t 10)⟩, ⟨some 12, none, .faddr 1 (.t 3)⟩, ⟨some 13, none, .load false 1 (.t 12)⟩, ⟨some 14, none, .call 107 [(.t 11), (.t 13)]⟩, ⟨some 15, none, .mkrow 3 1 [(.int .i64 0)] 2 [(0, (.t 9)), (1, (.t 14))]⟩, ⟨some 16, none, .call 105 [(.t 15)]⟩, ⟨some 4, none, .mv (.t 16)⟩]) .ret))
theorem k_impl_compareTables : codeOf Tryz.prog 101 = some ⟨17, c_impl_compareTables, [(.tmp 4)]⟩ := by kernel_rfl
theorem m_impl_compareTables : modes 101 = ⟨[], .asis, none, false⟩ := by unfold modes; rfl
def c_impl_areTables : SC := (.seq (.reg [⟨some 2, none, .mv (.c (.bool false))⟩]) (.seq (.seq (.reg [⟨some 5, none, .mv (.t 0)⟩, ⟨some 6, none, .len false (.t 5)⟩, ⟨some 7, none, .mv (.c (.int .i64 0))⟩]) (.block 0 (.loop [1, 0, 0, 0, 0, 1, 1, 1, 0, 0, 0, 0, 0, 0, 0, 0, 0, 0, 0, 0, 0, 0, 0, 0, 0, 0, 0, 0, 0, 0, 0, 0, 0, 0, 0, 0, 0, 0, 0, 0] (.seq (.reg [⟨some 8, none, .bin .lss false (.t 7) (.t 6)⟩]) (.seq (.cond (.t 8) .skip (.exit 0)) (.seq (.block 1 (.seq (.reg [⟨some 9, none, .mv (.t 7)⟩, ⟨some 10, none, .iaddr 4 (.t 5) (.t 7)⟩, ⟨some 11, none, .load true 4 (.t 10)⟩, ⟨(some 4), none, (.alloc 97 [(.str ⟨#[]⟩), (.int .i64 0), (.bool false), .nil])⟩, ⟨some 3, none, .mv (.t 9)⟩, ⟨none, none, (.store 4 (.t 4) (.t 11))⟩]) (.seq (.dreg [[], [0], [1, 0], [2, 1, 0], [3, 2, 1, 0], [4, 3, 2, 1, 0], [5, 4, 3, 2, 1, 0], [6, 5, 4, 3, 2, 1, 0], [7, 6, 5, 4, 3, 2, 1, 0], [4, 3, 2, 1, 0, 8, 7, 6, 5], [9, 4, 3, 2, 1, 0, 8, 7, 6, 5], [10, 9, 4, 3, 2, 1, 0, 8, 7, 6, 5], [11, 10, 9, 4, 3, 2, 1, 0, 8, 7, 6, 5], [12, 11, 10, 9, 4, 3, 2, 1, 0, 8, 7, 6, 5], [13, 12, 11, 10, 9, 4, 3, 2, 1, 0, 8, 7, 6, 5], [13, 12, 11, 10, 9, 4, 3, 2, 1, 0, 8, 7, 6, 5], [15, 13, 12, 11, 10, 9, 4, 3, 2, 1, 0, 8, 7, 6, 5], [14, 13, 12, 11, 10, 9, 4, 3, 2, 1, 0, 8, 7, 6, 5, 16, 15], [17, 14, 13, 12, 11, 10, 9, 4, 3, 2, 1, 0, 8, 7, 6, 5, 16, 15], [13, 12, 11, 10, 9, 4, 3, 2, 1, 0, 8, 7, 6, 5], [18, 17, 14, 13, 12, 11, 10, 9, 4, 3, 2, 1, 0, 8, 7, 6, 5, 16, 15, 19], [20, 18, 17, 14, 13, 12, 11, 10, 9, 4, 3, 2, 1, 0, 8, 7, 6, 5, 16, 15, 19], [13, 12, 11, 10, 9, 4, 3, 2, 1, 0, 8, 7, 6, 5, 21, 20, 18, 17, 14, 16, 15, 19], [10, 9, 4, 3, 2, 1, 0, 8, 7, 6, 5, 22, 13, 12, 11, 21, 20, 18, 17, 14, 16, 15, 19]] [⟨some 12, none, .faddr 0 (.t 4)⟩, ⟨some 13, none, .load false 1 (.t 12)⟩, ⟨some 14, none, .call 100 [(.t 13)]⟩, ⟨some 15, none, .un .not (.t 14)⟩, ⟨some 16, none, .mv (.t 15)⟩, ⟨(some 17), (some (16, false)), (.faddr 1 (.t 4))⟩, ⟨(some 18), (some (16, false)), (.load false 1 (.t 17))⟩, ⟨(some 19), (some (16, false)), (.call 61 [(.t 18), (.c (.int .i64 0)), (.c (.int .i64 3))])⟩, ⟨(some 20), (some (16, false)), (.un .not (.t 19))⟩, ⟨some 21, none, .pick (.t 16) (.c (.bool true)) (.t 20)⟩, ⟨some 22, none, .mv (.t 21)⟩, ⟨(some 23), (some (22, false)), (.mv (.t 3))⟩, ⟨(some 24), (some (22, false)), (.bin .gtr false (.t 23) (.c (.int .i64 0)))⟩, ⟨(some 25), (some (22, false)), (.mv (.t 24))⟩, ⟨(some 26), (some (25, true)), (.mv (.t 0))⟩, ⟨(some 27), (some (25, true)), (.mv (.t 3))⟩, ⟨(some 28), (some (25, true)), (.bin .sub false (.t 27) (.c (.int .i64 1)))⟩, ⟨(some 29), (some (25, true)), (.iaddr 4 (.t 26) (.t 28))⟩, ⟨(some 30), (some (25, true)), (.load true 4 (.t 29))⟩, ⟨(some 31), (some (25, true)), (.load true 4 (.t 4))⟩, ⟨(some 32), (some (25, true)), (.call 101 [(.t 30), (.t 31)])⟩, ⟨(some 33), (some (25, true)), (.bin .geq false (.t 32) (.c (.int .i64 0)))⟩, ⟨(some 34), (some (22, false)), (.pick (.t 25) (.t 33) (.c (.bool false)))⟩, ⟨some 35, none, .pick (.t 22) (.c (.bool true)) (.t 34)⟩]) (.cond (.t 35) (.seq (.reg [⟨some 2, none, .mv (.c (.bool false))⟩]) .ret) .skip)))) (.reg [⟨some 36, none, .bin .add false (.t 7) (.c (.int .i64 1))⟩, ⟨some 7, none, .mv (.t 36)⟩]))))))) (.seq (.reg [⟨some 37, none, .mv (.t 0)⟩, ⟨some 38, none, .len false (.t 37)⟩, ⟨some 39, none, .bin .leq false (.t 38) (.c (.int .i64 12))⟩, ⟨some 2, none, .mv (.t 39)⟩]) .ret)))
theorem k_impl_areTables : codeOf Tryz.prog 62 = some ⟨40, c_impl_areTables, [(.tmp 2)]⟩ := by kernel_rfl
theorem m_impl_areTables : modes 62 = ⟨[], .asis, none, false⟩ := by unfold modes; rfl
def c_impl_Table_choices : SC := (.seq (.reg [⟨some 2, none, .boxv 97 4 (.t 0)⟩, ⟨some 4, none, .mv (.c (.int .i64 0))⟩]) (.seq (.seq (.reg [⟨some 5, none, .faddr 2 (.t 2)⟩, ⟨some 6, none, .load false 1 (.t 5)⟩]) (.cond (.t 6) (.seq (.reg [⟨some 4, none, .mv (.c (.int .i64 2))⟩]) .ret) .skip)) (.seq (.reg [⟨some 7, none, .mv (.t 1)⟩, ⟨some 4, none, .mv (.t 7)⟩]) .ret)))
theorem k_impl_Table_choices : codeOf Tryz.prog 68 = some ⟨8, c_impl_Table_choices, [(.tmp 4)]⟩ := by kernel_rfl
theorem m_impl_Table_choices : modes 68 = ⟨[], .asis, none, false⟩ := by unfold modes; rfl
def c_impl_IsValidInterpretation : SC := (.seq (.reg [⟨some 1, none, .boxv 35 2 (.t 0)⟩, ⟨some 2, none, .mv (.c (.bool false))⟩]) (.seq (.seq (.reg [⟨some 3, none, .faddr 0 (.t 1)⟩, ⟨some 4, none, .load false 1 (.t 3)⟩, ⟨some 5, none, .call 61 [(.t 4), (.c (.int .i64 1)), (.c (.int .i64 3))]⟩, ⟨some 6, none, .un .not (.t 5)⟩, ⟨some 7, none, .mv (.t 6)⟩, ⟨(some 8), (some (7, false)), (.faddr 1 (.t 1))⟩, ⟨(some 9), (some (7, false)), (.load false 1 (.t 8))⟩, ⟨(some 10), (some (7, false)), (.call 62 [(.t 9)])⟩, ⟨(some 11), (some (7, false)), (.un .not (.t 10))⟩, ⟨some 12, none, .pick (.t 7) (.c (.bool true)) (.t 11)⟩]) (.cond (.t 12) (.seq (.reg [⟨some 2, none, .mv (.c (.bool false))⟩]) .ret) .skip)) (.seq (.reg [⟨some 13, none, .faddr 1 (.t 1)⟩, ⟨some 14, none, .load false 1 (.t 13)⟩, ⟨some 15, none, .mkfn 64 [(.t 1)]⟩, ⟨some 16, none, .call 63 [(.t 14), (.t 15)]⟩, ⟨some 17, none, .un .not (.t 16)⟩, ⟨some 2, none, .mv (.t 17)⟩]) .ret)))
theorem k_impl_IsValidInterpretation : codeOf Tryz.prog 32 = some ⟨18, c_impl_IsValidInterpretation, [(.tmp 2)]⟩ := by kernel_rfl
theorem m_impl_IsValidInterpretation : modes 32 = ⟨[], .asis, none, false⟩ := by unfold modes; rfl
def c_impl_IsValidInterpretation_1 : SC := (.seq (.reg [⟨some 2, none, .boxv 97 4 (.t 0)⟩, ⟨some 3, none, .mv (.c (.bool false))⟩]) (.seq (.dreg [[], [0], [1, 0], [], [3], [], [5], [4, 3, 6, 5], [2, 1, 0, 7, 4, 3, 6, 5], [8, 2, 1, 0, 7, 4, 3, 6, 5], [9, 8, 2, 1, 0, 7, 4, 3, 6, 5], [10, 9, 8, 2, 1, 0, 7, 4, 3, 6, 5], [9, 8, 2, 1, 0, 7, 4, 3, 6, 5], [11, 10, 9, 8, 2, 1, 0, 7, 4, 3, 6, 5, 12], [9, 8, 2, 1, 0, 7, 4, 3, 6, 5, 13, 11, 10, 12], [14, 9, 8, 2, 1, 0, 7, 4, 3, 6, 5, 13, 11, 10, 12]] [⟨some 4, none, .faddr 3 (.t 2)⟩, ⟨some 5, none, .load false 1 (.t 4)⟩, ⟨some 6, none, .len false (.t 5)⟩, ⟨some 7, none, .faddr 0 (.t 1)⟩, ⟨some 8, none, .load false 1 (.t 7)⟩, ⟨some 9, none, .faddr 1 (.t 2)⟩, ⟨some 10, none, .load false 1 (.t 9)⟩, ⟨some 11, none, .call 65 [(.t 8), (.t 10)]⟩, ⟨some 12, none, .bin .neq false (.t 6) (.t 11)⟩, ⟨some 13, none, .mv (.t 12)⟩, ⟨(some 14), (some (13, false)), (.faddr 3 (.t 2))⟩, ⟨(some 15), (some (13, false)), (.load false 1 (.t 14))⟩, ⟨(some 16), (some (13, false)), (.mkfn 67 [(.t 2), (.t 1)])⟩, ⟨(some 17), (some (13, false)), (.call 66 [(.t 15), (.t 16)])⟩, ⟨some 18, none, .pick (.t 13) (.c (.bool true)) (.t 17)⟩, ⟨some 3, none, .mv (.t 18)⟩]) .ret))
theorem k_impl_IsValidInterpretation_1 : codeOf Tryz.prog 64 = some ⟨19, c_impl_IsValidInterpretation_1, [(.tmp 3)]⟩ := by kernel_rfl
theorem m_impl_IsValidInterpretation_1 : modes 64 = ⟨[], .asis, none, false⟩ := by unfold modes; rfl
def c_impl_IsValidInterpretation_1_1 : SC := (.seq (.reg [⟨some 4, none, .mv (.c (.bool false))⟩]) (.seq (.reg [⟨some 5, none, .mv (.t 0)⟩, ⟨some 6, none, .load true 4 (.t 1)⟩, ⟨some 7, none, .faddr 0 (.t 2)⟩, ⟨some 8, none, .load false 1 (.t 7)⟩, ⟨some 9, none, .call 68 [(.t 6), (.t 8)]⟩, ⟨some 10, none, .bin .sub false (.t 9) (.c (.int .i64 1))⟩, ⟨some 11, none, .call 61 [(.t 5), (.c (.int .i64 0)), (.t 10)]⟩, ⟨some 12, none, .un .not (.t 11)⟩, ⟨some 4, none, .mv (.t 12)⟩]) .ret))
theorem k_impl_IsValidInterpretation_1_1 : codeOf Tryz.prog 67 = some ⟨13, c_impl_IsValidInterpretation_1_1, [(.tmp 4)]⟩ := by kernel_rfl
theorem m_impl_IsValidInterpretation_1_1 : modes 67 = ⟨[], .asis, none, false⟩ := by unfold modes; rfl
theorem g_impl_IsValidInterpretation_1 : goFn Tryz.prog 64 = true := by kernel_rfl
theorem g_impl_IsValidInterpretation_1_1 : goFn Tryz.prog 67 = true := by kernel_rfl
def c_slices_IndexFunc_int_int : SC := (.seq (.reg [⟨some 4, none, .mv (.c (.int .i64 0))⟩]) (.seq (.seq (.reg [⟨some 6, none, .mv (.t 0)⟩, ⟨some 7, none, .len false (.t 6)⟩, ⟨some 8, none, .mv (.c (.int .i64 0))⟩]) (.block 0 (.loop [1, 1, 0, 0, 0, 0, 0, 1, 1, 0, 0, 0, 0, 0, 0, 0, 0, 0, 0] (.seq (.reg [⟨some 9, none, .bin .lss false (.t 8) (.t 7)⟩]) (.seq (.cond (.t 9) .skip (.exit 0)) (.seq (.block 1 (.seq (.reg [⟨some 10, none, .mv (.t 8)⟩, ⟨some 5, none, .mv (.t 10)⟩]) (.seq (.reg [⟨some 11, none, .mv (.t 1)⟩, ⟨some 12, none, .mv (.t 0)⟩, ⟨some 13, none, .mv (.t 5)⟩, ⟨some 14, none, .iaddr 1 (.t 12) (.t 13)⟩, ⟨some 15, none, .load false 1 (.t 14)⟩, ⟨some 16, none, .callv (.t 11) [(.t 15)]⟩]) (.cond (.t 16) (.seq (.reg [⟨some 17, none, .mv (.t 5)⟩, ⟨some 4, none, .mv (.t 17)⟩]) .ret) .skip)))) (.reg [⟨some 18, none, .bin .add false (.t 8) (.c (.int .i64 1))⟩, ⟨some 8, none, .mv (.t 18)⟩]))))))) (.seq (.reg [⟨some 4, none, .mv (.c (.int .i64 (-(0 + 1))))⟩]) .ret)))
theorem k_slices_IndexFunc_int_int : codeOf Tryz.prog 103 = some ⟨19, c_slices_IndexFunc_int_int, [(.tmp 4)]⟩ := by kernel_rfl
theorem m_slices_IndexFunc_int_int : modes 103 = ⟨[], .asis, none, false⟩ := by unfold modes; rfl
def c_slices_ContainsFunc_int_int : SC := (.seq (.reg [⟨some 4, none, .mv (.c (.bool false))⟩]) (.seq (.reg [⟨some 5, none, .mv (.t 0)⟩, ⟨some 6, none, .mv (.t 1)⟩, ⟨some 7, none, .call 103 [(.t 5), (.t 6)]⟩, ⟨some 8, none, .bin .geq false (.t 7) (.c (.int .i64 0))⟩, ⟨some 4, none, .mv (.t 8)⟩]) .ret))
theorem k_slices_ContainsFunc_int_int : codeOf Tryz.prog 66 = some ⟨9, c_slices_ContainsFunc_int_int, [(.tmp 4)]⟩ := by kernel_rfl
theorem m_slices_ContainsFunc_int_int : modes 66 = ⟨[], .asis, none, false⟩ := by unfold modes; rfl
def c_slices_IndexFunc_impl_Table_impl_Table : SC := (.seq (.reg [⟨some 4, none, .mv (.c (.int .i64 0))⟩]) (.seq (.seq (.reg [⟨some 6, none, .mv (.t 0)⟩, ⟨some 7, none, .len false (.t 6)⟩, ⟨some 8, none, .mv (.c (.int .i64 0))⟩]) (.block 0 (.loop [1, 1, 0, 0, 0, 0, 0, 1, 1, 0, 0, 0, 0, 0, 0, 0, 0, 0, 0] (.seq (.reg [⟨some 9, none, .bin .lss false (.t 8) (.t 7)⟩]) (.seq (.cond (.t 9) .skip (.exit 0)) (.seq (.block 1 (.seq (.reg [⟨some 10, none, .mv (.t 8)⟩, ⟨some 5, none, .mv (.t 10)⟩]) (.seq (.reg [⟨some 11, none, .mv (.t 1)⟩, ⟨some 12, none, .mv (.t 0)⟩, ⟨some 13, none, .mv (.t 5)⟩, ⟨some 14, none, .iaddr 4 (.t 12) (.t 13)⟩, ⟨some 15, none, .load true 4 (.t 14)⟩, ⟨some 16, none, .callv (.t 11) [(.t 15)]⟩]) (.cond (.t 16) (.seq (.reg [⟨some 17, none, .mv (.t 5)⟩, ⟨some 4, none, .mv (.t 17)⟩]) .ret) .skip)))) (.reg [⟨some 18, none, .bin .add false (.t 8) (.c (.int .i64 1))⟩, ⟨some 8, none, .mv (.t 18)⟩]))))))) (.seq (.reg [⟨some 4, none, .mv (.c (.int .i64 (-(0 + 1))))⟩]) .ret)))
theorem k_slices_IndexFunc_impl_Table_impl_Table : codeOf Tryz.prog 102 = some ⟨19, c_slices_IndexFunc_impl_Table_impl_Table, [(.tmp 4)]⟩ := by kernel_rfl
theorem m_slices_IndexFunc_impl_Table_impl_Table : modes 102 = ⟨[], .asis, none, false⟩ := by unfold modes; rfl
def c_slices_ContainsFunc_impl_Table_impl_Table : SC := (.seq (.reg [⟨some 4, none, .mv (.c (.bool false))⟩]) (.seq (.reg [⟨some 5, none, .mv (.t 0)⟩, ⟨some 6, none, .mv (.t 1)⟩, ⟨some 7, none, .call 102 [(.t 5), (.t 6)]⟩, ⟨some 8, none, .bin .geq false (.t 7) (.c (.int .i64 0))⟩, ⟨some 4, none, .mv (.t 8)⟩]) .ret))
theorem k_slices_ContainsFunc_impl_Table_impl_Table : codeOf Tryz.prog 63 = some ⟨9, c_slices_ContainsFunc_impl_Table_impl_Table, [(.tmp 4)]⟩ := by kernel_rfl
theorem m_slices_ContainsFunc_impl_Table_impl_Table : modes 63 = ⟨[], .asis, none, false⟩ := by unfold modes; rfl
def c_spec_l10Tables : SC := (.seq (.reg [⟨some 2, none, .mv (.c (.bool false))⟩]) (.seq (.seq (.reg [⟨some 5, none, .mv (.t 0)⟩, ⟨some 6, none, .len false (.t 5)⟩, ⟨some 7, none, .bin .gtr false (.t 6) (.c (.int .i64 12))⟩]) (.cond (.t 7) (.seq (.reg [⟨some 2, none, .mv (.c (.bool false))⟩]) .ret) .skip)) (.seq (.seq (.reg [⟨some 3, none, .mv (.c (.int .i64 0))⟩]) (.block 0 (.loop [1, 0, 0, 1, 0, 0, 0, 0, 0, 0, 0, 0, 0, 0, 0, 0, 0, 0, 0, 0, 0, 0, 0, 0, 0, 0, 0, 0, 0, 0, 0, 0, 0, 0, 0, 0, 0, 0, 0, 0, 0, 0, 0, 0, 0, 0, 0, 0, 0, 0, 0, 0, 0, 0, 0, 0, 0, 0, 0, 0, 0, 0, 0] (.seq (.seq (.reg [⟨some 8, none, .mv (.t 3)⟩, ⟨some 9, none, .mv (.t 0)⟩, ⟨some 10, none, .len false (.t 9)⟩, ⟨some 11, none, .bin .lss false (.t 8) (.t 10)⟩]) (.cond (.t 11) .skip (.exit 0))) (.seq (.block 1 (.seq (.reg [⟨some 14, none, .mv (.t 0)⟩, ⟨some 15, none, .mv (.t 3)⟩, ⟨some 16, none, .iaddr 4 (.t 14) (.t 15)⟩, ⟨some 17, none, .load true 4 (.t 16)⟩, ⟨(some 4), none, (.alloc 97 [(.str ⟨#[]⟩), (.int .i64 0), (.bool false), .nil])⟩, ⟨none, none, (.store 4 (.t 4) (.t 17))⟩]) (.seq (.seq (.reg [⟨some 18, none, .faddr 0 (.t 4)⟩, ⟨some 19, none, .load false 1 (.t 18)⟩, ⟨some 20, none, .call 95 [(.t 19)]⟩, ⟨some 21, none, .un .not (.t 20)⟩, ⟨some 22, none, .mv (.t 21)⟩, ⟨(some 23), (some (22, false)), (.faddr 1 (.t 4))⟩, ⟨(some 24), (some (22, false)), (.load false 1 (.t 23))⟩, ⟨(some 25), (some (22, false)), (.call 54 [(.t 24), (.c (.int .i64 0)), (.c (.int .i64 3))])⟩, ⟨(some 26), (some (22, false)), (.un .not (.t 25))⟩, ⟨some 27, none, .pick (.t 22) (.c (.bool true)) (.t 26)⟩]) (.cond (.t 27) (.seq (.reg [⟨some 2, none, .mv (.c (.bool false))⟩]) .ret) .skip)) (.seq (.dreg [[], [0], [1, 0], [2, 1, 0], [2, 1, 0], [4, 2, 1, 0], [3, 2, 1, 0, 5, 4], [6, 3, 2, 1, 0, 5, 4], [7, 6, 3, 2, 1, 0, 5, 4], [2, 1, 0], [9, 2, 1, 0], [8, 7, 6, 3, 2, 1, 0, 5, 4, 10, 9], [11, 8, 7, 6, 3, 2, 1, 0, 5, 4, 10, 9], [12, 11, 8, 7, 6, 3, 2, 1, 0, 5, 4, 10, 9], [12, 11, 8, 7, 6, 3, 2, 1, 0, 5, 4, 10, 9], [14, 12, 11, 8, 7, 6, 3, 2, 1, 0, 5, 4, 10, 9], [13, 12, 11, 8, 7, 6, 3, 2, 1, 0, 5, 4, 10, 9, 15, 14], [16, 13, 12, 11, 8, 7, 6, 3, 2, 1, 0, 5, 4, 10, 9, 15, 14], [17, 16, 13, 12, 11, 8, 7, 6, 3, 2, 1, 0, 5, 4, 10, 9, 15, 14], [12, 11, 8, 7, 6, 3, 2, 1, 0, 5, 4, 10, 9], [19, 12, 11, 8, 7, 6, 3, 2, 1, 0, 5, 4, 10, 9], [18, 17, 16, 13, 12, 11, 8, 7, 6, 3, 2, 1, 0, 5, 4, 10, 9, 15, 14, 20, 19], [21, 18, 17, 16, 13, 12, 11, 8, 7, 6, 3, 2, 1, 0, 5, 4, 10, 9, 15, 14, 20, 19], [22, 21, 18, 17, 16, 13, 12, 11, 8, 7, 6, 3, 2, 1, 0, 5, 4, 10, 9, 15, 14, 20, 19], [22, 21, 18, 17, 16, 13, 12, 11, 8, 7, 6, 3, 2, 1, 0, 5, 4, 10, 9, 15, 14, 20, 19], [24, 22, 21, 18, 17, 16, 13, 12, 11, 8, 7, 6, 3, 2, 1, 0, 5, 4, 10, 9, 15, 14, 20, 19], [23, 22, 21, 18, 17, 16, 13, 12, 11, 8, 7, 6, 3, 2, 1, 0, 5, 4, 10, 9, 15, 14, 20, 19, 25, 24], [26, 23, 22, 21, 18, 17, 16, 13, 12, 11, 8, 7, 6, 3, 2, 1, 0, 5, 4, 10, 9, 15, 14, 20, 19, 25, 24], [27, 26, 23, 22, 21, 18, 17, 16, 13, 12, 11, 8, 7, 6, 3, 2, 1, 0, 5, 4, 10, 9, 15, 14, 20, 19, 25, 24], [22, 21, 18, 17, 16, 13, 12, 11, 8, 7, 6, 3, 2, 1, 0, 5, 4, 10, 9, 15, 14, 20, 19], [29, 22, 21, 18, 17, 16, 13, 12, 11, 8, 7, 6, 3, 2, 1, 0, 5, 4, 10, 9, 15, 14, 20, 19], [28, 27, 26, 23, 22, 21, 18, 17, 16, 13, 12, 11, 8, 7, 6, 3, 2, 1, 0, 5, 4, 10, 9, 15, 14, 20, 19, 25, 24, 30, 29], [22, 21, 18, 17, 16, 13, 12, 11, 8, 7, 6, 3, 2, 1, 0, 5, 4, 10, 9, 15, 14, 20, 19, 31, 28, 27, 26, 23, 25, 24, 30, 29], [12, 11, 8, 7, 6, 3, 2, 1, 0, 5, 4, 10, 9, 32, 22, 21, 18, 17, 16, 13, 15, 14, 20, 19, 31, 28, 27, 26, 23, 25, 24, 30, 29], [2, 1, 0, 33, 12, 11, 8, 7, 6, 3, 5, 4, 10, 9, 32, 22, 21, 18, 17, 16, 13, 15, 14, 20, 19, 31, 28, 27, 26, 23, 25, 24, 30, 29]] [⟨some 28, none, .mv (.t 3)⟩, ⟨some 29, none, .bin .gtr false (.t 28) (.c (.int .i64 0))⟩, ⟨some 30, none, .mv (.t 29)⟩, ⟨(some 31), (some (30, true)), (.mv (.t 0))⟩, ⟨(some 32), (some (30, true)), (.mv (.t 3))⟩, ⟨(some 33), (some (30, true)), (.bin .sub false (.t 32) (.c (.int .i64 1)))⟩, ⟨(some 34), (some (30, true)), (.iaddr 4 (.t 31) (.t 33))⟩, ⟨(some 35), (some (30, true)), (.faddr 0 (.t 34))⟩, ⟨(some 36), (some (30, true)), (.load false 1 (.t 35))⟩, ⟨(some 37), (some (30, true)), (.faddr 0 (.t 4))⟩, ⟨(some 38), (some (30, true)), (.load false 1 (.t 37))⟩, ⟨(some 39), (some (30, true)), (.bin .gtr false (.t 36) (.t 38))⟩, ⟨(some 40), (some (30, true)), (.mv (.t 39))⟩, ⟨(some 41), (some (40, false)), (.mv (.t 0))⟩, ⟨(some 42), (some (40, false)), (.mv (.t 3))⟩, ⟨(some 43), (some (40, false)), (.bin .sub false (.t 42) (.c (.int .i64 1)))⟩, ⟨(some 44), (some (40, false)), (.iaddr 4 (.t 41) (.t 43))⟩, ⟨(some 45), (some (40, false)), (.faddr 0 (.t 44))⟩, ⟨(some 46), (some (40, false)), (.load false 1 (.t 45))⟩, ⟨(some 47), (some (40, false)), (.faddr 0 (.t 4))⟩, ⟨(some 48), (some (40, false)), (.load false 1 (.t 47))⟩, ⟨(some 49), (some (40, false)), (.bin .eql false (.t 46) (.t 48))⟩, ⟨(some 50), (some (40, false)), (.mv (.t 49))⟩, ⟨(some 51), (some (50, true)), (.mv (.t 0))⟩, ⟨(some 52), (some (50, true)), (.mv (.t 3))⟩, ⟨(some 53), (some (50, true)), (.bin .sub false (.t 52) (.c (.int .i64 1)))⟩, ⟨(some 54), (some (50, true)), (.iaddr 4 (.t 51) (.t 53))⟩, ⟨(some 55), (some (50, true)), (.faddr 1 (.t 54))⟩, ⟨(some 56), (some (50, true)), (.load false 1 (.t 55))⟩, ⟨(some 57), (some (50, true)), (.faddr 1 (.t 4))⟩, ⟨(some 58), (some (50, true)), (.load false 1 (.t 57))⟩, ⟨(some 59), (some (50, true)), (.bin .geq false (.t 56) (.t 58))⟩, ⟨(some 60), (some (40, false)), (.pick (.t 50) (.t 59) (.c (.bool false)))⟩, ⟨(some 61), (some (30, true)), (.pick (.t 40) (.c (.bool true)) (.t 60))⟩, ⟨some 62, none, .pick (.t 30) (.t 61) (.c (.bool false))⟩]) (.cond (.t 62) (.seq (.reg [⟨some 2, none, .mv (.c (.bool false))⟩]) .ret) .skip))))) (.reg [⟨some 12, none, .mv (.t 3)⟩, ⟨some 13, none, .bin .add false (.t 12) (.c (.int .i64 1))⟩, ⟨some 3, none, .mv (.t 13)⟩])))))) (.seq (.reg [⟨some 2, none, .mv (.c (.bool true))⟩]) .ret))))
theorem k_spec_l10Tables : codeOf Tryz.prog 55 = some ⟨63, c_spec_l10Tables, [(.tmp 2)]⟩ := by kernel_rfl
theorem m_spec_l10Tables : modes 55 = ⟨[], .asis, none, false⟩ := by unfold modes; rfl
def c_spec_l10Good : SC := (.seq (.reg [⟨some 1, none, .boxv 35 2 (.t 0)⟩, ⟨some 2, none, .mv (.c (.bool false))⟩]) (.seq (.seq (.reg [⟨some 7, none, .faddr 0 (.t 1)⟩, ⟨some 8, none, .load false 1 (.t 7)⟩, ⟨some 9, none, .call 54 [(.t 8), (.c (.int .i64 1)), (.c (.int .i64 3))]⟩, ⟨some 10, none, .un .not (.t 9)⟩, ⟨some 11, none, .mv (.t 10)⟩, ⟨(some 12), (some (11, false)), (.faddr 1 (.t 1))⟩, ⟨(some 13), (some (11, false)), (.load false 1 (.t 12))⟩, ⟨(some 14), (some (11, false)), (.call 55 [(.t 13)])⟩, ⟨(some 15), (some (11, false)), (.un .not (.t 14))⟩, ⟨some 16, none, .pick (.t 11) (.c (.bool true)) (.t 15)⟩]) (.cond (.t 16) (.seq (.reg [⟨some 2, none, .mv (.c (.bool false))⟩]) .ret) .skip)) (.seq (.seq (.reg [⟨some 3, none, .mv (.c (.int .i64 0))⟩]) (.block 0 (.loop [0, 1, 0, 1, 0, 0, 0, 0, 0, 0, 0, 0, 0, 0, 0, 0, 0, 0, 0, 0, 0, 0, 0, 0, 0, 0, 0, 0, 0, 0, 0, 0, 0, 0, 0, 0, 0, 0, 0, 0, 0, 0, 0, 0, 0, 0, 0, 0, 0, 0, 0, 0, 0, 0, 0, 0, 0, 0] (.seq (.seq (.reg [⟨some 17, none, .mv (.t 3)⟩, ⟨some 18, none, .faddr 1 (.t 1)⟩, ⟨some 19, none, .load false 1 (.t 18)⟩, ⟨some 20, none, .len false (.t 19)⟩, ⟨some 21, none, .bin .lss false (.t 17) (.t 20)⟩]) (.cond (.t 21) .skip (.exit 0))) (.seq (.block 1 (.seq (.reg [⟨some 24, none, .faddr 1 (.t 1)⟩, ⟨some 25, none, .load false 1 (.t 24)⟩, ⟨some 26, none, .mv (.t 3)⟩, ⟨some 27, none, .iaddr 4 (.t 25) (.t 26)⟩, ⟨some 28, none, .load true 4 (.t 27)⟩, ⟨(some 4), none, (.alloc 97 [(.str ⟨#[]⟩), (.int .i64 0), (.bool false), .nil])⟩, ⟨none, none, (.store 4 (.t 4) (.t 28))⟩]) (.seq (.reg [⟨some 29, none, .faddr 0 (.t 1)⟩, ⟨some 30, none, .load false 1 (.t 29)⟩, ⟨some 31, none, .bin .sub false (.t 30) (.c (.int .i64 1))⟩, ⟨some 5, none, .mv (.t 31)⟩]) (.seq (.seq (.reg [⟨some 32, none, .faddr 2 (.t 4)⟩, ⟨some 33, none, .load false 1 (.t 32)⟩]) (.cond (.t 33) (.reg [⟨some 5, none, .mv (.c (.int .i64 1))⟩]) .skip)) (.seq (.seq (.dreg [[], [0], [1, 0], [], [3], [], [5], [4, 3, 6, 5], [2, 1, 0, 7, 4, 3, 6, 5]] [⟨some 34, none, .faddr 3 (.t 4)⟩, ⟨some 35, none, .load false 1 (.t 34)⟩, ⟨some 36, none, .len false (.t 35)⟩, ⟨some 37, none, .faddr 0 (.t 1)⟩, ⟨some 38, none, .load false 1 (.t 37)⟩, ⟨some 39, none, .faddr 1 (.t 4)⟩, ⟨some 40, none, .load false 1 (.t 39)⟩, ⟨some 41, none, .call 56 [(.t 38), (.t 40)]⟩, ⟨some 42, none, .bin .neq false (.t 36) (.t 41)⟩]) (.cond (.t 42) (.seq (.reg [⟨some 2, none, .mv (.c (.bool false))⟩]) .ret) .skip)) (.seq (.reg [⟨some 6, none, .mv (.c (.int .i64 0))⟩]) (.block 2 (.loop [0, 1, 0, 1, 1, 1, 1, 0, 0, 0, 0, 0, 0, 0, 0, 0, 0, 0, 0, 0, 0, 0, 0, 0, 0, 0, 0, 0, 0, 0, 0, 0, 0, 0, 0, 0, 0, 0, 0, 0, 0, 0, 0, 0, 0, 0, 0, 0, 0, 0, 0, 0, 0, 0, 0, 0, 0, 0] (.seq (.seq (.reg [⟨some 43, none, .mv (.t 6)⟩, ⟨some 44, none, .faddr 3 (.t 4)⟩, ⟨some 45, none, .load false 1 (.t 44)⟩, ⟨some 46, none, .len false (.t 45)⟩, ⟨some 47, none, .bin .lss false (.t 43) (.t 46)⟩]) (.cond (.t 47) .skip (.exit 2))) (.seq (.block 3 (.seq (.reg [⟨some 50, none, .faddr 3 (.t 4)⟩, ⟨some 51, none, .load false 1 (.t 50)⟩, ⟨some 52, none, .mv (.t 6)⟩, ⟨some 53, none, .iaddr 1 (.t 51) (.t 52)⟩, ⟨some 54, none, .load false 1 (.t 53)⟩, ⟨some 55, none, .mv (.t 5)⟩, ⟨some 56, none, .call 54 [(.t 54), (.c (.int .i64 0)), (.t 55)]⟩, ⟨some 57, none, .un .not (.t 56)⟩]) (.cond (.t 57) (.seq (.reg [⟨some 2, none, .mv (.c (.bool false))⟩]) .ret) .skip))) (.reg [⟨some 48, none, .mv (.t 6)⟩, ⟨some 49, none, .bin .add false (.t 48) (.c (.int .i64 1))⟩, ⟨some 6, none, .mv (.t 49)⟩]))))))))))) (.reg [⟨some 22, none, .mv (.t 3)⟩, ⟨some 23, none, .bin .add false (.t 22) (.c (.int .i64 1))⟩, ⟨some 3, none, .mv (.t 23)⟩])))))) (.seq (.reg [⟨some 2, none, .mv (.c (.bool true))⟩]) .ret))))
theorem k_spec_l10Good : codeOf Tryz.prog 27 = some ⟨58, c_spec_l10Good, [(.tmp 2)]⟩ := by kernel_rfl
theorem m_spec_l10Good : modes 27 = ⟨[], .asis, none, false⟩ := by unfold modes; rfl
theorem within_E (x lo hi : Int) : E 61 [.int .i64 x, .int .i64 lo, .int .i64 hi] [] = some (.bool (inI x lo hi), []) := by
  unfold inI
  cases h : dec (lo ≤ x) with
  | false =>
    rw [Bool.false_and]
    refine E_walk k_impl_within m_impl_within (of_decide_eq_true rfl) ?_
    simp (disch := omega) only [c_impl_within, go_sem, go_cond, zA, zB, zC, zD, zE, zF, zG, zH, ↓reduceIte, zI, reduceCtorEq, zJ, zK, h]
  | true =>
    rw [Bool.true_and]
    refine E_walk k_impl_within m_impl_within (of_decide_eq_true rfl) ?_
    simp (disch := omega) only [c_impl_within, go_sem, go_cond, zA, zB, zC, zD, zE, zF, zG, zH, ↓reduceIte, zI, reduceCtorEq, zJ, zK, h]
theorem l1In_E (x lo hi : Int) : E 54 [.int .i64 x, .int .i64 lo, .int .i64 hi] [] = some (.bool (inI x lo hi), []) := by
  unfold inI
  cases h : dec (lo ≤ x) with
  | false =>
    rw [Bool.false_and]
    refine E_walk k_spec_l1In m_spec_l1In (of_decide_eq_true rfl) ?_
    simp (disch := omega) only [c_spec_l1In, go_sem, go_cond, zA, zB, zC, zD, zE, zF, zG, zH, ↓reduceIte, zI, reduceCtorEq, zJ, zK, h]
  | true =>
    rw [Bool.true_and]
    refine E_walk k_spec_l1In m_spec_l1In (of_decide_eq_true rfl) ?_
    simp (disch := omega) only [c_spec_l1In, go_sem, go_cond, zA, zB, zC, zD, zE, zF, zG, zH, ↓reduceIte, zI, reduceCtorEq, zJ, zK, h]
theorem power_E (b k : Int) (h1 : 1 ≤ b) (h3 : b ≤ 3) (h0 : 0 ≤ k) (hk : k ≤ 12) : E 65 [.int .i64 b, .int .i64 k] [] = some (.int .i64 (pw b k.toNat), []) := by
  refine E_walk k_impl_power m_impl_power (of_decide_eq_true rfl) ?_
  simp (disch := omega) only [c_impl_power, go_sem, go_cond, zA, zB, zC, zD, zE, zF, zG, zH, ↓reduceIte, zI, reduceCtorEq, zJ, zK]
  refine go_loop (α := Int) (fun i => ⟨slots 14 0 [(0, .int .i64 b), (5, .int .i64 (pw b i.toNat)), (6, .int .i64 k), (7, .int .i64 i)], []⟩) (fun i => 0 ≤ i ∧ i ≤ k) (fun i => (k - i).toNat) 0 ⟨Int.le_refl 0, h0⟩ (by simp (disch := omega) only [go_sem, go_cond, zA, zB, zC, zD, zE, zF, zG, zH, ↓reduceIte, zI, reduceCtorEq, zJ, zK, Int.toNat_zero, pw]) ?_
  rintro i ⟨hi0, hi1⟩
  rcases Int.lt_or_le i k with hlt | hge
  · have hn : (i + 1).toNat = i.toNat + 1 := by omega
    have hp := pw_small h1 h3 (k := i.toNat + 1) (by omega)
    rw [pw] at hp
    simp (disch := omega) only [go_sem, go_cond, zA, zB, zC, zD, zE, zF, zG, zH, ↓reduceIte, zI, reduceCtorEq, zJ, zK]
    refine ⟨i + 1, ⟨by omega, by omega⟩, by omega, ?_⟩
    simp only [hn, pw, and_self]
  · obtain rfl : i = k := by omega
    simp (disch := omega) only [go_sem, go_cond, zA, zB, zC, zD, zE, zF, zG, zH, ↓reduceIte, zI, reduceCtorEq, zJ, zK]
theorem l10Power_E (b k : Int) (h1 : 1 ≤ b) (h3 : b ≤ 3) (h0 : 0 ≤ k) (hk : k ≤ 12) : E 56 [.int .i64 b, .int .i64 k] [] = some (.int .i64 (pw b k.toNat), []) := by
  refine E_walk k_spec_l10Power m_spec_l10Power (of_decide_eq_true rfl) ?_
  simp (disch := omega) only [c_spec_l10Power, go_sem, go_cond, zA, zB, zC, zD, zE, zF, zG, zH, ↓reduceIte, zI, reduceCtorEq, zJ, zK]
  refine go_loop (α := Int) (fun i => ⟨slots 16 0 [(0, .int .i64 b), (1, .int .i64 k), (5, .int .i64 (pw b i.toNat)), (6, .int .i64 i)], []⟩) (fun i => 0 ≤ i ∧ i ≤ k) (fun i => (k - i).toNat) 0 ⟨Int.le_refl 0, h0⟩ (by simp (disch := omega) only [go_sem, go_cond, zA, zB, zC, zD, zE, zF, zG, zH, ↓reduceIte, zI, reduceCtorEq, zJ, zK, Int.toNat_zero, pw]) ?_
  rintro i ⟨hi0, hi1⟩
  rcases Int.lt_or_le i k with hlt | hge
  · have hn : (i + 1).toNat = i.toNat + 1 := by omega
    have hp := pw_small h1 h3 (k := i.toNat + 1) (by omega)
    rw [pw] at hp
    simp (disch := omega) only [go_sem, go_cond, zA, zB, zC, zD, zE, zF, zG, zH, ↓reduceIte, zI, reduceCtorEq, zJ, zK]
    refine ⟨i + 1, ⟨by omega, by omega⟩, by omega, ?_⟩
    simp only [hn, pw, and_self]
  · obtain rfl : i = k := by omega
    simp (disch := omega) only [go_sem, go_cond, zA, zB, zC, zD, zE, zF, zG, zH, ↓reduceIte, zI, reduceCtorEq, zJ, zK]
theorem compareTables_E (x y : Tl) : E 101 [x.sv, y.sv] [] = some (.int .i64 (orZ (cmpB x.name y.name) (cmpI x.arity y.arity)), []) := by
  have h1 := compareS_E x.name y.name
  have h2 := compareI_E x.arity y.arity
  have h3 := or2_E (cmpB x.name y.name) (cmpI x.arity y.arity)
  refine E_walk k_impl_compareTables m_impl_compareTables (of_decide_eq_true rfl) ?_
  simp (disch := omega) only [c_impl_compareTables, go_sem, go_cond, zA, zB, zC, zD, zE, zF, zG, zH, ↓reduceIte, zI, reduceCtorEq, zJ, zK, h1, h2, h3, m_cmp_Compare_string, m_cmp_Compare_int, m_cmp_Or_int]
theorem keyLt_cmp (x y : Tl) : keyLt x y = dec (orZ (cmpB x.name y.name) (cmpI x.arity y.arity) < 0) := by
  unfold keyLt cmpB
  cases h1 : strLt x.name y.name with
  | true =>
    rw [Bool.true_or, cond_true, orZ, if_neg (by omega)]
    exact (dec_t (by omega)).symm
  | false =>
    rw [Bool.false_or, cond_false]
    cases h2 : dec (x.name = y.name) with
    | false =>
      rw [Bool.false_and, cond_false, orZ, if_neg (by omega)]
      exact (dec_f (by omega)).symm
    | true =>
      rw [Bool.true_and, cond_true, orZ, if_pos rfl, cmpI]
      cases h3 : dec (x.arity < y.arity) with
      | true => rw [cond_true]; exact (dec_t (by omega)).symm
      | false =>
        rw [cond_false]
        cases dec (y.arity < x.arity) with
        | true => rw [cond_true]; exact (dec_f (by omega)).symm
        | false => rw [cond_false]; exact (dec_f (by omega)).symm
set_option maxHeartbeats 4000000 in
theorem areTables_E (xs : List Tl) (hl : xs.length ≤ 1099511627776) : E 62 [.arr (xs.map Tl.d)] [] = some (.bool (tabsB xs), []) := by
  refine E_walk k_impl_areTables m_impl_areTables (of_decide_eq_true rfl) ?_
  simp (disch := omega) only [c_impl_areTables, go_sem, go_cond, zA, zB, zC, zD, zE, zF, zG, zH, ↓reduceIte, zI, reduceCtorEq, zJ, zK]
  refine go_loop (α := Int) (fun a => ⟨slots 40 0 [(0, .arr (xs.map Tl.d)), (5, .arr (xs.map Tl.d)), (6, .int .i64 xs.length), (7, .int .i64 a)], []⟩) (fun a => ∃ k : Nat, a = k ∧ k ≤ (xs).length ∧ allTo (tlAt xs) k = true) (fun a => (xs).length - (a).toNat) 0 ⟨0, rfl, Nat.zero_le _, by rw [allTo]⟩ (by simp (disch := omega) only [go_sem, go_cond, zA, zB, zC, zD, zE, zF, zG, zH, ↓reduceIte, zI, reduceCtorEq, zJ, zK]) ?_
  rintro i ⟨k, hi, hk, hR⟩
  have hni : i.toNat = k := by omega
  have hni1 : (i + 1).toNat = k + 1 := by omega
  rcases Nat.lt_or_ge k (xs).length with hlt | hge
  · have hg := get_at Tl.d hlt
    rw [Tl.d_eq] at hg
    have hs := isSymbol_E xs[k].name
    have hw := within_E xs[k].arity 0 3
    have no : tlAt xs k = false → tabsB xs = false := fun h => by unfold tabsB; rw [allTo_no h hlt, Bool.false_and]
    cases ha : symB xs[k].name with
    | false =>
      rw [ha] at hs
      rw [no (by cases k with | zero => rw [tlAt_zero hlt, ha, Bool.false_and] | succ j => rw [tlAt_succ hlt, ha, Bool.false_and])]
      simp (disch := omega) only [go_sem, go_cond, zA, zB, zC, zD, zE, zF, zG, zH, ↓reduceIte, zI, reduceCtorEq, zJ, zK, hni, hg, hs, hw, m_impl_isSymbol, m_impl_within, m_impl_compareTables]
    | true =>
      rw [ha] at hs
      cases hb : inI xs[k].arity 0 3 with
      | false =>
        rw [hb] at hw
        rw [no (by cases k with | zero => rw [tlAt_zero hlt, hb, Bool.and_false] | succ j => rw [tlAt_succ hlt, hb, Bool.false_and, Bool.and_false])]
        simp (disch := omega) only [go_sem, go_cond, zA, zB, zC, zD, zE, zF, zG, zH, ↓reduceIte, zI, reduceCtorEq, zJ, zK, hni, hg, hs, hw, m_impl_isSymbol, m_impl_within, m_impl_compareTables]
      | true =>
        rw [hb] at hw
        cases k with
        | zero =>
          obtain rfl : i = 0 := hi
          simp (disch := omega) only [go_sem, go_cond, zA, zB, zC, zD, zE, zF, zG, zH, ↓reduceIte, zI, reduceCtorEq, zJ, zK, hni, hg, hs, hw, m_impl_isSymbol, m_impl_within, m_impl_compareTables]
          exact ⟨1, ⟨1, rfl, hlt, by rw [allTo, hR, tlAt_zero hlt, ha, hb]; rfl⟩, by omega, by first | trivial | rfl⟩
        | succ j =>
          have hj : j < xs.length := by omega
          have hg2 := get_at Tl.d hj
          rw [Tl.d_eq] at hg2
          have hni2 : (i - 1).toNat = j := by omega
          have hc := compareTables_E xs[j] xs[j + 1]
          have hk2 := keyLt_cmp xs[j] xs[j + 1]
          generalize orZ (cmpB xs[j].name xs[j + 1].name) (cmpI xs[j].arity xs[j + 1].arity) = cz at *
          rcases Int.lt_or_le cz 0 with hq | hq
          · simp (disch := omega) only [go_sem, go_cond, zA, zB, zC, zD, zE, zF, zG, zH, ↓reduceIte, zI, reduceCtorEq, zJ, zK, hni, hg, hs, hw, m_impl_isSymbol, m_impl_within, m_impl_compareTables, hni2, hg2, hc]
            exact ⟨i + 1, ⟨j + 1 + 1, by omega, hlt, by rw [allTo, hR, tlAt_succ hlt, ha, hb, hk2, dec_t hq]; rfl⟩, by omega, by first | trivial | rfl⟩
          · rw [no (by rw [tlAt_succ hlt, ha, hb, hk2, dec_f (by omega)]; rfl)]
            simp (disch := omega) only [go_sem, go_cond, zA, zB, zC, zD, zE, zF, zG, zH, ↓reduceIte, zI, reduceCtorEq, zJ, zK, hni, hg, hs, hw, m_impl_isSymbol, m_impl_within, m_impl_compareTables, hni2, hg2, hc]
  · obtain rfl : k = xs.length := by omega
    simp (disch := omega) only [go_sem, go_cond, zA, zB, zC, zD, zE, zF, zG, zH, ↓reduceIte, zI, reduceCtorEq, zJ, zK, hni]
    unfold tabsB
    rw [hR, Bool.true_and, dec_of]
    exact decide_eq_decide.2 (by omega)
theorem choices_E (t : Tl) (sz : Int) : E 68 [t.sv, .int .i64 sz] [] = some (.int .i64 (kinds sz t), []) := by
  unfold kinds
  cases h : t.pred with
  | false =>
    refine E_walk k_impl_Table_choices m_impl_Table_choices (of_decide_eq_true rfl) ?_
    simp (disch := omega) only [c_impl_Table_choices, go_sem, go_cond, zA, zB, zC, zD, zE, zF, zG, zH, ↓reduceIte, zI, reduceCtorEq, zJ, zK, h]
    try rfl
  | true =>
    refine E_walk k_impl_Table_choices m_impl_Table_choices (of_decide_eq_true rfl) ?_
    simp (disch := omega) only [c_impl_Table_choices, go_sem, go_cond, zA, zB, zC, zD, zE, zF, zG, zH, ↓reduceIte, zI, reduceCtorEq, zJ, zK, h]
    try rfl
set_option maxHeartbeats 2000000 in
theorem inVals_E (m : Ip) (t : Tl) (hs : 1 ≤ m.size ∧ m.size ≤ 3) (v : Int) : E 67 [.int .i64 v, .ptr 0 0, .ptr 1 0] [.box 97 [.str t.name, .int .i64 t.arity, .bool t.pred, .arr (t.vals.map fun n => [D.int n])], .box 35 [.int .i64 m.size, .arr (m.tables.map Tl.d)]] = some (.bool (!inI v 0 (kinds m.size t - 1)), [.box 97 [.str t.name, .int .i64 t.arity, .bool t.pred, .arr (t.vals.map fun n => [D.int n])], .box 35 [.int .i64 m.size, .arr (m.tables.map Tl.d)]]) := by
  have h1 := choices_E t m.size
  have h2 := within_E v 0 (kinds m.size t - 1)
  have h3 : 1 ≤ kinds m.size t ∧ kinds m.size t ≤ 3 := by unfold kinds; split <;> omega
  refine E_walk k_impl_IsValidInterpretation_1_1 m_impl_IsValidInterpretation_1_1 (of_decide_eq_true rfl) ?_
  simp (disch := omega) only [c_impl_IsValidInterpretation_1_1, go_sem, go_cond, zA, zB, zC, zD, zE, zF, zG, zH, ↓reduceIte, zI, reduceCtorEq, zJ, zK, h1, h2, m_impl_within, m_impl_Table_choices]
set_option maxHeartbeats 2000000 in
theorem indexInt_E (m : Ip) (t : Tl) (hs : 1 ≤ m.size ∧ m.size ≤ 3) (xs : List Int) (hl : xs.length ≤ 1099511627776) : E 103 [.arr (xs.map (fun n => [D.int n])), .fn 67 [.ptr 0 0, .ptr 1 0]] [.box 97 [.str t.name, .int .i64 t.arity, .bool t.pred, .arr (t.vals.map fun n => [D.int n])], .box 35 [.int .i64 m.size, .arr (m.tables.map Tl.d)]] = some (.int .i64 (idxP (fun v => !inI v 0 (kinds m.size t - 1)) xs 0), [.box 97 [.str t.name, .int .i64 t.arity, .bool t.pred, .arr (t.vals.map fun n => [D.int n])], .box 35 [.int .i64 m.size, .arr (m.tables.map Tl.d)]]) := by
  have hE := inVals_E m t hs
  generalize hpp : (fun v : Int => !inI v 0 (kinds m.size t - 1)) = p at *
  have hpe : ∀ v : Int, (!inI v 0 (kinds m.size t - 1)) = p v := fun v => by rw [← hpp]
  refine E_walk k_slices_IndexFunc_int_int m_slices_IndexFunc_int_int (of_decide_eq_true rfl) ?_
  simp (disch := omega) only [c_slices_IndexFunc_int_int, go_sem, go_cond, zA, zB, zC, zD, zE, zF, zG, zH, ↓reduceIte, zI, reduceCtorEq, zJ, zK]
  refine go_loop (α := Int) (fun a => ⟨slots 19 0 [(0, .arr (xs.map (fun n => [D.int n]))), (1, .fn 67 [.ptr 0 0, .ptr 1 0]), (7, .int .i64 xs.length), (8, .int .i64 a)], [.box 97 [.str t.name, .int .i64 t.arity, .bool t.pred, .arr (t.vals.map fun n => [D.int n])], .box 35 [.int .i64 m.size, .arr (m.tables.map Tl.d)]]⟩) (fun a => ∃ k : Nat, a = k ∧ k ≤ (xs).length ∧ idxP p (xs.drop k) a = idxP p xs 0) (fun a => (xs).length - (a).toNat) 0 ⟨0, rfl, Nat.zero_le _, by rw [List.drop_zero]⟩ (by simp (disch := omega) only [go_sem, go_cond, zA, zB, zC, zD, zE, zF, zG, zH, ↓reduceIte, zI, reduceCtorEq, zJ, zK]) ?_
  rintro i ⟨k, hi, hk, hR⟩
  have hni : i.toNat = k := by omega
  have hni1 : (i + 1).toNat = k + 1 := by omega
  rcases Nat.lt_or_ge k (xs).length with hlt | hge
  · have hg' := get_at (fun n => [D.int n]) hlt
    have hc := hE xs[k]
    rw [hpe] at hc
    rw [List.drop_eq_getElem_cons hlt, idxP] at hR
    cases hp : p xs[k] with
    | true =>
      rw [hp] at hc hR
      simp (disch := omega) only [go_sem, go_cond, zA, zB, zC, zD, zE, zF, zG, zH, ↓reduceIte, zI, reduceCtorEq, zJ, zK, hni, hg', hc, g_impl_IsValidInterpretation_1_1, m_impl_IsValidInterpretation_1_1]
      simpa using hR
    | false =>
      rw [hp] at hc hR
      simp (disch := omega) only [go_sem, go_cond, zA, zB, zC, zD, zE, zF, zG, zH, ↓reduceIte, zI, reduceCtorEq, zJ, zK, hni, hg', hc, g_impl_IsValidInterpretation_1_1, m_impl_IsValidInterpretation_1_1]
      exact ⟨i + 1, ⟨k + 1, by omega, hlt, by simpa using hR⟩, by omega, by first | trivial | rfl⟩
  · rw [List.drop_eq_nil_of_le hge, idxP] at hR
    simp (disch := omega) only [go_sem, go_cond, zA, zB, zC, zD, zE, zF, zG, zH, ↓reduceIte, zI, reduceCtorEq, zJ, zK, hni]
    exact hR
theorem containsInt_E (m : Ip) (t : Tl) (hs : 1 ≤ m.size ∧ m.size ≤ 3) (xs : List Int) (hl : xs.length ≤ 1099511627776) : E 66 [.arr (xs.map (fun n => [D.int n])), .fn 67 [.ptr 0 0, .ptr 1 0]] [.box 97 [.str t.name, .int .i64 t.arity, .bool t.pred, .arr (t.vals.map fun n => [D.int n])], .box 35 [.int .i64 m.size, .arr (m.tables.map Tl.d)]] = some (.bool (xs.any fun v => !inI v 0 (kinds m.size t - 1)), [.box 97 [.str t.name, .int .i64 t.arity, .bool t.pred, .arr (t.vals.map fun n => [D.int n])], .box 35 [.int .i64 m.size, .arr (m.tables.map Tl.d)]]) := by
  have h := indexInt_E m t hs xs hl
  refine E_walk k_slices_ContainsFunc_int_int m_slices_ContainsFunc_int_int (of_decide_eq_true rfl) ?_
  simp (disch := omega) only [c_slices_ContainsFunc_int_int, go_sem, go_cond, zA, zB, zC, zD, zE, zF, zG, zH, ↓reduceIte, zI, reduceCtorEq, zJ, zK, h, m_slices_IndexFunc_int_int]
  rw [idxP_any]
set_option maxHeartbeats 2000000 in
theorem badTable_E (m : Ip) (t : Tl) (hs : 1 ≤ m.size ∧ m.size ≤ 3) (ha : 0 ≤ t.arity ∧ t.arity ≤ 3) (hl : t.vals.length ≤ 1099511627776) : E 64 [t.sv, .ptr 0 0] [.box 35 [.int .i64 m.size, .arr (m.tables.map Tl.d)]] = some (.bool (!tlB m.size t), [.box 35 [.int .i64 m.size, .arr (m.tables.map Tl.d)]]) := by
  have h1 := power_E m.size t.arity hs.1 hs.2 ha.1 (by omega)
  have h2 := containsInt_E m t hs t.vals hl
  have hall : (t.vals.any fun v => !inI v 0 (kinds m.size t - 1)) = !(t.vals.all fun v => inI v 0 (kinds m.size t - 1)) := by
    induction t.vals with
    | nil => rfl
    | cons a l ih => rw [List.any_cons, List.all_cons, ih, Bool.not_and]
  rw [hall] at h2
  have hp := pw_small hs.1 hs.2 (k := t.arity.toNat) (by omega)
  unfold tlB
  cases hd : dec ((t.vals.length : Int) = pw m.size t.arity.toNat) with
  | false =>
    rw [Bool.false_and]
    refine E_walk k_impl_IsValidInterpretation_1 m_impl_IsValidInterpretation_1 (of_decide_eq_true rfl) ?_
    simp (disch := omega) only [c_impl_IsValidInterpretation_1, go_sem, go_cond, zA, zB, zC, zD, zE, zF, zG, zH, ↓reduceIte, zI, reduceCtorEq, zJ, zK, h1, h2, hd, m_impl_power, m_slices_ContainsFunc_int_int, g_impl_IsValidInterpretation_1_1]
  | true =>
    rw [Bool.true_and]
    refine E_walk k_impl_IsValidInterpretation_1 m_impl_IsValidInterpretation_1 (of_decide_eq_true rfl) ?_
    simp (disch := omega) only [c_impl_IsValidInterpretation_1, go_sem, go_cond, zA, zB, zC, zD, zE, zF, zG, zH, ↓reduceIte, zI, reduceCtorEq, zJ, zK, h1, h2, hd, m_impl_power, m_slices_ContainsFunc_int_int, g_impl_IsValidInterpretation_1_1]
set_option maxHeartbeats 2000000 in
theorem indexTab_E (m : Ip) (hs : 1 ≤ m.size ∧ m.size ≤ 3) (xs : List Tl) (hx : ∀ t ∈ xs, (0 ≤ t.arity ∧ t.arity ≤ 3) ∧ t.vals.length ≤ 1099511627776) (hl : xs.length ≤ 1099511627776) : E 102 [.arr (xs.map Tl.d), .fn 64 [.ptr 0 0]] [.box 35 [.int .i64 m.size, .arr (m.tables.map Tl.d)]] = some (.int .i64 (idxP (fun t => !tlB m.size t) xs 0), [.box 35 [.int .i64 m.size, .arr (m.tables.map Tl.d)]]) := by
  have hE := fun t (ht : t ∈ xs) => badTable_E m t hs (hx t ht).1 (hx t ht).2
  generalize hpp : (fun t : Tl => !tlB m.size t) = p at *
  have hpe : ∀ t, (!tlB m.size t) = p t := fun t => by rw [← hpp]
  refine E_walk k_slices_IndexFunc_impl_Table_impl_Table m_slices_IndexFunc_impl_Table_impl_Table (of_decide_eq_true rfl) ?_
  simp (disch := omega) only [c_slices_IndexFunc_impl_Table_impl_Table, go_sem, go_cond, zA, zB, zC, zD, zE, zF, zG, zH, ↓reduceIte, zI, reduceCtorEq, zJ, zK]
  refine go_loop (α := Int) (fun a => ⟨slots 19 0 [(0, .arr (xs.map Tl.d)), (1, .fn 64 [.ptr 0 0]), (7, .int .i64 xs.length), (8, .int .i64 a)], [.box 35 [.int .i64 m.size, .arr (m.tables.map Tl.d)]]⟩) (fun a => ∃ k : Nat, a = k ∧ k ≤ (xs).length ∧ idxP p (xs.drop k) a = idxP p xs 0) (fun a => (xs).length - (a).toNat) 0 ⟨0, rfl, Nat.zero_le _, by rw [List.drop_zero]⟩ (by simp (disch := omega) only [go_sem, go_cond, zA, zB, zC, zD, zE, zF, zG, zH, ↓reduceIte, zI, reduceCtorEq, zJ, zK]) ?_
  rintro i ⟨k, hi, hk, hR⟩
  have hni : i.toNat = k := by omega
  have hni1 : (i + 1).toNat = k + 1 := by omega
  rcases Nat.lt_or_ge k (xs).length with hlt | hge
  · have hg' := get_at Tl.d hlt
    rw [Tl.d_eq] at hg'
    have hc := hE xs[k] (List.getElem_mem hlt)
    rw [hpe] at hc
    rw [List.drop_eq_getElem_cons hlt, idxP] at hR
    cases hp : p xs[k] with
    | true =>
      rw [hp] at hc hR
      simp (disch := omega) only [go_sem, go_cond, zA, zB, zC, zD, zE, zF, zG, zH, ↓reduceIte, zI, reduceCtorEq, zJ, zK, hni, hg', hc, g_impl_IsValidInterpretation_1, m_impl_IsValidInterpretation_1]
      simpa using hR
    | false =>
      rw [hp] at hc hR
      simp (disch := omega) only [go_sem, go_cond, zA, zB, zC, zD, zE, zF, zG, zH, ↓reduceIte, zI, reduceCtorEq, zJ, zK, hni, hg', hc, g_impl_IsValidInterpretation_1, m_impl_IsValidInterpretation_1]
      exact ⟨i + 1, ⟨k + 1, by omega, hlt, by simpa using hR⟩, by omega, by first | trivial | rfl⟩
  · rw [List.drop_eq_nil_of_le hge, idxP] at hR
    simp (disch := omega) only [go_sem, go_cond, zA, zB, zC, zD, zE, zF, zG, zH, ↓reduceIte, zI, reduceCtorEq, zJ, zK, hni]
    exact hR
theorem containsTab_E (m : Ip) (hs : 1 ≤ m.size ∧ m.size ≤ 3) (xs : List Tl) (hx : ∀ t ∈ xs, (0 ≤ t.arity ∧ t.arity ≤ 3) ∧ t.vals.length ≤ 1099511627776) (hl : xs.length ≤ 1099511627776) : E 63 [.arr (xs.map Tl.d), .fn 64 [.ptr 0 0]] [.box 35 [.int .i64 m.size, .arr (m.tables.map Tl.d)]] = some (.bool (!xs.all (tlB m.size)), [.box 35 [.int .i64 m.size, .arr (m.tables.map Tl.d)]]) := by
  have h := indexTab_E m hs xs hx hl
  have hall : (xs.any fun t => !tlB m.size t) = !xs.all (tlB m.size) := by
    induction xs with
    | nil => rfl
    | cons a l ih => rw [List.any_cons, List.all_cons, Bool.not_and]; congr 1; clear h hx hl ih; induction l with
      | nil => rfl
      | cons a l ih => rw [List.any_cons, List.all_cons, ih, Bool.not_and]
  rw [← hall]
  refine E_walk k_slices_ContainsFunc_impl_Table_impl_Table m_slices_ContainsFunc_impl_Table_impl_Table (of_decide_eq_true rfl) ?_
  simp (disch := omega) only [c_slices_ContainsFunc_impl_Table_impl_Table, go_sem, go_cond, zA, zB, zC, zD, zE, zF, zG, zH, ↓reduceIte, zI, reduceCtorEq, zJ, zK, h, m_slices_IndexFunc_impl_Table_impl_Table]
  rw [idxP_any]
set_option maxHeartbeats 2000000 in
theorem isValidInterpretation_E (m : Ip) (hm : m.tame) : E 32 [m.sv] [] = some (.bool m.ok, []) := by
  have h1 := within_E m.size 1 3
  have h2 := areTables_E m.tables hm.1
  unfold Ip.ok
  cases hs : inI m.size 1 3 with
  | false =>
    rw [hs] at h1
    rw [Bool.false_and]
    refine E_walk k_impl_IsValidInterpretation m_impl_IsValidInterpretation (of_decide_eq_true rfl) ?_
    simp (disch := omega) only [c_impl_IsValidInterpretation, go_sem, go_cond, zA, zB, zC, zD, zE, zF, zG, zH, ↓reduceIte, zI, reduceCtorEq, zJ, zK, h1, h2, m_impl_within, m_impl_areTables]
  | true =>
    rw [hs] at h1
    rw [Bool.true_and]
    cases ht : tabsB m.tables with
    | false =>
      rw [ht] at h2
      rw [Bool.false_and]
      refine E_walk k_impl_IsValidInterpretation m_impl_IsValidInterpretation (of_decide_eq_true rfl) ?_
      simp (disch := omega) only [c_impl_IsValidInterpretation, go_sem, go_cond, zA, zB, zC, zD, zE, zF, zG, zH, ↓reduceIte, zI, reduceCtorEq, zJ, zK, h1, h2, m_impl_within, m_impl_areTables]
    | true =>
      rw [ht] at h2
      rw [Bool.true_and]
      have h3 := containsTab_E m (inI_iff.1 hs) m.tables (fun t hx => ⟨tabsB_arity ht hx, hm.2 t hx⟩) hm.1
      refine E_walk k_impl_IsValidInterpretation m_impl_IsValidInterpretation (of_decide_eq_true rfl) ?_
      simp (disch := omega) only [c_impl_IsValidInterpretation, go_sem, go_cond, zA, zB, zC, zD, zE, zF, zG, zH, ↓reduceIte, zI, reduceCtorEq, zJ, zK, h1, h2, h3, m_impl_within, m_impl_areTables, m_slices_ContainsFunc_impl_Table_impl_Table]
      rw [Bool.not_not]
set_option maxHeartbeats 8000000 in
theorem l10Tables_E (xs : List Tl) (hl : xs.length ≤ 1099511627776) : E 55 [.arr (xs.map Tl.d)] [] = some (.bool (tabsB xs), []) := by
  rcases Nat.lt_or_ge 12 xs.length with h8 | h8
  · have e : tabsB xs = false := by unfold tabsB; rw [decide_eq_false (by omega), Bool.and_false]
    rw [e]
    refine E_walk k_spec_l10Tables m_spec_l10Tables (of_decide_eq_true rfl) ?_
    simp (disch := omega) only [c_spec_l10Tables, go_sem, go_cond, zA, zB, zC, zD, zE, zF, zG, zH, ↓reduceIte, zI, reduceCtorEq, zJ, zK]
  refine E_walk k_spec_l10Tables m_spec_l10Tables (of_decide_eq_true rfl) ?_
  simp (disch := omega) only [c_spec_l10Tables, go_sem, go_cond, zA, zB, zC, zD, zE, zF, zG, zH, ↓reduceIte, zI, reduceCtorEq, zJ, zK]
  refine go_loop (α := Int) (fun a => ⟨slots 63 0 [(0, .arr (xs.map Tl.d)), (3, .int .i64 a)], []⟩) (fun a => ∃ k : Nat, a = k ∧ k ≤ (xs).length ∧ allTo (tlAt xs) k = true) (fun a => (xs).length - (a).toNat) 0 ⟨0, rfl, Nat.zero_le _, by rw [allTo]⟩ (by simp (disch := omega) only [go_sem, go_cond, zA, zB, zC, zD, zE, zF, zG, zH, ↓reduceIte, zI, reduceCtorEq, zJ, zK]) ?_
  rintro i ⟨k, hi, hk, hR⟩
  have hni : i.toNat = k := by omega
  have hni1 : (i + 1).toNat = k + 1 := by omega
  rcases Nat.lt_or_ge k (xs).length with hlt | hge
  · have hg := get_at Tl.d hlt
    rw [Tl.d_eq] at hg
    have hs := l2Symbol_E xs[k].name
    have hw := l1In_E xs[k].arity 0 3
    have no : tlAt xs k = false → tabsB xs = false := fun h => by unfold tabsB; rw [allTo_no h hlt, Bool.false_and]
    cases ha : symB xs[k].name with
    | false =>
      rw [ha] at hs
      rw [no (by cases k with | zero => rw [tlAt_zero hlt, ha, Bool.false_and] | succ j => rw [tlAt_succ hlt, ha, Bool.false_and])]
      simp (disch := omega) only [go_sem, go_cond, zA, zB, zC, zD, zE, zF, zG, zH, ↓reduceIte, zI, reduceCtorEq, zJ, zK, hni, hg, hs, hw, m_spec_l2Symbol, m_spec_l1In]
    | true =>
      rw [ha] at hs
      cases hb : inI xs[k].arity 0 3 with
      | false =>
        rw [hb] at hw
        rw [no (by cases k with | zero => rw [tlAt_zero hlt, hb, Bool.and_false] | succ j => rw [tlAt_succ hlt, hb, Bool.false_and, Bool.and_false])]
        simp (disch := omega) only [go_sem, go_cond, zA, zB, zC, zD, zE, zF, zG, zH, ↓reduceIte, zI, reduceCtorEq, zJ, zK, hni, hg, hs, hw, m_spec_l2Symbol, m_spec_l1In]
      | true =>
        rw [hb] at hw
        cases k with
        | zero =>
          obtain rfl : i = 0 := hi
          simp (disch := omega) only [go_sem, go_cond, zA, zB, zC, zD, zE, zF, zG, zH, ↓reduceIte, zI, reduceCtorEq, zJ, zK, hni, hg, hs, hw, m_spec_l2Symbol, m_spec_l1In]
          exact ⟨1, ⟨1, rfl, hlt, by rw [allTo, hR, tlAt_zero hlt, ha, hb]; rfl⟩, by omega, by first | trivial | rfl⟩
        | succ j =>
          have hj : j < xs.length := by omega
          have hg2 := get_at Tl.d hj
          rw [Tl.d_eq] at hg2
          have hni2 : (i - 1).toNat = j := by omega
          have yes : keyLt xs[j] xs[j + 1] = true → allTo (tlAt xs) (j + 1 + 1) = true := fun h => by rw [allTo, hR, tlAt_succ hlt, ha, hb, h]; rfl
          have no2 : keyLt xs[j] xs[j + 1] = false → tabsB xs = false := fun h => no (by rw [tlAt_succ hlt, ha, hb, h]; rfl)
          cases h1 : strLt xs[j].name xs[j + 1].name with
          | true =>
            have h2 : dec (xs[j].name = xs[j + 1].name) = false := dec_f (strLt_ne h1)
            have hk2 : keyLt xs[j] xs[j + 1] = true := by unfold keyLt; rw [h1]; rfl
            simp (disch := omega) only [go_sem, go_cond, zA, zB, zC, zD, zE, zF, zG, zH, ↓reduceIte, zI, reduceCtorEq, zJ, zK, hni, hg, hs, hw, m_spec_l2Symbol, m_spec_l1In, hni2, hg2, h1, h2]
            exact ⟨i + 1, ⟨j + 1 + 1, by omega, hlt, yes hk2⟩, by omega, by first | trivial | rfl⟩
          | false =>
            cases h2 : dec (xs[j].name = xs[j + 1].name) with
            | false =>
              have hk2 : keyLt xs[j] xs[j + 1] = false := by unfold keyLt; rw [h1, h2]; rfl
              rw [no2 hk2]
              simp (disch := omega) only [go_sem, go_cond, zA, zB, zC, zD, zE, zF, zG, zH, ↓reduceIte, zI, reduceCtorEq, zJ, zK, hni, hg, hs, hw, m_spec_l2Symbol, m_spec_l1In, hni2, hg2, h1, h2]
            | true =>
              rcases Int.lt_or_le xs[j].arity xs[j + 1].arity with hq | hq
              · have h3 : dec (xs[j + 1].arity ≤ xs[j].arity) = false := dec_f (by omega)
                have hk2 : keyLt xs[j] xs[j + 1] = true := by unfold keyLt; rw [h1, h2, dec_t hq]; rfl
                simp (disch := omega) only [go_sem, go_cond, zA, zB, zC, zD, zE, zF, zG, zH, ↓reduceIte, zI, reduceCtorEq, zJ, zK, hni, hg, hs, hw, m_spec_l2Symbol, m_spec_l1In, hni2, hg2, h1, h2, h3]
                exact ⟨i + 1, ⟨j + 1 + 1, by omega, hlt, yes hk2⟩, by omega, by first | trivial | rfl⟩
              · have h3 : dec (xs[j + 1].arity ≤ xs[j].arity) = true := dec_t hq
                have hk2 : keyLt xs[j] xs[j + 1] = false := by unfold keyLt; rw [h1, h2, dec_f (by omega)]; rfl
                rw [no2 hk2]
                simp (disch := omega) only [go_sem, go_cond, zA, zB, zC, zD, zE, zF, zG, zH, ↓reduceIte, zI, reduceCtorEq, zJ, zK, hni, hg, hs, hw, m_spec_l2Symbol, m_spec_l1In, hni2, hg2, h1, h2, h3]
  · obtain rfl : k = xs.length := by omega
    simp (disch := omega) only [go_sem, go_cond, zA, zB, zC, zD, zE, zF, zG, zH, ↓reduceIte, zI, reduceCtorEq, zJ, zK, hni]
    unfold tabsB
    rw [hR, decide_eq_true h8]; rfl
set_option maxHeartbeats 8000000 in
theorem l10Good_E (m : Ip) (hm : m.tame) : E 27 [m.sv] [] = some (.bool m.ok, []) := by
  have h1 := l1In_E m.size 1 3
  have h2 := l10Tables_E m.tables hm.1
  unfold Ip.ok
  cases hs : inI m.size 1 3 with
  | false =>
    rw [hs] at h1
    rw [Bool.false_and]
    refine E_walk k_spec_l10Good m_spec_l10Good (of_decide_eq_true rfl) ?_
    simp (disch := omega) only [c_spec_l10Good, go_sem, go_cond, zA, zB, zC, zD, zE, zF, zG, zH, ↓reduceIte, zI, reduceCtorEq, zJ, zK, h1, h2, m_spec_l1In, m_spec_l10Tables]
  | true =>
    rw [hs] at h1
    rw [Bool.true_and]
    cases ht : tabsB m.tables with
    | false =>
      rw [ht] at h2
      rw [Bool.false_and]
      refine E_walk k_spec_l10Good m_spec_l10Good (of_decide_eq_true rfl) ?_
      simp (disch := omega) only [c_spec_l10Good, go_sem, go_cond, zA, zB, zC, zD, zE, zF, zG, zH, ↓reduceIte, zI, reduceCtorEq, zJ, zK, h1, h2, m_spec_l1In, m_spec_l10Tables]
    | true =>
      rw [ht] at h2
      rw [Bool.true_and]
      obtain ⟨s1, s3⟩ := inI_iff.1 hs
      have hl := hm.1
      refine E_walk k_spec_l10Good m_spec_l10Good (of_decide_eq_true rfl) ?_
      simp (disch := omega) only [c_spec_l10Good, go_sem, go_cond, zA, zB, zC, zD, zE, zF, zG, zH, ↓reduceIte, zI, reduceCtorEq, zJ, zK, h1, h2, m_spec_l1In, m_spec_l10Tables]
      refine go_loop (α := Int) (fun a => ⟨slots 58 0 [(1, .ptr 0 0), (3, .int .i64 a)], [.box 35 [.int .i64 m.size, .arr (m.tables.map Tl.d)]]⟩) (fun a => ∃ k : Nat, a = k ∧ k ≤ (m.tables).length ∧ (m.tables.drop k).all (tlB m.size) = m.tables.all (tlB m.size)) (fun a => (m.tables).length - (a).toNat) 0 ⟨0, rfl, Nat.zero_le _, by rw [List.drop_zero]⟩ (by simp (disch := omega) only [go_sem, go_cond, zA, zB, zC, zD, zE, zF, zG, zH, ↓reduceIte, zI, reduceCtorEq, zJ, zK]) ?_
      rintro i ⟨k, hi, hk, hR⟩
      have hni : i.toNat = k := by omega
      have hni1 : (i + 1).toNat = k + 1 := by omega
      rcases Nat.lt_or_ge k (m.tables).length with hlt | hge
      · have hg := get_at Tl.d hlt
        rw [Tl.d_eq] at hg
        obtain ⟨a0, a3⟩ := tabsB_arity ht (List.getElem_mem hlt)
        have hvl := hm.2 _ (List.getElem_mem hlt)
        have hp := l10Power_E m.size m.tables[k].arity s1 s3 a0 (by omega)
        have hps := pw_small s1 s3 (k := m.tables[k].arity.toNat) (by omega)
        rw [List.drop_eq_getElem_cons hlt, List.all_cons] at hR
        have hT : tlB m.size m.tables[k] = (dec ((m.tables[k].vals.length : Int) = pw m.size m.tables[k].arity.toNat) && m.tables[k].vals.all fun v => inI v 0 (kinds m.size m.tables[k] - 1)) := rfl
        have hk0 : 1 ≤ kinds m.size m.tables[k] ∧ kinds m.size m.tables[k] ≤ 3 := by unfold kinds; split <;> omega
        have step : ∀ b : Bool, m.tables[k].pred = b → kinds m.size m.tables[k] = (if b then 2 else m.size) := fun b hb => by unfold kinds; rw [hb]
        cases hd : dec ((m.tables[k].vals.length : Int) = pw m.size m.tables[k].arity.toNat) with
        | false =>
          rw [hT, hd, Bool.false_and, Bool.false_and] at hR
          rw [← hR]
          cases hb : m.tables[k].pred
          · simp (disch := omega) only [go_sem, go_cond, zA, zB, zC, zD, zE, zF, zG, zH, ↓reduceIte, zI, reduceCtorEq, zJ, zK, hni, hg, hp, hd, hb, m_spec_l10Power]
          · simp (disch := omega) only [go_sem, go_cond, zA, zB, zC, zD, zE, zF, zG, zH, ↓reduceIte, zI, reduceCtorEq, zJ, zK, hni, hg, hp, hd, hb, m_spec_l10Power]
        | true =>
          rw [hT, hd, Bool.true_and] at hR
          have fin : ∀ (b : Bool), m.tables[k].pred = b → True := fun _ _ => trivial
          cases hb : m.tables[k].pred
          all_goals
            have hkk := step _ hb
            simp only [if_true, if_false, Bool.false_eq_true] at hkk
            simp (disch := omega) only [go_sem, go_cond, zA, zB, zC, zD, zE, zF, zG, zH, ↓reduceIte, zI, reduceCtorEq, zJ, zK, hni, hg, hp, hd, hb, m_spec_l10Power]
            refine go_loop (α := Int) (fun q => ⟨slots 58 0 [(1, .ptr 0 0), (3, .int .i64 i), (4, .ptr 1 0), (5, .int .i64 (kinds m.size m.tables[k] - 1)), (6, .int .i64 q)], [.box 35 [.int .i64 m.size, .arr (m.tables.map Tl.d)], .box 97 [.str m.tables[k].name, .int .i64 m.tables[k].arity, .bool m.tables[k].pred, .arr (m.tables[k].vals.map fun n => [D.int n])]]⟩) (fun q => ∃ n : Nat, q = n ∧ n ≤ m.tables[k].vals.length ∧ ((m.tables[k].vals.drop n).all fun v => inI v 0 (kinds m.size m.tables[k] - 1)) = (m.tables[k].vals.all fun v => inI v 0 (kinds m.size m.tables[k] - 1))) (fun q => m.tables[k].vals.length - q.toNat) 0 ⟨0, rfl, Nat.zero_le _, by rw [List.drop_zero]⟩ (by simp (disch := omega) only [go_sem, go_cond, zA, zB, zC, zD, zE, zF, zG, zH, ↓reduceIte, zI, reduceCtorEq, zJ, zK, hkk, hb, Int.reduceSub]) ?_
            rintro q ⟨n, hq, hn, hQ⟩
            have hqn : q.toNat = n := by omega
            rcases Nat.lt_or_ge n m.tables[k].vals.length with hlt2 | hge2
            · have hgv := get_at (fun n => [D.int n]) hlt2
              have hv := l1In_E m.tables[k].vals[n] 0 (kinds m.size m.tables[k] - 1)
              rw [List.drop_eq_getElem_cons hlt2, List.all_cons] at hQ
              cases hw : inI m.tables[k].vals[n] 0 (kinds m.size m.tables[k] - 1) with
              | false =>
                rw [hw] at hv hQ
                rw [Bool.false_and] at hQ
                rw [← hQ, Bool.false_and] at hR
                rw [← hR]
                simp (disch := omega) only [go_sem, go_cond, zA, zB, zC, zD, zE, zF, zG, zH, ↓reduceIte, zI, reduceCtorEq, zJ, zK, hqn, hgv, hv, m_spec_l1In]
              | true =>
                rw [hw] at hv hQ
                rw [Bool.true_and] at hQ
                simp (disch := omega) only [go_sem, go_cond, zA, zB, zC, zD, zE, zF, zG, zH, ↓reduceIte, zI, reduceCtorEq, zJ, zK, hqn, hgv, hv, m_spec_l1In]
                exact ⟨q + 1, ⟨n + 1, by omega, hlt2, hQ⟩, by omega, by first | trivial | rfl | simp only [hb]⟩
            · rw [List.drop_eq_nil_of_le hge2, List.all_nil] at hQ
              rw [← hQ, Bool.true_and] at hR
              simp (disch := omega) only [go_sem, go_cond, zA, zB, zC, zD, zE, zF, zG, zH, ↓reduceIte, zI, reduceCtorEq, zJ, zK, hqn]
              exact ⟨i + 1, ⟨k + 1, by omega, hlt, hR⟩, by omega, by first | trivial | rfl⟩
      · rw [List.drop_eq_nil_of_le hge, List.all_nil] at hR
        rw [← hR]
        simp (disch := omega) only [go_sem, go_cond, zA, zB, zC, zD, zE, zF, zG, zH, ↓reduceIte, zI, reduceCtorEq, zJ, zK, hni]
def c_impl_Interpretation_table : SC := (.seq (.reg [⟨some 4, none, .boxv 35 2 (.t 0)⟩, ⟨some 5, none, .boxv 9 1 (.t 1)⟩, ⟨some 6, none, .boxv 3 1 (.t 2)⟩, ⟨some 7, none, .boxv 4 1 (.t 3)⟩, ⟨(some 8), none, (.alloc 97 [(.str ⟨#[]⟩), (.int .i64 0), (.bool false), .nil])⟩, ⟨some 9, none, .mv (.c (.bool false))⟩]) (.seq (.reg [⟨some 11, none, .faddr 1 (.t 4)⟩, ⟨some 12, none, .load false 1 (.t 11)⟩, ⟨some 13, none, .mkfn 189 [(.t 5), (.t 6), (.t 7)]⟩, ⟨some 14, none, .call 102 [(.t 12), (.t 13)]⟩, ⟨some 10, none, .mv (.t 14)⟩]) (.seq (.seq (.reg [⟨some 15, none, .mv (.t 10)⟩, ⟨some 16, none, .bin .lss false (.t 15) (.c (.int .i64 0))⟩]) (.cond (.t 16) (.seq (.reg [⟨(some 17), none, (.build [(.str ⟨#[]⟩), (.int .i64 0), (.bool false), .nil] [])⟩, ⟨none, none, (.store 4 (.t 8) (.t 17))⟩, ⟨some 9, none, .mv (.c (.bool false))⟩]) .ret) .skip)) (.seq (.reg [⟨some 18, none, .faddr 1 (.t 4)⟩, ⟨some 19, none, .load false 1 (.t 18)⟩, ⟨some 20, none, .mv (.t 10)⟩, ⟨some 21, none, .iaddr 4 (.t 19) (.t 20)⟩, ⟨some 22, none, .load true 4 (.t 21)⟩, ⟨none, none, (.store 4 (.t 8) (.t 22))⟩, ⟨some 9, none, .mv (.c (.bool true))⟩]) .ret))))
theorem k_impl_Interpretation_table : codeOf Tryz.prog 169 = some ⟨23, c_impl_Interpretation_table, [(.cell 8 true 4), (.tmp 9)]⟩ := by kernel_rfl
theorem m_impl_Interpretation_table : modes 169 = ⟨[], .asis, none, false⟩ := by unfold modes; rfl
def c_impl_Interpretation_table_1 : SC := (.seq (.reg [⟨some 4, none, .boxv 97 4 (.t 0)⟩, ⟨some 5, none, .mv (.c (.bool false))⟩]) (.seq (.reg [⟨some 6, none, .faddr 0 (.t 4)⟩, ⟨some 7, none, .load false 1 (.t 6)⟩, ⟨some 8, none, .load false 1 (.t 1)⟩, ⟨some 9, none, .bin .eql false (.t 7) (.t 8)⟩, ⟨some 10, none, .mv (.t 9)⟩, ⟨(some 11), (some (10, true)), (.faddr 1 (.t 4))⟩, ⟨(some 12), (some (10, true)), (.load false 1 (.t 11))⟩, ⟨(some 13), (some (10, true)), (.load false 1 (.t 2))⟩, ⟨(some 14), (some (10, true)), (.bin .eql false (.t 12) (.t 13))⟩, ⟨some 15, none, .pick (.t 10) (.t 14) (.c (.bool false))⟩, ⟨some 16, none, .mv (.t 15)⟩, ⟨(some 17), (some (16, true)), (.faddr 2 (.t 4))⟩, ⟨(some 18), (some (16, true)), (.load false 1 (.t 17))⟩, ⟨(some 19), (some (16, true)), (.load false 1 (.t 3))⟩, ⟨(some 20), (some (16, true)), (.bin .eql true (.t 18) (.t 19))⟩, ⟨some 21, none, .pick (.t 16) (.t 20) (.c (.bool false))⟩, ⟨some 5, none, .mv (.t 21)⟩]) .ret))
theorem k_impl_Interpretation_table_1 : codeOf Tryz.prog 189 = some ⟨22, c_impl_Interpretation_table_1, [(.tmp 5)]⟩ := by kernel_rfl
theorem m_impl_Interpretation_table_1 : modes 189 = ⟨[], .asis, none, false⟩ := by unfold modes; rfl
theorem g_impl_Interpretation_table_1 : goFn Tryz.prog 189 = true := by kernel_rfl
def c_impl_Interpretation_lookUp : SC := (.seq (.reg [⟨some 4, none, .boxv 35 2 (.t 0)⟩, ⟨some 5, none, .boxv 105 2 (.t 1)⟩, ⟨some 8, none, .mv (.c (.int .i64 0))⟩, ⟨some 9, none, .mv (.c (.bool false))⟩]) (.seq (.reg [⟨some 18, none, .load true 2 (.t 4)⟩, ⟨some 19, none, .faddr 0 (.t 5)⟩, ⟨some 20, none, .load false 1 (.t 19)⟩, ⟨some 21, none, .faddr 1 (.t 5)⟩, ⟨some 22, none, .load false 1 (.t 21)⟩, ⟨some 23, none, .len false (.t 22)⟩, ⟨some 24, none, .mv (.t 3)⟩, ⟨some 25, none, .call 169 [(.t 18), (.t 20), (.t 23), (.t 24)]⟩, ⟨some 17, none, .mv (.t 25)⟩, ⟨some 26, none, .ext (.t 17) 0⟩, ⟨some 27, none, .ext (.t 17) 1⟩, ⟨(some 10), none, (.alloc 97 [(.str ⟨#[]⟩), (.int .i64 0), (.bool false), .nil])⟩, ⟨none, none, (.store 4 (.t 10) (.t 26))⟩, ⟨some 11, none, .mv (.t 27)⟩]) (.seq (.seq (.reg [⟨some 28, none, .mv (.t 11)⟩, ⟨some 29, none, .un .not (.t 28)⟩]) (.cond (.t 29) (.seq (.reg [⟨some 8, none, .mv (.c (.int .i64 0))⟩, ⟨some 9, none, .mv (.c (.bool false))⟩]) .ret) .skip)) (.seq (.reg [⟨some 12, none, .mv (.c (.int .i64 0))⟩]) (.seq (.seq (.reg [⟨some 30, none, .faddr 1 (.t 5)⟩, ⟨some 31, none, .load false 1 (.t 30)⟩, ⟨some 32, none, .len false (.t 31)⟩, ⟨some 33, none, .mv (.c (.int .i64 0))⟩]) (.block 0 (.loop [0, 0, 1, 0, 1, 0, 0, 0, 0, 0, 1, 0, 1, 0, 0, 0, 0, 0, 0, 0, 0, 0, 0, 0, 0, 0, 0, 0, 0, 0, 0, 1, 1, 1, 0, 0, 0, 0, 0, 0, 0, 0, 0, 0, 0, 0, 0, 0, 0, 0, 0, 0, 0, 0, 0, 0, 0, 0] (.seq (.reg [⟨some 34, none, .bin .lss false (.t 33) (.t 32)⟩]) (.seq (.cond (.t 34) .skip (.exit 0)) (.seq (.block 1 (.seq (.reg [⟨some 35, none, .iaddr 2 (.t 31) (.t 33)⟩, ⟨some 36, none, .load true 2 (.t 35)⟩, ⟨(some 14), none, (.alloc 105 [(.str ⟨#[]⟩), .nil])⟩, ⟨none, none, (.store 2 (.t 14) (.t 36))⟩]) (.seq (.reg [⟨some 38, none, .load true 2 (.t 4)⟩, ⟨some 39, none, .load true 2 (.t 14)⟩, ⟨some 40, none, .mv (.t 2)⟩, ⟨some 41, none, .call 142 [(.t 38), (.t 39), (.t 40)]⟩, ⟨some 37, none, .mv (.t 41)⟩, ⟨some 42, none, .ext (.t 37) 0⟩, ⟨some 43, none, .ext (.t 37) 1⟩, ⟨some 15, none, .mv (.t 42)⟩, ⟨some 16, none, .mv (.t 43)⟩]) (.seq (.seq (.reg [⟨some 44, none, .mv (.t 16)⟩, ⟨some 45, none, .un .not (.t 44)⟩]) (.cond (.t 45) (.seq (.reg [⟨some 8, none, .mv (.c (.int .i64 0))⟩, ⟨some 9, none, .mv (.c (.bool false))⟩]) .ret) .skip)) (.reg [⟨some 46, none, .mv (.t 12)⟩, ⟨some 47, none, .faddr 0 (.t 4)⟩, ⟨some 48, none, .load false 1 (.t 47)⟩, ⟨some 49, none, .bin .mul false (.t 46) (.t 48)⟩, ⟨some 50, none, .mv (.t 15)⟩, ⟨some 51, none, .bin .add false (.t 49) (.t 50)⟩, ⟨some 12, none, .mv (.t 51)⟩]))))) (.reg [⟨some 52, none, .bin .add false (.t 33) (.c (.int .i64 1))⟩, ⟨some 33, none, .mv (.t 52)⟩]))))))) (.seq (.reg [⟨some 53, none, .faddr 3 (.t 10)⟩, ⟨some 54, none, .load false 1 (.t 53)⟩, ⟨some 55, none, .mv (.t 12)⟩, ⟨some 56, none, .iaddr 1 (.t 54) (.t 55)⟩, ⟨some 57, none, .load false 1 (.t 56)⟩, ⟨some 8, none, .mv (.t 57)⟩, ⟨some 9, none, .mv (.c (.bool true))⟩]) .ret))))))
theorem k_impl_Interpretation_lookUp : codeOf Tryz.prog 143 = some ⟨58, c_impl_Interpretation_lookUp, [(.tmp 8), (.tmp 9)]⟩ := by kernel_rfl
theorem m_impl_Interpretation_lookUp : modes 143 = ⟨[], .asis, none, false⟩ := by unfold modes; rfl
def c_impl_Interpretation_value : SC := (.seq (.reg [⟨some 3, none, .boxv 35 2 (.t 0)⟩, ⟨some 4, none, .boxv 105 2 (.t 1)⟩, ⟨some 6, none, .mv (.c (.int .i64 0))⟩, ⟨some 7, none, .mv (.c (.bool false))⟩]) (.seq (.seq (.reg [⟨some 10, none, .load true 2 (.t 4)⟩, ⟨some 11, none, .call 137 [(.t 10)]⟩]) (.cond (.t 11) (.seq (.reg [⟨some 13, none, .mv (.t 2)⟩, ⟨some 14, none, .faddr 0 (.t 4)⟩, ⟨some 15, none, .load false 1 (.t 14)⟩, ⟨some 16, none, .mget true true false [(.int .i64 0)] (.t 13) (.t 15)⟩, ⟨some 12, none, .mv (.t 16)⟩, ⟨some 17, none, .ext (.t 12) 0⟩, ⟨some 18, none, .ext (.t 12) 1⟩, ⟨some 8, none, .mv (.t 17)⟩, ⟨some 9, none, .mv (.t 18)⟩]) (.seq (.reg [⟨some 19, none, .mv (.t 8)⟩, ⟨some 20, none, .mv (.t 9)⟩, ⟨some 6, none, .mv (.t 19)⟩, ⟨some 7, none, .mv (.t 20)⟩]) .ret)) .skip)) (.seq (.reg [⟨some 21, none, .load true 2 (.t 3)⟩, ⟨some 22, none, .load true 2 (.t 4)⟩, ⟨some 23, none, .mv (.t 2)⟩, ⟨some 24, none, .call 143 [(.t 21), (.t 22), (.t 23), (.c (.bool false))]⟩, ⟨some 25, none, .ext (.t 24) 0⟩, ⟨some 26, none, .ext (.t 24) 1⟩, ⟨some 6, none, .mv (.t 25)⟩, ⟨some 7, none, .mv (.t 26)⟩]) .ret)))
theorem k_impl_Interpretation_value : codeOf Tryz.prog 142 = some ⟨27, c_impl_Interpretation_value, [(.tmp 6), (.tmp 7)]⟩ := by kernel_rfl
theorem m_impl_Interpretation_value : modes 142 = ⟨[], .asis, none, false⟩ := by unfold modes; rfl
def c_spec_l10Find : SC := (.seq (.reg [⟨some 6, none, .mv (.c (.int .i64 0))⟩]) (.seq (.seq (.reg [⟨some 7, none, .mv (.c (.int .i64 0))⟩]) (.block 0 (.loop [1, 1, 1, 0, 0, 0, 0, 1, 0, 0, 0, 0, 0, 0, 0, 0, 0, 0, 0, 0, 0, 0, 0, 0, 0, 0, 0, 0, 0, 0, 0] (.seq (.seq (.reg [⟨some 8, none, .mv (.t 7)⟩, ⟨some 9, none, .mv (.t 0)⟩, ⟨some 10, none, .len false (.t 9)⟩, ⟨some 11, none, .bin .lss false (.t 8) (.t 10)⟩]) (.cond (.t 11) .skip (.exit 0))) (.seq (.block 1 (.seq (.reg [⟨some 14, none, .mv (.t 0)⟩, ⟨some 15, none, .mv (.t 7)⟩, ⟨some 16, none, .iaddr 4 (.t 14) (.t 15)⟩, ⟨some 17, none, .faddr 0 (.t 16)⟩, ⟨some 18, none, .load false 1 (.t 17)⟩, ⟨some 19, none, .mv (.t 1)⟩, ⟨some 20, none, .bin .eql false (.t 18) (.t 19)⟩, ⟨some 21, none, .mv (.t 20)⟩, ⟨(some 22), (some (21, true)), (.mv (.t 0))⟩, ⟨(some 23), (some (21, true)), (.mv (.t 7))⟩, ⟨(some 24), (some (21, true)), (.iaddr 4 (.t 22) (.t 23))⟩, ⟨(some 25), (some (21, true)), (.faddr 1 (.t 24))⟩, ⟨(some 26), (some (21, true)), (.load false 1 (.t 25))⟩, ⟨(some 27), (some (21, true)), (.mv (.t 2))⟩, ⟨(some 28), (some (21, true)), (.bin .eql false (.t 26) (.t 27))⟩, ⟨some 29, none, .pick (.t 21) (.t 28) (.c (.bool false))⟩]) (.cond (.t 29) (.seq (.reg [⟨some 30, none, .mv (.t 7)⟩, ⟨some 6, none, .mv (.t 30)⟩]) .ret) .skip))) (.reg [⟨some 12, none, .mv (.t 7)⟩, ⟨some 13, none, .bin .add false (.t 12) (.c (.int .i64 1))⟩, ⟨some 7, none, .mv (.t 13)⟩])))))) (.seq (.reg [⟨some 6, none, .mv (.c (.int .i64 (-(0 + 1))))⟩]) .ret)))
theorem k_spec_l10Find : codeOf Tryz.prog 97 = some ⟨31, c_spec_l10Find, [(.tmp 6)]⟩ := by kernel_rfl
theorem m_spec_l10Find : modes 97 = ⟨[], .asis, none, false⟩ := by unfold modes; rfl
def c_spec_l10Value : SC := (.seq (.reg [⟨some 4, none, .boxv 35 2 (.t 0)⟩, ⟨some 6, none, .boxv 105 2 (.t 2)⟩, ⟨some 8, none, .mv (.c (.int .i64 0))⟩, ⟨some 9, none, .mv (.c (.bool false))⟩]) (.seq (.seq (.reg [⟨some 16, none, .faddr 0 (.t 6)⟩, ⟨some 17, none, .load false 1 (.t 16)⟩, ⟨some 18, none, .call 79 [(.t 17)]⟩]) (.cond (.t 18) (.seq (.seq (.reg [⟨some 10, none, .mv (.c (.int .i64 0))⟩]) (.block 0 (.loop [0, 1, 0, 0, 0, 0, 1, 0, 0, 0, 1, 0, 0, 0, 0, 0, 0, 0, 0, 0, 0, 0, 0, 0, 0, 0, 0, 0, 0, 0, 0, 0, 0, 0, 0, 0, 0, 0, 0, 0, 0, 0, 0, 0, 0, 0, 0, 0, 0, 0, 0, 0, 0, 0, 0, 0, 0, 0, 0, 0, 0, 0, 0, 0, 0, 0, 0, 0, 0, 0, 0, 0, 0, 0, 0, 0, 0, 0, 0, 0, 0, 0, 0, 0, 0, 0, 0, 0, 0, 0, 0, 0, 0, 0, 0, 0, 0, 0, 0, 0, 0, 0, 0, 0, 0, 0, 0, 0] (.seq (.seq (.reg [⟨some 19, none, .mv (.t 10)⟩, ⟨some 20, none, .mv (.t 1)⟩, ⟨some 21, none, .len false (.t 20)⟩, ⟨some 22, none, .bin .lss false (.t 19) (.t 21)⟩]) (.cond (.t 22) .skip (.exit 0))) (.seq (.block 1 (.seq (.dreg [[], [], [0, 1], [2, 0, 1], [3, 2, 0, 1], [], [5], [4, 3, 2, 0, 1, 6, 5]] [⟨some 25, none, .mv (.t 1)⟩, ⟨some 26, none, .mv (.t 10)⟩, ⟨some 27, none, .iaddr 2 (.t 25) (.t 26)⟩, ⟨some 28, none, .faddr 0 (.t 27)⟩, ⟨some 29, none, .load false 1 (.t 28)⟩, ⟨some 30, none, .faddr 0 (.t 6)⟩, ⟨some 31, none, .load false 1 (.t 30)⟩, ⟨some 32, none, .bin .eql false (.t 29) (.t 31)⟩]) (.cond (.t 32) (.seq (.reg [⟨some 33, none, .mv (.t 1)⟩, ⟨some 34, none, .mv (.t 10)⟩, ⟨some 35, none, .iaddr 2 (.t 33) (.t 34)⟩, ⟨some 36, none, .faddr 1 (.t 35)⟩, ⟨some 37, none, .load false 1 (.t 36)⟩, ⟨some 8, none, .mv (.t 37)⟩, ⟨some 9, none, .mv (.c (.bool true))⟩]) .ret) .skip))) (.reg [⟨some 23, none, .mv (.t 10)⟩, ⟨some 24, none, .bin .add false (.t 23) (.c (.int .i64 1))⟩, ⟨some 10, none, .mv (.t 24)⟩])))))) (.seq (.reg [⟨some 8, none, .mv (.c (.int .i64 0))⟩, ⟨some 9, none, .mv (.c (.bool false))⟩]) .ret)) .skip)) (.seq (.reg [⟨some 11, none, .mv (.c (.int .i64 0))⟩]) (.seq (.seq (.reg [⟨some 12, none, .mv (.c (.int .i64 0))⟩]) (.block 2 (.loop [0, 1, 0, 1, 1, 0, 1, 0, 0, 0, 0, 1, 1, 0, 0, 0, 0, 0, 0, 0, 0, 0, 0, 0, 0, 0, 0, 0, 0, 0, 0, 0, 0, 0, 0, 0, 0, 0, 0, 0, 0, 0, 0, 0, 0, 0, 0, 0, 0, 0, 0, 0, 0, 0, 0, 0, 0, 0, 0, 0, 0, 0, 0, 0, 0, 0, 0, 0, 0, 0, 0, 0, 0, 0, 0, 0, 0, 0, 0, 0, 0, 0, 0, 0, 0, 0, 0, 0, 0, 0, 0, 0, 0, 0, 0, 0, 0, 0, 0, 0, 0, 0, 0, 0, 0, 0, 0, 0] (.seq (.seq (.reg [⟨some 38, none, .mv (.t 12)⟩, ⟨some 39, none, .faddr 1 (.t 6)⟩, ⟨some 40, none, .load false 1 (.t 39)⟩, ⟨some 41, none, .len false (.t 40)⟩, ⟨some 42, none, .bin .lss false (.t 38) (.t 41)⟩]) (.cond (.t 42) .skip (.exit 2))) (.seq (.block 3 (.seq (.dreg [[], [], [], [2], [], [3, 2, 4], [5, 3, 2, 4], [0, 1, 6, 5, 3, 2, 4], [7, 0, 1, 6, 5, 3, 2, 4], [8, 7, 0, 1, 6, 5, 3, 2, 4], [8, 7, 0, 1, 6, 5, 3, 2, 4], [9, 8, 7, 0, 1, 6, 5, 3, 2, 4], [10, 8, 7, 0, 1, 6, 5, 3, 2, 4, 11, 9]] [⟨some 46, none, .load true 2 (.t 4)⟩, ⟨some 47, none, .mv (.t 1)⟩, ⟨some 48, none, .faddr 1 (.t 6)⟩, ⟨some 49, none, .load false 1 (.t 48)⟩, ⟨some 50, none, .mv (.t 12)⟩, ⟨some 51, none, .iaddr 2 (.t 49) (.t 50)⟩, ⟨some 52, none, .load true 2 (.t 51)⟩, ⟨some 53, none, .call 58 [(.t 46), (.t 47), (.t 52), (.c (.bool false))]⟩, ⟨some 45, none, .mv (.t 53)⟩, ⟨some 54, none, .ext (.t 45) 0⟩, ⟨some 55, none, .ext (.t 45) 1⟩, ⟨some 13, none, .mv (.t 54)⟩, ⟨some 14, none, .mv (.t 55)⟩]) (.seq (.seq (.reg [⟨some 56, none, .mv (.t 14)⟩, ⟨some 57, none, .un .not (.t 56)⟩]) (.cond (.t 57) (.seq (.reg [⟨some 8, none, .mv (.c (.int .i64 0))⟩, ⟨some 9, none, .mv (.c (.bool false))⟩]) .ret) .skip)) (.reg [⟨some 58, none, .mv (.t 11)⟩, ⟨some 59, none, .faddr 0 (.t 4)⟩, ⟨some 60, none, .load false 1 (.t 59)⟩, ⟨some 61, none, .bin .mul false (.t 58) (.t 60)⟩, ⟨some 62, none, .mv (.t 13)⟩, ⟨some 63, none, .bin .add false (.t 61) (.t 62)⟩, ⟨some 11, none, .mv (.t 63)⟩])))) (.reg [⟨some 43, none, .mv (.t 12)⟩, ⟨some 44, none, .bin .add false (.t 43) (.c (.int .i64 1))⟩, ⟨some 12, none, .mv (.t 44)⟩])))))) (.seq (.seq (.reg [⟨some 64, none, .mv (.t 3)⟩, ⟨some 65, none, .mv (.t 64)⟩, ⟨(some 66), (some (65, true)), (.faddr 0 (.t 6))⟩, ⟨(some 67), (some (65, true)), (.load false 1 (.t 66))⟩, ⟨(some 68), (some (65, true)), (.bin .eql false (.t 67) (.c (.str ⟨#[61]⟩)))⟩, ⟨some 69, none, .pick (.t 65) (.t 68) (.c (.bool false))⟩]) (.cond (.t 69) (.seq (.seq (.dreg [[], [], [1], [0, 2, 1], [], [], [5], [4, 6, 5], [3, 0, 2, 1, 7, 4, 6, 5]] [⟨some 70, none, .mv (.t 11)⟩, ⟨some 71, none, .faddr 0 (.t 4)⟩, ⟨some 72, none, .load false 1 (.t 71)⟩, ⟨some 73, none, .bin .rem false (.t 70) (.t 72)⟩, ⟨some 74, none, .mv (.t 11)⟩, ⟨some 75, none, .faddr 0 (.t 4)⟩, ⟨some 76, none, .load false 1 (.t 75)⟩, ⟨some 77, none, .bin .quo false (.t 74) (.t 76)⟩, ⟨some 78, none, .bin .eql false (.t 73) (.t 77)⟩]) (.cond (.t 78) (.seq (.reg [⟨some 8, none, .mv (.c (.int .i64 1))⟩, ⟨some 9, none, .mv (.c (.bool true))⟩]) .ret) .skip)) (.seq (.reg [⟨some 8, none, .mv (.c (.int .i64 0))⟩, ⟨some 9, none, .mv (.c (.bool true))⟩]) .ret)) .skip)) (.seq (.reg [⟨some 79, none, .faddr 1 (.t 4)⟩, ⟨some 80, none, .load false 1 (.t 79)⟩, ⟨some 81, none, .faddr 0 (.t 6)⟩, ⟨some 82, none, .load false 1 (.t 81)⟩, ⟨some 83, none, .faddr 1 (.t 6)⟩, ⟨some 84, none, .load false 1 (.t 83)⟩, ⟨some 85, none, .len false (.t 84)⟩, ⟨some 86, none, .call 97 [(.t 80), (.t 82), (.t 85)]⟩, ⟨some 15, none, .mv (.t 86)⟩]) (.seq (.seq (.reg [⟨some 87, none, .mv (.t 15)⟩, ⟨some 88, none, .bin .lss false (.t 87) (.c (.int .i64 0))⟩, ⟨some 89, none, .mv (.t 88)⟩, ⟨(some 90), (some (89, false)), (.faddr 1 (.t 4))⟩, ⟨(some 91), (some (89, false)), (.load false 1 (.t 90))⟩, ⟨(some 92), (some (89, false)), (.mv (.t 15))⟩, ⟨(some 93), (some (89, false)), (.iaddr 4 (.t 91) (.t 92))⟩, ⟨(some 94), (some (89, false)), (.faddr 2 (.t 93))⟩, ⟨(some 95), (some (89, false)), (.load false 1 (.t 94))⟩, ⟨(some 96), (some (89, false)), (.mv (.t 3))⟩, ⟨(some 97), (some (89, false)), (.bin .neq true (.t 95) (.t 96))⟩, ⟨some 98, none, .pick (.t 89) (.c (.bool true)) (.t 97)⟩]) (.cond (.t 98) (.seq (.reg [⟨some 8, none, .mv (.c (.int .i64 0))⟩, ⟨some 9, none, .mv (.c (.bool false))⟩]) .ret) .skip)) (.seq (.reg [⟨some 99, none, .faddr 1 (.t 4)⟩, ⟨some 100, none, .load false 1 (.t 99)⟩, ⟨some 101, none, .mv (.t 15)⟩, ⟨some 102, none, .iaddr 4 (.t 100) (.t 101)⟩, ⟨some 103, none, .faddr 3 (.t 102)⟩, ⟨some 104, none, .load false 1 (.t 103)⟩, ⟨some 105, none, .mv (.t 11)⟩, ⟨some 106, none, .iaddr 1 (.t 104) (.t 105)⟩, ⟨some 107, none, .load false 1 (.t 106)⟩, ⟨some 8, none, .mv (.t 107)⟩, ⟨some 9, none, .mv (.c (.bool true))⟩]) .ret))))))))
theorem k_spec_l10Value : codeOf Tryz.prog 58 = some ⟨108, c_spec_l10Value, [(.tmp 8), (.tmp 9)]⟩ := by kernel_rfl
theorem m_spec_l10Value : modes 58 = ⟨[], .asis, none, false⟩ := by unfold modes; rfl
theorem idxP_find {α : Type} (p : α → Bool) : ∀ (xs : List α) (i : Int), (xs.find? p = none ∧ idxP p xs i = -1) ∨ ∃ k t, ∃ h : k < xs.length, xs.find? p = some t ∧ idxP p xs i = i + (k : Nat) ∧ xs[k] = t
  | [], i => .inl ⟨rfl, rfl⟩
  | x :: xs, i => by
    rw [idxP, List.find?_cons]
    cases hp : p x with
    | true => exact .inr ⟨0, x, by simp, rfl, by simp, rfl⟩
    | false =>
      simp only [Bool.false_eq_true, if_false]
      rcases idxP_find p xs (i + 1) with h | ⟨k, t, h, h1, h2, h3⟩
      · exact .inl h
      · exact .inr ⟨k + 1, t, by simpa using h, h1, by rw [h2]; omega, by simpa using h3⟩
theorem isTab_E (n : ByteArray) (z : Int) (b : Bool) (t : Tl) : E 189 [t.sv, .ptr 0 0, .ptr 1 0, .ptr 2 0] [.box 9 [.str n], .box 3 [.int .i64 z], .box 4 [.bool b]] = some (.bool (dec (t.name = n) && (dec (t.arity = z) && (t.pred == b))), [.box 9 [.str n], .box 3 [.int .i64 z], .box 4 [.bool b]]) := by
  cases h1 : dec (t.name = n) with
  | false =>
    rw [Bool.false_and]
    refine E_walk k_impl_Interpretation_table_1 m_impl_Interpretation_table_1 (of_decide_eq_true rfl) ?_
    simp (disch := omega) only [c_impl_Interpretation_table_1, go_sem, go_cond, zA, zB, zC, zD, zE, zF, zG, zH, ↓reduceIte, zI, reduceCtorEq, zJ, zK, h1]
  | true =>
    rw [Bool.true_and]
    cases h2 : dec (t.arity = z) with
    | false =>
      rw [Bool.false_and]
      refine E_walk k_impl_Interpretation_table_1 m_impl_Interpretation_table_1 (of_decide_eq_true rfl) ?_
      simp (disch := omega) only [c_impl_Interpretation_table_1, go_sem, go_cond, zA, zB, zC, zD, zE, zF, zG, zH, ↓reduceIte, zI, reduceCtorEq, zJ, zK, h1, h2]
    | true =>
      rw [Bool.true_and]
      refine E_walk k_impl_Interpretation_table_1 m_impl_Interpretation_table_1 (of_decide_eq_true rfl) ?_
      simp (disch := omega) only [c_impl_Interpretation_table_1, go_sem, go_cond, zA, zB, zC, zD, zE, zF, zG, zH, ↓reduceIte, zI, reduceCtorEq, zJ, zK, h1, h2]
set_option maxHeartbeats 2000000 in
theorem indexTb_E (n : ByteArray) (z : Int) (b : Bool) (xs : List Tl) (hl : xs.length ≤ 1099511627776) : E 102 [.arr (xs.map Tl.d), .fn 189 [.ptr 0 0, .ptr 1 0, .ptr 2 0]] [.box 9 [.str n], .box 3 [.int .i64 z], .box 4 [.bool b]] = some (.int .i64 (idxP (fun t => dec (t.name = n) && (dec (t.arity = z) && (t.pred == b))) xs 0), [.box 9 [.str n], .box 3 [.int .i64 z], .box 4 [.bool b]]) := by
  have hE := isTab_E n z b
  generalize hpp : (fun t : Tl => dec (t.name = n) && (dec (t.arity = z) && (t.pred == b))) = p at *
  have hpe : ∀ t : Tl, (dec (t.name = n) && (dec (t.arity = z) && (t.pred == b))) = p t := fun t => by rw [← hpp]
  refine E_walk k_slices_IndexFunc_impl_Table_impl_Table m_slices_IndexFunc_impl_Table_impl_Table (of_decide_eq_true rfl) ?_
  simp (disch := omega) only [c_slices_IndexFunc_impl_Table_impl_Table, go_sem, go_cond, zA, zB, zC, zD, zE, zF, zG, zH, ↓reduceIte, zI, reduceCtorEq, zJ, zK]
  refine go_loop (α := Int) (fun a => ⟨slots 19 0 [(0, .arr (xs.map Tl.d)), (1, .fn 189 [.ptr 0 0, .ptr 1 0, .ptr 2 0]), (7, .int .i64 xs.length), (8, .int .i64 a)], [.box 9 [.str n], .box 3 [.int .i64 z], .box 4 [.bool b]]⟩) (fun a => ∃ k : Nat, a = k ∧ k ≤ (xs).length ∧ idxP p (xs.drop k) a = idxP p xs 0) (fun a => (xs).length - (a).toNat) 0 ⟨0, rfl, Nat.zero_le _, by rw [List.drop_zero]⟩ (by simp (disch := omega) only [go_sem, go_cond, zA, zB, zC, zD, zE, zF, zG, zH, ↓reduceIte, zI, reduceCtorEq, zJ, zK]) ?_
  rintro i ⟨k, hi, hk, hR⟩
  have hni : i.toNat = k := by omega
  have hni1 : (i + 1).toNat = k + 1 := by omega
  rcases Nat.lt_or_ge k (xs).length with hlt | hge
  · have hg' := get_at Tl.d hlt
    rw [Tl.d_eq] at hg'
    have hc := hE xs[k]
    rw [hpe] at hc
    rw [List.drop_eq_getElem_cons hlt, idxP] at hR
    cases hp : p xs[k] with
    | true =>
      rw [hp] at hc hR
      simp (disch := omega) only [go_sem, go_cond, zA, zB, zC, zD, zE, zF, zG, zH, ↓reduceIte, zI, reduceCtorEq, zJ, zK, hni, hg', hc, g_impl_Interpretation_table_1, m_impl_Interpretation_table_1]
      simpa using hR
    | false =>
      rw [hp] at hc hR
      simp (disch := omega) only [go_sem, go_cond, zA, zB, zC, zD, zE, zF, zG, zH, ↓reduceIte, zI, reduceCtorEq, zJ, zK, hni, hg', hc, g_impl_Interpretation_table_1, m_impl_Interpretation_table_1]
      exact ⟨i + 1, ⟨k + 1, by omega, hlt, by simpa using hR⟩, by omega, by first | trivial | rfl⟩
  · rw [List.drop_eq_nil_of_le hge, idxP] at hR
    simp (disch := omega) only [go_sem, go_cond, zA, zB, zC, zD, zE, zF, zG, zH, ↓reduceIte, zI, reduceCtorEq, zJ, zK, hni]
    exact hR
noncomputable def tabSV : Option Tl → SV
  | some t => t.sv
  | none => .agg [.str ⟨#[]⟩, .int .i64 0, .bool false, .nil]
set_option maxHeartbeats 2000000 in
theorem table_E (m : Ip) (hl : m.tables.length ≤ 1099511627776) (n : ByteArray) (z : Int) (b : Bool) : E 169 [m.sv, .str n, .int .i64 z, .bool b] [] = some (.tup [tabSV (tabF m.tables n z b), .bool (tabF m.tables n z b).isSome], []) := by
  have h1 := indexTb_E n z b m.tables hl
  unfold tabF
  rcases idxP_find (fun t : Tl => dec (t.name = n) && (dec (t.arity = z) && (t.pred == b))) m.tables 0 with ⟨h2, h3⟩ | ⟨k, t, hk, h2, h3, h4⟩
  · rw [h2]
    rw [h3] at h1
    refine E_walk k_impl_Interpretation_table m_impl_Interpretation_table (of_decide_eq_true rfl) ?_
    simp (disch := omega) only [c_impl_Interpretation_table, go_sem, go_cond, zA, zB, zC, zD, zE, zF, zG, zH, ↓reduceIte, zI, reduceCtorEq, zJ, zK, h1, m_slices_IndexFunc_impl_Table_impl_Table]
    exact ⟨rfl, rfl⟩
  · rw [h2]
    rw [h3, Int.zero_add] at h1
    have hg := get_at Tl.d hk
    rw [h4, Tl.d_eq] at hg
    obtain ⟨i, hi⟩ : ∃ i : Int, i = (k : Int) := ⟨_, rfl⟩
    rw [← hi] at h1
    have hni : i.toNat = k := by omega
    refine E_walk k_impl_Interpretation_table m_impl_Interpretation_table (of_decide_eq_true rfl) ?_
    simp (disch := omega) only [c_impl_Interpretation_table, go_sem, go_cond, zA, zB, zC, zD, zE, zF, zG, zH, ↓reduceIte, zI, reduceCtorEq, zJ, zK, h1, hni, hg, m_slices_IndexFunc_impl_Table_impl_Table]
    exact ⟨rfl, rfl⟩
abbrev optT (o : Option Int) : SV := .tup [.int .i64 (o.getD 0), .bool o.isSome]
theorem keyLt_trans {a b c : Tl} (h1 : keyLt a b = true) (h2 : keyLt b c = true) : keyLt a c = true := by
  unfold keyLt at *
  rw [Bool.or_eq_true, Bool.and_eq_true, dec_iff, dec_iff] at *
  rcases h1 with h1 | ⟨h1, h1'⟩
  · rcases h2 with h2 | ⟨h2, h2'⟩
    · exact .inl (strLt_trans h1 h2)
    · rw [← h2]; exact .inl h1
  · rcases h2 with h2 | ⟨h2, h2'⟩
    · rw [h1]; exact .inl h2
    · exact .inr ⟨h1.trans h2, by omega⟩
theorem tabs_pair {ts : List Tl} (h : tabsB ts = true) : ts.Pairwise fun x y => keyLt x y = true := by
  unfold tabsB at h
  rw [Bool.and_eq_true] at h
  have st : ∀ j (hj : j + 1 < ts.length), keyLt ts[j] ts[j + 1] = true := fun j hj => by
    have := allTo_at h.1 hj
    rw [tlAt_succ hj, Bool.and_eq_true, Bool.and_eq_true] at this
    exact this.2.2
  have key : ∀ i d (hi : i + d + 1 < ts.length), keyLt (ts[i]'(by omega)) ts[i + d + 1] = true := by
    intro i d
    induction d with
    | zero => intro hi; exact st i hi
    | succ d ih => intro hi; exact keyLt_trans (ih (by omega)) (st (i + d + 1) hi)
  rw [List.pairwise_iff_getElem]
  intro i j hi hj hij
  obtain ⟨d, rfl⟩ : ∃ d, j = i + d + 1 := ⟨j - i - 1, by omega⟩
  exact key i d hj
theorem keyLt_ne {a b : Tl} (h : keyLt a b = true) (h1 : a.name = b.name) (h2 : a.arity = b.arity) : False := by
  unfold keyLt at h
  rw [Bool.or_eq_true, Bool.and_eq_true, dec_iff, dec_iff] at h
  rcases h with h | ⟨_, h⟩
  · exact strLt_ne h h1
  · omega
theorem tabF_first {n : ByteArray} {z : Int} {p : Bool} : ∀ {ts : List Tl}, ts.Pairwise (fun x y => keyLt x y = true) → tabF ts n z p = match ts.find? (fun t => dec (t.name = n) && dec (t.arity = z)) with
    | some t => bif t.pred == p then some t else none
    | none => none
  | [], _ => rfl
  | t :: ts, h => by
    obtain ⟨h1, h2⟩ := List.pairwise_cons.1 h
    have ih := tabF_first (n := n) (z := z) (p := p) h2
    unfold tabF at ih ⊢
    rw [List.find?_cons, List.find?_cons]
    cases ha : dec (t.name = n) with
    | false => simp only [Bool.false_and]; exact ih
    | true =>
      cases hb : dec (t.arity = z) with
      | false => simp only [Bool.false_and, Bool.and_false]; exact ih
      | true =>
        simp only [Bool.true_and]
        cases hc : t.pred == p with
        | true => rfl
        | false =>
          simp only [cond_false]
          rw [List.find?_eq_none]
          intro u hu hb2
          rw [Bool.and_eq_true, Bool.and_eq_true, dec_iff, dec_iff] at hb2
          exact keyLt_ne (h1 u hu) ((dec_iff.1 ha).trans hb2.1.symm) ((dec_iff.1 hb).trans hb2.2.1.symm)
abbrev VaC (m : Ip) (e : Env) (x : Tm) : Prop := E 142 [m.sv, x.sv, .mp true (envM e)] [] = some (optT (x.val m e), [])
abbrev LvC (m : Ip) (a : List Ag) (x : Tm) : Prop := E 58 [m.sv, .arr (a.map Ag.d), x.sv, .bool false] [] = some (optT (x.val m (asg a)), [])
theorem at_next {s at_ v P : Int} (h1 : 1 ≤ s) (h0 : 0 ≤ at_) (hP : at_ < P) (v0 : 0 ≤ v) (v1 : v < s) : 0 ≤ at_ * s + v ∧ at_ * s + v < P * s ∧ 0 ≤ at_ * s ∧ at_ * s < P * s := by
  have k1 := Int.mul_nonneg h0 (show 0 ≤ s by omega)
  have k2 : (at_ + 1) * s ≤ P * s := Int.mul_le_mul_of_nonneg_right (by omega) (by omega)
  rw [Int.add_mul, Int.one_mul] at k2
  omega
set_option maxHeartbeats 8000000 in
theorem lookUp_of (m : Ip) (hm : m.ok = true) (hml : m.tables.length ≤ 1099511627776) (hvl : ∀ t ∈ m.tables, t.vals.length ≤ 1099511627776) (e : Env) (he : InE m.size e) (x : Tm) (hxl : x.args.length ≤ 1099511627776) (p : Bool) (ih : ∀ y ∈ x.args, VaC m e y) : E 143 [m.sv, x.sv, .mp true (envM e), .bool p] [] = some (optT (readT m.tables x.name x.args.length p (Tm.valS m e x.args 0)), []) := by
  have h1 := table_E m hml x.name x.args.length p
  unfold readT
  obtain ⟨⟨s1, s3⟩, hT, _⟩ := Ip.ok_parts hm
  cases ht : tabF m.tables x.name x.args.length p with
  | none =>
    rw [ht] at h1
    have hts : tabSV none = .agg [.str ⟨#[]⟩, .int .i64 0, .bool false, .nil] := rfl
    refine E_walk k_impl_Interpretation_lookUp m_impl_Interpretation_lookUp (of_decide_eq_true rfl) ?_
    simp (disch := omega) only [c_impl_Interpretation_lookUp, go_sem, go_cond, zA, zB, zC, zD, zE, zF, zG, zH, ↓reduceIte, zI, reduceCtorEq, zJ, zK, h1, hts, Option.isSome_none, m_impl_Interpretation_table]
    try exact ⟨rfl, rfl⟩
  | some t =>
    rw [ht] at h1
    have hts : tabSV (some t) = .agg [.str t.name, .int .i64 t.arity, .bool t.pred, .arr (t.vals.map fun n => [D.int n])] := rfl
    obtain ⟨t1, t2, t3, t4⟩ := tabF_some ht
    have ha3 := (tabsB_arity hT t1).2
    rw [t3] at ha3
    have hvt := hvl t t1
    have hsome : (some t).isSome = true := rfl
    refine E_walk k_impl_Interpretation_lookUp m_impl_Interpretation_lookUp (of_decide_eq_true rfl) ?_
    simp (disch := omega) only [c_impl_Interpretation_lookUp, go_sem, go_cond, zA, zB, zC, zD, zE, zF, zG, zH, ↓reduceIte, zI, reduceCtorEq, zJ, zK, h1, hts, hsome, m_impl_Interpretation_table]
    refine go_loop (α := Int × (Int)) (fun a => ⟨slots 58 0 [(2, .mp true (envM e)), (4, .ptr 0 0), (10, .ptr 1 0), (12, .int .i64 (a.2)), (31, .arr (x.args.map Tm.d)), (32, .int .i64 x.args.length), (33, .int .i64 (a.1))], [.box 35 [.int .i64 m.size, .arr (m.tables.map Tl.d)], .box 97 [.str t.name, .int .i64 t.arity, .bool t.pred, .arr (t.vals.map fun n => [D.int n])]]⟩) (fun a => ∃ k : Nat, a.1 = k ∧ k ≤ (x.args).length ∧ 0 ≤ (a.2) ∧ (a.2) < pw m.size k ∧ Tm.valS m e (x.args.drop k) (a.2) = Tm.valS m e x.args 0) (fun a => (x.args).length - (a.1).toNat) (0, 0) ⟨0, rfl, Nat.zero_le _, ⟨Int.le_refl 0, by rw [pw]; omega, by rw [List.drop_zero]⟩⟩ (by simp (disch := omega) only [go_sem, go_cond, zA, zB, zC, zD, zE, zF, zG, zH, ↓reduceIte, zI, reduceCtorEq, zJ, zK]) ?_
    rintro ⟨i, at_⟩ ⟨k, hi, hk, hR⟩
    dsimp only at hi hR
    have hni : i.toNat = k := by omega
    have hni1 : (i + 1).toNat = k + 1 := by omega
    rcases Nat.lt_or_ge k (x.args).length with hlt | hge
    · have hg := get_at Tm.d hlt
      rw [Tm.d_eq] at hg
      obtain ⟨r0, r1, r2⟩ := hR
      have hc := ih x.args[k] (List.getElem_mem hlt)
      rw [List.drop_eq_getElem_cons hlt, Tm.valS] at r2
      have hps := pw_small s1 s3 (k := k + 1) (by omega)
      cases hv : x.args[k].val m e with
      | none =>
        rw [hv] at r2
        unfold VaC at hc
        rw [hv] at hc
        rw [← r2]
        simp (disch := omega) only [go_sem, go_cond, zA, zB, zC, zD, zE, zF, zG, zH, ↓reduceIte, zI, reduceCtorEq, zJ, zK, hni, hg, hc, Option.getD_none, Option.isSome_none, Option.getD_some, Option.isSome_some, m_impl_Interpretation_value]
        try exact ⟨rfl, rfl⟩
      | some v =>
        rw [hv] at r2
        unfold VaC at hc
        rw [hv] at hc
        obtain ⟨v0, v1⟩ := Tm.val_in hm he _ v hv
        obtain ⟨q0, q1, q2, q3⟩ := at_next s1 r0 r1 v0 v1
        rw [pw] at hps
        simp (disch := omega) only [go_sem, go_cond, zA, zB, zC, zD, zE, zF, zG, zH, ↓reduceIte, zI, reduceCtorEq, zJ, zK, hni, hg, hc, Option.getD_none, Option.isSome_none, Option.getD_some, Option.isSome_some, m_impl_Interpretation_value]
        refine ⟨(i + 1, at_ * m.size + v), ⟨k + 1, by dsimp only; omega, hlt, q0, (by rw [pw]; exact q1), r2⟩, by dsimp only; omega, ?_⟩
        first | trivial | rfl | exact ⟨rfl, rfl⟩
    · obtain rfl : k = x.args.length := by omega
      obtain ⟨r0, r1, r2⟩ := hR
      rw [List.drop_eq_nil_of_le hge, Tm.valS] at r2
      rw [← r2]
      obtain ⟨g1, g2, _, _⟩ := read_in hm ht r0 r1
      have hgv := get_at (fun n => [D.int n]) g1
      have hgd : (some (t.vals.getD at_.toNat 0)).getD 0 = t.vals[at_.toNat] := g2
      simp (disch := omega) only [go_sem, go_cond, zA, zB, zC, zD, zE, zF, zG, zH, ↓reduceIte, zI, reduceCtorEq, zJ, zK, hni, hgv, hgd, Option.isSome_some]
      try exact ⟨hgd.symm, rfl⟩
set_option maxHeartbeats 2000000 in
theorem value_of (m : Ip) (hm : m.ok = true) (hml : m.tables.length ≤ 1099511627776) (hvl : ∀ t ∈ m.tables, t.vals.length ≤ 1099511627776) (e : Env) (he : InE m.size e) (x : Tm) (hx : x.names = true) (hxl : x.args.length ≤ 1099511627776) (ih : ∀ y ∈ x.args, VaC m e y) : VaC m e x := by
  have h1 := isVar_E x (Tm.cok_names x hx)
  have h2 := lookUp_of m hm hml hvl e he x hxl false ih
  unfold VaC
  rw [Tm.val_eq]
  cases hb : varB x.name with
  | true =>
    rw [hb] at h1
    rw [cond_true]
    cases hq : e x.name with
    | none =>
      have hme : envM e (.str x.name) = none := by rw [envM_str, hq]
      refine E_walk k_impl_Interpretation_value m_impl_Interpretation_value (of_decide_eq_true rfl) ?_
      simp (disch := omega) only [c_impl_Interpretation_value, go_sem, go_cond, zA, zB, zC, zD, zE, zF, zG, zH, ↓reduceIte, zI, reduceCtorEq, zJ, zK, h1, hme, m_impl_isVar]
      try first | rfl | exact ⟨rfl, rfl⟩
    | some v =>
      have hme : envM e (.str x.name) = some (false, [.int v]) := by rw [envM_str, hq]
      refine E_walk k_impl_Interpretation_value m_impl_Interpretation_value (of_decide_eq_true rfl) ?_
      simp (disch := omega) only [c_impl_Interpretation_value, go_sem, go_cond, zA, zB, zC, zD, zE, zF, zG, zH, ↓reduceIte, zI, reduceCtorEq, zJ, zK, h1, hme, m_impl_isVar]
      try first | rfl | exact ⟨rfl, rfl⟩
  | false =>
    rw [hb] at h1
    rw [cond_false]
    generalize readT m.tables x.name x.args.length false (Tm.valS m e x.args 0) = r at *
    refine E_walk k_impl_Interpretation_value m_impl_Interpretation_value (of_decide_eq_true rfl) ?_
    simp (disch := omega) only [c_impl_Interpretation_value, go_sem, go_cond, zA, zB, zC, zD, zE, zF, zG, zH, ↓reduceIte, zI, reduceCtorEq, zJ, zK, h1, h2, m_impl_isVar, m_impl_Interpretation_lookUp]
theorem value_E (m : Ip) (hm : m.ok = true) (hml : m.tables.length ≤ 1099511627776) (hvl : ∀ t ∈ m.tables, t.vals.length ≤ 1099511627776) (e : Env) (he : InE m.size e) (x : Tm) (hx : x.names = true) (hn : x.nodes ≤ 1048576) : VaC m e x :=
  value_of m hm hml hvl e he x hx (by have := Tm.length_le x.args; have := Tm.nodes_eq x; omega) fun y hy => value_E m hm hml hvl e he y (Tm.names_arg hx hy) (by have := Tm.nodes_mem hy; have := Tm.nodes_eq x; omega)
termination_by SizeOf.sizeOf x
decreasing_by exact Tm.lt_of_mem hy
set_option maxHeartbeats 2000000 in
theorem l10Find_E (xs : List Tl) (hl : xs.length ≤ 1099511627776) (n : ByteArray) (z : Int) : E 97 [.arr (xs.map Tl.d), .str n, .int .i64 z] [] = some (.int .i64 (idxP (fun t => dec (t.name = n) && dec (t.arity = z)) xs 0), []) := by
  generalize hpp : (fun t : Tl => dec (t.name = n) && dec (t.arity = z)) = p
  have hpe : ∀ t : Tl, p t = (dec (t.name = n) && dec (t.arity = z)) := fun t => by rw [← hpp]
  refine E_walk k_spec_l10Find m_spec_l10Find (of_decide_eq_true rfl) ?_
  simp (disch := omega) only [c_spec_l10Find, go_sem, go_cond, zA, zB, zC, zD, zE, zF, zG, zH, ↓reduceIte, zI, reduceCtorEq, zJ, zK]
  refine go_loop (α := Int) (fun a => ⟨slots 31 0 [(0, .arr (xs.map Tl.d)), (1, .str n), (2, .int .i64 z), (7, .int .i64 a)], []⟩) (fun a => ∃ k : Nat, a = k ∧ k ≤ (xs).length ∧ idxP p (xs.drop k) a = idxP p xs 0) (fun a => (xs).length - (a).toNat) 0 ⟨0, rfl, Nat.zero_le _, by rw [List.drop_zero]⟩ (by simp (disch := omega) only [go_sem, go_cond, zA, zB, zC, zD, zE, zF, zG, zH, ↓reduceIte, zI, reduceCtorEq, zJ, zK]) ?_
  rintro i ⟨k, hi, hk, hR⟩
  have hni : i.toNat = k := by omega
  have hni1 : (i + 1).toNat = k + 1 := by omega
  rcases Nat.lt_or_ge k (xs).length with hlt | hge
  · have hg := get_at Tl.d hlt
    rw [Tl.d_eq] at hg
    rw [List.drop_eq_getElem_cons hlt, idxP, hpe] at hR
    cases h1 : dec (xs[k].name = n) with
    | false =>
      rw [h1] at hR
      simp (disch := omega) only [go_sem, go_cond, zA, zB, zC, zD, zE, zF, zG, zH, ↓reduceIte, zI, reduceCtorEq, zJ, zK, hni, hg, h1]
      exact ⟨i + 1, ⟨k + 1, by omega, hlt, by simpa using hR⟩, by omega, by first | trivial | rfl⟩
    | true =>
      rw [h1] at hR
      cases h2 : dec (xs[k].arity = z) with
      | false =>
        rw [h2] at hR
        simp (disch := omega) only [go_sem, go_cond, zA, zB, zC, zD, zE, zF, zG, zH, ↓reduceIte, zI, reduceCtorEq, zJ, zK, hni, hg, h1, h2]
        exact ⟨i + 1, ⟨k + 1, by omega, hlt, by simpa using hR⟩, by omega, by first | trivial | rfl⟩
      | true =>
        rw [h2] at hR
        simp (disch := omega) only [go_sem, go_cond, zA, zB, zC, zD, zE, zF, zG, zH, ↓reduceIte, zI, reduceCtorEq, zJ, zK, hni, hg, h1, h2]
        simpa using hR
  · rw [List.drop_eq_nil_of_le hge, idxP] at hR
    simp (disch := omega) only [go_sem, go_cond, zA, zB, zC, zD, zE, zF, zG, zH, ↓reduceIte, zI, reduceCtorEq, zJ, zK, hni]
    exact hR
set_option maxHeartbeats 8000000 in
theorem l10Value_of (m : Ip) (hm : m.ok = true) (hml : m.tables.length ≤ 1099511627776) (hvl : ∀ t ∈ m.tables, t.vals.length ≤ 1099511627776) (as_ : List Ag) (hal : as_.length ≤ 1099511627776) (he : InE m.size (asg as_)) (x : Tm) (hxl : x.args.length ≤ 29) (ih : ∀ y ∈ x.args, LvC m as_ y) : LvC m as_ x := by
  have h1 := l2Var_E x.name
  obtain ⟨⟨s1, s3⟩, hT, _⟩ := Ip.ok_parts hm
  unfold LvC
  rw [Tm.val_eq]
  cases hb : varB x.name with
  | true =>
    rw [hb] at h1
    rw [cond_true]
    refine E_walk k_spec_l10Value m_spec_l10Value (of_decide_eq_true rfl) ?_
    simp (disch := omega) only [c_spec_l10Value, go_sem, go_cond, zA, zB, zC, zD, zE, zF, zG, zH, ↓reduceIte, zI, reduceCtorEq, zJ, zK, h1, m_spec_l2Var]
    refine go_loop (α := Int) (fun a => ⟨slots 108 0 [(1, .arr (as_.map Ag.d)), (6, .ptr 0 0), (10, .int .i64 a)], [.box 105 [.str x.name, .arr (x.args.map Tm.d)]]⟩) (fun a => ∃ k : Nat, a = k ∧ k ≤ (as_).length ∧ asg (as_.drop k) x.name = asg as_ x.name) (fun a => (as_).length - (a).toNat) 0 ⟨0, rfl, Nat.zero_le _, by rw [List.drop_zero]⟩ (by simp (disch := omega) only [go_sem, go_cond, zA, zB, zC, zD, zE, zF, zG, zH, ↓reduceIte, zI, reduceCtorEq, zJ, zK]) ?_
    rintro i ⟨k, hi, hk, hR⟩
    have hni : i.toNat = k := by omega
    have hni1 : (i + 1).toNat = k + 1 := by omega
    rcases Nat.lt_or_ge k (as_).length with hlt | hge
    · have hg := get_at Ag.d hlt
      rw [Ag.d_eq] at hg
      rw [List.drop_eq_getElem_cons hlt, asg] at hR
      cases hd : dec (as_[k].var = x.name) with
      | true =>
        rw [hd, cond_true] at hR
        rw [← hR]
        simp (disch := omega) only [go_sem, go_cond, zA, zB, zC, zD, zE, zF, zG, zH, ↓reduceIte, zI, reduceCtorEq, zJ, zK, hni, hg, hd]
        try first | rfl | exact ⟨rfl, rfl⟩
      | false =>
        rw [hd, cond_false] at hR
        simp (disch := omega) only [go_sem, go_cond, zA, zB, zC, zD, zE, zF, zG, zH, ↓reduceIte, zI, reduceCtorEq, zJ, zK, hni, hg, hd]
        exact ⟨i + 1, ⟨k + 1, by omega, hlt, hR⟩, by omega, by first | trivial | rfl⟩
    · rw [List.drop_eq_nil_of_le hge, asg] at hR
      rw [← hR]
      simp (disch := omega) only [go_sem, go_cond, zA, zB, zC, zD, zE, zF, zG, zH, ↓reduceIte, zI, reduceCtorEq, zJ, zK, hni]
      try first | rfl | exact ⟨rfl, rfl⟩
  | false =>
    rw [hb] at h1
    rw [cond_false]
    have hf := l10Find_E m.tables hml x.name x.args.length
    refine E_walk k_spec_l10Value m_spec_l10Value (of_decide_eq_true rfl) ?_
    simp (disch := omega) only [c_spec_l10Value, go_sem, go_cond, zA, zB, zC, zD, zE, zF, zG, zH, ↓reduceIte, zI, reduceCtorEq, zJ, zK, h1, m_spec_l2Var]
    refine go_loop (α := Int × (Int)) (fun a => ⟨slots 108 0 [(1, .arr (as_.map Ag.d)), (3, .bool false), (4, .ptr 0 0), (6, .ptr 1 0), (11, .int .i64 (a.2)), (12, .int .i64 (a.1))], [.box 35 [.int .i64 m.size, .arr (m.tables.map Tl.d)], .box 105 [.str x.name, .arr (x.args.map Tm.d)]]⟩) (fun a => ∃ k : Nat, a.1 = k ∧ k ≤ (x.args).length ∧ 0 ≤ (a.2) ∧ (a.2) < pw m.size k ∧ Tm.valS m (asg as_) (x.args.drop k) (a.2) = Tm.valS m (asg as_) x.args 0) (fun a => (x.args).length - (a.1).toNat) (0, 0) ⟨0, rfl, Nat.zero_le _, ⟨Int.le_refl 0, by rw [pw]; omega, by rw [List.drop_zero]⟩⟩ (by simp (disch := omega) only [go_sem, go_cond, zA, zB, zC, zD, zE, zF, zG, zH, ↓reduceIte, zI, reduceCtorEq, zJ, zK]) ?_
    rintro ⟨i, at_⟩ ⟨k, hi, hk, hR⟩
    dsimp only at hi hR
    have hni : i.toNat = k := by omega
    have hni1 : (i + 1).toNat = k + 1 := by omega
    rcases Nat.lt_or_ge k (x.args).length with hlt | hge
    · have hg := get_at Tm.d hlt
      rw [Tm.d_eq] at hg
      obtain ⟨r0, r1, r2⟩ := hR
      have hc := ih x.args[k] (List.getElem_mem hlt)
      rw [List.drop_eq_getElem_cons hlt, Tm.valS] at r2
      have hps := pw_mid s1 s3 (k := k + 1) (by omega)
      cases hv : x.args[k].val m (asg as_) with
      | none =>
        rw [hv] at r2
        unfold LvC at hc
        rw [hv] at hc
        rw [← r2]
        have hrn : readT m.tables x.name x.args.length false none = none := by unfold readT; split <;> first | rfl | (rename_i h; cases h)
        rw [hrn]
        simp (disch := omega) only [go_sem, go_cond, zA, zB, zC, zD, zE, zF, zG, zH, ↓reduceIte, zI, reduceCtorEq, zJ, zK, hni, hg, hc, Option.getD_none, Option.isSome_none, Option.getD_some, Option.isSome_some, m_spec_l10Value]
        try first | rfl | exact ⟨rfl, rfl⟩
      | some v =>
        rw [hv] at r2
        unfold LvC at hc
        rw [hv] at hc
        obtain ⟨v0, v1⟩ := Tm.val_in hm he _ v hv
        obtain ⟨q0, q1, q2, q3⟩ := at_next s1 r0 r1 v0 v1
        rw [pw] at hps
        simp (disch := omega) only [go_sem, go_cond, zA, zB, zC, zD, zE, zF, zG, zH, ↓reduceIte, zI, reduceCtorEq, zJ, zK, hni, hg, hc, Option.getD_none, Option.isSome_none, Option.getD_some, Option.isSome_some, m_spec_l10Value]
        refine ⟨(i + 1, at_ * m.size + v), ⟨k + 1, by dsimp only; omega, hlt, q0, (by rw [pw]; exact q1), r2⟩, by dsimp only; omega, ?_⟩
        first | trivial | rfl | exact ⟨rfl, rfl⟩
    · obtain rfl : k = x.args.length := by omega
      obtain ⟨r0, r1, r2⟩ := hR
      rw [List.drop_eq_nil_of_le hge, Tm.valS] at r2
      rw [← r2]
      have hTF := tabF_first (n := x.name) (z := x.args.length) (p := false) (tabs_pair hT)
      rcases idxP_find (fun t : Tl => dec (t.name = x.name) && dec (t.arity = (x.args.length : Int))) m.tables 0 with ⟨h2, h3⟩ | ⟨j, t, hj, h2, h3, h4⟩
      · rw [h2] at hTF
        rw [h3] at hf
        have hrn : readT m.tables x.name x.args.length false (some at_) = none := by unfold readT; rw [hTF]
        rw [hrn]
        simp (disch := omega) only [go_sem, go_cond, zA, zB, zC, zD, zE, zF, zG, zH, ↓reduceIte, zI, reduceCtorEq, zJ, zK, hni, hf, m_spec_l10Find]
        try first | rfl | exact ⟨rfl, rfl⟩
      · rw [h2] at hTF
        rw [h3, Int.zero_add] at hf
        have hg := get_at Tl.d hj
        rw [h4, Tl.d_eq] at hg
        obtain ⟨jj, hjj⟩ : ∃ jj : Int, jj = (j : Int) := ⟨_, rfl⟩
        rw [← hjj] at hf
        have hnj : jj.toNat = j := by omega
        simp only at hTF
        have hbt : (true == false) = false := rfl
        have hbf : (false == false) = true := rfl
        cases hpr : t.pred with
        | true =>
          rw [hpr] at hTF
          have hrn : readT m.tables x.name x.args.length false (some at_) = none := by unfold readT; rw [hTF]; rfl
          rw [hrn]
          simp (disch := omega) only [go_sem, go_cond, zA, zB, zC, zD, zE, zF, zG, zH, ↓reduceIte, zI, reduceCtorEq, zJ, zK, hni, hf, hnj, hg, hpr, hbt, m_spec_l10Find]
          try first | rfl | exact ⟨rfl, rfl⟩
        | false =>
          rw [hpr] at hTF
          have hTF : tabF m.tables x.name x.args.length false = some t := hTF
          have hrn : readT m.tables x.name x.args.length false (some at_) = some (t.vals.getD at_.toNat 0) := by unfold readT; rw [hTF]
          obtain ⟨g1, g2, _, _⟩ := read_in hm hTF r0 r1
          have hgv := get_at (fun n => [D.int n]) g1
          have hvt := hvl t (tabF_some hTF).1
          rw [hrn, g2]
          simp (disch := omega) only [go_sem, go_cond, zA, zB, zC, zD, zE, zF, zG, zH, ↓reduceIte, zI, reduceCtorEq, zJ, zK, hni, hf, hnj, hg, hgv, hpr, hbf, Option.getD_some, Option.isSome_some, m_spec_l10Find]
          try first | rfl | exact ⟨rfl, rfl⟩
theorem l10Value_E (m : Ip) (hm : m.ok = true) (hml : m.tables.length ≤ 1099511627776) (hvl : ∀ t ∈ m.tables, t.vals.length ≤ 1099511627776) (as_ : List Ag) (hal : as_.length ≤ 1099511627776) (he : InE m.size (asg as_)) (x : Tm) (hn : x.nodes ≤ 30) : LvC m as_ x :=
  l10Value_of m hm hml hvl as_ hal he x (by have := Tm.length_le x.args; have := Tm.nodes_eq x; omega) fun y hy => l10Value_E m hm hml hvl as_ hal he y (by have := Tm.nodes_mem hy; have := Tm.nodes_eq x; omega)
termination_by SizeOf.sizeOf x
decreasing_by exact Tm.lt_of_mem hy
def c_impl_Interpretation_truth : SC := (.seq (.reg [⟨some 3, none, .boxv 35 2 (.t 0)⟩, ⟨some 4, none, .boxv 105 2 (.t 1)⟩, ⟨some 6, none, .mv (.c (.bool false))⟩, ⟨some 7, none, .mv (.c (.bool false))⟩]) (.seq (.seq (.reg [⟨some 14, none, .load true 2 (.t 4)⟩, ⟨some 15, none, .call 136 [(.t 14)]⟩]) (.cond (.t 15) (.seq (.dreg [[], [], [1], [2, 1], [3, 2, 1], [], [0, 4, 3, 2, 1, 5], [6, 0, 4, 3, 2, 1, 5], [7, 6, 0, 4, 3, 2, 1, 5], [7, 6, 0, 4, 3, 2, 1, 5], [8, 7, 6, 0, 4, 3, 2, 1, 5], [9, 7, 6, 0, 4, 3, 2, 1, 5, 10, 8]] [⟨some 17, none, .load true 2 (.t 3)⟩, ⟨some 18, none, .faddr 1 (.t 4)⟩, ⟨some 19, none, .load false 1 (.t 18)⟩, ⟨some 20, none, .iaddr 2 (.t 19) (.c (.int .i64 0))⟩, ⟨some 21, none, .load true 2 (.t 20)⟩, ⟨some 22, none, .mv (.t 2)⟩, ⟨some 23, none, .call 142 [(.t 17), (.t 21), (.t 22)]⟩, ⟨some 16, none, .mv (.t 23)⟩, ⟨some 24, none, .ext (.t 16) 0⟩, ⟨some 25, none, .ext (.t 16) 1⟩, ⟨some 8, none, .mv (.t 24)⟩, ⟨some 9, none, .mv (.t 25)⟩]) (.seq (.dreg [[], [], [1], [2, 1], [3, 2, 1], [], [0, 4, 3, 2, 1, 5], [6, 0, 4, 3, 2, 1, 5], [7, 6, 0, 4, 3, 2, 1, 5], [7, 6, 0, 4, 3, 2, 1, 5], [8, 7, 6, 0, 4, 3, 2, 1, 5], [9, 7, 6, 0, 4, 3, 2, 1, 5, 10, 8]] [⟨some 27, none, .load true 2 (.t 3)⟩, ⟨some 28, none, .faddr 1 (.t 4)⟩, ⟨some 29, none, .load false 1 (.t 28)⟩, ⟨some 30, none, .iaddr 2 (.t 29) (.c (.int .i64 1))⟩, ⟨some 31, none, .load true 2 (.t 30)⟩, ⟨some 32, none, .mv (.t 2)⟩, ⟨some 33, none, .call 142 [(.t 27), (.t 31), (.t 32)]⟩, ⟨some 26, none, .mv (.t 33)⟩, ⟨some 34, none, .ext (.t 26) 0⟩, ⟨some 35, none, .ext (.t 26) 1⟩, ⟨some 10, none, .mv (.t 34)⟩, ⟨some 11, none, .mv (.t 35)⟩]) (.seq (.reg [⟨some 36, none, .mv (.t 8)⟩, ⟨some 37, none, .mv (.t 10)⟩, ⟨some 38, none, .bin .eql false (.t 36) (.t 37)⟩, ⟨some 39, none, .mv (.t 9)⟩, ⟨some 40, none, .mv (.t 39)⟩, ⟨(some 41), (some (40, true)), (.mv (.t 11))⟩, ⟨some 42, none, .pick (.t 40) (.t 41) (.c (.bool false))⟩, ⟨some 6, none, .mv (.t 38)⟩, ⟨some 7, none, .mv (.t 42)⟩]) .ret))) .skip)) (.seq (.reg [⟨some 44, none, .load true 2 (.t 3)⟩, ⟨some 45, none, .load true 2 (.t 4)⟩, ⟨some 46, none, .mv (.t 2)⟩, ⟨some 47, none, .call 143 [(.t 44), (.t 45), (.t 46), (.c (.bool true))]⟩, ⟨some 43, none, .mv (.t 47)⟩, ⟨some 48, none, .ext (.t 43) 0⟩, ⟨some 49, none, .ext (.t 43) 1⟩, ⟨some 12, none, .mv (.t 48)⟩, ⟨some 13, none, .mv (.t 49)⟩]) (.seq (.reg [⟨some 50, none, .mv (.t 12)⟩, ⟨some 51, none, .bin .eql false (.t 50) (.c (.int .i64 1))⟩, ⟨some 52, none, .mv (.t 13)⟩, ⟨some 6, none, .mv (.t 51)⟩, ⟨some 7, none, .mv (.t 52)⟩]) .ret))))
theorem k_impl_Interpretation_truth : codeOf Tryz.prog 111 = some ⟨53, c_impl_Interpretation_truth, [(.tmp 6), (.tmp 7)]⟩ := by kernel_rfl
theorem m_impl_Interpretation_truth : modes 111 = ⟨[], .asis, none, false⟩ := by unfold modes; rfl
theorem Tm.eqn_args {x : Tm} (hx : x.atom = true) (he : x.eqn = true) : x.args.length = 2 := by
  unfold Tm.atom at hx
  rw [he, if_pos rfl, Bool.and_eq_true, Bool.and_eq_true] at hx
  simpa using hx.1.1
theorem two_list {α : Type} {xs : List α} (h : xs.length = 2) : xs = [xs[0], xs[1]] := by
  match xs, h with
  | [a, b], _ => rfl
theorem Tm.tru_eqn {m : Ip} (hm : m.ok = true) {e : Env} (he : InE m.size e) {x : Tm} (hx : x.eqn = true) (hl : x.args.length = 2) : x.tru m e = match x.args[0].val m e, x.args[1].val m e with
    | some u, some v => some (bif dec (u = v) then 1 else 0)
    | _, _ => none := by
  have key := valS_two hm he x.args[0] x.args[1]
  rw [← two_list hl] at key
  unfold Tm.tru
  rw [hx, if_pos rfl]
  exact key
set_option maxHeartbeats 4000000 in
theorem truth_E (m : Ip) (hm : m.ok = true) (ht : m.tame) (e : Env) (he : InE m.size e) (x : Tm) (hx : x.atom = true) : ∃ b, E 111 [m.sv, x.sv, .mp true (envM e)] [] = some (.tup [.bool b, .bool (x.tru m e).isSome], []) ∧ ∀ n, x.tru m e = some n → b = dec (n = 1) := by
  have h1 := isEquality_E x
  have hnn := Tm.atom_nodes hx
  have hll := Tm.length_le x.args
  have hnq := Tm.nodes_eq x
  cases hq : x.eqn with
  | true =>
    rw [hq] at h1
    have hl := Tm.eqn_args hx hq
    have hg0 := get_at Tm.d (xs := x.args) (k := 0) (by omega)
    have hg1 := get_at Tm.d (xs := x.args) (k := 1) (by omega)
    rw [Tm.d_eq] at hg0 hg1
    have hc0 := value_E m hm ht.1 (fun t h => ht.2 t h) e he x.args[0] ((Tm.atom_args hx).2 _ (List.getElem_mem _)) (by have := Tm.nodes_le x.args 0 (by omega); omega)
    have hc1 := value_E m hm ht.1 (fun t h => ht.2 t h) e he x.args[1] ((Tm.atom_args hx).2 _ (List.getElem_mem _)) (by have := Tm.nodes_le x.args 1 (by omega); omega)
    rw [Tm.tru_eqn hm he hq hl]
    unfold VaC at hc0 hc1
    cases hv0 : x.args[0].val m e with
    | none =>
      rw [hv0] at hc0
      cases hv1 : x.args[1].val m e with
      | none =>
        rw [hv1] at hc1
        refine ⟨true, ?_, fun n hn => by cases hn⟩
        refine E_walk k_impl_Interpretation_truth m_impl_Interpretation_truth (of_decide_eq_true rfl) ?_
        simp (disch := omega) only [c_impl_Interpretation_truth, go_sem, go_cond, zA, zB, zC, zD, zE, zF, zG, zH, ↓reduceIte, zI, reduceCtorEq, zJ, zK, h1, hg0, hg1, hc0, hc1, m_impl_isEquality, m_impl_Interpretation_value, Option.getD_none, Option.isSome_none, Option.getD_some, Option.isSome_some]
      | some v =>
        rw [hv1] at hc1
        refine ⟨dec (0 = v), ?_, fun n hn => by cases hn⟩
        refine E_walk k_impl_Interpretation_truth m_impl_Interpretation_truth (of_decide_eq_true rfl) ?_
        simp (disch := omega) only [c_impl_Interpretation_truth, go_sem, go_cond, zA, zB, zC, zD, zE, zF, zG, zH, ↓reduceIte, zI, reduceCtorEq, zJ, zK, h1, hg0, hg1, hc0, hc1, m_impl_isEquality, m_impl_Interpretation_value, Option.getD_none, Option.isSome_none, Option.getD_some, Option.isSome_some]
    | some u =>
      rw [hv0] at hc0
      cases hv1 : x.args[1].val m e with
      | none =>
        rw [hv1] at hc1
        refine ⟨dec (u = 0), ?_, fun n hn => by cases hn⟩
        refine E_walk k_impl_Interpretation_truth m_impl_Interpretation_truth (of_decide_eq_true rfl) ?_
        simp (disch := omega) only [c_impl_Interpretation_truth, go_sem, go_cond, zA, zB, zC, zD, zE, zF, zG, zH, ↓reduceIte, zI, reduceCtorEq, zJ, zK, h1, hg0, hg1, hc0, hc1, m_impl_isEquality, m_impl_Interpretation_value, Option.getD_none, Option.isSome_none, Option.getD_some, Option.isSome_some]
      | some v =>
        rw [hv1] at hc1
        refine ⟨dec (u = v), ?_, fun n hn => ?_⟩
        · refine E_walk k_impl_Interpretation_truth m_impl_Interpretation_truth (of_decide_eq_true rfl) ?_
          simp (disch := omega) only [c_impl_Interpretation_truth, go_sem, go_cond, zA, zB, zC, zD, zE, zF, zG, zH, ↓reduceIte, zI, reduceCtorEq, zJ, zK, h1, hg0, hg1, hc0, hc1, m_impl_isEquality, m_impl_Interpretation_value, Option.getD_none, Option.isSome_none, Option.getD_some, Option.isSome_some]
        · obtain rfl := Option.some.inj hn
          cases dec (u = v) with
          | true => exact (dec_t rfl).symm
          | false => exact (dec_f (by simp)).symm
  | false =>
    rw [hq] at h1
    have hc := lookUp_of m hm ht.1 (fun t h => ht.2 t h) e he x (by omega) true fun y hy => value_E m hm ht.1 (fun t h => ht.2 t h) e he y ((Tm.atom_args hx).2 _ hy) (by have := Tm.nodes_mem hy; omega)
    have htr : x.tru m e = readT m.tables x.name x.args.length true (Tm.valS m e x.args 0) := by unfold Tm.tru; rw [hq, if_neg (by simp)]
    rw [htr]
    generalize readT m.tables x.name x.args.length true (Tm.valS m e x.args 0) = r at *
    refine ⟨dec (r.getD 0 = 1), ?_, fun n hn => by rw [hn]; rfl⟩
    refine E_walk k_impl_Interpretation_truth m_impl_Interpretation_truth (of_decide_eq_true rfl) ?_
    simp (disch := omega) only [c_impl_Interpretation_truth, go_sem, go_cond, zA, zB, zC, zD, zE, zF, zG, zH, ↓reduceIte, zI, reduceCtorEq, zJ, zK, h1, hc, m_impl_isEquality, m_impl_Interpretation_lookUp]
end Go.Proofs.YtolhlpglgheldaaGreat
