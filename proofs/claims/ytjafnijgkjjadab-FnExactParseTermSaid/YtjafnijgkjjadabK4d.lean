/-
  This text holds, one behind the other: This text tells what the functions of terms answer in both packages: names, validity. No condition.
  This text tells what the functions of terms answer in both packages: valid terms and atoms. No condition.
  This text holds plain laws of expressions and of the sizes of terms. No condition.
  This text holds the plain laws of the texts of terms: how long they are, and how they are joined. No condition.
  This text tells what the program answers for the text of a term. No condition.
  This text tells what ParseTerm answers in both packages. No condition.
  This text tells what the laws' marks answer. No condition.
  This text tells what the laws read of the marks. No condition.
  This text tells what the laws' marks of a record answer. No condition.
  This text tells what the laws' comparing functions answer. No condition.
  This text tells what the law of ParseTerm answers. No condition.
  This text opens arguments: slices of integers, of structs, of tables: what is read as data lies in memory as our words say. No condition.
  This text opens arguments: what is read as data, terms and formulas, lies in memory as our words say. No condition.
  This text turns a function's answer into a walk of the kit's form, and opens arguments that are clauses. No condition.
-/
import Derived.Test.YtjafnijgkjjadabK4c
import Derived.ProofKit
import Derived.Deep.Slices
import Derived.Deep.Fields
import Derived.ChangeSame
import Derived.OpenShut
import Derived.ShutString
import Derived.ChangeOld
set_option maxRecDepth 100000
set_option linter.unusedSimpArgs false
set_option linter.unusedVariables false
namespace Go.Proofs.Ytjafnijgkjjadab
open Go.RowKit

def c_slices_IndexFunc_impl_Term_impl_Term : SC := (.seq (.reg [⟨(some 4), none, (.mv (.c (.int .i64 0)))⟩]) (.seq (.seq (.reg [⟨(some 6), none, (.mv (.t 0))⟩, ⟨(some 7), none, (.len false (.t 6))⟩, ⟨(some 8), none, (.mv (.c (.int .i64 0)))⟩]) (.block 0 (.loop [1, 1, 0, 0, 0, 0, 0, 1, 1, 0, 0, 0, 0, 0, 0, 0, 0, 0, 0] (.seq (.reg [⟨(some 9), none, (.bin .lss false (.t 8) (.t 7))⟩]) (.seq (.cond (.t 9) .skip (.exit 0)) (.seq (.block 1 (.seq (.reg [⟨(some 10), none, (.mv (.t 8))⟩, ⟨(some 5), none, (.mv (.t 10))⟩]) (.seq (.reg [⟨(some 11), none, (.mv (.t 1))⟩, ⟨(some 12), none, (.mv (.t 0))⟩, ⟨(some 13), none, (.mv (.t 5))⟩, ⟨(some 14), none, (.iaddr 2 (.t 12) (.t 13))⟩, ⟨(some 15), none, (.load true 2 (.t 14))⟩, ⟨(some 16), none, (.callv (.t 11) [(.t 15)])⟩]) (.cond (.t 16) (.seq (.reg [⟨(some 17), none, (.mv (.t 5))⟩, ⟨(some 4), none, (.mv (.t 17))⟩]) .ret) .skip)))) (.reg [⟨(some 18), none, (.bin .add false (.t 8) (.c (.int .i64 1)))⟩, ⟨(some 8), none, (.mv (.t 18))⟩]))))))) (.seq (.reg [⟨(some 4), none, (.mv (.c (.int .i64 (-(0 + 1)))))⟩]) .ret)))
theorem k_slices_IndexFunc_impl_Term_impl_Term : codeOf Try.prog 171 = some ⟨19, c_slices_IndexFunc_impl_Term_impl_Term, [(.tmp 4)]⟩ := by kernel_rfl
theorem m_slices_IndexFunc_impl_Term_impl_Term : modes 171 = ⟨[], .asis, none, false⟩ := by unfold modes; rfl
def c_slices_ContainsFunc_impl_Term_impl_Term : SC := (.seq (.reg [⟨(some 4), none, (.mv (.c (.bool false)))⟩]) (.seq (.reg [⟨(some 5), none, (.mv (.t 0))⟩, ⟨(some 6), none, (.mv (.t 1))⟩, ⟨(some 7), none, (.call 171 [(.t 5), (.t 6)])⟩, ⟨(some 8), none, (.bin .geq false (.t 7) (.c (.int .i64 0)))⟩, ⟨(some 4), none, (.mv (.t 8))⟩]) .ret))
theorem k_slices_ContainsFunc_impl_Term_impl_Term : codeOf Try.prog 145 = some ⟨9, c_slices_ContainsFunc_impl_Term_impl_Term, [(.tmp 4)]⟩ := by kernel_rfl
theorem m_slices_ContainsFunc_impl_Term_impl_Term : modes 145 = ⟨[], .asis, none, false⟩ := by unfold modes; rfl
/-- The place of the first hit, or -1. -/
theorem indexFunc_terms (fid : Nat) (p : Tm → Bool) (xs : List Tm) (hl : xs.length ≤ 1099511627776) (hg : goFn Try.prog fid = true) (hm : (modes fid).hand = []) (hE : ∀ x ∈ xs, E fid [x.sv] [] = some (.bool (p x), [])) : E 171 [.arr (xs.map Tm.d), .fn fid []] [] = some (.int .i64 (idxP p xs 0), []) := by
  refine E_walk k_slices_IndexFunc_impl_Term_impl_Term m_slices_IndexFunc_impl_Term_impl_Term (of_decide_eq_true rfl) ?_
  simp (disch := omega) only [c_slices_IndexFunc_impl_Term_impl_Term, go_sem, Nat.reduceAdd, Nat.reduceSub, Nat.reduceLT, Nat.reduceLeDiff, Nat.reduceEqDiff, Nat.reduceBEq, Nat.reduceBneDiff, Nat.reduceMul, ↓reduceIte, Int.reduceToNat, reduceCtorEq, Int.reduceNeg, Int.reduceAdd]
  refine go_loop (α := Int) (fun a => ⟨slots 19 0 [(0, .arr (xs.map Tm.d)), (1, .fn fid []), (7, .int .i64 xs.length), (8, .int .i64 a)], []⟩) (fun a => ∃ k : Nat, a = k ∧ k ≤ (xs).length ∧ idxP p (xs.drop k) a = idxP p xs 0) (fun a => (xs).length - (a).toNat) 0 ⟨0, rfl, Nat.zero_le _, by rw [List.drop_zero]⟩ (by simp (disch := omega) only [go_sem, Nat.reduceAdd, Nat.reduceSub, Nat.reduceLT, Nat.reduceLeDiff, Nat.reduceEqDiff, Nat.reduceBEq, Nat.reduceBneDiff, Nat.reduceMul, ↓reduceIte, Int.reduceToNat, reduceCtorEq, Int.reduceNeg, Int.reduceAdd]) ?_
  rintro i ⟨k, hi, hk, hR⟩
  have hni : i.toNat = k := by omega
  have hni1 : (i + 1).toNat = k + 1 := by omega
  rcases Nat.lt_or_ge k (xs).length with hlt | hge
  · have hg' := get_at Tm.d hlt
    rw [Tm.d_eq] at hg'
    have hc := hE xs[k] (List.getElem_mem hlt)
    rw [List.drop_eq_getElem_cons hlt, idxP] at hR
    cases hp : p xs[k] with
    | true =>
      rw [hp] at hc hR
      simp (disch := omega) only [go_sem, Nat.reduceAdd, Nat.reduceSub, Nat.reduceLT, Nat.reduceLeDiff, Nat.reduceEqDiff, Nat.reduceBEq, Nat.reduceBneDiff, Nat.reduceMul, ↓reduceIte, Int.reduceToNat, reduceCtorEq, Int.reduceNeg, Int.reduceAdd, hni, hg', hc, hg, hm]
      simpa using hR
    | false =>
      rw [hp] at hc hR
      simp (disch := omega) only [go_sem, Nat.reduceAdd, Nat.reduceSub, Nat.reduceLT, Nat.reduceLeDiff, Nat.reduceEqDiff, Nat.reduceBEq, Nat.reduceBneDiff, Nat.reduceMul, ↓reduceIte, Int.reduceToNat, reduceCtorEq, Int.reduceNeg, Int.reduceAdd, hni, hg', hc, hg, hm]
      exact ⟨i + 1, ⟨k + 1, by omega, hlt, by simpa using hR⟩, by omega, by first | trivial | rfl⟩
  · rw [List.drop_eq_nil_of_le hge, idxP] at hR
    simp (disch := omega) only [go_sem, Nat.reduceAdd, Nat.reduceSub, Nat.reduceLT, Nat.reduceLeDiff, Nat.reduceEqDiff, Nat.reduceBEq, Nat.reduceBneDiff, Nat.reduceMul, ↓reduceIte, Int.reduceToNat, reduceCtorEq, Int.reduceNeg, Int.reduceAdd, hni]
    exact hR
theorem containsFunc_terms (fid : Nat) (p : Tm → Bool) (xs : List Tm) (hl : xs.length ≤ 1099511627776) (hg : goFn Try.prog fid = true) (hm : (modes fid).hand = []) (hE : ∀ x ∈ xs, E fid [x.sv] [] = some (.bool (p x), [])) : E 145 [.arr (xs.map Tm.d), .fn fid []] [] = some (.bool (xs.any p), []) := by
  have h := indexFunc_terms fid p xs hl hg hm hE
  refine E_walk k_slices_ContainsFunc_impl_Term_impl_Term m_slices_ContainsFunc_impl_Term_impl_Term (of_decide_eq_true rfl) ?_
  simp (disch := omega) only [c_slices_ContainsFunc_impl_Term_impl_Term, go_sem, Nat.reduceAdd, Nat.reduceSub, Nat.reduceLT, Nat.reduceLeDiff, Nat.reduceEqDiff, Nat.reduceBEq, Nat.reduceBneDiff, Nat.reduceMul, ↓reduceIte, Int.reduceToNat, reduceCtorEq, Int.reduceNeg, Int.reduceAdd, h, m_slices_IndexFunc_impl_Term_impl_Term]
  rw [idxP_any]

def c_impl_hasNames : SC := (.seq (.reg [⟨(some 1), none, (.boxv 24 2 (.t 0))⟩, ⟨(some 2), none, (.mv (.c (.bool false)))⟩]) (.seq (.seq (.reg [⟨(some 3), none, (.faddr 0 (.t 1))⟩, ⟨(some 4), none, (.load false 1 (.t 3))⟩, ⟨(some 5), none, (.call 135 [(.t 4)])⟩]) (.cond (.t 5) (.seq (.reg [⟨(some 6), none, (.faddr 1 (.t 1))⟩, ⟨(some 7), none, (.load false 1 (.t 6))⟩, ⟨(some 8), none, (.len false (.t 7))⟩, ⟨(some 9), none, (.bin .eql false (.t 8) (.c (.int .i64 0)))⟩, ⟨(some 2), none, (.mv (.t 9))⟩]) .ret) .skip)) (.seq (.reg [⟨(some 10), none, (.faddr 0 (.t 1))⟩, ⟨(some 11), none, (.load false 1 (.t 10))⟩, ⟨(some 12), none, (.call 102 [(.t 11)])⟩, ⟨(some 13), none, (.mv (.t 12))⟩, ⟨(some 14), (some (13, true)), (.faddr 1 (.t 1))⟩, ⟨(some 15), (some (13, true)), (.load false 1 (.t 14))⟩, ⟨(some 16), (some (13, true)), (.len false (.t 15))⟩, ⟨(some 17), (some (13, true)), (.bin .leq false (.t 16) (.c (.int .i64 4)))⟩, ⟨(some 18), none, (.pick (.t 13) (.t 17) (.c (.bool false)))⟩, ⟨(some 19), none, (.mv (.t 18))⟩, ⟨(some 20), (some (19, true)), (.faddr 1 (.t 1))⟩, ⟨(some 21), (some (19, true)), (.load false 1 (.t 20))⟩, ⟨(some 22), (some (19, true)), (.call 145 [(.t 21), (.c (.fn 146 []))])⟩, ⟨(some 23), (some (19, true)), (.un .not (.t 22))⟩, ⟨(some 24), none, (.pick (.t 19) (.t 23) (.c (.bool false)))⟩, ⟨(some 2), none, (.mv (.t 24))⟩]) .ret)))
theorem k_impl_hasNames : codeOf Try.prog 96 = some ⟨25, c_impl_hasNames, [(.tmp 2)]⟩ := by kernel_rfl
theorem m_impl_hasNames : modes 96 = ⟨[], .asis, none, false⟩ := by unfold modes; rfl

def c_impl_hasNames_1 : SC := (.seq (.reg [⟨(some 1), none, (.boxv 24 2 (.t 0))⟩, ⟨(some 2), none, (.mv (.c (.bool false)))⟩]) (.seq (.reg [⟨(some 3), none, (.load true 2 (.t 1))⟩, ⟨(some 4), none, (.call 96 [(.t 3)])⟩, ⟨(some 5), none, (.un .not (.t 4))⟩, ⟨(some 2), none, (.mv (.t 5))⟩]) .ret))
theorem k_impl_hasNames_1 : codeOf Try.prog 146 = some ⟨6, c_impl_hasNames_1, [(.tmp 2)]⟩ := by kernel_rfl
theorem m_impl_hasNames_1 : modes 146 = ⟨[], .asis, none, false⟩ := by unfold modes; rfl

theorem g_impl_hasNames_1 : goFn Try.prog 146 = true := by kernel_rfl

theorem Tm.any_not (xs : List Tm) : (!xs.any fun y => !y.names) = Tm.nameS xs := by
  rw [Tm.nameS_all]
  induction xs with
  | nil => rfl
  | cons x xs ih => simp only [List.any_cons, List.all_cons, Bool.not_or, Bool.not_not, ih]
set_option maxHeartbeats 1000000 in
theorem hasNames_of (x : Tm) (hn : x.nodes ≤ 1099511627776) (ih : ∀ y ∈ x.args, E 96 [y.sv] [] = some (.bool y.names, [])) : E 96 [x.sv] [] = some (.bool x.names, []) := by
  have hl := Tm.length_le x.args
  have hx := Tm.nodes_eq x
  have h1 : ∀ y ∈ x.args, E 146 [y.sv] [] = some (.bool (!y.names), []) := fun y hy => by
    have h := ih y hy
    refine E_walk k_impl_hasNames_1 m_impl_hasNames_1 (of_decide_eq_true rfl) ?_
    simp (disch := omega) only [c_impl_hasNames_1, go_sem, Nat.reduceAdd, Nat.reduceSub, Nat.reduceLT, Nat.reduceLeDiff, Nat.reduceEqDiff, Nat.reduceBEq, Nat.reduceBneDiff, Nat.reduceMul, ↓reduceIte, Int.reduceToNat, reduceCtorEq, Int.reduceNeg, Int.reduceAdd, h, m_impl_hasNames]
  have h2 := containsFunc_terms 146 (fun y => !y.names) x.args (by omega) g_impl_hasNames_1 (by rw [m_impl_hasNames_1]) h1
  rw [Tm.names_eq, ← Tm.any_not]
  cases hv : varB x.name with
  | true =>
    have h3 := isVariable_E x.name
    rw [hv] at h3
    refine E_walk k_impl_hasNames m_impl_hasNames (of_decide_eq_true rfl) ?_
    simp (disch := omega) only [c_impl_hasNames, go_sem, Nat.reduceAdd, Nat.reduceSub, Nat.reduceLT, Nat.reduceLeDiff, Nat.reduceEqDiff, Nat.reduceBEq, Nat.reduceBneDiff, Nat.reduceMul, ↓reduceIte, Int.reduceToNat, reduceCtorEq, Int.reduceNeg, Int.reduceAdd, h3, m_impl_isVariable]
    rw [dec_of]; cases x.args <;> simp <;> omega
  | false =>
    have h3 := isVariable_E x.name
    rw [hv] at h3
    have h4 := isSymbol_E x.name
    cases hs : symB x.name with
    | false =>
      rw [hs] at h4
      refine E_walk k_impl_hasNames m_impl_hasNames (of_decide_eq_true rfl) ?_
      simp (disch := omega) only [c_impl_hasNames, go_sem, Nat.reduceAdd, Nat.reduceSub, Nat.reduceLT, Nat.reduceLeDiff, Nat.reduceEqDiff, Nat.reduceBEq, Nat.reduceBneDiff, Nat.reduceMul, ↓reduceIte, Int.reduceToNat, reduceCtorEq, Int.reduceNeg, Int.reduceAdd, h2, h3, h4, m_impl_isVariable, m_impl_isSymbol]
    | true =>
      rw [hs] at h4
      rcases Nat.lt_or_ge 4 x.args.length with h5 | h5
      · refine E_walk k_impl_hasNames m_impl_hasNames (of_decide_eq_true rfl) ?_
        simp (disch := omega) only [c_impl_hasNames, go_sem, Nat.reduceAdd, Nat.reduceSub, Nat.reduceLT, Nat.reduceLeDiff, Nat.reduceEqDiff, Nat.reduceBEq, Nat.reduceBneDiff, Nat.reduceMul, ↓reduceIte, Int.reduceToNat, reduceCtorEq, Int.reduceNeg, Int.reduceAdd, h2, h3, h4, m_impl_isVariable, m_impl_isSymbol]
        simp; omega
      · refine E_walk k_impl_hasNames m_impl_hasNames (of_decide_eq_true rfl) ?_
        simp (disch := omega) only [c_impl_hasNames, go_sem, Nat.reduceAdd, Nat.reduceSub, Nat.reduceLT, Nat.reduceLeDiff, Nat.reduceEqDiff, Nat.reduceBEq, Nat.reduceBneDiff, Nat.reduceMul, ↓reduceIte, Int.reduceToNat, reduceCtorEq, Int.reduceNeg, Int.reduceAdd, h2, h3, h4, m_impl_isVariable, m_impl_isSymbol, m_slices_ContainsFunc_impl_Term_impl_Term]
        simp [h5]
theorem hasNames_E (x : Tm) (hn : x.nodes ≤ 1099511627776) : E 96 [x.sv] [] = some (.bool x.names, []) :=
  hasNames_of x hn fun y hy => hasNames_E y (by have := Tm.nodes_mem hy; have := Tm.nodes_eq x; omega)
termination_by SizeOf.sizeOf x
decreasing_by exact Tm.lt_of_mem hy

def c_spec_l2Nodes : SC := (.seq (.reg [⟨(some 1), none, (.boxv 24 2 (.t 0))⟩, ⟨(some 2), none, (.mv (.c (.bool false)))⟩]) (.seq (.seq (.reg [⟨(some 4), none, (.faddr 0 (.t 1))⟩, ⟨(some 5), none, (.load false 1 (.t 4))⟩, ⟨(some 6), none, (.call 131 [(.t 5)])⟩]) (.cond (.t 6) (.seq (.reg [⟨(some 7), none, (.faddr 1 (.t 1))⟩, ⟨(some 8), none, (.load false 1 (.t 7))⟩, ⟨(some 9), none, (.len false (.t 8))⟩, ⟨(some 10), none, (.bin .eql false (.t 9) (.c (.int .i64 0)))⟩, ⟨(some 2), none, (.mv (.t 10))⟩]) .ret) .skip)) (.seq (.seq (.reg [⟨(some 11), none, (.faddr 0 (.t 1))⟩, ⟨(some 12), none, (.load false 1 (.t 11))⟩, ⟨(some 13), none, (.call 151 [(.t 12)])⟩, ⟨(some 14), none, (.un .not (.t 13))⟩, ⟨(some 15), none, (.mv (.t 14))⟩, ⟨(some 16), (some (15, false)), (.faddr 1 (.t 1))⟩, ⟨(some 17), (some (15, false)), (.load false 1 (.t 16))⟩, ⟨(some 18), (some (15, false)), (.len false (.t 17))⟩, ⟨(some 19), (some (15, false)), (.bin .gtr false (.t 18) (.c (.int .i64 4)))⟩, ⟨(some 20), none, (.pick (.t 15) (.c (.bool true)) (.t 19))⟩]) (.cond (.t 20) (.seq (.reg [⟨(some 2), none, (.mv (.c (.bool false)))⟩]) .ret) .skip)) (.seq (.seq (.reg [⟨(some 3), none, (.mv (.c (.int .i64 0)))⟩]) (.block 0 (.loop [0, 1, 0, 1, 0, 0, 0, 0, 0, 0, 0, 0, 0, 0, 0, 0, 0, 0, 0, 0, 0, 0, 0, 0, 0, 0, 0, 0, 0, 0, 0, 0, 0, 0, 0] (.seq (.seq (.reg [⟨(some 21), none, (.mv (.t 3))⟩, ⟨(some 22), none, (.faddr 1 (.t 1))⟩, ⟨(some 23), none, (.load false 1 (.t 22))⟩, ⟨(some 24), none, (.len false (.t 23))⟩, ⟨(some 25), none, (.bin .lss false (.t 21) (.t 24))⟩]) (.cond (.t 25) .skip (.exit 0))) (.seq (.block 1 (.seq (.reg [⟨(some 28), none, (.faddr 1 (.t 1))⟩, ⟨(some 29), none, (.load false 1 (.t 28))⟩, ⟨(some 30), none, (.mv (.t 3))⟩, ⟨(some 31), none, (.iaddr 2 (.t 29) (.t 30))⟩, ⟨(some 32), none, (.load true 2 (.t 31))⟩, ⟨(some 33), none, (.call 133 [(.t 32)])⟩, ⟨(some 34), none, (.un .not (.t 33))⟩]) (.cond (.t 34) (.seq (.reg [⟨(some 2), none, (.mv (.c (.bool false)))⟩]) .ret) .skip))) (.reg [⟨(some 26), none, (.mv (.t 3))⟩, ⟨(some 27), none, (.bin .add false (.t 26) (.c (.int .i64 1)))⟩, ⟨(some 3), none, (.mv (.t 27))⟩])))))) (.seq (.reg [⟨(some 2), none, (.mv (.c (.bool true)))⟩]) .ret)))))
theorem k_spec_l2Nodes : codeOf Try.prog 133 = some ⟨35, c_spec_l2Nodes, [(.tmp 2)]⟩ := by kernel_rfl
theorem m_spec_l2Nodes : modes 133 = ⟨[], .asis, none, false⟩ := by unfold modes; rfl

set_option maxHeartbeats 1000000 in
theorem l2Nodes_of (x : Tm) (hn : x.nodes ≤ 1099511627776) (ih : ∀ y ∈ x.args, E 133 [y.sv] [] = some (.bool y.names, [])) : E 133 [x.sv] [] = some (.bool x.names, []) := by
  have hl := Tm.length_le x.args
  have hx := Tm.nodes_eq x
  have h3 := l2Var_E x.name
  have h4 := l2Symbol_E x.name
  rw [Tm.names_eq]
  cases hv : varB x.name with
  | true =>
    rw [hv] at h3
    refine E_walk k_spec_l2Nodes m_spec_l2Nodes (of_decide_eq_true rfl) ?_
    simp (disch := omega) only [c_spec_l2Nodes, go_sem, Nat.reduceAdd, Nat.reduceSub, Nat.reduceLT, Nat.reduceLeDiff, Nat.reduceEqDiff, Nat.reduceBEq, Nat.reduceBneDiff, Nat.reduceMul, ↓reduceIte, Int.reduceToNat, reduceCtorEq, Int.reduceNeg, Int.reduceAdd, h3, m_spec_l2Var]
    rw [dec_of]; cases x.args <;> simp <;> omega
  | false =>
    rw [hv] at h3
    cases hs : symB x.name with
    | false =>
      rw [hs] at h4
      refine E_walk k_spec_l2Nodes m_spec_l2Nodes (of_decide_eq_true rfl) ?_
      simp (disch := omega) only [c_spec_l2Nodes, go_sem, Nat.reduceAdd, Nat.reduceSub, Nat.reduceLT, Nat.reduceLeDiff, Nat.reduceEqDiff, Nat.reduceBEq, Nat.reduceBneDiff, Nat.reduceMul, ↓reduceIte, Int.reduceToNat, reduceCtorEq, Int.reduceNeg, Int.reduceAdd, h3, h4, m_spec_l2Var, m_spec_l2Symbol]
    | true =>
      rw [hs] at h4
      rcases Nat.lt_or_ge 4 x.args.length with h5 | h5
      · refine E_walk k_spec_l2Nodes m_spec_l2Nodes (of_decide_eq_true rfl) ?_
        simp (disch := omega) only [c_spec_l2Nodes, go_sem, Nat.reduceAdd, Nat.reduceSub, Nat.reduceLT, Nat.reduceLeDiff, Nat.reduceEqDiff, Nat.reduceBEq, Nat.reduceBneDiff, Nat.reduceMul, ↓reduceIte, Int.reduceToNat, reduceCtorEq, Int.reduceNeg, Int.reduceAdd, h3, h4, m_spec_l2Var, m_spec_l2Symbol]
        simp; omega
      · refine E_walk k_spec_l2Nodes m_spec_l2Nodes (of_decide_eq_true rfl) ?_
        simp (disch := omega) only [c_spec_l2Nodes, go_sem, Nat.reduceAdd, Nat.reduceSub, Nat.reduceLT, Nat.reduceLeDiff, Nat.reduceEqDiff, Nat.reduceBEq, Nat.reduceBneDiff, Nat.reduceMul, ↓reduceIte, Int.reduceToNat, reduceCtorEq, Int.reduceNeg, Int.reduceAdd, h3, h4, m_spec_l2Var, m_spec_l2Symbol]
        refine go_loop (α := Int) (fun a => ⟨slots 35 0 [(1, .ptr 0 0), (3, .int .i64 a)], [.box 24 [.str x.name, .arr (x.args.map Tm.d)]]⟩) (fun a => ∃ k : Nat, a = k ∧ k ≤ (x.args).length ∧ Tm.nameS (x.args.drop k) = Tm.nameS x.args) (fun a => (x.args).length - (a).toNat) 0 ⟨0, rfl, Nat.zero_le _, by rw [List.drop_zero]⟩ (by simp (disch := omega) only [go_sem, Nat.reduceAdd, Nat.reduceSub, Nat.reduceLT, Nat.reduceLeDiff, Nat.reduceEqDiff, Nat.reduceBEq, Nat.reduceBneDiff, Nat.reduceMul, ↓reduceIte, Int.reduceToNat, reduceCtorEq, Int.reduceNeg, Int.reduceAdd]) ?_
        rintro i ⟨k, hi, hk, hR⟩
        have hni : i.toNat = k := by omega
        have hni1 : (i + 1).toNat = k + 1 := by omega
        rcases Nat.lt_or_ge k (x.args).length with hlt | hge
        · have hg := get_at Tm.d hlt
          rw [Tm.d_eq] at hg
          have hc := ih x.args[k] (List.getElem_mem hlt)
          rw [List.drop_eq_getElem_cons hlt, Tm.nameS] at hR
          cases hp : x.args[k].names with
          | true =>
            rw [hp] at hc hR
            simp (disch := omega) only [go_sem, Nat.reduceAdd, Nat.reduceSub, Nat.reduceLT, Nat.reduceLeDiff, Nat.reduceEqDiff, Nat.reduceBEq, Nat.reduceBneDiff, Nat.reduceMul, ↓reduceIte, Int.reduceToNat, reduceCtorEq, Int.reduceNeg, Int.reduceAdd, hni, hg, hc, m_spec_l2Nodes]
            exact ⟨i + 1, ⟨k + 1, by omega, hlt, by simpa using hR⟩, by omega, by first | trivial | rfl⟩
          | false =>
            rw [hp] at hc hR
            simp (disch := omega) only [go_sem, Nat.reduceAdd, Nat.reduceSub, Nat.reduceLT, Nat.reduceLeDiff, Nat.reduceEqDiff, Nat.reduceBEq, Nat.reduceBneDiff, Nat.reduceMul, ↓reduceIte, Int.reduceToNat, reduceCtorEq, Int.reduceNeg, Int.reduceAdd, hni, hg, hc, m_spec_l2Nodes]
            simp at hR ⊢; exact fun _ => hR
        · rw [List.drop_eq_nil_of_le hge, Tm.nameS] at hR
          simp (disch := omega) only [go_sem, Nat.reduceAdd, Nat.reduceSub, Nat.reduceLT, Nat.reduceLeDiff, Nat.reduceEqDiff, Nat.reduceBEq, Nat.reduceBneDiff, Nat.reduceMul, ↓reduceIte, Int.reduceToNat, reduceCtorEq, Int.reduceNeg, Int.reduceAdd, hni]
          simp [h5, ← hR]
theorem l2Nodes_E (x : Tm) (hn : x.nodes ≤ 1099511627776) : E 133 [x.sv] [] = some (.bool x.names, []) :=
  l2Nodes_of x hn fun y hy => l2Nodes_E y (by have := Tm.nodes_mem hy; have := Tm.nodes_eq x; omega)
termination_by SizeOf.sizeOf x
decreasing_by exact Tm.lt_of_mem hy
end Go.Proofs.Ytjafnijgkjjadab

set_option maxRecDepth 100000
set_option linter.unusedSimpArgs false
set_option linter.unusedVariables false
namespace Go.Proofs.Ytjafnijgkjjadab
open Go.RowKit

def c_impl_isSmall : SC := (.seq (.reg [⟨(some 1), none, (.boxv 24 2 (.t 0))⟩, ⟨(some 2), none, (.mv (.c (.bool false)))⟩]) (.seq (.reg [⟨(some 3), none, (.load true 2 (.t 1))⟩, ⟨(some 4), none, (.call 143 [(.t 3)])⟩, ⟨(some 5), none, (.bin .leq false (.t 4) (.c (.int .i64 30)))⟩, ⟨(some 6), none, (.mv (.t 5))⟩, ⟨(some 7), (some (6, true)), (.load true 2 (.t 1))⟩, ⟨(some 8), (some (6, true)), (.call 144 [(.t 7)])⟩, ⟨(some 9), (some (6, true)), (.bin .leq false (.t 8) (.c (.int .i64 8)))⟩, ⟨(some 10), none, (.pick (.t 6) (.t 9) (.c (.bool false)))⟩, ⟨(some 2), none, (.mv (.t 10))⟩]) .ret))
theorem k_impl_isSmall : codeOf Try.prog 95 = some ⟨11, c_impl_isSmall, [(.tmp 2)]⟩ := by kernel_rfl
theorem m_impl_isSmall : modes 95 = ⟨[], .asis, none, false⟩ := by unfold modes; rfl

def c_spec_l2Fits : SC := (.seq (.reg [⟨(some 1), none, (.boxv 24 2 (.t 0))⟩, ⟨(some 2), none, (.mv (.c (.bool false)))⟩]) (.seq (.reg [⟨(some 3), none, (.load true 2 (.t 1))⟩, ⟨(some 4), none, (.call 167 [(.t 3), (.c (.int .i64 30))])⟩, ⟨(some 5), none, (.bin .leq false (.t 4) (.c (.int .i64 30)))⟩, ⟨(some 6), none, (.mv (.t 5))⟩, ⟨(some 7), (some (6, true)), (.load true 2 (.t 1))⟩, ⟨(some 8), (some (6, true)), (.call 168 [(.t 7)])⟩, ⟨(some 9), (some (6, true)), (.bin .leq false (.t 8) (.c (.int .i64 8)))⟩, ⟨(some 10), none, (.pick (.t 6) (.t 9) (.c (.bool false)))⟩, ⟨(some 2), none, (.mv (.t 10))⟩]) .ret))
theorem k_spec_l2Fits : codeOf Try.prog 132 = some ⟨11, c_spec_l2Fits, [(.tmp 2)]⟩ := by kernel_rfl
theorem m_spec_l2Fits : modes 132 = ⟨[], .asis, none, false⟩ := by unfold modes; rfl

def c_impl_IsValidTerm : SC := (.seq (.reg [⟨(some 1), none, (.boxv 24 2 (.t 0))⟩, ⟨(some 2), none, (.mv (.c (.bool false)))⟩]) (.seq (.reg [⟨(some 3), none, (.load true 2 (.t 1))⟩, ⟨(some 4), none, (.call 95 [(.t 3)])⟩, ⟨(some 5), none, (.mv (.t 4))⟩, ⟨(some 6), (some (5, true)), (.load true 2 (.t 1))⟩, ⟨(some 7), (some (5, true)), (.call 96 [(.t 6)])⟩, ⟨(some 8), none, (.pick (.t 5) (.t 7) (.c (.bool false)))⟩, ⟨(some 2), none, (.mv (.t 8))⟩]) .ret))
theorem k_impl_IsValidTerm : codeOf Try.prog 48 = some ⟨9, c_impl_IsValidTerm, [(.tmp 2)]⟩ := by kernel_rfl
theorem m_impl_IsValidTerm : modes 48 = ⟨[], .asis, none, false⟩ := by unfold modes; rfl

def c_spec_l2Good : SC := (.seq (.reg [⟨(some 1), none, (.boxv 24 2 (.t 0))⟩, ⟨(some 2), none, (.mv (.c (.bool false)))⟩]) (.seq (.reg [⟨(some 3), none, (.load true 2 (.t 1))⟩, ⟨(some 4), none, (.call 132 [(.t 3)])⟩, ⟨(some 5), none, (.mv (.t 4))⟩, ⟨(some 6), (some (5, true)), (.load true 2 (.t 1))⟩, ⟨(some 7), (some (5, true)), (.call 133 [(.t 6)])⟩, ⟨(some 8), none, (.pick (.t 5) (.t 7) (.c (.bool false)))⟩, ⟨(some 2), none, (.mv (.t 8))⟩]) .ret))
theorem k_spec_l2Good : codeOf Try.prog 84 = some ⟨9, c_spec_l2Good, [(.tmp 2)]⟩ := by kernel_rfl
theorem m_spec_l2Good : modes 84 = ⟨[], .asis, none, false⟩ := by unfold modes; rfl

def c_impl_isEquality : SC := (.seq (.reg [⟨(some 1), none, (.boxv 24 2 (.t 0))⟩, ⟨(some 2), none, (.mv (.c (.bool false)))⟩]) (.seq (.reg [⟨(some 3), none, (.faddr 0 (.t 1))⟩, ⟨(some 4), none, (.load false 1 (.t 3))⟩, ⟨(some 5), none, (.bin .eql false (.t 4) (.c (.str ⟨#[61]⟩)))⟩, ⟨(some 2), none, (.mv (.t 5))⟩]) .ret))
theorem k_impl_isEquality : codeOf Try.prog 97 = some ⟨6, c_impl_isEquality, [(.tmp 2)]⟩ := by kernel_rfl
theorem m_impl_isEquality : modes 97 = ⟨[], .asis, none, false⟩ := by unfold modes; rfl

def c_impl_IsValidAtom : SC := (.seq (.reg [⟨(some 1), none, (.boxv 24 2 (.t 0))⟩, ⟨(some 2), none, (.mv (.c (.bool false)))⟩]) (.seq (.seq (.reg [⟨(some 3), none, (.load true 2 (.t 1))⟩, ⟨(some 4), none, (.call 97 [(.t 3)])⟩]) (.cond (.t 4) (.seq (.reg [⟨(some 5), none, (.faddr 1 (.t 1))⟩, ⟨(some 6), none, (.load false 1 (.t 5))⟩, ⟨(some 7), none, (.len false (.t 6))⟩, ⟨(some 8), none, (.bin .eql false (.t 7) (.c (.int .i64 2)))⟩, ⟨(some 9), none, (.mv (.t 8))⟩, ⟨(some 10), (some (9, true)), (.load true 2 (.t 1))⟩, ⟨(some 11), (some (9, true)), (.call 95 [(.t 10)])⟩, ⟨(some 12), none, (.pick (.t 9) (.t 11) (.c (.bool false)))⟩, ⟨(some 13), none, (.mv (.t 12))⟩, ⟨(some 14), (some (13, true)), (.faddr 1 (.t 1))⟩, ⟨(some 15), (some (13, true)), (.load false 1 (.t 14))⟩, ⟨(some 16), (some (13, true)), (.iaddr 2 (.t 15) (.c (.int .i64 0)))⟩, ⟨(some 17), (some (13, true)), (.load true 2 (.t 16))⟩, ⟨(some 18), (some (13, true)), (.call 96 [(.t 17)])⟩, ⟨(some 19), none, (.pick (.t 13) (.t 18) (.c (.bool false)))⟩, ⟨(some 20), none, (.mv (.t 19))⟩, ⟨(some 21), (some (20, true)), (.faddr 1 (.t 1))⟩, ⟨(some 22), (some (20, true)), (.load false 1 (.t 21))⟩, ⟨(some 23), (some (20, true)), (.iaddr 2 (.t 22) (.c (.int .i64 1)))⟩, ⟨(some 24), (some (20, true)), (.load true 2 (.t 23))⟩, ⟨(some 25), (some (20, true)), (.call 96 [(.t 24)])⟩, ⟨(some 26), none, (.pick (.t 20) (.t 25) (.c (.bool false)))⟩, ⟨(some 2), none, (.mv (.t 26))⟩]) .ret) .skip)) (.seq (.reg [⟨(some 27), none, (.faddr 0 (.t 1))⟩, ⟨(some 28), none, (.load false 1 (.t 27))⟩, ⟨(some 29), none, (.call 102 [(.t 28)])⟩, ⟨(some 30), none, (.mv (.t 29))⟩, ⟨(some 31), (some (30, true)), (.load true 2 (.t 1))⟩, ⟨(some 32), (some (30, true)), (.call 48 [(.t 31)])⟩, ⟨(some 33), none, (.pick (.t 30) (.t 32) (.c (.bool false)))⟩, ⟨(some 2), none, (.mv (.t 33))⟩]) .ret)))
theorem k_impl_IsValidAtom : codeOf Try.prog 55 = some ⟨34, c_impl_IsValidAtom, [(.tmp 2)]⟩ := by kernel_rfl
theorem m_impl_IsValidAtom : modes 55 = ⟨[], .asis, none, false⟩ := by unfold modes; rfl

def c_spec_l2Atom : SC := (.seq (.reg [⟨(some 1), none, (.boxv 24 2 (.t 0))⟩, ⟨(some 2), none, (.mv (.c (.bool false)))⟩]) (.seq (.seq (.reg [⟨(some 3), none, (.faddr 0 (.t 1))⟩, ⟨(some 4), none, (.load false 1 (.t 3))⟩, ⟨(some 5), none, (.bin .eql false (.t 4) (.c (.str ⟨#[61]⟩)))⟩]) (.cond (.t 5) (.seq (.reg [⟨(some 6), none, (.faddr 1 (.t 1))⟩, ⟨(some 7), none, (.load false 1 (.t 6))⟩, ⟨(some 8), none, (.len false (.t 7))⟩, ⟨(some 9), none, (.bin .eql false (.t 8) (.c (.int .i64 2)))⟩, ⟨(some 10), none, (.mv (.t 9))⟩, ⟨(some 11), (some (10, true)), (.load true 2 (.t 1))⟩, ⟨(some 12), (some (10, true)), (.call 132 [(.t 11)])⟩, ⟨(some 13), none, (.pick (.t 10) (.t 12) (.c (.bool false)))⟩, ⟨(some 14), none, (.mv (.t 13))⟩, ⟨(some 15), (some (14, true)), (.faddr 1 (.t 1))⟩, ⟨(some 16), (some (14, true)), (.load false 1 (.t 15))⟩, ⟨(some 17), (some (14, true)), (.iaddr 2 (.t 16) (.c (.int .i64 0)))⟩, ⟨(some 18), (some (14, true)), (.load true 2 (.t 17))⟩, ⟨(some 19), (some (14, true)), (.call 133 [(.t 18)])⟩, ⟨(some 20), none, (.pick (.t 14) (.t 19) (.c (.bool false)))⟩, ⟨(some 21), none, (.mv (.t 20))⟩, ⟨(some 22), (some (21, true)), (.faddr 1 (.t 1))⟩, ⟨(some 23), (some (21, true)), (.load false 1 (.t 22))⟩, ⟨(some 24), (some (21, true)), (.iaddr 2 (.t 23) (.c (.int .i64 1)))⟩, ⟨(some 25), (some (21, true)), (.load true 2 (.t 24))⟩, ⟨(some 26), (some (21, true)), (.call 133 [(.t 25)])⟩, ⟨(some 27), none, (.pick (.t 21) (.t 26) (.c (.bool false)))⟩, ⟨(some 2), none, (.mv (.t 27))⟩]) .ret) .skip)) (.seq (.reg [⟨(some 28), none, (.faddr 0 (.t 1))⟩, ⟨(some 29), none, (.load false 1 (.t 28))⟩, ⟨(some 30), none, (.call 151 [(.t 29)])⟩, ⟨(some 31), none, (.mv (.t 30))⟩, ⟨(some 32), (some (31, true)), (.load true 2 (.t 1))⟩, ⟨(some 33), (some (31, true)), (.call 84 [(.t 32)])⟩, ⟨(some 34), none, (.pick (.t 31) (.t 33) (.c (.bool false)))⟩, ⟨(some 2), none, (.mv (.t 34))⟩]) .ret)))
theorem k_spec_l2Atom : codeOf Try.prog 101 = some ⟨35, c_spec_l2Atom, [(.tmp 2)]⟩ := by kernel_rfl
theorem m_spec_l2Atom : modes 101 = ⟨[], .asis, none, false⟩ := by unfold modes; rfl



theorem isSmall_E (x : Tm) (hn : x.nodes ≤ 1099511627776) : E 95 [x.sv] [] = some (.bool x.small, []) := by
  have h1 := size_E x hn
  have h2 := depth_E x hn
  have h3 := Tm.cap_spec x
  have h4 := Tm.many_spec x 30
  unfold Tm.small
  rcases Nat.lt_or_ge 30 x.nodes with h5 | h5
  · rw [decide_eq_false (by omega), Bool.false_and]
    refine E_walk k_impl_isSmall m_impl_isSmall (of_decide_eq_true rfl) ?_
    simp (disch := omega) only [c_impl_isSmall, go_sem, Nat.reduceAdd, Nat.reduceSub, Nat.reduceLT, Nat.reduceLeDiff, Nat.reduceEqDiff, Nat.reduceBEq, Nat.reduceBneDiff, Nat.reduceMul, ↓reduceIte, Int.reduceToNat, reduceCtorEq, Int.reduceNeg, Int.reduceAdd, h1, h2, m_impl_size, m_impl_depth]
  · rw [decide_eq_true h5, Bool.true_and]
    refine E_walk k_impl_isSmall m_impl_isSmall (of_decide_eq_true rfl) ?_
    simp (disch := omega) only [c_impl_isSmall, go_sem, Nat.reduceAdd, Nat.reduceSub, Nat.reduceLT, Nat.reduceLeDiff, Nat.reduceEqDiff, Nat.reduceBEq, Nat.reduceBneDiff, Nat.reduceMul, ↓reduceIte, Int.reduceToNat, reduceCtorEq, Int.reduceNeg, Int.reduceAdd, h1, h2, m_impl_size, m_impl_depth]
    rcases Nat.lt_or_ge 8 x.deep with h6 | h6
    · rw [decide_eq_false (by omega), dec_f (by omega)]
    · rw [decide_eq_true h6, dec_t (by omega)]
theorem l2Fits_E (x : Tm) (hn : x.nodes ≤ 1099511627776) : E 132 [x.sv] [] = some (.bool x.small, []) := by
  have h1 := many_E x 30 (by omega) (by omega) hn
  have h2 := l2Depth_E x hn
  have h3 := Tm.cap_spec x
  have h4 := Tm.many_spec x 30
  unfold Tm.small
  rcases Nat.lt_or_ge 30 x.nodes with h5 | h5
  · rw [decide_eq_false (by omega), Bool.false_and]
    refine E_walk k_spec_l2Fits m_spec_l2Fits (of_decide_eq_true rfl) ?_
    simp (disch := omega) only [c_spec_l2Fits, go_sem, Nat.reduceAdd, Nat.reduceSub, Nat.reduceLT, Nat.reduceLeDiff, Nat.reduceEqDiff, Nat.reduceBEq, Nat.reduceBneDiff, Nat.reduceMul, ↓reduceIte, Int.reduceToNat, reduceCtorEq, Int.reduceNeg, Int.reduceAdd, h1, h2, m_spec_l2Many, m_spec_l2Depth]
  · rw [decide_eq_true h5, Bool.true_and]
    refine E_walk k_spec_l2Fits m_spec_l2Fits (of_decide_eq_true rfl) ?_
    simp (disch := omega) only [c_spec_l2Fits, go_sem, Nat.reduceAdd, Nat.reduceSub, Nat.reduceLT, Nat.reduceLeDiff, Nat.reduceEqDiff, Nat.reduceBEq, Nat.reduceBneDiff, Nat.reduceMul, ↓reduceIte, Int.reduceToNat, reduceCtorEq, Int.reduceNeg, Int.reduceAdd, h1, h2, m_spec_l2Many, m_spec_l2Depth]
    rcases Nat.lt_or_ge 8 x.deep with h6 | h6
    · rw [decide_eq_false (by omega), dec_f (by omega)]
    · rw [decide_eq_true h6, dec_t (by omega)]
theorem isValidTerm_E (x : Tm) (hn : x.nodes ≤ 1099511627776) : E 48 [x.sv] [] = some (.bool x.valid, []) := by
  have h1 := isSmall_E x hn
  have h2 := hasNames_E x hn
  unfold Tm.valid
  cases h3 : x.small <;> rw [h3] at h1
  · refine E_walk k_impl_IsValidTerm m_impl_IsValidTerm (of_decide_eq_true rfl) ?_
    simp (disch := omega) only [c_impl_IsValidTerm, go_sem, Nat.reduceAdd, Nat.reduceSub, Nat.reduceLT, Nat.reduceLeDiff, Nat.reduceEqDiff, Nat.reduceBEq, Nat.reduceBneDiff, Nat.reduceMul, ↓reduceIte, Int.reduceToNat, reduceCtorEq, Int.reduceNeg, Int.reduceAdd, h1, h2, m_impl_isSmall, m_impl_hasNames]
  · refine E_walk k_impl_IsValidTerm m_impl_IsValidTerm (of_decide_eq_true rfl) ?_
    simp (disch := omega) only [c_impl_IsValidTerm, go_sem, Nat.reduceAdd, Nat.reduceSub, Nat.reduceLT, Nat.reduceLeDiff, Nat.reduceEqDiff, Nat.reduceBEq, Nat.reduceBneDiff, Nat.reduceMul, ↓reduceIte, Int.reduceToNat, reduceCtorEq, Int.reduceNeg, Int.reduceAdd, h1, h2, m_impl_isSmall, m_impl_hasNames]
theorem l2Good_E (x : Tm) (hn : x.nodes ≤ 1099511627776) : E 84 [x.sv] [] = some (.bool x.valid, []) := by
  have h1 := l2Fits_E x hn
  have h2 := l2Nodes_E x hn
  unfold Tm.valid
  cases h3 : x.small <;> rw [h3] at h1
  · refine E_walk k_spec_l2Good m_spec_l2Good (of_decide_eq_true rfl) ?_
    simp (disch := omega) only [c_spec_l2Good, go_sem, Nat.reduceAdd, Nat.reduceSub, Nat.reduceLT, Nat.reduceLeDiff, Nat.reduceEqDiff, Nat.reduceBEq, Nat.reduceBneDiff, Nat.reduceMul, ↓reduceIte, Int.reduceToNat, reduceCtorEq, Int.reduceNeg, Int.reduceAdd, h1, h2, m_spec_l2Fits, m_spec_l2Nodes]
  · refine E_walk k_spec_l2Good m_spec_l2Good (of_decide_eq_true rfl) ?_
    simp (disch := omega) only [c_spec_l2Good, go_sem, Nat.reduceAdd, Nat.reduceSub, Nat.reduceLT, Nat.reduceLeDiff, Nat.reduceEqDiff, Nat.reduceBEq, Nat.reduceBneDiff, Nat.reduceMul, ↓reduceIte, Int.reduceToNat, reduceCtorEq, Int.reduceNeg, Int.reduceAdd, h1, h2, m_spec_l2Fits, m_spec_l2Nodes]
theorem isEquality_E (x : Tm) : E 97 [x.sv] [] = some (.bool x.eqn, []) := by
  unfold Tm.eqn
  refine E_walk k_impl_isEquality m_impl_isEquality (of_decide_eq_true rfl) ?_
  simp (disch := omega) only [c_impl_isEquality, go_sem, Nat.reduceAdd, Nat.reduceSub, Nat.reduceLT, Nat.reduceLeDiff, Nat.reduceEqDiff, Nat.reduceBEq, Nat.reduceBneDiff, Nat.reduceMul, ↓reduceIte, Int.reduceToNat, reduceCtorEq, Int.reduceNeg, Int.reduceAdd]
set_option maxHeartbeats 1000000 in
theorem isValidAtom_E (x : Tm) (hn : x.nodes ≤ 1099511627776) : E 55 [x.sv] [] = some (.bool x.atom, []) := by
  have hl := Tm.length_le x.args
  have hx := Tm.nodes_eq x
  have h0 := isEquality_E x
  have h1 := isSmall_E x hn
  have h2 := isSymbol_E x.name
  have h3 := isValidTerm_E x hn
  have hE : dec (x.name = ⟨#[61]⟩) = x.eqn := rfl
  unfold Tm.atom
  cases he : x.eqn <;> rw [he] at h0 hE
  · rw [if_neg (by simp)]
    cases hs : symB x.name <;> rw [hs] at h2
    · refine E_walk k_impl_IsValidAtom m_impl_IsValidAtom (of_decide_eq_true rfl) ?_
      simp (disch := omega) only [c_impl_IsValidAtom, go_sem, Nat.reduceAdd, Nat.reduceSub, Nat.reduceLT, Nat.reduceLeDiff, Nat.reduceEqDiff, Nat.reduceBEq, Nat.reduceBneDiff, Nat.reduceMul, ↓reduceIte, Int.reduceToNat, reduceCtorEq, Int.reduceNeg, Int.reduceAdd, h0, h1, h2, h3, hE, m_impl_isSmall, m_impl_hasNames, m_impl_isSymbol, m_impl_IsValidTerm, m_impl_isEquality]
    · refine E_walk k_impl_IsValidAtom m_impl_IsValidAtom (of_decide_eq_true rfl) ?_
      simp (disch := omega) only [c_impl_IsValidAtom, go_sem, Nat.reduceAdd, Nat.reduceSub, Nat.reduceLT, Nat.reduceLeDiff, Nat.reduceEqDiff, Nat.reduceBEq, Nat.reduceBneDiff, Nat.reduceMul, ↓reduceIte, Int.reduceToNat, reduceCtorEq, Int.reduceNeg, Int.reduceAdd, h0, h1, h2, h3, hE, m_impl_isSmall, m_impl_hasNames, m_impl_isSymbol, m_impl_IsValidTerm, m_impl_isEquality]
  · rw [if_pos rfl]
    by_cases hc : x.args.length = 2
    · have hlt0 : 0 < x.args.length := by omega
      have hlt1 : 1 < x.args.length := by omega
      have hg0 := get_at Tm.d hlt0
      have hg1 := get_at Tm.d hlt1
      rw [Tm.d_eq] at hg0 hg1
      have hb0 := Tm.nodes_le x.args 0 hlt0
      have hb1 := Tm.nodes_le x.args 1 hlt1
      have hn0 := hasNames_E x.args[0] (by omega)
      have hn1 := hasNames_E x.args[1] (by omega)
      rw [nameS_two hc, show (x.args.length == 2) = true by simpa using hc]
      cases hs : x.small <;> rw [hs] at h1
      · refine E_walk k_impl_IsValidAtom m_impl_IsValidAtom (of_decide_eq_true rfl) ?_
        simp (disch := omega) only [c_impl_IsValidAtom, go_sem, Nat.reduceAdd, Nat.reduceSub, Nat.reduceLT, Nat.reduceLeDiff, Nat.reduceEqDiff, Nat.reduceBEq, Nat.reduceBneDiff, Nat.reduceMul, ↓reduceIte, Int.reduceToNat, reduceCtorEq, Int.reduceNeg, Int.reduceAdd, h0, h1, h2, h3, hE, hg0, hg1, hn0, hn1, hc, m_impl_isSmall, m_impl_hasNames, m_impl_isSymbol, m_impl_IsValidTerm, m_impl_isEquality]
        try simp
      · cases hq : (x.args[0]'hlt0).names <;> rw [hq] at hn0
        · refine E_walk k_impl_IsValidAtom m_impl_IsValidAtom (of_decide_eq_true rfl) ?_
          simp (disch := omega) only [c_impl_IsValidAtom, go_sem, Nat.reduceAdd, Nat.reduceSub, Nat.reduceLT, Nat.reduceLeDiff, Nat.reduceEqDiff, Nat.reduceBEq, Nat.reduceBneDiff, Nat.reduceMul, ↓reduceIte, Int.reduceToNat, reduceCtorEq, Int.reduceNeg, Int.reduceAdd, h0, h1, h2, h3, hE, hg0, hg1, hn0, hn1, hc, m_impl_isSmall, m_impl_hasNames, m_impl_isSymbol, m_impl_IsValidTerm, m_impl_isEquality]
          try simp
        · refine E_walk k_impl_IsValidAtom m_impl_IsValidAtom (of_decide_eq_true rfl) ?_
          simp (disch := omega) only [c_impl_IsValidAtom, go_sem, Nat.reduceAdd, Nat.reduceSub, Nat.reduceLT, Nat.reduceLeDiff, Nat.reduceEqDiff, Nat.reduceBEq, Nat.reduceBneDiff, Nat.reduceMul, ↓reduceIte, Int.reduceToNat, reduceCtorEq, Int.reduceNeg, Int.reduceAdd, h0, h1, h2, h3, hE, hg0, hg1, hn0, hn1, hc, m_impl_isSmall, m_impl_hasNames, m_impl_isSymbol, m_impl_IsValidTerm, m_impl_isEquality]
          try simp
    · refine E_walk k_impl_IsValidAtom m_impl_IsValidAtom (of_decide_eq_true rfl) ?_
      simp (disch := omega) only [c_impl_IsValidAtom, go_sem, Nat.reduceAdd, Nat.reduceSub, Nat.reduceLT, Nat.reduceLeDiff, Nat.reduceEqDiff, Nat.reduceBEq, Nat.reduceBneDiff, Nat.reduceMul, ↓reduceIte, Int.reduceToNat, reduceCtorEq, Int.reduceNeg, Int.reduceAdd, h0, h1, h2, h3, hE, m_impl_isSmall, m_impl_hasNames, m_impl_isSymbol, m_impl_IsValidTerm, m_impl_isEquality]
      rw [show (x.args.length == 2) = false by simpa using hc]
      try simp
set_option maxHeartbeats 1000000 in
theorem l2Atom_E (x : Tm) (hn : x.nodes ≤ 1099511627776) : E 101 [x.sv] [] = some (.bool x.atom, []) := by
  have hl := Tm.length_le x.args
  have hx := Tm.nodes_eq x
  have h0 := isEquality_E x
  have h1 := l2Fits_E x hn
  have h2 := l2Symbol_E x.name
  have h3 := l2Good_E x hn
  have hE : dec (x.name = ⟨#[61]⟩) = x.eqn := rfl
  unfold Tm.atom
  cases he : x.eqn <;> rw [he] at h0 hE
  · rw [if_neg (by simp)]
    cases hs : symB x.name <;> rw [hs] at h2
    · refine E_walk k_spec_l2Atom m_spec_l2Atom (of_decide_eq_true rfl) ?_
      simp (disch := omega) only [c_spec_l2Atom, go_sem, Nat.reduceAdd, Nat.reduceSub, Nat.reduceLT, Nat.reduceLeDiff, Nat.reduceEqDiff, Nat.reduceBEq, Nat.reduceBneDiff, Nat.reduceMul, ↓reduceIte, Int.reduceToNat, reduceCtorEq, Int.reduceNeg, Int.reduceAdd, h0, h1, h2, h3, hE, m_spec_l2Fits, m_spec_l2Nodes, m_spec_l2Symbol, m_spec_l2Good]
    · refine E_walk k_spec_l2Atom m_spec_l2Atom (of_decide_eq_true rfl) ?_
      simp (disch := omega) only [c_spec_l2Atom, go_sem, Nat.reduceAdd, Nat.reduceSub, Nat.reduceLT, Nat.reduceLeDiff, Nat.reduceEqDiff, Nat.reduceBEq, Nat.reduceBneDiff, Nat.reduceMul, ↓reduceIte, Int.reduceToNat, reduceCtorEq, Int.reduceNeg, Int.reduceAdd, h0, h1, h2, h3, hE, m_spec_l2Fits, m_spec_l2Nodes, m_spec_l2Symbol, m_spec_l2Good]
  · rw [if_pos rfl]
    by_cases hc : x.args.length = 2
    · have hlt0 : 0 < x.args.length := by omega
      have hlt1 : 1 < x.args.length := by omega
      have hg0 := get_at Tm.d hlt0
      have hg1 := get_at Tm.d hlt1
      rw [Tm.d_eq] at hg0 hg1
      have hb0 := Tm.nodes_le x.args 0 hlt0
      have hb1 := Tm.nodes_le x.args 1 hlt1
      have hn0 := l2Nodes_E x.args[0] (by omega)
      have hn1 := l2Nodes_E x.args[1] (by omega)
      rw [nameS_two hc, show (x.args.length == 2) = true by simpa using hc]
      cases hs : x.small <;> rw [hs] at h1
      · refine E_walk k_spec_l2Atom m_spec_l2Atom (of_decide_eq_true rfl) ?_
        simp (disch := omega) only [c_spec_l2Atom, go_sem, Nat.reduceAdd, Nat.reduceSub, Nat.reduceLT, Nat.reduceLeDiff, Nat.reduceEqDiff, Nat.reduceBEq, Nat.reduceBneDiff, Nat.reduceMul, ↓reduceIte, Int.reduceToNat, reduceCtorEq, Int.reduceNeg, Int.reduceAdd, h0, h1, h2, h3, hE, hg0, hg1, hn0, hn1, hc, m_spec_l2Fits, m_spec_l2Nodes, m_spec_l2Symbol, m_spec_l2Good]
        try simp
      · cases hq : (x.args[0]'hlt0).names <;> rw [hq] at hn0
        · refine E_walk k_spec_l2Atom m_spec_l2Atom (of_decide_eq_true rfl) ?_
          simp (disch := omega) only [c_spec_l2Atom, go_sem, Nat.reduceAdd, Nat.reduceSub, Nat.reduceLT, Nat.reduceLeDiff, Nat.reduceEqDiff, Nat.reduceBEq, Nat.reduceBneDiff, Nat.reduceMul, ↓reduceIte, Int.reduceToNat, reduceCtorEq, Int.reduceNeg, Int.reduceAdd, h0, h1, h2, h3, hE, hg0, hg1, hn0, hn1, hc, m_spec_l2Fits, m_spec_l2Nodes, m_spec_l2Symbol, m_spec_l2Good]
          try simp
        · refine E_walk k_spec_l2Atom m_spec_l2Atom (of_decide_eq_true rfl) ?_
          simp (disch := omega) only [c_spec_l2Atom, go_sem, Nat.reduceAdd, Nat.reduceSub, Nat.reduceLT, Nat.reduceLeDiff, Nat.reduceEqDiff, Nat.reduceBEq, Nat.reduceBneDiff, Nat.reduceMul, ↓reduceIte, Int.reduceToNat, reduceCtorEq, Int.reduceNeg, Int.reduceAdd, h0, h1, h2, h3, hE, hg0, hg1, hn0, hn1, hc, m_spec_l2Fits, m_spec_l2Nodes, m_spec_l2Symbol, m_spec_l2Good]
          try simp
    · refine E_walk k_spec_l2Atom m_spec_l2Atom (of_decide_eq_true rfl) ?_
      simp (disch := omega) only [c_spec_l2Atom, go_sem, Nat.reduceAdd, Nat.reduceSub, Nat.reduceLT, Nat.reduceLeDiff, Nat.reduceEqDiff, Nat.reduceBEq, Nat.reduceBneDiff, Nat.reduceMul, ↓reduceIte, Int.reduceToNat, reduceCtorEq, Int.reduceNeg, Int.reduceAdd, h0, h1, h2, h3, hE, m_spec_l2Fits, m_spec_l2Nodes, m_spec_l2Symbol, m_spec_l2Good]
      rw [show (x.args.length == 2) = false by simpa using hc]
      try simp
end Go.Proofs.Ytjafnijgkjjadab

set_option maxRecDepth 100000
set_option linter.unusedSimpArgs false
set_option linter.unusedVariables false
namespace Go.Proofs.Ytjafnijgkjjadab
open Go.RowKit

noncomputable def Tm.expr (x : Tm) : Bool := x.valid || x.atom
theorem Tm.expr_small {x : Tm} (h : x.expr = true) : x.small = true := by
  unfold Tm.expr Tm.atom Tm.valid at h
  cases hs : x.small with
  | true => rfl
  | false =>
    rw [hs] at h
    split at h <;> simp at h
theorem Tm.expr_nodes {x : Tm} (h : x.expr = true) : x.nodes ≤ 30 := by
  have := Tm.expr_small h
  unfold Tm.small at this
  rw [Bool.and_eq_true, decide_eq_true_eq] at this
  exact this.1
theorem Tm.eqn_var {x : Tm} (h : x.eqn = true) : varB x.name = false := by
  unfold Tm.eqn at h
  rw [dec_iff.1 h]
  kernel_rfl
theorem Tm.expr_names {x : Tm} (h : x.expr = true) : x.names = true ∨ (x.eqn = true ∧ Tm.nameS x.args = true) := by
  unfold Tm.expr Tm.valid at h
  cases hn : x.names with
  | true => exact .inl rfl
  | false =>
    rw [hn, Bool.and_false, Bool.false_or] at h
    unfold Tm.atom at h
    split at h
    · rename_i he
      rw [Bool.and_eq_true] at h
      exact .inr ⟨he, h.2⟩
    · unfold Tm.valid at h; rw [hn, Bool.and_false, Bool.and_false] at h; cases h
theorem Tm.expr_var {x : Tm} (h : x.expr = true) : varB x.name = true → x.args = [] := by
  intro hv
  rcases Tm.expr_names h with h1 | ⟨h1, h2⟩
  · exact Tm.names_var h1 hv
  · rw [Tm.eqn_var h1] at hv; cases hv
theorem Tm.expr_arg {x : Tm} (h : x.expr = true) {y : Tm} (hy : y ∈ x.args) : y.names = true := by
  rcases Tm.expr_names h with h1 | ⟨h1, h2⟩
  · exact Tm.names_arg h1 hy
  · rw [Tm.nameS_all, List.all_eq_true] at h2; exact h2 y hy

theorem Tm.nodeS_sumB : ∀ xs : List Tm, (∀ x ∈ xs, x.nodes ≤ 1 + x.bulk) → Tm.nodeS xs ≤ xs.length + Tm.sumB xs
  | [], _ => by simp [Tm.nodeS]
  | x :: xs, h => by
    have h1 := h x (by simp)
    have h2 := Tm.nodeS_sumB xs fun y hy => h y (by simp [hy])
    rw [Tm.nodeS, Tm.sumB]; simp only [List.length_cons]; omega
theorem Tm.nodes_bulk (x : Tm) : x.nodes ≤ 1 + x.bulk := by
  rw [Tm.nodes_eq, Tm.bulk_eq]
  have := Tm.nodeS_sumB x.args fun y hy => Tm.nodes_bulk y
  omega
termination_by SizeOf.sizeOf x
decreasing_by exact Tm.lt_of_mem hy
theorem varB_size {s : ByteArray} (h : varB s = true) : s.size ≤ 6 := by
  unfold varB inB at h
  simp at h
  omega
theorem symB_size {s : ByteArray} (h : symB s = true) : s.size ≤ 6 := by
  unfold symB inB at h
  simp at h
  omega
theorem Tm.sumB_nodes : ∀ xs : List Tm, (∀ x ∈ xs, x.bulk + 1 ≤ 8 * x.nodes) → xs.length + Tm.sumB xs ≤ 8 * Tm.nodeS xs
  | [], _ => by simp [Tm.nodeS, Tm.sumB]
  | x :: xs, h => by
    have h1 := h x (by simp)
    have h2 := Tm.sumB_nodes xs fun y hy => h y (by simp [hy])
    rw [Tm.nodeS, Tm.sumB]; simp only [List.length_cons]; omega
theorem Tm.names_bulk (x : Tm) (h : x.names = true) : x.bulk + 1 ≤ 8 * x.nodes := by
  have h1 := Tm.sumB_nodes x.args fun y hy => Tm.names_bulk y (Tm.names_arg h hy)
  have h2 : x.name.size ≤ 6 := by
    rw [Tm.names_eq] at h
    split at h
    · rename_i hv; exact varB_size hv
    · rw [Bool.and_eq_true, Bool.and_eq_true] at h; exact symB_size h.1.1
  rw [Tm.nodes_eq, Tm.bulk_eq]
  omega
termination_by SizeOf.sizeOf x
decreasing_by exact Tm.lt_of_mem hy
theorem Tm.expr_bulk {x : Tm} (h : x.expr = true) : x.bulk ≤ 1048576 := by
  have hn := Tm.expr_nodes h
  have h1 := Tm.sumB_nodes x.args fun y hy => Tm.names_bulk y (Tm.expr_arg h hy)
  have h2 : x.name.size ≤ 6 := by
    rcases Tm.expr_names h with h3 | ⟨h3, _⟩
    · rw [Tm.names_eq] at h3
      split at h3
      · rename_i hv; exact varB_size hv
      · rw [Bool.and_eq_true, Bool.and_eq_true] at h3; exact symB_size h3.1.1
    · unfold Tm.eqn at h3
      rw [dec_iff.1 h3]; decide
  rw [Tm.nodes_eq] at hn
  rw [Tm.bulk_eq]
  omega
end Go.Proofs.Ytjafnijgkjjadab

set_option maxRecDepth 100000
set_option linter.unusedSimpArgs false
set_option linter.unusedVariables false
namespace Go.Proofs.Ytjafnijgkjjadab
open Go.RowKit

theorem joinL_lib (c : List UInt8) : ∀ xs : List (List UInt8), Lib.join xs c = joinL c xs
  | [] => rfl
  | [x] => by rw [Lib.join_one]; rfl
  | x :: y :: r => by
    have h := joinL_lib c (y :: r)
    rw [joinL, ← h, Lib.join_cons, Lib.join_cons]
    simp only [Lib.joinTail, List.map_cons, List.flatten_cons, List.append_assoc]
def lenS : List (List UInt8) → Nat
  | [] => 0
  | x :: r => x.length + 1 + lenS r
theorem joinL_len (c : UInt8) : ∀ xs : List (List UInt8), (joinL [c] xs).length ≤ lenS xs
  | [] => by simp [joinL, lenS]
  | [x] => by simp [joinL, lenS]
  | x :: y :: r => by
    have h := joinL_len c (y :: r)
    rw [joinL, lenS]
    simp only [List.length_append, List.length_cons, List.length_nil]
    omega
theorem Tm.fmtL_lenS : ∀ xs : List Tm, (∀ x ∈ xs, x.fmt.length + 1 ≤ 10 * x.nodes) → lenS (Tm.fmtL xs) ≤ 10 * Tm.nodeS xs
  | [], _ => by simp [Tm.fmtL, lenS]
  | x :: xs, h => by
    have h1 := h x (by simp)
    have h2 := Tm.fmtL_lenS xs fun y hy => h y (by simp [hy])
    rw [Tm.fmtL, lenS, Tm.nodeS]; omega
theorem Tm.fmt_len (x : Tm) (hx : x.names = true) : x.fmt.length + 1 ≤ 10 * x.nodes := by
  have h := Tm.fmtL_lenS x.args fun y hy => Tm.fmt_len y (Tm.names_arg hx hy)
  have h2 : x.name.size ≤ 6 := by
    rw [Tm.names_eq] at hx
    split at hx
    · rename_i hv; exact varB_size hv
    · rw [Bool.and_eq_true, Bool.and_eq_true] at hx; exact symB_size hx.1.1
  have h3 := joinL_len 44 (Tm.fmtL x.args)
  rw [Tm.fmt_eq, Tm.nodes_eq, List.length_append, size_toList]
  split
  · simp only [List.length_nil]; omega
  · simp only [List.length_append, List.length_cons, List.length_nil]; omega
termination_by SizeOf.sizeOf x
decreasing_by exact Tm.lt_of_mem hy
/-- The text of a term. -/
def Tm.txt (x : Tm) : ByteArray := ⟨x.fmt.toArray⟩
theorem Tm.txt_toList (x : Tm) : x.txt.toList = x.fmt := by
  rw [ByteArray.toList_eq]; unfold Tm.txt; simp
theorem Tm.txt_size (x : Tm) : x.txt.size = x.fmt.length := by rw [← size_toList, Tm.txt_toList]
theorem app_toList (a b : ByteArray) : (a ++ b).toList = a.toList ++ b.toList := by
  rw [ByteArray.toList_eq, ByteArray.toList_eq, ByteArray.toList_eq]
  simp
theorem Tm.txt_leaf {x : Tm} (h : x.args = []) : x.txt = x.name := by
  refine bytes_ext ?_
  rw [Tm.txt_toList, Tm.fmt_eq, h]
  simp
theorem Tm.txt_join (xs : List Tm) : joinB (xs.map Tm.txt) ⟨#[44]⟩ = ⟨(joinL [44] (Tm.fmtL xs)).toArray⟩ := by
  unfold joinB
  rw [joinL_lib, List.map_map, Tm.fmtL_map]
  have e : ((fun x : ByteArray => x.data.toList) ∘ Tm.txt) = Tm.fmt := by
    funext x
    show x.txt.data.toList = x.fmt
    rw [← ByteArray.toList_eq, Tm.txt_toList]
  rw [e]
theorem mk_toList (l : List UInt8) : (⟨l.toArray⟩ : ByteArray).toList = l := by rw [ByteArray.toList_eq]
theorem Tm.txt_node {x : Tm} (h : x.args.length ≠ 0) : x.name ++ ⟨#[40]⟩ ++ joinB (x.args.map Tm.txt) ⟨#[44]⟩ ++ ⟨#[41]⟩ = x.txt := by
  refine bytes_ext ?_
  rw [Tm.txt_toList, Tm.fmt_eq, if_neg h, app_toList, app_toList, app_toList, Tm.txt_join, mk_toList (joinL [44] (Tm.fmtL x.args))]
  have e1 : (⟨#[40]⟩ : ByteArray).toList = [40] := by rw [ByteArray.toList_eq]
  have e2 : (⟨#[41]⟩ : ByteArray).toList = [41] := by rw [ByteArray.toList_eq]
  rw [e1, e2]
  simp only [List.append_assoc]
theorem Tm.eqn_names {x : Tm} (h : x.names = true) : x.eqn = false := by
  cases he : x.eqn with
  | false => rfl
  | true =>
    have hv := Tm.eqn_var he
    rw [Tm.names_eq, if_neg (by rw [hv]; simp), Bool.and_eq_true, Bool.and_eq_true] at h
    unfold Tm.eqn at he
    rw [dec_iff.1 he] at h
    have : symB ⟨#[61]⟩ = false := by kernel_rfl
    rw [this] at h
    simp at h
end Go.Proofs.Ytjafnijgkjjadab

set_option maxRecDepth 100000
set_option linter.unusedSimpArgs false
set_option linter.unusedVariables false
namespace Go.Proofs.Ytjafnijgkjjadab
open Go.RowKit

theorem m_strings_Join : modes 98 = ⟨[], .asis, some (valX joinX), false⟩ := by unfold modes; rfl
theorem join_E (xs : List ByteArray) (sep : ByteArray) (h1 : xs.length ≤ 1099511627776) (h2 : (joinB xs sep).size ≤ 1099511627776) : E 98 [.arr (xs.map fun s => [D.str s]), .str sep] [] = some (.str (joinB xs sep), []) := by
  refine E_ext (g := joinX) (congrArg FM.ext m_strings_Join) ?_
  have e : (xs.map fun s => [D.str s]).map strD = xs := by
    rw [List.map_map]
    have : (strD ∘ fun s => [D.str s]) = id := rfl
    rw [this, List.map_id]
  simp only [joinX, e]
  rw [dec_t ⟨fun e he => by obtain ⟨s, _, rfl⟩ := List.mem_map.1 he; exact ⟨s, rfl⟩, by simpa using h1, h2⟩, cond_true]
def c_impl_formatTerm : SC := (.seq (.reg [⟨(some 1), none, (.boxv 24 2 (.t 0))⟩, ⟨(some 2), none, (.mv (.c (.str ⟨#[]⟩)))⟩]) (.seq (.seq (.reg [⟨(some 6), none, (.load true 2 (.t 1))⟩, ⟨(some 7), none, (.call 97 [(.t 6)])⟩]) (.cond (.t 7) (.seq (.dreg [[], [0], [1, 0], [2, 1, 0], [3, 2, 1, 0], [4, 3, 2, 1, 0], [], [6], [7, 6], [8, 7, 6], [9, 8, 7, 6, 4, 3, 2, 1, 0], [5, 4, 3, 2, 1, 0, 10, 9, 8, 7, 6], [11, 5, 4, 3, 2, 1, 0, 10, 9, 8, 7, 6]] [⟨(some 8), none, (.faddr 1 (.t 1))⟩, ⟨(some 9), none, (.load false 1 (.t 8))⟩, ⟨(some 10), none, (.iaddr 2 (.t 9) (.c (.int .i64 0)))⟩, ⟨(some 11), none, (.load true 2 (.t 10))⟩, ⟨(some 12), none, (.call 49 [(.t 11)])⟩, ⟨(some 13), none, (.bin .add false (.t 12) (.c (.str ⟨#[32, 61, 32]⟩)))⟩, ⟨(some 14), none, (.faddr 1 (.t 1))⟩, ⟨(some 15), none, (.load false 1 (.t 14))⟩, ⟨(some 16), none, (.iaddr 2 (.t 15) (.c (.int .i64 1)))⟩, ⟨(some 17), none, (.load true 2 (.t 16))⟩, ⟨(some 18), none, (.call 49 [(.t 17)])⟩, ⟨(some 19), none, (.bin .add false (.t 13) (.t 18))⟩, ⟨(some 2), none, (.mv (.t 19))⟩]) .ret) .skip)) (.seq (.seq (.reg [⟨(some 20), none, (.faddr 1 (.t 1))⟩, ⟨(some 21), none, (.load false 1 (.t 20))⟩, ⟨(some 22), none, (.len false (.t 21))⟩, ⟨(some 23), none, (.bin .eql false (.t 22) (.c (.int .i64 0)))⟩]) (.cond (.t 23) (.seq (.reg [⟨(some 24), none, (.faddr 0 (.t 1))⟩, ⟨(some 25), none, (.load false 1 (.t 24))⟩, ⟨(some 2), none, (.mv (.t 25))⟩]) .ret) .skip)) (.seq (.reg [⟨(some 26), none, (.mkrow 9 1 [(.str ⟨#[]⟩)] 0 [])⟩, ⟨(some 3), none, (.mv (.t 26))⟩]) (.seq (.seq (.reg [⟨(some 27), none, (.faddr 1 (.t 1))⟩, ⟨(some 28), none, (.load false 1 (.t 27))⟩, ⟨(some 29), none, (.len false (.t 28))⟩, ⟨(some 30), none, (.mv (.c (.int .i64 0)))⟩]) (.block 0 (.loop [0, 1, 0, 1, 0, 0, 0, 0, 0, 0, 0, 0, 0, 0, 0, 0, 0, 0, 0, 0, 0, 0, 0, 0, 0, 0, 0, 0, 1, 1, 1, 0, 0, 0, 0, 0, 0, 0, 0, 0, 0, 0, 0, 0, 0, 0, 0] (.seq (.reg [⟨(some 31), none, (.bin .lss false (.t 30) (.t 29))⟩]) (.seq (.cond (.t 31) .skip (.exit 0)) (.seq (.block 1 (.seq (.reg [⟨(some 32), none, (.iaddr 2 (.t 28) (.t 30))⟩, ⟨(some 33), none, (.load true 2 (.t 32))⟩, ⟨(some 5), none, (.alloc 24 [(.str ⟨#[]⟩), .nil])⟩, ⟨none, none, (.store 2 (.t 5) (.t 33))⟩]) (.reg [⟨(some 34), none, (.mv (.t 3))⟩, ⟨(some 35), none, (.load true 2 (.t 5))⟩, ⟨(some 36), none, (.call 49 [(.t 35)])⟩, ⟨(some 37), none, (.mkrow 9 1 [(.str ⟨#[]⟩)] 1 [(0, (.t 36))])⟩, ⟨(some 38), none, (.append 9 1 16 [(.str ⟨#[]⟩)] (.t 34) (.t 37))⟩, ⟨(some 3), none, (.mv (.t 38))⟩]))) (.reg [⟨(some 39), none, (.bin .add false (.t 30) (.c (.int .i64 1)))⟩, ⟨(some 30), none, (.mv (.t 39))⟩]))))))) (.seq (.dreg [[], [0], [1, 0], [], [3], [2, 1, 0, 4, 3], [5, 2, 1, 0, 4, 3], [6, 5, 2, 1, 0, 4, 3]] [⟨(some 40), none, (.faddr 0 (.t 1))⟩, ⟨(some 41), none, (.load false 1 (.t 40))⟩, ⟨(some 42), none, (.bin .add false (.t 41) (.c (.str ⟨#[40]⟩)))⟩, ⟨(some 43), none, (.mv (.t 3))⟩, ⟨(some 44), none, (.call 98 [(.t 43), (.c (.str ⟨#[44]⟩))])⟩, ⟨(some 45), none, (.bin .add false (.t 42) (.t 44))⟩, ⟨(some 46), none, (.bin .add false (.t 45) (.c (.str ⟨#[41]⟩)))⟩, ⟨(some 2), none, (.mv (.t 46))⟩]) .ret))))))
theorem k_impl_formatTerm : codeOf Try.prog 49 = some ⟨47, c_impl_formatTerm, [(.tmp 2)]⟩ := by kernel_rfl
theorem m_impl_formatTerm : modes 49 = ⟨[], .asis, none, false⟩ := by unfold modes; rfl

theorem take_snoc {α β : Type} (f : α → β) {xs : List α} {k : Nat} (h : k < xs.length) : (xs.take k).map f ++ [f xs[k]] = (xs.take (k + 1)).map f := by
  rw [List.take_succ_eq_append_getElem h, List.map_append]; rfl
set_option maxHeartbeats 4000000 in
theorem formatTerm_of (x : Tm) (hx : x.names = true) (hn : x.nodes ≤ 1048576) (ih : ∀ y ∈ x.args, E 49 [y.sv] [] = some (.str y.txt, [])) : E 49 [x.sv] [] = some (.str x.txt, []) := by
  have hl := Tm.length_le x.args
  have hne := Tm.nodes_eq x
  have he := isEquality_E x
  rw [Tm.eqn_names hx] at he
  have hsz := Tm.fmt_len x hx
  rw [← Tm.txt_size] at hsz
  rcases Nat.eq_zero_or_pos x.args.length with h0 | h0
  · have hx0 : x.args = [] := List.eq_nil_of_length_eq_zero h0
    have hz : ((x.args.length : Int) = 0) = True := by rw [hx0]; simp
    rw [Tm.txt_leaf hx0]
    refine E_walk k_impl_formatTerm m_impl_formatTerm (of_decide_eq_true rfl) ?_
    simp (disch := omega) only [c_impl_formatTerm, go_sem, Nat.reduceAdd, Nat.reduceSub, Nat.reduceLT, Nat.reduceLeDiff, Nat.reduceEqDiff, Nat.reduceBEq, Nat.reduceBneDiff, Nat.reduceMul, ↓reduceIte, Int.reduceToNat, reduceCtorEq, Int.reduceNeg, Int.reduceAdd, hz, he, m_impl_isEquality]
  · have hz : ((x.args.length : Int) = 0) = False := eq_false (by omega)
    have hnode := Tm.txt_node (x := x) (by omega)
    have hs1 : (x.name ++ (⟨#[40]⟩ : ByteArray)).size = x.name.size + 1 := by rw [ByteArray.size_append]; rfl
    have hs2 : x.name.size + 1 + (joinB (x.args.map Tm.txt) ⟨#[44]⟩).size + 1 = x.txt.size := by
      rw [← hnode, ByteArray.size_append, ByteArray.size_append, ByteArray.size_append]; rfl
    have hs3 : (x.name ++ (⟨#[40]⟩ : ByteArray) ++ joinB (x.args.map Tm.txt) ⟨#[44]⟩).size = x.name.size + 1 + (joinB (x.args.map Tm.txt) ⟨#[44]⟩).size := by rw [ByteArray.size_append, hs1]
    have hs4 : (⟨#[40]⟩ : ByteArray).size = 1 := rfl
    have hs5 : (⟨#[41]⟩ : ByteArray).size = 1 := rfl
    have hj := join_E (x.args.map Tm.txt) ⟨#[44]⟩ (by simp; omega) (by omega)
    rw [List.map_map] at hj
    have hf : ∀ k, OT.fullss ((x.args.take k).map fun y => [OT.str y.txt]) = true := fun k => by
      have := fu_strs ((x.args.take k).map Tm.txt)
      rwa [List.map_map] at this
    have her : ∀ k, OT.erss ((x.args.take k).map fun y => [OT.str y.txt]) = (x.args.take k).map fun y => [D.str y.txt] := fun k => by
      have := er_strs ((x.args.take k).map Tm.txt)
      rwa [List.map_map, List.map_map] at this
    have htl : x.args.take x.args.length = x.args := List.take_length
    have hfx := hf x.args.length
    have herx := her x.args.length
    rw [htl] at hfx herx
    have hjm : (x.args.map ((fun s => [D.str s]) ∘ Tm.txt)) = x.args.map fun y => [D.str y.txt] := rfl
    rw [hjm] at hj
    refine E_walk k_impl_formatTerm m_impl_formatTerm (of_decide_eq_true rfl) ?_
    simp (disch := omega) only [c_impl_formatTerm, go_sem, Nat.reduceAdd, Nat.reduceSub, Nat.reduceLT, Nat.reduceLeDiff, Nat.reduceEqDiff, Nat.reduceBEq, Nat.reduceBneDiff, Nat.reduceMul, ↓reduceIte, Int.reduceToNat, reduceCtorEq, Int.reduceNeg, Int.reduceAdd, hz, he, m_impl_isEquality]
    refine go_loop (α := Int) (fun a => ⟨slots 47 0 [(1, .ptr 0 0), (3, .ref 1), (28, .arr (x.args.map Tm.d)), (29, .int .i64 x.args.length), (30, .int .i64 a)], [.box 24 [.str x.name, .arr (x.args.map Tm.d)], .row 9 1 ((x.args.take a.toNat).map fun y => [OT.str y.txt])]⟩) (fun a => ∃ k : Nat, a = k ∧ k ≤ (x.args).length) (fun a => (x.args).length - (a).toNat) 0 ⟨0, rfl, Nat.zero_le _⟩ (by simp (disch := omega) only [go_sem, Nat.reduceAdd, Nat.reduceSub, Nat.reduceLT, Nat.reduceLeDiff, Nat.reduceEqDiff, Nat.reduceBEq, Nat.reduceBneDiff, Nat.reduceMul, ↓reduceIte, Int.reduceToNat, reduceCtorEq, Int.reduceNeg, Int.reduceAdd, Int.toNat_zero]) ?_
    rintro i ⟨k, hi, hk⟩
    have hni : i.toNat = k := by omega
    have hni1 : (i + 1).toNat = k + 1 := by omega
    rcases Nat.lt_or_ge k (x.args).length with hlt | hge
    · have hg := get_at Tm.d hlt
      rw [Tm.d_eq] at hg
      have hc := ih x.args[k] (List.getElem_mem hlt)
      have hse := take_snoc (fun y : Tm => [OT.str y.txt]) hlt
      have hkl : ((x.args.take k).map fun y => [OT.str y.txt]).length = k := by rw [List.length_map, List.length_take]; omega
      have hkl2 : (x.args.take k).length = k := by rw [List.length_take]; omega
      simp (disch := omega) only [go_sem, Nat.reduceAdd, Nat.reduceSub, Nat.reduceLT, Nat.reduceLeDiff, Nat.reduceEqDiff, Nat.reduceBEq, Nat.reduceBneDiff, Nat.reduceMul, ↓reduceIte, Int.reduceToNat, reduceCtorEq, Int.reduceNeg, Int.reduceAdd, hni, hg, hc, hkl, hkl2, hse, m_impl_formatTerm]
      refine ⟨i + 1, ⟨k + 1, by omega, hlt⟩, by omega, ?_⟩
      simp (disch := omega) only [go_sem, Nat.reduceAdd, Nat.reduceSub, Nat.reduceLT, Nat.reduceLeDiff, Nat.reduceEqDiff, Nat.reduceBEq, Nat.reduceBneDiff, Nat.reduceMul, ↓reduceIte, Int.reduceToNat, reduceCtorEq, Int.reduceNeg, Int.reduceAdd, hni1, hse]
    · obtain rfl : k = x.args.length := by omega
      simp (disch := omega) only [go_sem, Nat.reduceAdd, Nat.reduceSub, Nat.reduceLT, Nat.reduceLeDiff, Nat.reduceEqDiff, Nat.reduceBEq, Nat.reduceBneDiff, Nat.reduceMul, ↓reduceIte, Int.reduceToNat, reduceCtorEq, Int.reduceNeg, Int.reduceAdd, hni, htl, hfx, herx, hj, hs1, hs2, hs3, hs4, hs5, hnode, m_strings_Join]
theorem formatTerm_E (x : Tm) (hx : x.names = true) (hn : x.nodes ≤ 1048576) : E 49 [x.sv] [] = some (.str x.txt, []) :=
  formatTerm_of x hx hn fun y hy => formatTerm_E y (Tm.names_arg hx hy) (by have := Tm.nodes_mem hy; have := Tm.nodes_eq x; omega)
termination_by SizeOf.sizeOf x
decreasing_by exact Tm.lt_of_mem hy
end Go.Proofs.Ytjafnijgkjjadab

set_option maxRecDepth 100000
set_option linter.unusedSimpArgs false
set_option linter.unusedVariables false
namespace Go.Proofs.Ytjafnijgkjjadab
open Go.RowKit

theorem l3Read_E (s : ByteArray) (hs : s.size ≤ 1048576) : ∀ (n i : Nat), i ≤ s.size → s.size - i < n → ∃ out, E 91 [.str s, .int .i64 (i : Int)] [] = some out ∧ ReadQ (rd s n i) out
  | 0, i, _, h => absurd h (by omega)
  | n + 1, i, hi, hn => l3Read_of s hs n (fun i hi hn => l3Read_E s hs n i hi hn) i hi hn
/-! What is read has no more nodes than bytes. -/
theorem rdL_nodes {r : Nat → Option (Tm × Nat)} {s : ByteArray} (hr : ∀ i t e, r i = some (t, e) → i + t.nodes ≤ e) :
    ∀ (m i : Nat) (ts : List Tm) (e : Nat), rdL r s m i = some (ts, e) → i + Tm.nodeS ts ≤ e
  | 0, i, ts, e, h => by cases h
  | m + 1, i, ts, e, h => by
    rw [rdL] at h
    cases hq : r i with
    | none => rw [hq] at h; cases h
    | some p =>
      obtain ⟨t, e0⟩ := p
      rw [hq] at h
      simp only at h
      have h1 := hr i t e0 hq
      cases hc : isAt s e0 44 with
      | true =>
        rw [hc, cond_true] at h
        cases hl : rdL r s m (e0 + 1) with
        | none => rw [hl] at h; cases h
        | some q =>
          obtain ⟨us, e1⟩ := q
          rw [hl] at h
          simp only [Option.some.injEq, Prod.mk.injEq] at h
          obtain ⟨rfl, rfl⟩ := h
          have := rdL_nodes hr m (e0 + 1) us e1 hl
          rw [Tm.nodeS]; omega
      | false =>
        rw [hc, cond_false] at h
        cases hc2 : isAt s e0 41 with
        | true =>
          rw [hc2, cond_true] at h
          simp only [Option.some.injEq, Prod.mk.injEq] at h
          obtain ⟨rfl, rfl⟩ := h
          rw [Tm.nodeS, Tm.nodeS]; omega
        | false => rw [hc2] at h; cases h
theorem rd_nodes {s : ByteArray} : ∀ (n i : Nat) (t : Tm) (e : Nat), rd s n i = some (t, e) → i + t.nodes ≤ e
  | 0, i, t, e, h => by cases h
  | n + 1, i, t, e, h => by
    rw [rd] at h
    have w1 := wEnd_le s i
    by_cases h0 : wEnd s i = i
    · rw [dec_t h0] at h; cases h
    · rw [dec_f h0, cond_false] at h
      cases hc : isAt s (wEnd s i) 40 with
      | true =>
        rw [hc, cond_true] at h
        cases hl : rdL (rd s n) s n (wEnd s i + 1) with
        | none => rw [hl] at h; cases h
        | some q =>
          obtain ⟨us, e1⟩ := q
          rw [hl] at h
          simp only [Option.some.injEq, Prod.mk.injEq] at h
          obtain ⟨rfl, rfl⟩ := h
          have := rdL_nodes (rd_nodes n) n _ us e1 hl
          rw [Tm.nodes_eq]
          show i + (1 + Tm.nodeS us) ≤ _
          omega
      | false =>
        rw [hc, cond_false] at h
        simp only [Option.some.injEq, Prod.mk.injEq] at h
        obtain ⟨rfl, rfl⟩ := h
        rw [Tm.nodes_eq]
        show i + (1 + Tm.nodeS []) ≤ _
        rw [Tm.nodeS]; omega
/-- The whole text as a term. -/
noncomputable def prOk (s : ByteArray) : Bool := match rd s (s.size + 1) 0 with
  | some (t, e) => dec (e = s.size) && t.valid
  | none => false
noncomputable def prTo (s : ByteArray) : Tm := match rd s (s.size + 1) 0 with
  | some (t, e) => bif dec (e = s.size) && t.valid then t else .mk ⟨#[]⟩ []
  | none => .mk ⟨#[]⟩ []
theorem pr_no {s : ByteArray} (h : prOk s = false) : prTo s = .mk ⟨#[]⟩ [] := by
  unfold prOk at h
  unfold prTo
  cases hr : rd s (s.size + 1) 0 with
  | none => rfl
  | some p =>
    obtain ⟨t, e⟩ := p
    rw [hr] at h
    simp only at h ⊢
    rw [h]; rfl
/-- What is read as a whole is the text of a valid term. -/
theorem pr_yes {s : ByteArray} (h : prOk s = true) : (prTo s).valid = true ∧ (prTo s).txt = s := by
  unfold prOk at h
  unfold prTo
  cases hr : rd s (s.size + 1) 0 with
  | none => rw [hr] at h; cases h
  | some p =>
    obtain ⟨t, e⟩ := p
    rw [hr] at h
    simp only at h ⊢
    rw [h, cond_true]
    rw [Bool.and_eq_true, dec_iff] at h
    obtain ⟨rfl, hv⟩ := h
    refine ⟨hv, bytes_ext ?_⟩
    obtain ⟨_, _, h3⟩ := rd_ok _ 0 t s.size (Nat.zero_le _) hr
    rw [Tm.txt_toList, ← h3, seg_all]
theorem valid_names' {t : Tm} (h : t.valid = true) : t.names = true := by
  unfold Tm.valid at h; rw [Bool.and_eq_true] at h; exact h.2
theorem valid_nodes' {t : Tm} (h : t.valid = true) : t.nodes ≤ 30 := Tm.expr_nodes (by unfold Tm.expr; rw [h]; rfl)
theorem txt_size_ok {t : Tm} (h : t.valid = true) : t.txt.size ≤ 4000 := by
  have h1 := Tm.fmt_len t (valid_names' h)
  have h2 := valid_nodes' h
  rw [Tm.txt_size]; omega
theorem pr_size {s : ByteArray} (h : prOk s = true) : s.size ≤ 4000 := by
  obtain ⟨h1, h2⟩ := pr_yes h
  have := txt_size_ok h1
  rwa [h2] at this
def c_spec_l3Whole : SC := (.seq (.reg [⟨(some 2), none, (.alloc 24 [(.str ⟨#[]⟩), .nil])⟩, ⟨(some 3), none, (.mv (.c (.bool false)))⟩]) (.seq (.reg [⟨(some 7), none, (.mv (.t 0))⟩, ⟨(some 8), none, (.call 91 [(.t 7), (.c (.int .i64 0))])⟩, ⟨(some 6), none, (.mv (.t 8))⟩, ⟨(some 9), none, (.ext (.t 6) 0)⟩, ⟨(some 10), none, (.ext (.t 6) 1)⟩, ⟨(some 4), none, (.alloc 24 [(.str ⟨#[]⟩), .nil])⟩, ⟨none, none, (.store 2 (.t 4) (.t 9))⟩, ⟨(some 5), none, (.mv (.t 10))⟩]) (.seq (.seq (.reg [⟨(some 11), none, (.mv (.t 5))⟩, ⟨(some 12), none, (.mv (.t 0))⟩, ⟨(some 13), none, (.len true (.t 12))⟩, ⟨(some 14), none, (.bin .neq false (.t 11) (.t 13))⟩, ⟨(some 15), none, (.mv (.t 14))⟩, ⟨(some 16), (some (15, false)), (.load true 2 (.t 4))⟩, ⟨(some 17), (some (15, false)), (.call 84 [(.t 16)])⟩, ⟨(some 18), (some (15, false)), (.un .not (.t 17))⟩, ⟨(some 19), none, (.pick (.t 15) (.c (.bool true)) (.t 18))⟩]) (.cond (.t 19) (.seq (.reg [⟨(some 20), none, (.build [(.str ⟨#[]⟩), .nil] [])⟩, ⟨none, none, (.store 2 (.t 2) (.t 20))⟩, ⟨(some 3), none, (.mv (.c (.bool false)))⟩]) .ret) .skip)) (.seq (.reg [⟨(some 21), none, (.load true 2 (.t 4))⟩, ⟨none, none, (.store 2 (.t 2) (.t 21))⟩, ⟨(some 3), none, (.mv (.c (.bool true)))⟩]) .ret))))
theorem k_spec_l3Whole : codeOf Try.prog 45 = some ⟨22, c_spec_l3Whole, [(.cell 2 true 2), (.tmp 3)]⟩ := by kernel_rfl
theorem m_spec_l3Whole : modes 45 = ⟨[], .frz, none, false⟩ := by unfold modes; rfl

def c_spec_ParseTerm : SC := (.seq (.reg [⟨(some 2), none, (.alloc 24 [(.str ⟨#[]⟩), .nil])⟩, ⟨(some 3), none, (.mv (.c (.bool false)))⟩]) (.seq (.seq (.reg [⟨(some 4), none, (.mv (.t 0))⟩, ⟨(some 5), none, (.len true (.t 4))⟩, ⟨(some 6), none, (.bin .gtr false (.t 5) (.c (.int .i64 4000)))⟩]) (.cond (.t 6) (.seq (.reg [⟨(some 7), none, (.build [(.str ⟨#[]⟩), .nil] [])⟩, ⟨none, none, (.store 2 (.t 2) (.t 7))⟩, ⟨(some 3), none, (.mv (.c (.bool false)))⟩]) .ret) .skip)) (.seq (.reg [⟨(some 8), none, (.mv (.t 0))⟩, ⟨(some 9), none, (.call 45 [(.t 8)])⟩, ⟨(some 10), none, (.ext (.t 9) 0)⟩, ⟨(some 11), none, (.ext (.t 9) 1)⟩, ⟨none, none, (.store 2 (.t 2) (.t 10))⟩, ⟨(some 3), none, (.mv (.t 11))⟩]) .ret)))
theorem k_spec_ParseTerm : codeOf Try.prog 9 = some ⟨12, c_spec_ParseTerm, [(.cell 2 true 2), (.tmp 3)]⟩ := by kernel_rfl
theorem m_spec_ParseTerm : modes 9 = ⟨[], .frz, none, false⟩ := by unfold modes; rfl

def c_impl_ParseTerm : SC := (.seq (.reg [⟨(some 2), none, (.alloc 24 [(.str ⟨#[]⟩), .nil])⟩, ⟨(some 3), none, (.mv (.c (.bool false)))⟩]) (.seq (.reg [⟨(some 6), none, (.mv (.t 0))⟩, ⟨(some 7), none, (.build [(.str ⟨#[]⟩), (.int .i64 0), (.bool false)] [(0, (1, (.t 6)))])⟩, ⟨(some 8), none, (.boxv 81 3 (.t 7))⟩, ⟨(some 4), none, (.mv (.t 8))⟩]) (.seq (.reg [⟨(some 9), none, (.mv (.t 4))⟩, ⟨(some 10), none, (.call 46 [(.t 9)])⟩, ⟨(some 5), none, (.alloc 24 [(.str ⟨#[]⟩), .nil])⟩, ⟨none, none, (.store 2 (.t 5) (.t 10))⟩]) (.seq (.seq (.reg [⟨(some 11), none, (.mv (.t 4))⟩, ⟨(some 12), none, (.call 47 [(.t 11)])⟩, ⟨(some 13), none, (.un .not (.t 12))⟩, ⟨(some 14), none, (.mv (.t 13))⟩, ⟨(some 15), (some (14, false)), (.load true 2 (.t 5))⟩, ⟨(some 16), (some (14, false)), (.call 48 [(.t 15)])⟩, ⟨(some 17), (some (14, false)), (.un .not (.t 16))⟩, ⟨(some 18), none, (.pick (.t 14) (.c (.bool true)) (.t 17))⟩, ⟨(some 19), none, (.mv (.t 18))⟩, ⟨(some 20), (some (19, false)), (.load true 2 (.t 5))⟩, ⟨(some 21), (some (19, false)), (.call 49 [(.t 20)])⟩, ⟨(some 22), (some (19, false)), (.mv (.t 0))⟩, ⟨(some 23), (some (19, false)), (.bin .neq false (.t 21) (.t 22))⟩, ⟨(some 24), none, (.pick (.t 19) (.c (.bool true)) (.t 23))⟩]) (.cond (.t 24) (.seq (.reg [⟨(some 25), none, (.build [(.str ⟨#[]⟩), .nil] [])⟩, ⟨none, none, (.store 2 (.t 2) (.t 25))⟩, ⟨(some 3), none, (.mv (.c (.bool false)))⟩]) .ret) .skip)) (.seq (.reg [⟨(some 26), none, (.load true 2 (.t 5))⟩, ⟨none, none, (.store 2 (.t 2) (.t 26))⟩, ⟨(some 3), none, (.mv (.c (.bool true)))⟩]) .ret)))))
theorem k_impl_ParseTerm : codeOf Try.prog 10 = some ⟨27, c_impl_ParseTerm, [(.cell 2 true 2), (.tmp 3)]⟩ := by kernel_rfl
theorem m_impl_ParseTerm : modes 10 = ⟨[], .own [none, some (24, 2), none], none, false⟩ := by unfold modes; rfl

theorem tm0_sv : (Tm.mk ⟨#[]⟩ []).sv = .agg [.str ⟨#[]⟩, .arr []] := rfl
theorem tm0_osv : (Tm.mk ⟨#[]⟩ []).osv = .agg [.str ⟨#[]⟩, .ref 0] := rfl
theorem tm0_obs : (Tm.mk ⟨#[]⟩ []).obs = [.row 24 2 []] := rfl
theorem l3Whole_E (s : ByteArray) (hs : s.size ≤ 1048576) : E 45 [.str s] [] = some (.tup [(prTo s).sv, .bool (prOk s)], []) := by
  obtain ⟨out, h1, t, k, rfl, h2⟩ := l3Read_E s hs (s.size + 1) 0 (Nat.zero_le _) (by omega)
  have h1 : E 91 [.str s, .int .i64 0] [] = some (.tup [t.sv, .int .i64 k], []) := h1
  unfold prTo prOk
  cases hr : rd s (s.size + 1) 0 with
  | none =>
    rw [hr] at h2
    have h2 : k = -1 := h2
    subst h2
    have hq : ((-1 : Int) = (s.size : Int)) = False := eq_false (by omega)
    simp only [tm0_sv]
    refine E_walk k_spec_l3Whole m_spec_l3Whole (of_decide_eq_true rfl) ?_
    simp (disch := omega) only [c_spec_l3Whole, go_sem, Nat.reduceAdd, Nat.reduceSub, Nat.reduceLT, Nat.reduceLeDiff, Nat.reduceEqDiff, Nat.reduceBEq, Nat.reduceBneDiff, Nat.reduceMul, ↓reduceIte, Int.reduceToNat, reduceCtorEq, Int.reduceNeg, Int.reduceAdd, h1, hq, m_spec_l3Read]
  | some p =>
    obtain ⟨t0, e⟩ := p
    rw [hr] at h2
    obtain ⟨rfl, rfl⟩ := h2
    have hn := rd_nodes _ _ _ _ hr
    obtain ⟨_, he, _⟩ := rd_ok _ 0 t e (Nat.zero_le _) hr
    have h3 := l2Good_E t (by omega)
    by_cases h0 : e = s.size
    · have hq : ((e : Int) = (s.size : Int)) = True := eq_true (by omega)
      simp only [dec_t h0, Bool.true_and]
      cases hv : t.valid with
      | true =>
        rw [hv] at h3
        simp only [cond_true]
        refine E_walk k_spec_l3Whole m_spec_l3Whole (of_decide_eq_true rfl) ?_
        simp (disch := omega) only [c_spec_l3Whole, go_sem, Nat.reduceAdd, Nat.reduceSub, Nat.reduceLT, Nat.reduceLeDiff, Nat.reduceEqDiff, Nat.reduceBEq, Nat.reduceBneDiff, Nat.reduceMul, ↓reduceIte, Int.reduceToNat, reduceCtorEq, Int.reduceNeg, Int.reduceAdd, h1, hq, h3, m_spec_l3Read, m_spec_l2Good]
      | false =>
        rw [hv] at h3
        simp only [cond_false, tm0_sv]
        refine E_walk k_spec_l3Whole m_spec_l3Whole (of_decide_eq_true rfl) ?_
        simp (disch := omega) only [c_spec_l3Whole, go_sem, Nat.reduceAdd, Nat.reduceSub, Nat.reduceLT, Nat.reduceLeDiff, Nat.reduceEqDiff, Nat.reduceBEq, Nat.reduceBneDiff, Nat.reduceMul, ↓reduceIte, Int.reduceToNat, reduceCtorEq, Int.reduceNeg, Int.reduceAdd, h1, hq, h3, m_spec_l3Read, m_spec_l2Good]
    · have hq : ((e : Int) = (s.size : Int)) = False := eq_false (by omega)
      simp only [dec_f h0, Bool.false_and, cond_false, tm0_sv]
      refine E_walk k_spec_l3Whole m_spec_l3Whole (of_decide_eq_true rfl) ?_
      simp (disch := omega) only [c_spec_l3Whole, go_sem, Nat.reduceAdd, Nat.reduceSub, Nat.reduceLT, Nat.reduceLeDiff, Nat.reduceEqDiff, Nat.reduceBEq, Nat.reduceBneDiff, Nat.reduceMul, ↓reduceIte, Int.reduceToNat, reduceCtorEq, Int.reduceNeg, Int.reduceAdd, h1, hq, m_spec_l3Read]
theorem specParseTerm_E (s : ByteArray) (hs : s.size ≤ 1048576) : E 9 [.str s] [] = some (.tup [(prTo s).sv, .bool (prOk s)], []) := by
  have h := l3Whole_E s hs
  by_cases h4 : s.size ≤ 4000
  · have hq : ((4000 : Int) < (s.size : Int)) = False := eq_false (by omega)
    refine E_walk k_spec_ParseTerm m_spec_ParseTerm (of_decide_eq_true rfl) ?_
    simp (disch := omega) only [c_spec_ParseTerm, go_sem, Nat.reduceAdd, Nat.reduceSub, Nat.reduceLT, Nat.reduceLeDiff, Nat.reduceEqDiff, Nat.reduceBEq, Nat.reduceBneDiff, Nat.reduceMul, ↓reduceIte, Int.reduceToNat, reduceCtorEq, Int.reduceNeg, Int.reduceAdd, h, hq, m_spec_l3Whole]
  · have hq : ((4000 : Int) < (s.size : Int)) = True := eq_true (by omega)
    have ho : prOk s = false := by
      cases ho : prOk s with
      | false => rfl
      | true => exact absurd (pr_size ho) h4
    rw [ho, pr_no ho, tm0_sv]
    refine E_walk k_spec_ParseTerm m_spec_ParseTerm (of_decide_eq_true rfl) ?_
    simp (disch := omega) only [c_spec_ParseTerm, go_sem, Nat.reduceAdd, Nat.reduceSub, Nat.reduceLT, Nat.reduceLeDiff, Nat.reduceEqDiff, Nat.reduceBEq, Nat.reduceBneDiff, Nat.reduceMul, ↓reduceIte, Int.reduceToNat, reduceCtorEq, Int.reduceNeg, Int.reduceAdd, hq]
set_option maxHeartbeats 4000000 in
theorem implParseTerm_E (s : ByteArray) (hs : s.size ≤ 1048576) : E 10 [.str s] [] = some (.tup [(prTo s).osv, .bool (prOk s)], (prTo s).obs) := by
  obtain ⟨out, h1, t, j, f, rfl, h2, h3, h4⟩ := term_E s hs (s.size + 1) 0 (Nat.zero_le _) (by omega)
  have h1 : E 46 [.ptr 0 0] [.box 81 [.str s, .int .i64 0, .bool false]] = some (.agg [.str t.name, .ref 1], [psr s j f, .row 24 2 (t.args.map Tm.o)]) := h1
  unfold prTo prOk
  cases hr : rd s (s.size + 1) 0 with
  | none =>
    rw [hr] at h4
    have h4 : f = true := h4
    subst h4
    have he := ended_T s j
    simp only [tm0_osv, tm0_obs]
    refine E_walk k_impl_ParseTerm m_impl_ParseTerm (of_decide_eq_true rfl) ?_
    simp (disch := omega) only [c_impl_ParseTerm, go_sem, Nat.reduceAdd, Nat.reduceSub, Nat.reduceLT, Nat.reduceLeDiff, Nat.reduceEqDiff, Nat.reduceBEq, Nat.reduceBneDiff, Nat.reduceMul, ↓reduceIte, Int.reduceToNat, reduceCtorEq, Int.reduceNeg, Int.reduceAdd, h1, he, m_impl_parser_term, m_impl_parser_ended]
  | some p =>
    obtain ⟨t0, e⟩ := p
    rw [hr] at h4
    obtain ⟨rfl, rfl, rfl⟩ := h4
    have hn := rd_nodes _ _ _ _ hr
    obtain ⟨_, _, hsg⟩ := rd_ok _ 0 t j (Nat.zero_le _) hr
    have he := ended_F s j
    have hv1 := isValidTerm_E t (by omega)
    by_cases h0 : j = s.size
    · rw [dec_t h0] at he
      simp only [dec_t h0, Bool.true_and]
      cases hv : t.valid with
      | true =>
        rw [hv] at hv1
        have hf := formatTerm_E t (valid_names' hv) (by have := valid_nodes' hv; omega)
        have ht : t.txt = s := by
          refine bytes_ext ?_
          rw [Tm.txt_toList, ← hsg, h0, seg_all]
        rw [ht] at hf
        simp only [cond_true]
        refine E_walk k_impl_ParseTerm m_impl_ParseTerm (of_decide_eq_true rfl) ?_
        simp (disch := omega) only [c_impl_ParseTerm, go_sem, Nat.reduceAdd, Nat.reduceSub, Nat.reduceLT, Nat.reduceLeDiff, Nat.reduceEqDiff, Nat.reduceBEq, Nat.reduceBneDiff, Nat.reduceMul, ↓reduceIte, Int.reduceToNat, reduceCtorEq, Int.reduceNeg, Int.reduceAdd, h1, he, hv1, hf, Tm.osv, Tm.obs, Tm.erss, Tm.fus, m_impl_IsValidTerm, m_impl_formatTerm, m_impl_parser_term, m_impl_parser_ended, dec_refl]
      | false =>
        rw [hv] at hv1
        simp only [cond_false, tm0_osv, tm0_obs]
        refine E_walk k_impl_ParseTerm m_impl_ParseTerm (of_decide_eq_true rfl) ?_
        simp (disch := omega) only [c_impl_ParseTerm, go_sem, Nat.reduceAdd, Nat.reduceSub, Nat.reduceLT, Nat.reduceLeDiff, Nat.reduceEqDiff, Nat.reduceBEq, Nat.reduceBneDiff, Nat.reduceMul, ↓reduceIte, Int.reduceToNat, reduceCtorEq, Int.reduceNeg, Int.reduceAdd, h1, he, hv1, Tm.erss, Tm.fus, m_impl_IsValidTerm, m_impl_parser_term, m_impl_parser_ended]
    · rw [dec_f h0] at he
      simp only [dec_f h0, Bool.false_and, cond_false, tm0_osv, tm0_obs]
      refine E_walk k_impl_ParseTerm m_impl_ParseTerm (of_decide_eq_true rfl) ?_
      simp (disch := omega) only [c_impl_ParseTerm, go_sem, Nat.reduceAdd, Nat.reduceSub, Nat.reduceLT, Nat.reduceLeDiff, Nat.reduceEqDiff, Nat.reduceBEq, Nat.reduceBneDiff, Nat.reduceMul, ↓reduceIte, Int.reduceToNat, reduceCtorEq, Int.reduceNeg, Int.reduceAdd, h1, he, m_impl_parser_term, m_impl_parser_ended]
end Go.Proofs.Ytjafnijgkjjadab

set_option maxRecDepth 100000
set_option linter.unusedSimpArgs false
set_option linter.unusedVariables false
namespace Go.Proofs.Ytjafnijgkjjadab
open Go.RowKit

mutual
def Tm.wt : Tm → Nat
  | .mk name args => 1 + Tm.wtS args
def Tm.wtS : List Tm → Nat
  | [] => 0
  | x :: xs => Tm.wt x + Tm.wtS xs
end
theorem Tm.wt_eq (x : Tm) : x.wt = 1 + Tm.wtS x.args := by
  obtain ⟨name, args⟩ := x
  rw [Tm.wt]; rfl
mutual
noncomputable def Tm.mk1 : Tm → Int → Tm × Int
  | .mk name args, k => ((Tm.mk (markT k) ((Tm.mkS args (k + 1)).1)), (Tm.mkS args (k + 1)).2)
noncomputable def Tm.mkS : List Tm → Int → List Tm × Int
  | [], k => ([], k)
  | x :: xs, k => ((Tm.mk1 x k).1 :: (Tm.mkS xs (Tm.mk1 x k).2).1, (Tm.mkS xs (Tm.mk1 x k).2).2)
end
theorem Tm.mk1_eq (x : Tm) (k : Int) : x.mk1 k = ((Tm.mk (markT k) ((Tm.mkS x.args (k + 1)).1)), (Tm.mkS x.args (k + 1)).2) := by
  obtain ⟨name, args⟩ := x
  rw [Tm.mk1]; rfl
theorem Tm.mk1_d (x : Tm) (k : Int) : Tm.d (x.mk1 k).1 = [.str (markT k), .arr ((Tm.mkS x.args (k + 1)).1.map Tm.d)] := by
  rw [Tm.mk1_eq, Tm.d_eq]
  try rfl
theorem Tm.mk1_o (x : Tm) (k : Int) : Tm.o (x.mk1 k).1 = [.str (markT k), .ow ((Tm.mkS x.args (k + 1)).1.map Tm.o)] := by
  rw [Tm.mk1_eq, Tm.o_eq]
  try rfl
theorem Tm.mkS_end_of : ∀ (xs : List Tm) (k : Int), (∀ x ∈ xs, ∀ k, (x.mk1 k).2 = k + x.wt) → (Tm.mkS xs k).2 = k + Tm.wtS xs
  | [], k, _ => by simp [Tm.mkS, Tm.wtS]
  | x :: xs, k, h => by
    rw [Tm.mkS, Tm.wtS]
    have h1 := h x (by simp) k
    have h2 := Tm.mkS_end_of xs (x.mk1 k).2 fun y hy => h y (by simp [hy])
    dsimp only
    omega
theorem Tm.mk1_end (x : Tm) (k : Int) : (x.mk1 k).2 = k + x.wt := by
  rw [Tm.mk1_eq, Tm.wt_eq]
  have h := fun k => Tm.mkS_end_of x.args k fun y hy k => Tm.mk1_end y k
  simp only [h]
  omega
termination_by SizeOf.sizeOf x
decreasing_by exact Tm.lt_of_mem hy
theorem Tm.mkS_end (xs : List Tm) (k : Int) : (Tm.mkS xs k).2 = k + Tm.wtS xs := Tm.mkS_end_of xs k fun x _ k => Tm.mk1_end x k
theorem Tm.wtS_of : ∀ xs : List Tm, (∀ x ∈ xs, x.wt ≤ 5 * (1 + x.bulk)) → Tm.wtS xs ≤ 5 * (xs.length + Tm.sumB xs)
  | [], _ => by simp [Tm.wtS]
  | x :: xs, h => by
    have h1 := h x (by simp)
    have h2 := Tm.wtS_of xs fun y hy => h y (by simp [hy])
    rw [Tm.wtS, Tm.sumB]; simp only [List.length_cons]; omega
theorem Tm.wt_bulk (x : Tm) : x.wt ≤ 5 * (1 + x.bulk) := by
  rw [Tm.wt_eq, Tm.bulk_eq]
  have h := Tm.wtS_of x.args fun y hy => Tm.wt_bulk y
  omega
termination_by SizeOf.sizeOf x
decreasing_by exact Tm.lt_of_mem hy
theorem Tm.wtS_bulk (xs : List Tm) : Tm.wtS xs ≤ 5 * (xs.length + Tm.sumB xs) := Tm.wtS_of xs fun x _ => Tm.wt_bulk x
theorem Tm.length_wt : ∀ xs : List Tm, xs.length ≤ Tm.wtS xs
  | [] => Nat.le_refl _
  | x :: xs => by
    have := Tm.length_wt xs
    have := Tm.wt_eq x
    rw [Tm.wtS]; simp only [List.length_cons]; omega
def c_laws_markTermS : SC := (.seq (.reg [⟨(some 4), none, (.mv (.c (.int .i64 0)))⟩]) (.seq (.seq (.reg [⟨(some 5), none, (.mv (.c (.int .i64 0)))⟩]) (.block 0 (.loop [1, 1, 0, 0, 0, 1, 0, 0, 0, 0, 0, 0, 0, 0, 0, 0, 0, 0, 0, 0, 0, 0, 0, 0, 0, 0, 0, 0] (.seq (.seq (.reg [⟨(some 6), none, (.mv (.t 5))⟩, ⟨(some 7), none, (.mv (.t 0))⟩, ⟨(some 8), none, (.len false (.t 7))⟩, ⟨(some 9), none, (.bin .lss false (.t 6) (.t 8))⟩]) (.cond (.t 9) .skip (.exit 0))) (.seq (.block 1 (.seq (.reg [⟨(some 12), none, (.mv (.t 0))⟩, ⟨(some 13), none, (.mv (.t 5))⟩, ⟨(some 14), none, (.mv (.t 1))⟩, ⟨(some 15), none, (.call 99 [(.t 14)])⟩, ⟨(some 16), none, (.iaddr 2 (.t 12) (.t 13))⟩, ⟨(some 17), none, (.faddr 0 (.t 16))⟩, ⟨none, none, (.store 1 (.t 17) (.t 15))⟩]) (.seq (.reg [⟨(some 18), none, (.mv (.t 1))⟩, ⟨(some 19), none, (.bin .add false (.t 18) (.c (.int .i64 1)))⟩, ⟨(some 1), none, (.mv (.t 19))⟩]) (.reg [⟨(some 20), none, (.mv (.t 0))⟩, ⟨(some 21), none, (.mv (.t 5))⟩, ⟨(some 22), none, (.iaddr 2 (.t 20) (.t 21))⟩, ⟨(some 23), none, (.faddr 1 (.t 22))⟩, ⟨(some 24), none, (.load false 1 (.t 23))⟩, ⟨(some 25), none, (.mv (.t 1))⟩, ⟨(some 26), none, (.call 51 [(.t 24), (.t 25)])⟩, ⟨(some 1), none, (.mv (.t 26))⟩])))) (.reg [⟨(some 10), none, (.mv (.t 5))⟩, ⟨(some 11), none, (.bin .add false (.t 10) (.c (.int .i64 1)))⟩, ⟨(some 5), none, (.mv (.t 11))⟩])))))) (.seq (.reg [⟨(some 27), none, (.mv (.t 1))⟩, ⟨(some 4), none, (.mv (.t 27))⟩]) .ret)))
theorem k_laws_markTermS : codeOf Try.prog 51 = some ⟨28, c_laws_markTermS, [(.tmp 4)]⟩ := by kernel_rfl
theorem m_laws_markTermS : modes 51 = ⟨[true], .asis, none, true⟩ := by unfold modes; rfl
abbrev MarkTS_Term (xs : List Tm) : Prop := ∀ (k : Int) (ob : List Ob), 1 ≤ k → k + Tm.wtS xs ≤ 1099511627776 → toTree ob = [.tree (xs.map Tm.o) []] → E 51 [.ref 0, .int .i64 k] ob = some (.int .i64 (Tm.mkS xs k).2, [.tree ((Tm.mkS xs k).1.map Tm.o) []])
set_option maxHeartbeats 2000000 in
theorem markTS_Term_of (xs : List Tm) (ih : ∀ x ∈ xs, MarkTS_Term x.args) : MarkTS_Term xs := by
  intro k0 ob h1 h2 hob
  have hlen : ob.length = 1 := by rw [← toTree_len, hob]; rfl
  have hL := Tm.length_wt xs
  refine E_walk k_laws_markTermS m_laws_markTermS (of_decide_eq_true rfl) ?_
  simp (disch := omega) only [c_laws_markTermS, go_sem, Nat.reduceAdd, Nat.reduceSub, Nat.reduceLT, Nat.reduceLeDiff, Nat.reduceEqDiff, Nat.reduceBEq, Nat.reduceBneDiff, Nat.reduceMul, ↓reduceIte, Int.reduceToNat, reduceCtorEq, Int.reduceNeg, Int.reduceAdd, hob, hlen]
  refine go_loop (α := Int × (Int) × (List Tm)) (fun a => ⟨slots 28 0 [(0, .ref 0), (1, .int .i64 (a.2.1)), (5, .int .i64 (a.1))], [.tree (((a.2.2) ++ xs.drop (a.1).toNat).map Tm.o) []]⟩) (fun a => ∃ k : Nat, a.1 = k ∧ k ≤ (xs).length ∧ (a.2.2).length = k ∧ 1 ≤ (a.2.1) ∧ (a.2.1) + Tm.wtS (xs.drop k) = k0 + Tm.wtS xs ∧ Tm.mkS xs k0 = ((a.2.2) ++ (Tm.mkS (xs.drop k) (a.2.1)).1, (Tm.mkS (xs.drop k) (a.2.1)).2)) (fun a => (xs).length - (a.1).toNat) (0, k0, []) ⟨0, rfl, Nat.zero_le _, rfl, h1, by rw [List.drop_zero], by simp⟩ (by simp (disch := omega) only [go_sem, Nat.reduceAdd, Nat.reduceSub, Nat.reduceLT, Nat.reduceLeDiff, Nat.reduceEqDiff, Nat.reduceBEq, Nat.reduceBneDiff, Nat.reduceMul, ↓reduceIte, Int.reduceToNat, reduceCtorEq, Int.reduceNeg, Int.reduceAdd, Int.toNat_zero]) ?_
  rintro ⟨i, kk, dn⟩ ⟨k, hi, hk, hR⟩
  dsimp only at hi hR
  have hni : i.toNat = k := by omega
  have hni1 : (i + 1).toNat = k + 1 := by omega
  rcases Nat.lt_or_ge k (xs).length with hlt | hge
  · obtain ⟨hd, hk1, hkn, hm⟩ := hR
    have hdr : xs.drop k = xs[k] :: xs.drop (k + 1) := List.drop_eq_getElem_cons hlt
    have hel : (dn ++ xs.drop k).length = xs.length := by simp; omega
    have hg : (List.map Tm.o (dn ++ xs.drop k))[k]? = some [.str xs[k].name, .ow (xs[k].args.map Tm.o)] := by
      rw [← Tm.o_eq, hdr, List.getElem?_map, List.getElem?_append_right (by omega), hd, Nat.sub_self]; rfl
    rw [hdr, Tm.wtS] at hkn
    rw [hdr, Tm.mkS] at hm
    have hn1 := Tm.wt_eq xs[k]
    have e1 := Tm.mkS_end xs[k].args ((kk + 1))
    have t0 := markText_E (k := kk) (by omega) (by omega)
    have c58 := ih xs[k] (List.getElem_mem hlt) ((kk + 1)) [.tree (xs[k].args.map Tm.o) []] (by omega) (by omega) rfl
    have hs := map_set_mid Tm.o dn (xs.drop (k + 1)) xs[k] (xs[k].mk1 kk).1 hd
    rw [Tm.mk1_o, ← hdr] at hs
    have hgs : ∀ a, ((List.map Tm.o (dn ++ xs.drop k)).set k a)[k]? = some a := fun a => List.getElem?_set_self (by rw [List.length_map, hel]; exact hlt)
    have he := Tm.mk1_end xs[k] kk
    have three : ∀ z : Int, dec ((3 : Int) = 0) = false := fun _ => dec_f (by omega)
    simp (disch := omega) only [go_sem, Nat.reduceAdd, Nat.reduceSub, Nat.reduceLT, Nat.reduceLeDiff, Nat.reduceEqDiff, Nat.reduceBEq, Nat.reduceBneDiff, Nat.reduceMul, ↓reduceIte, Int.reduceToNat, reduceCtorEq, Int.reduceNeg, Int.reduceAdd, hni, hel, hg, t0, c58, m_laws_markTermS, m_laws_markText, hgs, List.length_set, List.set_set, hs, three 0]
    refine ⟨(i + 1, (xs[k].mk1 kk).2, dn ++ [(xs[k].mk1 kk).1]), ⟨k + 1, by dsimp only; omega, hlt, by dsimp only; simp [hd], by dsimp only; omega, by dsimp only; omega, by rw [hm]; simp⟩, by dsimp only; omega, ?_⟩
    dsimp only
    rw [hni1, Tm.mk1_eq]
    refine ⟨⟨?_, rfl⟩, rfl⟩
    first | rfl | omega
  · obtain ⟨hd, hk1, hkn, hm⟩ := hR
    have hdr : xs.drop k = [] := List.drop_eq_nil_of_le hge
    rw [hdr, Tm.mkS] at hm
    rw [hm]
    simp (disch := omega) only [go_sem, Nat.reduceAdd, Nat.reduceSub, Nat.reduceLT, Nat.reduceLeDiff, Nat.reduceEqDiff, Nat.reduceBEq, Nat.reduceBneDiff, Nat.reduceMul, ↓reduceIte, Int.reduceToNat, reduceCtorEq, Int.reduceNeg, Int.reduceAdd, hni, hdr, List.append_nil]
theorem markTS1_Term (x : Tm) : MarkTS_Term x.args := markTS_Term_of x.args fun y hy => markTS1_Term y
termination_by SizeOf.sizeOf x
decreasing_by exact Tm.lt_of_mem hy
theorem markTS_Term (xs : List Tm) : MarkTS_Term xs := markTS_Term_of xs fun y _ => markTS1_Term y
mutual
def Fm.wt : Fm → Nat
  | .mk op atom var parts => 3 + Tm.wtS atom.args + Fm.wtS parts
def Fm.wtS : List Fm → Nat
  | [] => 0
  | x :: xs => Fm.wt x + Fm.wtS xs
end
theorem Fm.wt_eq (x : Fm) : x.wt = 3 + Tm.wtS x.atom.args + Fm.wtS x.parts := by
  obtain ⟨op, atom, var, parts⟩ := x
  rw [Fm.wt]; rfl
mutual
noncomputable def Fm.mk1 : Fm → Int → Fm × Int
  | .mk op atom var parts, k => ((Fm.mk (k) (Tm.mk (markT (k + 1)) ((Tm.mkS atom.args (k + 1 + 1)).1)) (markT (Tm.mkS atom.args (k + 1 + 1)).2) ((Fm.mkS parts ((Tm.mkS atom.args (k + 1 + 1)).2 + 1)).1)), (Fm.mkS parts ((Tm.mkS atom.args (k + 1 + 1)).2 + 1)).2)
noncomputable def Fm.mkS : List Fm → Int → List Fm × Int
  | [], k => ([], k)
  | x :: xs, k => ((Fm.mk1 x k).1 :: (Fm.mkS xs (Fm.mk1 x k).2).1, (Fm.mkS xs (Fm.mk1 x k).2).2)
end
theorem Fm.mk1_eq (x : Fm) (k : Int) : x.mk1 k = ((Fm.mk (k) (Tm.mk (markT (k + 1)) ((Tm.mkS x.atom.args (k + 1 + 1)).1)) (markT (Tm.mkS x.atom.args (k + 1 + 1)).2) ((Fm.mkS x.parts ((Tm.mkS x.atom.args (k + 1 + 1)).2 + 1)).1)), (Fm.mkS x.parts ((Tm.mkS x.atom.args (k + 1 + 1)).2 + 1)).2) := by
  obtain ⟨op, atom, var, parts⟩ := x
  rw [Fm.mk1]; rfl
theorem Fm.mk1_d (x : Fm) (k : Int) : Fm.d (x.mk1 k).1 = [.int k, .str (markT (k + 1)), .arr ((Tm.mkS x.atom.args (k + 1 + 1)).1.map Tm.d), .str (markT (Tm.mkS x.atom.args (k + 1 + 1)).2), .arr ((Fm.mkS x.parts ((Tm.mkS x.atom.args (k + 1 + 1)).2 + 1)).1.map Fm.d)] := by
  rw [Fm.mk1_eq, Fm.d_eq]
  try rfl
theorem Fm.mk1_o (x : Fm) (k : Int) : Fm.o (x.mk1 k).1 = [.int k, .str (markT (k + 1)), .ow ((Tm.mkS x.atom.args (k + 1 + 1)).1.map Tm.o), .str (markT (Tm.mkS x.atom.args (k + 1 + 1)).2), .ow ((Fm.mkS x.parts ((Tm.mkS x.atom.args (k + 1 + 1)).2 + 1)).1.map Fm.o)] := by
  rw [Fm.mk1_eq, Fm.o_eq]
  try rfl
theorem Fm.mkS_end_of : ∀ (xs : List Fm) (k : Int), (∀ x ∈ xs, ∀ k, (x.mk1 k).2 = k + x.wt) → (Fm.mkS xs k).2 = k + Fm.wtS xs
  | [], k, _ => by simp [Fm.mkS, Fm.wtS]
  | x :: xs, k, h => by
    rw [Fm.mkS, Fm.wtS]
    have h1 := h x (by simp) k
    have h2 := Fm.mkS_end_of xs (x.mk1 k).2 fun y hy => h y (by simp [hy])
    dsimp only
    omega
theorem Fm.mk1_end (x : Fm) (k : Int) : (x.mk1 k).2 = k + x.wt := by
  rw [Fm.mk1_eq, Fm.wt_eq]
  have h := fun k => Fm.mkS_end_of x.parts k fun y hy k => Fm.mk1_end y k
  simp only [h, Tm.mkS_end]
  omega
termination_by SizeOf.sizeOf x
decreasing_by exact Fm.lt_of_mem hy
theorem Fm.mkS_end (xs : List Fm) (k : Int) : (Fm.mkS xs k).2 = k + Fm.wtS xs := Fm.mkS_end_of xs k fun x _ k => Fm.mk1_end x k
theorem Fm.wtS_of : ∀ xs : List Fm, (∀ x ∈ xs, x.wt ≤ 5 * (1 + x.bulk)) → Fm.wtS xs ≤ 5 * (xs.length + Fm.sumB xs)
  | [], _ => by simp [Fm.wtS]
  | x :: xs, h => by
    have h1 := h x (by simp)
    have h2 := Fm.wtS_of xs fun y hy => h y (by simp [hy])
    rw [Fm.wtS, Fm.sumB]; simp only [List.length_cons]; omega
theorem Fm.wt_bulk (x : Fm) : x.wt ≤ 5 * (1 + x.bulk) := by
  rw [Fm.wt_eq, Fm.bulk_eq]
  have h := Fm.wtS_of x.parts fun y hy => Fm.wt_bulk y
  have h0 := Tm.wtS_bulk x.atom.args
  have q1 := Tm.bulk_eq x.atom
  omega
termination_by SizeOf.sizeOf x
decreasing_by exact Fm.lt_of_mem hy
theorem Fm.wtS_bulk (xs : List Fm) : Fm.wtS xs ≤ 5 * (xs.length + Fm.sumB xs) := Fm.wtS_of xs fun x _ => Fm.wt_bulk x
theorem Fm.length_wt : ∀ xs : List Fm, xs.length ≤ Fm.wtS xs
  | [] => Nat.le_refl _
  | x :: xs => by
    have := Fm.length_wt xs
    have := Fm.wt_eq x
    rw [Fm.wtS]; simp only [List.length_cons]; omega
def c_laws_markFormulaS : SC := (.seq (.reg [⟨(some 4), none, (.mv (.c (.int .i64 0)))⟩]) (.seq (.seq (.reg [⟨(some 5), none, (.mv (.c (.int .i64 0)))⟩]) (.block 0 (.loop [1, 1, 0, 0, 0, 1, 0, 0, 0, 0, 0, 0, 0, 0, 0, 0, 0, 0, 0, 0, 0, 0, 0, 0, 0, 0, 0, 0, 0, 0, 0, 0, 0, 0, 0, 0, 0, 0, 0, 0, 0, 0, 0, 0, 0, 0, 0, 0, 0, 0, 0, 0] (.seq (.seq (.reg [⟨(some 6), none, (.mv (.t 5))⟩, ⟨(some 7), none, (.mv (.t 0))⟩, ⟨(some 8), none, (.len false (.t 7))⟩, ⟨(some 9), none, (.bin .lss false (.t 6) (.t 8))⟩]) (.cond (.t 9) .skip (.exit 0))) (.seq (.block 1 (.seq (.reg [⟨(some 12), none, (.mv (.t 0))⟩, ⟨(some 13), none, (.mv (.t 5))⟩, ⟨(some 14), none, (.mv (.t 1))⟩, ⟨(some 15), none, (.iaddr 5 (.t 12) (.t 13))⟩, ⟨(some 16), none, (.faddr 0 (.t 15))⟩, ⟨none, none, (.store 1 (.t 16) (.t 14))⟩]) (.seq (.reg [⟨(some 17), none, (.mv (.t 1))⟩, ⟨(some 18), none, (.bin .add false (.t 17) (.c (.int .i64 1)))⟩, ⟨(some 1), none, (.mv (.t 18))⟩]) (.seq (.reg [⟨(some 19), none, (.mv (.t 0))⟩, ⟨(some 20), none, (.mv (.t 5))⟩, ⟨(some 21), none, (.mv (.t 1))⟩, ⟨(some 22), none, (.call 99 [(.t 21)])⟩, ⟨(some 23), none, (.iaddr 5 (.t 19) (.t 20))⟩, ⟨(some 24), none, (.faddr 1 (.t 23))⟩, ⟨(some 25), none, (.faddr 0 (.t 24))⟩, ⟨none, none, (.store 1 (.t 25) (.t 22))⟩]) (.seq (.reg [⟨(some 26), none, (.mv (.t 1))⟩, ⟨(some 27), none, (.bin .add false (.t 26) (.c (.int .i64 1)))⟩, ⟨(some 1), none, (.mv (.t 27))⟩]) (.seq (.reg [⟨(some 28), none, (.mv (.t 0))⟩, ⟨(some 29), none, (.mv (.t 5))⟩, ⟨(some 30), none, (.iaddr 5 (.t 28) (.t 29))⟩, ⟨(some 31), none, (.faddr 1 (.t 30))⟩, ⟨(some 32), none, (.faddr 1 (.t 31))⟩, ⟨(some 33), none, (.load false 1 (.t 32))⟩, ⟨(some 34), none, (.mv (.t 1))⟩, ⟨(some 35), none, (.call 51 [(.t 33), (.t 34)])⟩, ⟨(some 1), none, (.mv (.t 35))⟩]) (.seq (.reg [⟨(some 36), none, (.mv (.t 0))⟩, ⟨(some 37), none, (.mv (.t 5))⟩, ⟨(some 38), none, (.mv (.t 1))⟩, ⟨(some 39), none, (.call 99 [(.t 38)])⟩, ⟨(some 40), none, (.iaddr 5 (.t 36) (.t 37))⟩, ⟨(some 41), none, (.faddr 3 (.t 40))⟩, ⟨none, none, (.store 1 (.t 41) (.t 39))⟩]) (.seq (.reg [⟨(some 42), none, (.mv (.t 1))⟩, ⟨(some 43), none, (.bin .add false (.t 42) (.c (.int .i64 1)))⟩, ⟨(some 1), none, (.mv (.t 43))⟩]) (.reg [⟨(some 44), none, (.mv (.t 0))⟩, ⟨(some 45), none, (.mv (.t 5))⟩, ⟨(some 46), none, (.iaddr 5 (.t 44) (.t 45))⟩, ⟨(some 47), none, (.faddr 4 (.t 46))⟩, ⟨(some 48), none, (.load false 1 (.t 47))⟩, ⟨(some 49), none, (.mv (.t 1))⟩, ⟨(some 50), none, (.call 68 [(.t 48), (.t 49)])⟩, ⟨(some 1), none, (.mv (.t 50))⟩]))))))))) (.reg [⟨(some 10), none, (.mv (.t 5))⟩, ⟨(some 11), none, (.bin .add false (.t 10) (.c (.int .i64 1)))⟩, ⟨(some 5), none, (.mv (.t 11))⟩])))))) (.seq (.reg [⟨(some 51), none, (.mv (.t 1))⟩, ⟨(some 4), none, (.mv (.t 51))⟩]) .ret)))
theorem k_laws_markFormulaS : codeOf Try.prog 68 = some ⟨52, c_laws_markFormulaS, [(.tmp 4)]⟩ := by kernel_rfl
theorem m_laws_markFormulaS : modes 68 = ⟨[true], .asis, none, true⟩ := by unfold modes; rfl
abbrev MarkTS_Formula (xs : List Fm) : Prop := ∀ (k : Int) (ob : List Ob), 1 ≤ k → k + Fm.wtS xs ≤ 1099511627776 → toTree ob = [.tree (xs.map Fm.o) []] → E 68 [.ref 0, .int .i64 k] ob = some (.int .i64 (Fm.mkS xs k).2, [.tree ((Fm.mkS xs k).1.map Fm.o) []])
set_option maxHeartbeats 2000000 in
theorem markTS_Formula_of (xs : List Fm) (ih : ∀ x ∈ xs, MarkTS_Formula x.parts) : MarkTS_Formula xs := by
  intro k0 ob h1 h2 hob
  have hlen : ob.length = 1 := by rw [← toTree_len, hob]; rfl
  have hL := Fm.length_wt xs
  refine E_walk k_laws_markFormulaS m_laws_markFormulaS (of_decide_eq_true rfl) ?_
  simp (disch := omega) only [c_laws_markFormulaS, go_sem, Nat.reduceAdd, Nat.reduceSub, Nat.reduceLT, Nat.reduceLeDiff, Nat.reduceEqDiff, Nat.reduceBEq, Nat.reduceBneDiff, Nat.reduceMul, ↓reduceIte, Int.reduceToNat, reduceCtorEq, Int.reduceNeg, Int.reduceAdd, hob, hlen]
  refine go_loop (α := Int × (Int) × (List Fm)) (fun a => ⟨slots 52 0 [(0, .ref 0), (1, .int .i64 (a.2.1)), (5, .int .i64 (a.1))], [.tree (((a.2.2) ++ xs.drop (a.1).toNat).map Fm.o) []]⟩) (fun a => ∃ k : Nat, a.1 = k ∧ k ≤ (xs).length ∧ (a.2.2).length = k ∧ 1 ≤ (a.2.1) ∧ (a.2.1) + Fm.wtS (xs.drop k) = k0 + Fm.wtS xs ∧ Fm.mkS xs k0 = ((a.2.2) ++ (Fm.mkS (xs.drop k) (a.2.1)).1, (Fm.mkS (xs.drop k) (a.2.1)).2)) (fun a => (xs).length - (a.1).toNat) (0, k0, []) ⟨0, rfl, Nat.zero_le _, rfl, h1, by rw [List.drop_zero], by simp⟩ (by simp (disch := omega) only [go_sem, Nat.reduceAdd, Nat.reduceSub, Nat.reduceLT, Nat.reduceLeDiff, Nat.reduceEqDiff, Nat.reduceBEq, Nat.reduceBneDiff, Nat.reduceMul, ↓reduceIte, Int.reduceToNat, reduceCtorEq, Int.reduceNeg, Int.reduceAdd, Int.toNat_zero]) ?_
  rintro ⟨i, kk, dn⟩ ⟨k, hi, hk, hR⟩
  dsimp only at hi hR
  have hni : i.toNat = k := by omega
  have hni1 : (i + 1).toNat = k + 1 := by omega
  rcases Nat.lt_or_ge k (xs).length with hlt | hge
  · obtain ⟨hd, hk1, hkn, hm⟩ := hR
    have hdr : xs.drop k = xs[k] :: xs.drop (k + 1) := List.drop_eq_getElem_cons hlt
    have hel : (dn ++ xs.drop k).length = xs.length := by simp; omega
    have hg : (List.map Fm.o (dn ++ xs.drop k))[k]? = some [.int xs[k].op, .str xs[k].atom.name, .ow (xs[k].atom.args.map Tm.o), .str xs[k].var, .ow (xs[k].parts.map Fm.o)] := by
      rw [← Fm.o_eq, hdr, List.getElem?_map, List.getElem?_append_right (by omega), hd, Nat.sub_self]; rfl
    rw [hdr, Fm.wtS] at hkn
    rw [hdr, Fm.mkS] at hm
    have hn1 := Fm.wt_eq xs[k]
    have e2 := Tm.mkS_end xs[k].atom.args ((kk + 1 + 1))
    have e4 := Fm.mkS_end xs[k].parts (((Tm.mkS xs[k].atom.args (kk + 1 + 1)).2 + 1))
    have t0 := markText_E (k := (kk + 1)) (by omega) (by omega)
    have c64 := markTS_Term xs[k].atom.args ((kk + 1 + 1)) [.tree (xs[k].atom.args.map Tm.o) []] (by omega) (by omega) rfl
    have t187 := markText_E (k := (Tm.mkS xs[k].atom.args (kk + 1 + 1)).2) (by omega) (by omega)
    have c284 := ih xs[k] (List.getElem_mem hlt) (((Tm.mkS xs[k].atom.args (kk + 1 + 1)).2 + 1)) [.tree (xs[k].parts.map Fm.o) []] (by omega) (by omega) rfl
    have hs := map_set_mid Fm.o dn (xs.drop (k + 1)) xs[k] (xs[k].mk1 kk).1 hd
    rw [Fm.mk1_o, ← hdr] at hs
    have hgs : ∀ a, ((List.map Fm.o (dn ++ xs.drop k)).set k a)[k]? = some a := fun a => List.getElem?_set_self (by rw [List.length_map, hel]; exact hlt)
    have he := Fm.mk1_end xs[k] kk
    have three : ∀ z : Int, dec ((3 : Int) = 0) = false := fun _ => dec_f (by omega)
    simp (disch := omega) only [go_sem, Nat.reduceAdd, Nat.reduceSub, Nat.reduceLT, Nat.reduceLeDiff, Nat.reduceEqDiff, Nat.reduceBEq, Nat.reduceBneDiff, Nat.reduceMul, ↓reduceIte, Int.reduceToNat, reduceCtorEq, Int.reduceNeg, Int.reduceAdd, hni, hel, hg, t0, c64, m_laws_markTermS, t187, c284, m_laws_markFormulaS, m_laws_markText, hgs, List.length_set, List.set_set, hs, three 0]
    refine ⟨(i + 1, (xs[k].mk1 kk).2, dn ++ [(xs[k].mk1 kk).1]), ⟨k + 1, by dsimp only; omega, hlt, by dsimp only; simp [hd], by dsimp only; omega, by dsimp only; omega, by rw [hm]; simp⟩, by dsimp only; omega, ?_⟩
    dsimp only
    rw [hni1, Fm.mk1_eq]
    refine ⟨⟨?_, rfl⟩, rfl⟩
    first | rfl | omega
  · obtain ⟨hd, hk1, hkn, hm⟩ := hR
    have hdr : xs.drop k = [] := List.drop_eq_nil_of_le hge
    rw [hdr, Fm.mkS] at hm
    rw [hm]
    simp (disch := omega) only [go_sem, Nat.reduceAdd, Nat.reduceSub, Nat.reduceLT, Nat.reduceLeDiff, Nat.reduceEqDiff, Nat.reduceBEq, Nat.reduceBneDiff, Nat.reduceMul, ↓reduceIte, Int.reduceToNat, reduceCtorEq, Int.reduceNeg, Int.reduceAdd, hni, hdr, List.append_nil]
theorem markTS1_Formula (x : Fm) : MarkTS_Formula x.parts := markTS_Formula_of x.parts fun y hy => markTS1_Formula y
termination_by SizeOf.sizeOf x
decreasing_by exact Fm.lt_of_mem hy
theorem markTS_Formula (xs : List Fm) : MarkTS_Formula xs := markTS_Formula_of xs fun y _ => markTS1_Formula y
end Go.Proofs.Ytjafnijgkjjadab

set_option maxRecDepth 100000
set_option linter.unusedSimpArgs false
set_option linter.unusedVariables false
namespace Go.Proofs.Ytjafnijgkjjadab
open Go.RowKit

def c_laws_heldTermS : SC := (.seq (.reg [⟨(some 4), none, (.mv (.c (.int .i64 0)))⟩]) (.seq (.seq (.reg [⟨(some 5), none, (.mv (.c (.int .i64 0)))⟩]) (.block 0 (.loop [1, 1, 0, 0, 0, 1, 0, 0, 0, 0, 0, 0, 0, 0, 0, 0, 0, 0, 0, 0, 0, 0, 0, 0, 0, 0, 0, 0, 0, 0, 0, 0] (.seq (.seq (.reg [⟨(some 6), none, (.mv (.t 5))⟩, ⟨(some 7), none, (.mv (.t 0))⟩, ⟨(some 8), none, (.len false (.t 7))⟩, ⟨(some 9), none, (.bin .lss false (.t 6) (.t 8))⟩]) (.cond (.t 9) .skip (.exit 0))) (.seq (.block 1 (.seq (.seq (.dreg [[], [], [0, 1], [2, 0, 1], [3, 2, 0, 1], [], [5], [4, 3, 2, 0, 1, 6, 5]] [⟨(some 12), none, (.mv (.t 0))⟩, ⟨(some 13), none, (.mv (.t 5))⟩, ⟨(some 14), none, (.iaddr 2 (.t 12) (.t 13))⟩, ⟨(some 15), none, (.faddr 0 (.t 14))⟩, ⟨(some 16), none, (.load false 1 (.t 15))⟩, ⟨(some 17), none, (.mv (.t 1))⟩, ⟨(some 18), none, (.call 99 [(.t 17)])⟩, ⟨(some 19), none, (.bin .neq false (.t 16) (.t 18))⟩]) (.cond (.t 19) (.seq (.reg [⟨(some 4), none, (.mv (.c (.int .i64 (-(0 + 1)))))⟩]) .ret) .skip)) (.seq (.reg [⟨(some 20), none, (.mv (.t 1))⟩, ⟨(some 21), none, (.bin .add false (.t 20) (.c (.int .i64 1)))⟩, ⟨(some 1), none, (.mv (.t 21))⟩]) (.seq (.reg [⟨(some 22), none, (.mv (.t 0))⟩, ⟨(some 23), none, (.mv (.t 5))⟩, ⟨(some 24), none, (.iaddr 2 (.t 22) (.t 23))⟩, ⟨(some 25), none, (.faddr 1 (.t 24))⟩, ⟨(some 26), none, (.load false 1 (.t 25))⟩, ⟨(some 27), none, (.mv (.t 1))⟩, ⟨(some 28), none, (.call 52 [(.t 26), (.t 27)])⟩, ⟨(some 1), none, (.mv (.t 28))⟩]) (.seq (.reg [⟨(some 29), none, (.mv (.t 1))⟩, ⟨(some 30), none, (.bin .lss false (.t 29) (.c (.int .i64 0)))⟩]) (.cond (.t 30) (.seq (.reg [⟨(some 4), none, (.mv (.c (.int .i64 (-(0 + 1)))))⟩]) .ret) .skip)))))) (.reg [⟨(some 10), none, (.mv (.t 5))⟩, ⟨(some 11), none, (.bin .add false (.t 10) (.c (.int .i64 1)))⟩, ⟨(some 5), none, (.mv (.t 11))⟩])))))) (.seq (.reg [⟨(some 31), none, (.mv (.t 1))⟩, ⟨(some 4), none, (.mv (.t 31))⟩]) .ret)))
theorem k_laws_heldTermS : codeOf Try.prog 52 = some ⟨32, c_laws_heldTermS, [(.tmp 4)]⟩ := by kernel_rfl
theorem m_laws_heldTermS : modes 52 = ⟨[], .asis, none, false⟩ := by unfold modes; rfl
theorem Tm.mkS_len : ∀ (xs : List Tm) (k : Int), (Tm.mkS xs k).1.length = xs.length
  | [], k => by rw [Tm.mkS]
  | x :: xs, k => by rw [Tm.mkS]; simp only [List.length_cons]; rw [Tm.mkS_len xs]
abbrev HeldTS_Term (xs : List Tm) : Prop := ∀ k : Int, 1 ≤ k → k + Tm.wtS xs ≤ 1099511627776 → E 52 [.arr ((Tm.mkS xs k).1.map Tm.d), .int .i64 k] [] = some (.int .i64 (Tm.mkS xs k).2, [])
set_option maxHeartbeats 2000000 in
theorem heldTS_Term_of (xs : List Tm) (ih : ∀ x ∈ xs, HeldTS_Term x.args) : HeldTS_Term xs := by
  intro k0 h1 h2
  obtain ⟨ys, hys⟩ : ∃ ys, ys = (Tm.mkS xs k0).1 := ⟨_, rfl⟩
  have hyl : ys.length = xs.length := by rw [hys, Tm.mkS_len]
  rw [← hys]
  have hL := Tm.length_wt xs
  refine E_walk k_laws_heldTermS m_laws_heldTermS (of_decide_eq_true rfl) ?_
  simp (disch := omega) only [c_laws_heldTermS, go_sem, Nat.reduceAdd, Nat.reduceSub, Nat.reduceLT, Nat.reduceLeDiff, Nat.reduceEqDiff, Nat.reduceBEq, Nat.reduceBneDiff, Nat.reduceMul, ↓reduceIte, Int.reduceToNat, reduceCtorEq, Int.reduceNeg, Int.reduceAdd]
  refine go_loop (α := Int × (Int)) (fun a => ⟨slots 32 0 [(0, .arr (ys.map Tm.d)), (1, .int .i64 (a.2)), (5, .int .i64 (a.1))], []⟩) (fun a => ∃ k : Nat, a.1 = k ∧ k ≤ (ys).length ∧ 1 ≤ (a.2) ∧ (a.2) + Tm.wtS (xs.drop k) = k0 + Tm.wtS xs ∧ ys.drop k = (Tm.mkS (xs.drop k) (a.2)).1 ∧ (Tm.mkS xs k0).2 = (Tm.mkS (xs.drop k) (a.2)).2) (fun a => (ys).length - (a.1).toNat) (0, k0) ⟨0, rfl, Nat.zero_le _, h1, by rw [List.drop_zero], by rw [List.drop_zero, List.drop_zero, hys], by rw [List.drop_zero]⟩ (by simp (disch := omega) only [go_sem, Nat.reduceAdd, Nat.reduceSub, Nat.reduceLT, Nat.reduceLeDiff, Nat.reduceEqDiff, Nat.reduceBEq, Nat.reduceBneDiff, Nat.reduceMul, ↓reduceIte, Int.reduceToNat, reduceCtorEq, Int.reduceNeg, Int.reduceAdd]) ?_
  rintro ⟨i, kk⟩ ⟨k, hi, hk, hR⟩
  dsimp only at hi hR
  have hni : i.toNat = k := by omega
  have hni1 : (i + 1).toNat = k + 1 := by omega
  rcases Nat.lt_or_ge k (ys).length with hlt | hge
  · obtain ⟨hk1, hkn, hy, hm⟩ := hR
    have hlx : k < xs.length := by omega
    have hdr : xs.drop k = xs[k] :: xs.drop (k + 1) := List.drop_eq_getElem_cons hlx
    have hdy := List.drop_eq_getElem_cons hlt
    rw [hdr, Tm.wtS] at hkn
    rw [hdr, Tm.mkS] at hm
    rw [hdr, Tm.mkS, hdy] at hy
    dsimp only at hy hm
    obtain ⟨hy1, hy2⟩ := List.cons.inj hy
    have hg := get_at Tm.d hlt
    rw [hy1, Tm.mk1_d] at hg
    have hn1 := Tm.wt_eq xs[k]
    have e1 := Tm.mkS_end xs[k].args ((kk + 1))
    have t0 := markText_E (k := kk) (by omega) (by omega)
    have c58 := ih xs[k] (List.getElem_mem hlx) ((kk + 1)) (by omega) (by omega)
    have he := Tm.mk1_end xs[k] kk
    simp (disch := omega) only [go_sem, Nat.reduceAdd, Nat.reduceSub, Nat.reduceLT, Nat.reduceLeDiff, Nat.reduceEqDiff, Nat.reduceBEq, Nat.reduceBneDiff, Nat.reduceMul, ↓reduceIte, Int.reduceToNat, reduceCtorEq, Int.reduceNeg, Int.reduceAdd, hni, hg, m_laws_markText, dec_refl, t0, c58, m_laws_heldTermS]
    refine ⟨(i + 1, (xs[k].mk1 kk).2), ⟨k + 1, by dsimp only; omega, hlt, by dsimp only; omega, by dsimp only; omega, hy2, hm⟩, by dsimp only; omega, ?_⟩
    dsimp only
    rw [Tm.mk1_eq]
    simp only [and_self, and_true, true_and]
    try omega
  · obtain ⟨hk1, hkn, hy, hm⟩ := hR
    have hdr : xs.drop k = [] := List.drop_eq_nil_of_le (by omega)
    rw [hdr, Tm.mkS] at hm
    rw [hm]
    simp (disch := omega) only [go_sem, Nat.reduceAdd, Nat.reduceSub, Nat.reduceLT, Nat.reduceLeDiff, Nat.reduceEqDiff, Nat.reduceBEq, Nat.reduceBneDiff, Nat.reduceMul, ↓reduceIte, Int.reduceToNat, reduceCtorEq, Int.reduceNeg, Int.reduceAdd, hni]
theorem heldTS1_Term (x : Tm) : HeldTS_Term x.args := heldTS_Term_of x.args fun y hy => heldTS1_Term y
termination_by SizeOf.sizeOf x
decreasing_by exact Tm.lt_of_mem hy
theorem heldTS_Term (xs : List Tm) : HeldTS_Term xs := heldTS_Term_of xs fun y _ => heldTS1_Term y
def c_laws_heldFormulaS : SC := (.seq (.reg [⟨(some 4), none, (.mv (.c (.int .i64 0)))⟩]) (.seq (.seq (.reg [⟨(some 5), none, (.mv (.c (.int .i64 0)))⟩]) (.block 0 (.loop [1, 1, 0, 0, 0, 1, 0, 0, 0, 0, 0, 0, 0, 0, 0, 0, 0, 0, 0, 0, 0, 0, 0, 0, 0, 0, 0, 0, 0, 0, 0, 0, 0, 0, 0, 0, 0, 0, 0, 0, 0, 0, 0, 0, 0, 0, 0, 0, 0, 0, 0, 0, 0, 0, 0, 0, 0, 0, 0, 0, 0, 0] (.seq (.seq (.reg [⟨(some 6), none, (.mv (.t 5))⟩, ⟨(some 7), none, (.mv (.t 0))⟩, ⟨(some 8), none, (.len false (.t 7))⟩, ⟨(some 9), none, (.bin .lss false (.t 6) (.t 8))⟩]) (.cond (.t 9) .skip (.exit 0))) (.seq (.block 1 (.seq (.seq (.reg [⟨(some 12), none, (.mv (.t 0))⟩, ⟨(some 13), none, (.mv (.t 5))⟩, ⟨(some 14), none, (.iaddr 5 (.t 12) (.t 13))⟩, ⟨(some 15), none, (.faddr 0 (.t 14))⟩, ⟨(some 16), none, (.load false 1 (.t 15))⟩, ⟨(some 17), none, (.mv (.t 1))⟩, ⟨(some 18), none, (.bin .neq false (.t 16) (.t 17))⟩]) (.cond (.t 18) (.seq (.reg [⟨(some 4), none, (.mv (.c (.int .i64 (-(0 + 1)))))⟩]) .ret) .skip)) (.seq (.reg [⟨(some 19), none, (.mv (.t 1))⟩, ⟨(some 20), none, (.bin .add false (.t 19) (.c (.int .i64 1)))⟩, ⟨(some 1), none, (.mv (.t 20))⟩]) (.seq (.seq (.dreg [[], [], [0, 1], [2, 0, 1], [3, 2, 0, 1], [4, 3, 2, 0, 1], [], [6], [5, 4, 3, 2, 0, 1, 7, 6]] [⟨(some 21), none, (.mv (.t 0))⟩, ⟨(some 22), none, (.mv (.t 5))⟩, ⟨(some 23), none, (.iaddr 5 (.t 21) (.t 22))⟩, ⟨(some 24), none, (.faddr 1 (.t 23))⟩, ⟨(some 25), none, (.faddr 0 (.t 24))⟩, ⟨(some 26), none, (.load false 1 (.t 25))⟩, ⟨(some 27), none, (.mv (.t 1))⟩, ⟨(some 28), none, (.call 99 [(.t 27)])⟩, ⟨(some 29), none, (.bin .neq false (.t 26) (.t 28))⟩]) (.cond (.t 29) (.seq (.reg [⟨(some 4), none, (.mv (.c (.int .i64 (-(0 + 1)))))⟩]) .ret) .skip)) (.seq (.reg [⟨(some 30), none, (.mv (.t 1))⟩, ⟨(some 31), none, (.bin .add false (.t 30) (.c (.int .i64 1)))⟩, ⟨(some 1), none, (.mv (.t 31))⟩]) (.seq (.reg [⟨(some 32), none, (.mv (.t 0))⟩, ⟨(some 33), none, (.mv (.t 5))⟩, ⟨(some 34), none, (.iaddr 5 (.t 32) (.t 33))⟩, ⟨(some 35), none, (.faddr 1 (.t 34))⟩, ⟨(some 36), none, (.faddr 1 (.t 35))⟩, ⟨(some 37), none, (.load false 1 (.t 36))⟩, ⟨(some 38), none, (.mv (.t 1))⟩, ⟨(some 39), none, (.call 52 [(.t 37), (.t 38)])⟩, ⟨(some 1), none, (.mv (.t 39))⟩]) (.seq (.seq (.reg [⟨(some 40), none, (.mv (.t 1))⟩, ⟨(some 41), none, (.bin .lss false (.t 40) (.c (.int .i64 0)))⟩]) (.cond (.t 41) (.seq (.reg [⟨(some 4), none, (.mv (.c (.int .i64 (-(0 + 1)))))⟩]) .ret) .skip)) (.seq (.seq (.dreg [[], [], [0, 1], [2, 0, 1], [3, 2, 0, 1], [], [5], [4, 3, 2, 0, 1, 6, 5]] [⟨(some 42), none, (.mv (.t 0))⟩, ⟨(some 43), none, (.mv (.t 5))⟩, ⟨(some 44), none, (.iaddr 5 (.t 42) (.t 43))⟩, ⟨(some 45), none, (.faddr 3 (.t 44))⟩, ⟨(some 46), none, (.load false 1 (.t 45))⟩, ⟨(some 47), none, (.mv (.t 1))⟩, ⟨(some 48), none, (.call 99 [(.t 47)])⟩, ⟨(some 49), none, (.bin .neq false (.t 46) (.t 48))⟩]) (.cond (.t 49) (.seq (.reg [⟨(some 4), none, (.mv (.c (.int .i64 (-(0 + 1)))))⟩]) .ret) .skip)) (.seq (.reg [⟨(some 50), none, (.mv (.t 1))⟩, ⟨(some 51), none, (.bin .add false (.t 50) (.c (.int .i64 1)))⟩, ⟨(some 1), none, (.mv (.t 51))⟩]) (.seq (.reg [⟨(some 52), none, (.mv (.t 0))⟩, ⟨(some 53), none, (.mv (.t 5))⟩, ⟨(some 54), none, (.iaddr 5 (.t 52) (.t 53))⟩, ⟨(some 55), none, (.faddr 4 (.t 54))⟩, ⟨(some 56), none, (.load false 1 (.t 55))⟩, ⟨(some 57), none, (.mv (.t 1))⟩, ⟨(some 58), none, (.call 69 [(.t 56), (.t 57)])⟩, ⟨(some 1), none, (.mv (.t 58))⟩]) (.seq (.reg [⟨(some 59), none, (.mv (.t 1))⟩, ⟨(some 60), none, (.bin .lss false (.t 59) (.c (.int .i64 0)))⟩]) (.cond (.t 60) (.seq (.reg [⟨(some 4), none, (.mv (.c (.int .i64 (-(0 + 1)))))⟩]) .ret) .skip)))))))))))) (.reg [⟨(some 10), none, (.mv (.t 5))⟩, ⟨(some 11), none, (.bin .add false (.t 10) (.c (.int .i64 1)))⟩, ⟨(some 5), none, (.mv (.t 11))⟩])))))) (.seq (.reg [⟨(some 61), none, (.mv (.t 1))⟩, ⟨(some 4), none, (.mv (.t 61))⟩]) .ret)))
theorem k_laws_heldFormulaS : codeOf Try.prog 69 = some ⟨62, c_laws_heldFormulaS, [(.tmp 4)]⟩ := by kernel_rfl
theorem m_laws_heldFormulaS : modes 69 = ⟨[], .asis, none, false⟩ := by unfold modes; rfl
theorem Fm.mkS_len : ∀ (xs : List Fm) (k : Int), (Fm.mkS xs k).1.length = xs.length
  | [], k => by rw [Fm.mkS]
  | x :: xs, k => by rw [Fm.mkS]; simp only [List.length_cons]; rw [Fm.mkS_len xs]
abbrev HeldTS_Formula (xs : List Fm) : Prop := ∀ k : Int, 1 ≤ k → k + Fm.wtS xs ≤ 1099511627776 → E 69 [.arr ((Fm.mkS xs k).1.map Fm.d), .int .i64 k] [] = some (.int .i64 (Fm.mkS xs k).2, [])
set_option maxHeartbeats 2000000 in
theorem heldTS_Formula_of (xs : List Fm) (ih : ∀ x ∈ xs, HeldTS_Formula x.parts) : HeldTS_Formula xs := by
  intro k0 h1 h2
  obtain ⟨ys, hys⟩ : ∃ ys, ys = (Fm.mkS xs k0).1 := ⟨_, rfl⟩
  have hyl : ys.length = xs.length := by rw [hys, Fm.mkS_len]
  rw [← hys]
  have hL := Fm.length_wt xs
  refine E_walk k_laws_heldFormulaS m_laws_heldFormulaS (of_decide_eq_true rfl) ?_
  simp (disch := omega) only [c_laws_heldFormulaS, go_sem, Nat.reduceAdd, Nat.reduceSub, Nat.reduceLT, Nat.reduceLeDiff, Nat.reduceEqDiff, Nat.reduceBEq, Nat.reduceBneDiff, Nat.reduceMul, ↓reduceIte, Int.reduceToNat, reduceCtorEq, Int.reduceNeg, Int.reduceAdd]
  refine go_loop (α := Int × (Int)) (fun a => ⟨slots 62 0 [(0, .arr (ys.map Fm.d)), (1, .int .i64 (a.2)), (5, .int .i64 (a.1))], []⟩) (fun a => ∃ k : Nat, a.1 = k ∧ k ≤ (ys).length ∧ 1 ≤ (a.2) ∧ (a.2) + Fm.wtS (xs.drop k) = k0 + Fm.wtS xs ∧ ys.drop k = (Fm.mkS (xs.drop k) (a.2)).1 ∧ (Fm.mkS xs k0).2 = (Fm.mkS (xs.drop k) (a.2)).2) (fun a => (ys).length - (a.1).toNat) (0, k0) ⟨0, rfl, Nat.zero_le _, h1, by rw [List.drop_zero], by rw [List.drop_zero, List.drop_zero, hys], by rw [List.drop_zero]⟩ (by simp (disch := omega) only [go_sem, Nat.reduceAdd, Nat.reduceSub, Nat.reduceLT, Nat.reduceLeDiff, Nat.reduceEqDiff, Nat.reduceBEq, Nat.reduceBneDiff, Nat.reduceMul, ↓reduceIte, Int.reduceToNat, reduceCtorEq, Int.reduceNeg, Int.reduceAdd]) ?_
  rintro ⟨i, kk⟩ ⟨k, hi, hk, hR⟩
  dsimp only at hi hR
  have hni : i.toNat = k := by omega
  have hni1 : (i + 1).toNat = k + 1 := by omega
  rcases Nat.lt_or_ge k (ys).length with hlt | hge
  · obtain ⟨hk1, hkn, hy, hm⟩ := hR
    have hlx : k < xs.length := by omega
    have hdr : xs.drop k = xs[k] :: xs.drop (k + 1) := List.drop_eq_getElem_cons hlx
    have hdy := List.drop_eq_getElem_cons hlt
    rw [hdr, Fm.wtS] at hkn
    rw [hdr, Fm.mkS] at hm
    rw [hdr, Fm.mkS, hdy] at hy
    dsimp only at hy hm
    obtain ⟨hy1, hy2⟩ := List.cons.inj hy
    have hg := get_at Fm.d hlt
    rw [hy1, Fm.mk1_d] at hg
    have hn1 := Fm.wt_eq xs[k]
    have e2 := Tm.mkS_end xs[k].atom.args ((kk + 1 + 1))
    have e4 := Fm.mkS_end xs[k].parts (((Tm.mkS xs[k].atom.args (kk + 1 + 1)).2 + 1))
    have t0 := markText_E (k := (kk + 1)) (by omega) (by omega)
    have c64 := heldTS_Term xs[k].atom.args ((kk + 1 + 1)) (by omega) (by omega)
    have t145 := markText_E (k := (Tm.mkS xs[k].atom.args (kk + 1 + 1)).2) (by omega) (by omega)
    have c242 := ih xs[k] (List.getElem_mem hlx) (((Tm.mkS xs[k].atom.args (kk + 1 + 1)).2 + 1)) (by omega) (by omega)
    have he := Fm.mk1_end xs[k] kk
    simp (disch := omega) only [go_sem, Nat.reduceAdd, Nat.reduceSub, Nat.reduceLT, Nat.reduceLeDiff, Nat.reduceEqDiff, Nat.reduceBEq, Nat.reduceBneDiff, Nat.reduceMul, ↓reduceIte, Int.reduceToNat, reduceCtorEq, Int.reduceNeg, Int.reduceAdd, hni, hg, m_laws_markText, dec_refl, t0, c64, m_laws_heldTermS, t145, c242, m_laws_heldFormulaS]
    refine ⟨(i + 1, (xs[k].mk1 kk).2), ⟨k + 1, by dsimp only; omega, hlt, by dsimp only; omega, by dsimp only; omega, hy2, hm⟩, by dsimp only; omega, ?_⟩
    dsimp only
    rw [Fm.mk1_eq]
    simp only [and_self, and_true, true_and]
    try omega
  · obtain ⟨hk1, hkn, hy, hm⟩ := hR
    have hdr : xs.drop k = [] := List.drop_eq_nil_of_le (by omega)
    rw [hdr, Fm.mkS] at hm
    rw [hm]
    simp (disch := omega) only [go_sem, Nat.reduceAdd, Nat.reduceSub, Nat.reduceLT, Nat.reduceLeDiff, Nat.reduceEqDiff, Nat.reduceBEq, Nat.reduceBneDiff, Nat.reduceMul, ↓reduceIte, Int.reduceToNat, reduceCtorEq, Int.reduceNeg, Int.reduceAdd, hni]
theorem heldTS1_Formula (x : Fm) : HeldTS_Formula x.parts := heldTS_Formula_of x.parts fun y hy => heldTS1_Formula y
termination_by SizeOf.sizeOf x
decreasing_by exact Fm.lt_of_mem hy
theorem heldTS_Formula (xs : List Fm) : HeldTS_Formula xs := heldTS_Formula_of xs fun y _ => heldTS1_Formula y
end Go.Proofs.Ytjafnijgkjjadab

set_option maxRecDepth 100000
set_option linter.unusedSimpArgs false
set_option linter.unusedVariables false
namespace Go.Proofs.Ytjafnijgkjjadab
open Go.RowKit

theorem toTree1 {o : Ob} {es : List (List OT)} (h : toTree [o] = [.tree es []]) : (∃ a b, o = .row a b es) ∨ o = .tree es [] := by
  cases o with
  | row a b e => obtain ⟨h1, h2⟩ := List.cons.inj h; cases h1; exact .inl ⟨a, b, rfl⟩
  | tree e hs => obtain ⟨h1, h2⟩ := List.cons.inj h; cases h1; exact .inr rfl
  | _ => simp [toTree] at h

noncomputable def Tm.mkr (x : Tm) (k : Int) : Tm × Int := ((Tm.mk (x.name) ((Tm.mkS x.args k).1)), (Tm.mkS x.args k).2)
def c_laws_markTerm : SC := (.seq (.reg [⟨(some 2), none, (.boxv 24 2 (.t 0))⟩, ⟨(some 4), none, (.mv (.c (.int .i64 0)))⟩]) (.seq (.reg [⟨(some 5), none, (.faddr 1 (.t 2))⟩, ⟨(some 6), none, (.load false 1 (.t 5))⟩, ⟨(some 7), none, (.mv (.t 1))⟩, ⟨(some 8), none, (.call 51 [(.t 6), (.t 7)])⟩, ⟨(some 1), none, (.mv (.t 8))⟩]) (.seq (.reg [⟨(some 9), none, (.mv (.t 1))⟩, ⟨(some 4), none, (.mv (.t 9))⟩]) .ret)))
theorem k_laws_markTerm : codeOf Try.prog 12 = some ⟨10, c_laws_markTerm, [(.tmp 4)]⟩ := by kernel_rfl
theorem m_laws_markTerm : modes 12 = ⟨[true], .asis, none, false⟩ := by unfold modes; rfl
set_option maxHeartbeats 1000000 in
theorem markT_Term (x : Tm) (k : Int) (o0 : Ob) (h1 : 1 ≤ k) (h2 : k + (Tm.wtS x.args : Nat) ≤ 1099511627776) (t0 : toTree [o0] = [.tree (x.args.map Tm.o) []]) : E 12 [.agg [.str x.name, .ref 0], .int .i64 k] [o0] = some (.int .i64 (x.mkr k).2, [.tree ((Tm.mkS x.args k).1.map Tm.o) []]) := by
  have e0 := Tm.mkS_end x.args k
  rw [Tm.mkr]
  dsimp only
  have c0 := markTS_Term x.args k [o0] (by omega) (by omega) t0
  rcases toTree1 t0 with ⟨a0, b0, rfl⟩ | rfl <;>
   (
    refine E_walk k_laws_markTerm m_laws_markTerm (of_decide_eq_true rfl) ?_
    simp (disch := omega) only [c_laws_markTerm, go_sem, Nat.reduceAdd, Nat.reduceSub, Nat.reduceLT, Nat.reduceLeDiff, Nat.reduceEqDiff, Nat.reduceBEq, Nat.reduceBneDiff, Nat.reduceMul, ↓reduceIte, Int.reduceToNat, reduceCtorEq, Int.reduceNeg, Int.reduceAdd, c0, m_laws_markTermS])
def c_laws_heldTerm : SC := (.seq (.reg [⟨(some 2), none, (.boxv 24 2 (.t 0))⟩, ⟨(some 4), none, (.mv (.c (.int .i64 0)))⟩]) (.seq (.reg [⟨(some 5), none, (.faddr 1 (.t 2))⟩, ⟨(some 6), none, (.load false 1 (.t 5))⟩, ⟨(some 7), none, (.mv (.t 1))⟩, ⟨(some 8), none, (.call 52 [(.t 6), (.t 7)])⟩, ⟨(some 1), none, (.mv (.t 8))⟩]) (.seq (.seq (.reg [⟨(some 9), none, (.mv (.t 1))⟩, ⟨(some 10), none, (.bin .lss false (.t 9) (.c (.int .i64 0)))⟩]) (.cond (.t 10) (.seq (.reg [⟨(some 4), none, (.mv (.c (.int .i64 (-(0 + 1)))))⟩]) .ret) .skip)) (.seq (.reg [⟨(some 11), none, (.mv (.t 1))⟩, ⟨(some 4), none, (.mv (.t 11))⟩]) .ret))))
theorem k_laws_heldTerm : codeOf Try.prog 13 = some ⟨12, c_laws_heldTerm, [(.tmp 4)]⟩ := by kernel_rfl
theorem m_laws_heldTerm : modes 13 = ⟨[], .asis, none, false⟩ := by unfold modes; rfl
set_option maxHeartbeats 1000000 in
theorem heldT_Term (x : Tm) (k : Int) (h1 : 1 ≤ k) (h2 : k + (Tm.wtS x.args : Nat) ≤ 1099511627776) : E 13 [.agg [.str x.name, .arr ((Tm.mkS x.args k).1.map Tm.d)], .int .i64 k] [] = some (.int .i64 (x.mkr k).2, []) := by
  have e0 := Tm.mkS_end x.args k
  rw [Tm.mkr]
  dsimp only
  have p0 : (Tm.mk (x.name) ((Tm.mkS x.args k).1)).name = x.name := rfl
  have p1 : (Tm.mk (x.name) ((Tm.mkS x.args k).1)).args = (Tm.mkS x.args k).1 := rfl
  have c0 := heldTS_Term x.args k (by omega) (by omega)
  refine E_walk k_laws_heldTerm m_laws_heldTerm (of_decide_eq_true rfl) ?_
  simp (disch := omega) only [c_laws_heldTerm, go_sem, Nat.reduceAdd, Nat.reduceSub, Nat.reduceLT, Nat.reduceLeDiff, Nat.reduceEqDiff, Nat.reduceBEq, Nat.reduceBneDiff, Nat.reduceMul, ↓reduceIte, Int.reduceToNat, reduceCtorEq, Int.reduceNeg, Int.reduceAdd, c0, m_laws_heldTermS, p0, p1]
noncomputable def Lt.mkr (x : Lt) (k : Int) : Lt × Int := ((Lt.mk (x.pos) (Tm.mk (x.atom.name) ((Tm.mkS x.atom.args k).1))), (Tm.mkS x.atom.args k).2)
def c_laws_markLiteral : SC := (.seq (.reg [⟨(some 2), none, (.boxv 31 3 (.t 0))⟩, ⟨(some 4), none, (.mv (.c (.int .i64 0)))⟩]) (.seq (.reg [⟨(some 5), none, (.faddr 1 (.t 2))⟩, ⟨(some 6), none, (.load true 2 (.t 5))⟩, ⟨(some 7), none, (.mv (.t 1))⟩, ⟨(some 8), none, (.call 12 [(.t 6), (.t 7)])⟩, ⟨(some 1), none, (.mv (.t 8))⟩]) (.seq (.reg [⟨(some 9), none, (.mv (.t 1))⟩, ⟨(some 4), none, (.mv (.t 9))⟩]) .ret)))
theorem k_laws_markLiteral : codeOf Try.prog 19 = some ⟨10, c_laws_markLiteral, [(.tmp 4)]⟩ := by kernel_rfl
theorem m_laws_markLiteral : modes 19 = ⟨[true], .asis, none, false⟩ := by unfold modes; rfl
set_option maxHeartbeats 1000000 in
theorem markT_Literal (x : Lt) (k : Int) (o0 : Ob) (h1 : 1 ≤ k) (h2 : k + (Tm.wtS x.atom.args : Nat) ≤ 1099511627776) (t0 : toTree [o0] = [.tree (x.atom.args.map Tm.o) []]) : E 19 [.agg [.bool x.pos, .str x.atom.name, .ref 0], .int .i64 k] [o0] = some (.int .i64 (x.mkr k).2, [.tree ((Tm.mkS x.atom.args k).1.map Tm.o) []]) := by
  have e0 := Tm.mkS_end x.atom.args k
  rw [Lt.mkr]
  dsimp only
  have c0 := markT_Term x.atom k o0 (by omega) (by omega) t0
  rw [Tm.mkr] at c0
  dsimp only at c0
  rcases toTree1 t0 with ⟨a0, b0, rfl⟩ | rfl <;>
   (
    refine E_walk k_laws_markLiteral m_laws_markLiteral (of_decide_eq_true rfl) ?_
    simp (disch := omega) only [c_laws_markLiteral, go_sem, Nat.reduceAdd, Nat.reduceSub, Nat.reduceLT, Nat.reduceLeDiff, Nat.reduceEqDiff, Nat.reduceBEq, Nat.reduceBneDiff, Nat.reduceMul, ↓reduceIte, Int.reduceToNat, reduceCtorEq, Int.reduceNeg, Int.reduceAdd, c0, m_laws_markTerm])
def c_laws_heldLiteral : SC := (.seq (.reg [⟨(some 2), none, (.boxv 31 3 (.t 0))⟩, ⟨(some 4), none, (.mv (.c (.int .i64 0)))⟩]) (.seq (.reg [⟨(some 5), none, (.faddr 1 (.t 2))⟩, ⟨(some 6), none, (.load true 2 (.t 5))⟩, ⟨(some 7), none, (.mv (.t 1))⟩, ⟨(some 8), none, (.call 13 [(.t 6), (.t 7)])⟩, ⟨(some 1), none, (.mv (.t 8))⟩]) (.seq (.seq (.reg [⟨(some 9), none, (.mv (.t 1))⟩, ⟨(some 10), none, (.bin .lss false (.t 9) (.c (.int .i64 0)))⟩]) (.cond (.t 10) (.seq (.reg [⟨(some 4), none, (.mv (.c (.int .i64 (-(0 + 1)))))⟩]) .ret) .skip)) (.seq (.reg [⟨(some 11), none, (.mv (.t 1))⟩, ⟨(some 4), none, (.mv (.t 11))⟩]) .ret))))
theorem k_laws_heldLiteral : codeOf Try.prog 20 = some ⟨12, c_laws_heldLiteral, [(.tmp 4)]⟩ := by kernel_rfl
theorem m_laws_heldLiteral : modes 20 = ⟨[], .asis, none, false⟩ := by unfold modes; rfl
set_option maxHeartbeats 1000000 in
theorem heldT_Literal (x : Lt) (k : Int) (h1 : 1 ≤ k) (h2 : k + (Tm.wtS x.atom.args : Nat) ≤ 1099511627776) : E 20 [.agg [.bool x.pos, .str x.atom.name, .arr ((Tm.mkS x.atom.args k).1.map Tm.d)], .int .i64 k] [] = some (.int .i64 (x.mkr k).2, []) := by
  have e0 := Tm.mkS_end x.atom.args k
  rw [Lt.mkr]
  dsimp only
  have p0 : (Tm.mk (x.atom.name) ((Tm.mkS x.atom.args k).1)).name = x.atom.name := rfl
  have p1 : (Tm.mk (x.atom.name) ((Tm.mkS x.atom.args k).1)).args = (Tm.mkS x.atom.args k).1 := rfl
  have c0 := heldT_Term x.atom k (by omega) (by omega)
  rw [Tm.mkr] at c0
  dsimp only at c0
  refine E_walk k_laws_heldLiteral m_laws_heldLiteral (of_decide_eq_true rfl) ?_
  simp (disch := omega) only [c_laws_heldLiteral, go_sem, Nat.reduceAdd, Nat.reduceSub, Nat.reduceLT, Nat.reduceLeDiff, Nat.reduceEqDiff, Nat.reduceBEq, Nat.reduceBneDiff, Nat.reduceMul, ↓reduceIte, Int.reduceToNat, reduceCtorEq, Int.reduceNeg, Int.reduceAdd, c0, m_laws_heldTerm, p0, p1]
noncomputable def Fm.mkr (x : Fm) (k : Int) : Fm × Int := ((Fm.mk (x.op) (Tm.mk (x.atom.name) ((Tm.mkS x.atom.args k).1)) (x.var) ((Fm.mkS x.parts (Tm.mkS x.atom.args k).2).1)), (Fm.mkS x.parts (Tm.mkS x.atom.args k).2).2)
def c_laws_markFormula : SC := (.seq (.reg [⟨(some 2), none, (.boxv 45 5 (.t 0))⟩, ⟨(some 4), none, (.mv (.c (.int .i64 0)))⟩]) (.seq (.reg [⟨(some 5), none, (.faddr 1 (.t 2))⟩, ⟨(some 6), none, (.load true 2 (.t 5))⟩, ⟨(some 7), none, (.mv (.t 1))⟩, ⟨(some 8), none, (.call 12 [(.t 6), (.t 7)])⟩, ⟨(some 1), none, (.mv (.t 8))⟩]) (.seq (.reg [⟨(some 9), none, (.faddr 4 (.t 2))⟩, ⟨(some 10), none, (.load false 1 (.t 9))⟩, ⟨(some 11), none, (.mv (.t 1))⟩, ⟨(some 12), none, (.call 68 [(.t 10), (.t 11)])⟩, ⟨(some 1), none, (.mv (.t 12))⟩]) (.seq (.reg [⟨(some 13), none, (.mv (.t 1))⟩, ⟨(some 4), none, (.mv (.t 13))⟩]) .ret))))
theorem k_laws_markFormula : codeOf Try.prog 26 = some ⟨14, c_laws_markFormula, [(.tmp 4)]⟩ := by kernel_rfl
theorem m_laws_markFormula : modes 26 = ⟨[true], .asis, none, false⟩ := by unfold modes; rfl
set_option maxHeartbeats 1000000 in
theorem markT_Formula (x : Fm) (k : Int) (o0 o1 : Ob) (h1 : 1 ≤ k) (h2 : k + (Tm.wtS x.atom.args + Fm.wtS x.parts : Nat) ≤ 1099511627776) (t0 : toTree [o0] = [.tree (x.atom.args.map Tm.o) []]) (t1 : toTree [o1] = [.tree (x.parts.map Fm.o) []]) : E 26 [.agg [.int .i64 x.op, .str x.atom.name, .ref 0, .str x.var, .ref 1], .int .i64 k] [o0, o1] = some (.int .i64 (x.mkr k).2, [.tree ((Tm.mkS x.atom.args k).1.map Tm.o) [], .tree ((Fm.mkS x.parts (Tm.mkS x.atom.args k).2).1.map Fm.o) []]) := by
  have e0 := Tm.mkS_end x.atom.args k
  have e1 := Fm.mkS_end x.parts (Tm.mkS x.atom.args k).2
  rw [Fm.mkr]
  dsimp only
  have c0 := markT_Term x.atom k o0 (by omega) (by omega) t0
  rw [Tm.mkr] at c0
  dsimp only at c0
  have c1 := markTS_Formula x.parts (Tm.mkS x.atom.args k).2 [o1] (by omega) (by omega) t1
  rcases toTree1 t0 with ⟨a0, b0, rfl⟩ | rfl <;>
  rcases toTree1 t1 with ⟨a1, b1, rfl⟩ | rfl <;>
   (
    refine E_walk k_laws_markFormula m_laws_markFormula (of_decide_eq_true rfl) ?_
    simp (disch := omega) only [c_laws_markFormula, go_sem, Nat.reduceAdd, Nat.reduceSub, Nat.reduceLT, Nat.reduceLeDiff, Nat.reduceEqDiff, Nat.reduceBEq, Nat.reduceBneDiff, Nat.reduceMul, ↓reduceIte, Int.reduceToNat, reduceCtorEq, Int.reduceNeg, Int.reduceAdd, c0, m_laws_markTerm, c1, m_laws_markFormulaS])
def c_laws_heldFormula : SC := (.seq (.reg [⟨(some 2), none, (.boxv 45 5 (.t 0))⟩, ⟨(some 4), none, (.mv (.c (.int .i64 0)))⟩]) (.seq (.reg [⟨(some 5), none, (.faddr 1 (.t 2))⟩, ⟨(some 6), none, (.load true 2 (.t 5))⟩, ⟨(some 7), none, (.mv (.t 1))⟩, ⟨(some 8), none, (.call 13 [(.t 6), (.t 7)])⟩, ⟨(some 1), none, (.mv (.t 8))⟩]) (.seq (.seq (.reg [⟨(some 9), none, (.mv (.t 1))⟩, ⟨(some 10), none, (.bin .lss false (.t 9) (.c (.int .i64 0)))⟩]) (.cond (.t 10) (.seq (.reg [⟨(some 4), none, (.mv (.c (.int .i64 (-(0 + 1)))))⟩]) .ret) .skip)) (.seq (.reg [⟨(some 11), none, (.faddr 4 (.t 2))⟩, ⟨(some 12), none, (.load false 1 (.t 11))⟩, ⟨(some 13), none, (.mv (.t 1))⟩, ⟨(some 14), none, (.call 69 [(.t 12), (.t 13)])⟩, ⟨(some 1), none, (.mv (.t 14))⟩]) (.seq (.seq (.reg [⟨(some 15), none, (.mv (.t 1))⟩, ⟨(some 16), none, (.bin .lss false (.t 15) (.c (.int .i64 0)))⟩]) (.cond (.t 16) (.seq (.reg [⟨(some 4), none, (.mv (.c (.int .i64 (-(0 + 1)))))⟩]) .ret) .skip)) (.seq (.reg [⟨(some 17), none, (.mv (.t 1))⟩, ⟨(some 4), none, (.mv (.t 17))⟩]) .ret))))))
theorem k_laws_heldFormula : codeOf Try.prog 27 = some ⟨18, c_laws_heldFormula, [(.tmp 4)]⟩ := by kernel_rfl
theorem m_laws_heldFormula : modes 27 = ⟨[], .asis, none, false⟩ := by unfold modes; rfl
set_option maxHeartbeats 1000000 in
theorem heldT_Formula (x : Fm) (k : Int) (h1 : 1 ≤ k) (h2 : k + (Tm.wtS x.atom.args + Fm.wtS x.parts : Nat) ≤ 1099511627776) : E 27 [.agg [.int .i64 x.op, .str x.atom.name, .arr ((Tm.mkS x.atom.args k).1.map Tm.d), .str x.var, .arr ((Fm.mkS x.parts (Tm.mkS x.atom.args k).2).1.map Fm.d)], .int .i64 k] [] = some (.int .i64 (x.mkr k).2, []) := by
  have e0 := Tm.mkS_end x.atom.args k
  have e1 := Fm.mkS_end x.parts (Tm.mkS x.atom.args k).2
  rw [Fm.mkr]
  dsimp only
  have p0 : (Fm.mk (x.op) (Tm.mk (x.atom.name) ((Tm.mkS x.atom.args k).1)) (x.var) ((Fm.mkS x.parts (Tm.mkS x.atom.args k).2).1)).op = x.op := rfl
  have p1 : (Fm.mk (x.op) (Tm.mk (x.atom.name) ((Tm.mkS x.atom.args k).1)) (x.var) ((Fm.mkS x.parts (Tm.mkS x.atom.args k).2).1)).atom = (Tm.mk (x.atom.name) ((Tm.mkS x.atom.args k).1)) := rfl
  have p2 : (Tm.mk (x.atom.name) ((Tm.mkS x.atom.args k).1)).name = x.atom.name := rfl
  have p3 : (Tm.mk (x.atom.name) ((Tm.mkS x.atom.args k).1)).args = (Tm.mkS x.atom.args k).1 := rfl
  have p4 : (Fm.mk (x.op) (Tm.mk (x.atom.name) ((Tm.mkS x.atom.args k).1)) (x.var) ((Fm.mkS x.parts (Tm.mkS x.atom.args k).2).1)).var = x.var := rfl
  have p5 : (Fm.mk (x.op) (Tm.mk (x.atom.name) ((Tm.mkS x.atom.args k).1)) (x.var) ((Fm.mkS x.parts (Tm.mkS x.atom.args k).2).1)).parts = (Fm.mkS x.parts (Tm.mkS x.atom.args k).2).1 := rfl
  have c0 := heldT_Term x.atom k (by omega) (by omega)
  rw [Tm.mkr] at c0
  dsimp only at c0
  have c1 := heldTS_Formula x.parts (Tm.mkS x.atom.args k).2 (by omega) (by omega)
  refine E_walk k_laws_heldFormula m_laws_heldFormula (of_decide_eq_true rfl) ?_
  simp (disch := omega) only [c_laws_heldFormula, go_sem, Nat.reduceAdd, Nat.reduceSub, Nat.reduceLT, Nat.reduceLeDiff, Nat.reduceEqDiff, Nat.reduceBEq, Nat.reduceBneDiff, Nat.reduceMul, ↓reduceIte, Int.reduceToNat, reduceCtorEq, Int.reduceNeg, Int.reduceAdd, c0, m_laws_heldTerm, c1, m_laws_heldFormulaS, p0, p1, p2, p3, p4, p5]
end Go.Proofs.Ytjafnijgkjjadab

set_option maxRecDepth 100000
set_option linter.unusedSimpArgs false
set_option linter.unusedVariables false
namespace Go.Proofs.Ytjafnijgkjjadab
open Go.RowKit

def c_laws_eqTerm : SC := (.seq (.reg [⟨(some 2), none, (.boxv 24 2 (.t 0))⟩, ⟨(some 3), none, (.boxv 24 2 (.t 1))⟩, ⟨(some 4), none, (.mv (.c (.bool false)))⟩]) (.seq (.seq (.reg [⟨(some 5), none, (.faddr 0 (.t 2))⟩, ⟨(some 6), none, (.load false 1 (.t 5))⟩, ⟨(some 7), none, (.faddr 0 (.t 3))⟩, ⟨(some 8), none, (.load false 1 (.t 7))⟩, ⟨(some 9), none, (.bin .neq false (.t 6) (.t 8))⟩]) (.cond (.t 9) (.seq (.reg [⟨(some 4), none, (.mv (.c (.bool false)))⟩]) .ret) .skip)) (.seq (.seq (.reg [⟨(some 10), none, (.faddr 1 (.t 2))⟩, ⟨(some 11), none, (.load false 1 (.t 10))⟩, ⟨(some 12), none, (.faddr 1 (.t 3))⟩, ⟨(some 13), none, (.load false 1 (.t 12))⟩, ⟨(some 14), none, (.call 50 [(.t 11), (.t 13)])⟩, ⟨(some 15), none, (.un .not (.t 14))⟩]) (.cond (.t 15) (.seq (.reg [⟨(some 4), none, (.mv (.c (.bool false)))⟩]) .ret) .skip)) (.seq (.reg [⟨(some 4), none, (.mv (.c (.bool true)))⟩]) .ret))))
theorem k_laws_eqTerm : codeOf Try.prog 11 = some ⟨16, c_laws_eqTerm, [(.tmp 4)]⟩ := by kernel_rfl
theorem m_laws_eqTerm : modes 11 = ⟨[], .asis, none, false⟩ := by unfold modes; rfl
def c_laws_eqTermS : SC := (.seq (.reg [⟨(some 4), none, (.mv (.c (.bool false)))⟩]) (.seq (.seq (.reg [⟨(some 6), none, (.mv (.t 0))⟩, ⟨(some 7), none, (.len false (.t 6))⟩, ⟨(some 8), none, (.mv (.t 1))⟩, ⟨(some 9), none, (.len false (.t 8))⟩, ⟨(some 10), none, (.bin .neq false (.t 7) (.t 9))⟩]) (.cond (.t 10) (.seq (.reg [⟨(some 4), none, (.mv (.c (.bool false)))⟩]) .ret) .skip)) (.seq (.seq (.reg [⟨(some 5), none, (.mv (.c (.int .i64 0)))⟩]) (.block 0 (.loop [1, 1, 0, 0, 0, 1, 0, 0, 0, 0, 0, 0, 0, 0, 0, 0, 0, 0, 0, 0, 0, 0, 0, 0, 0, 0, 0] (.seq (.seq (.reg [⟨(some 11), none, (.mv (.t 5))⟩, ⟨(some 12), none, (.mv (.t 0))⟩, ⟨(some 13), none, (.len false (.t 12))⟩, ⟨(some 14), none, (.bin .lss false (.t 11) (.t 13))⟩]) (.cond (.t 14) .skip (.exit 0))) (.seq (.block 1 (.seq (.dreg [[], [], [0, 1], [2, 0, 1], [], [], [4, 5], [6, 4, 5], [3, 2, 0, 1, 7, 6, 4, 5], [8, 3, 2, 0, 1, 7, 6, 4, 5]] [⟨(some 17), none, (.mv (.t 0))⟩, ⟨(some 18), none, (.mv (.t 5))⟩, ⟨(some 19), none, (.iaddr 2 (.t 17) (.t 18))⟩, ⟨(some 20), none, (.load true 2 (.t 19))⟩, ⟨(some 21), none, (.mv (.t 1))⟩, ⟨(some 22), none, (.mv (.t 5))⟩, ⟨(some 23), none, (.iaddr 2 (.t 21) (.t 22))⟩, ⟨(some 24), none, (.load true 2 (.t 23))⟩, ⟨(some 25), none, (.call 11 [(.t 20), (.t 24)])⟩, ⟨(some 26), none, (.un .not (.t 25))⟩]) (.cond (.t 26) (.seq (.reg [⟨(some 4), none, (.mv (.c (.bool false)))⟩]) .ret) .skip))) (.reg [⟨(some 15), none, (.mv (.t 5))⟩, ⟨(some 16), none, (.bin .add false (.t 15) (.c (.int .i64 1)))⟩, ⟨(some 5), none, (.mv (.t 16))⟩])))))) (.seq (.reg [⟨(some 4), none, (.mv (.c (.bool true)))⟩]) .ret))))
theorem k_laws_eqTermS : codeOf Try.prog 50 = some ⟨27, c_laws_eqTermS, [(.tmp 4)]⟩ := by kernel_rfl
theorem m_laws_eqTermS : modes 50 = ⟨[], .asis, none, false⟩ := by unfold modes; rfl
abbrev EqT_Term (x : Tm) : Prop := x.bulk ≤ 1048576 → E 11 [x.sv, x.sv] [] = some (.bool true, [])
abbrev EqTS_Term (xs : List Tm) : Prop := xs.length + Tm.sumB xs ≤ 1048576 → E 50 [.arr (xs.map Tm.d), .arr (xs.map Tm.d)] [] = some (.bool true, [])
set_option maxHeartbeats 1000000 in
theorem eqTS_Term_of (xs : List Tm) (h : ∀ x ∈ xs, EqT_Term x) : EqTS_Term xs := by
  intro hb
  refine E_walk k_laws_eqTermS m_laws_eqTermS (of_decide_eq_true rfl) ?_
  simp (disch := omega) only [c_laws_eqTermS, go_sem, Nat.reduceAdd, Nat.reduceSub, Nat.reduceLT, Nat.reduceLeDiff, Nat.reduceEqDiff, Nat.reduceBEq, Nat.reduceBneDiff, Nat.reduceMul, ↓reduceIte, Int.reduceToNat, reduceCtorEq, Int.reduceNeg, Int.reduceAdd]
  refine go_loop (α := Int) (fun i => ⟨slots 27 0 [(0, .arr (xs.map Tm.d)), (1, .arr (xs.map Tm.d)), (5, .int .i64 i)], []⟩) (fun i => ∃ k : Nat, i = k ∧ k ≤ xs.length) (fun i => xs.length - i.toNat) 0 ⟨0, rfl, Nat.zero_le _⟩ (by simp (disch := omega) only [go_sem, Nat.reduceAdd, Nat.reduceSub, Nat.reduceLT, Nat.reduceLeDiff, Nat.reduceEqDiff, Nat.reduceBEq, Nat.reduceBneDiff, Nat.reduceMul, ↓reduceIte, Int.reduceToNat, reduceCtorEq, Int.reduceNeg, Int.reduceAdd]) ?_
  · rintro i ⟨k, rfl, hk⟩
    obtain ⟨i, hi⟩ : ∃ i : Int, i = (k : Int) := ⟨_, rfl⟩
    rw [← hi]
    have hn : i.toNat = k := by omega
    rcases Nat.lt_or_ge k xs.length with hlt | hge
    · have hg := get_at Tm.d hlt
      rw [Tm.d_eq] at hg
      have hle := Tm.bulk_le xs k hlt
      have hc := h xs[k] (List.getElem_mem hlt) (by omega)
      simp (disch := omega) only [go_sem, Nat.reduceAdd, Nat.reduceSub, Nat.reduceLT, Nat.reduceLeDiff, Nat.reduceEqDiff, Nat.reduceBEq, Nat.reduceBneDiff, Nat.reduceMul, ↓reduceIte, Int.reduceToNat, reduceCtorEq, Int.reduceNeg, Int.reduceAdd, hn, hg, hc, m_laws_eqTerm]
      refine ⟨i + 1, ⟨k + 1, by omega, hlt⟩, by omega, ?_⟩
      trivial
    · obtain rfl : k = xs.length := by omega
      simp (disch := omega) only [go_sem, Nat.reduceAdd, Nat.reduceSub, Nat.reduceLT, Nat.reduceLeDiff, Nat.reduceEqDiff, Nat.reduceBEq, Nat.reduceBneDiff, Nat.reduceMul, ↓reduceIte, Int.reduceToNat, reduceCtorEq, Int.reduceNeg, Int.reduceAdd, hn]
set_option maxHeartbeats 1000000 in
theorem eqT_Term_of (x : Tm) (h_args : EqTS_Term x.args) : EqT_Term x := by
  intro hb
  have qb := Tm.bulk_eq x
  replace h_args := h_args (by omega)
  refine E_walk k_laws_eqTerm m_laws_eqTerm (of_decide_eq_true rfl) ?_
  simp (disch := omega) only [c_laws_eqTerm, go_sem, Nat.reduceAdd, Nat.reduceSub, Nat.reduceLT, Nat.reduceLeDiff, Nat.reduceEqDiff, Nat.reduceBEq, Nat.reduceBneDiff, Nat.reduceMul, ↓reduceIte, Int.reduceToNat, reduceCtorEq, Int.reduceNeg, Int.reduceAdd, h_args, m_laws_eqTermS, dec_refl]
theorem eqT_Term (x : Tm) : EqT_Term x := eqT_Term_of x (eqTS_Term_of x.args fun y hy => eqT_Term y)
termination_by SizeOf.sizeOf x
decreasing_by exact Tm.lt_of_mem hy
theorem eqTS_Term (xs : List Tm) : EqTS_Term xs := eqTS_Term_of xs fun x _ => eqT_Term x
def c_laws_eqFormula : SC := (.seq (.reg [⟨(some 2), none, (.boxv 45 5 (.t 0))⟩, ⟨(some 3), none, (.boxv 45 5 (.t 1))⟩, ⟨(some 4), none, (.mv (.c (.bool false)))⟩]) (.seq (.seq (.reg [⟨(some 5), none, (.faddr 0 (.t 2))⟩, ⟨(some 6), none, (.load false 1 (.t 5))⟩, ⟨(some 7), none, (.faddr 0 (.t 3))⟩, ⟨(some 8), none, (.load false 1 (.t 7))⟩, ⟨(some 9), none, (.bin .neq false (.t 6) (.t 8))⟩]) (.cond (.t 9) (.seq (.reg [⟨(some 4), none, (.mv (.c (.bool false)))⟩]) .ret) .skip)) (.seq (.seq (.reg [⟨(some 10), none, (.faddr 1 (.t 2))⟩, ⟨(some 11), none, (.load true 2 (.t 10))⟩, ⟨(some 12), none, (.faddr 1 (.t 3))⟩, ⟨(some 13), none, (.load true 2 (.t 12))⟩, ⟨(some 14), none, (.call 11 [(.t 11), (.t 13)])⟩, ⟨(some 15), none, (.un .not (.t 14))⟩]) (.cond (.t 15) (.seq (.reg [⟨(some 4), none, (.mv (.c (.bool false)))⟩]) .ret) .skip)) (.seq (.seq (.reg [⟨(some 16), none, (.faddr 3 (.t 2))⟩, ⟨(some 17), none, (.load false 1 (.t 16))⟩, ⟨(some 18), none, (.faddr 3 (.t 3))⟩, ⟨(some 19), none, (.load false 1 (.t 18))⟩, ⟨(some 20), none, (.bin .neq false (.t 17) (.t 19))⟩]) (.cond (.t 20) (.seq (.reg [⟨(some 4), none, (.mv (.c (.bool false)))⟩]) .ret) .skip)) (.seq (.seq (.reg [⟨(some 21), none, (.faddr 4 (.t 2))⟩, ⟨(some 22), none, (.load false 1 (.t 21))⟩, ⟨(some 23), none, (.faddr 4 (.t 3))⟩, ⟨(some 24), none, (.load false 1 (.t 23))⟩, ⟨(some 25), none, (.call 67 [(.t 22), (.t 24)])⟩, ⟨(some 26), none, (.un .not (.t 25))⟩]) (.cond (.t 26) (.seq (.reg [⟨(some 4), none, (.mv (.c (.bool false)))⟩]) .ret) .skip)) (.seq (.reg [⟨(some 4), none, (.mv (.c (.bool true)))⟩]) .ret))))))
theorem k_laws_eqFormula : codeOf Try.prog 25 = some ⟨27, c_laws_eqFormula, [(.tmp 4)]⟩ := by kernel_rfl
theorem m_laws_eqFormula : modes 25 = ⟨[], .asis, none, false⟩ := by unfold modes; rfl
def c_laws_eqFormulaS : SC := (.seq (.reg [⟨(some 4), none, (.mv (.c (.bool false)))⟩]) (.seq (.seq (.reg [⟨(some 6), none, (.mv (.t 0))⟩, ⟨(some 7), none, (.len false (.t 6))⟩, ⟨(some 8), none, (.mv (.t 1))⟩, ⟨(some 9), none, (.len false (.t 8))⟩, ⟨(some 10), none, (.bin .neq false (.t 7) (.t 9))⟩]) (.cond (.t 10) (.seq (.reg [⟨(some 4), none, (.mv (.c (.bool false)))⟩]) .ret) .skip)) (.seq (.seq (.reg [⟨(some 5), none, (.mv (.c (.int .i64 0)))⟩]) (.block 0 (.loop [1, 1, 0, 0, 0, 1, 0, 0, 0, 0, 0, 0, 0, 0, 0, 0, 0, 0, 0, 0, 0, 0, 0, 0, 0, 0, 0] (.seq (.seq (.reg [⟨(some 11), none, (.mv (.t 5))⟩, ⟨(some 12), none, (.mv (.t 0))⟩, ⟨(some 13), none, (.len false (.t 12))⟩, ⟨(some 14), none, (.bin .lss false (.t 11) (.t 13))⟩]) (.cond (.t 14) .skip (.exit 0))) (.seq (.block 1 (.seq (.dreg [[], [], [0, 1], [2, 0, 1], [], [], [4, 5], [6, 4, 5], [3, 2, 0, 1, 7, 6, 4, 5], [8, 3, 2, 0, 1, 7, 6, 4, 5]] [⟨(some 17), none, (.mv (.t 0))⟩, ⟨(some 18), none, (.mv (.t 5))⟩, ⟨(some 19), none, (.iaddr 5 (.t 17) (.t 18))⟩, ⟨(some 20), none, (.load true 5 (.t 19))⟩, ⟨(some 21), none, (.mv (.t 1))⟩, ⟨(some 22), none, (.mv (.t 5))⟩, ⟨(some 23), none, (.iaddr 5 (.t 21) (.t 22))⟩, ⟨(some 24), none, (.load true 5 (.t 23))⟩, ⟨(some 25), none, (.call 25 [(.t 20), (.t 24)])⟩, ⟨(some 26), none, (.un .not (.t 25))⟩]) (.cond (.t 26) (.seq (.reg [⟨(some 4), none, (.mv (.c (.bool false)))⟩]) .ret) .skip))) (.reg [⟨(some 15), none, (.mv (.t 5))⟩, ⟨(some 16), none, (.bin .add false (.t 15) (.c (.int .i64 1)))⟩, ⟨(some 5), none, (.mv (.t 16))⟩])))))) (.seq (.reg [⟨(some 4), none, (.mv (.c (.bool true)))⟩]) .ret))))
theorem k_laws_eqFormulaS : codeOf Try.prog 67 = some ⟨27, c_laws_eqFormulaS, [(.tmp 4)]⟩ := by kernel_rfl
theorem m_laws_eqFormulaS : modes 67 = ⟨[], .asis, none, false⟩ := by unfold modes; rfl
abbrev EqT_Formula (x : Fm) : Prop := x.bulk ≤ 1048576 → E 25 [x.sv, x.sv] [] = some (.bool true, [])
abbrev EqTS_Formula (xs : List Fm) : Prop := xs.length + Fm.sumB xs ≤ 1048576 → E 67 [.arr (xs.map Fm.d), .arr (xs.map Fm.d)] [] = some (.bool true, [])
set_option maxHeartbeats 1000000 in
theorem eqTS_Formula_of (xs : List Fm) (h : ∀ x ∈ xs, EqT_Formula x) : EqTS_Formula xs := by
  intro hb
  refine E_walk k_laws_eqFormulaS m_laws_eqFormulaS (of_decide_eq_true rfl) ?_
  simp (disch := omega) only [c_laws_eqFormulaS, go_sem, Nat.reduceAdd, Nat.reduceSub, Nat.reduceLT, Nat.reduceLeDiff, Nat.reduceEqDiff, Nat.reduceBEq, Nat.reduceBneDiff, Nat.reduceMul, ↓reduceIte, Int.reduceToNat, reduceCtorEq, Int.reduceNeg, Int.reduceAdd]
  refine go_loop (α := Int) (fun i => ⟨slots 27 0 [(0, .arr (xs.map Fm.d)), (1, .arr (xs.map Fm.d)), (5, .int .i64 i)], []⟩) (fun i => ∃ k : Nat, i = k ∧ k ≤ xs.length) (fun i => xs.length - i.toNat) 0 ⟨0, rfl, Nat.zero_le _⟩ (by simp (disch := omega) only [go_sem, Nat.reduceAdd, Nat.reduceSub, Nat.reduceLT, Nat.reduceLeDiff, Nat.reduceEqDiff, Nat.reduceBEq, Nat.reduceBneDiff, Nat.reduceMul, ↓reduceIte, Int.reduceToNat, reduceCtorEq, Int.reduceNeg, Int.reduceAdd]) ?_
  · rintro i ⟨k, rfl, hk⟩
    obtain ⟨i, hi⟩ : ∃ i : Int, i = (k : Int) := ⟨_, rfl⟩
    rw [← hi]
    have hn : i.toNat = k := by omega
    rcases Nat.lt_or_ge k xs.length with hlt | hge
    · have hg := get_at Fm.d hlt
      rw [Fm.d_eq] at hg
      have hle := Fm.bulk_le xs k hlt
      have hc := h xs[k] (List.getElem_mem hlt) (by omega)
      simp (disch := omega) only [go_sem, Nat.reduceAdd, Nat.reduceSub, Nat.reduceLT, Nat.reduceLeDiff, Nat.reduceEqDiff, Nat.reduceBEq, Nat.reduceBneDiff, Nat.reduceMul, ↓reduceIte, Int.reduceToNat, reduceCtorEq, Int.reduceNeg, Int.reduceAdd, hn, hg, hc, m_laws_eqFormula]
      refine ⟨i + 1, ⟨k + 1, by omega, hlt⟩, by omega, ?_⟩
      trivial
    · obtain rfl : k = xs.length := by omega
      simp (disch := omega) only [go_sem, Nat.reduceAdd, Nat.reduceSub, Nat.reduceLT, Nat.reduceLeDiff, Nat.reduceEqDiff, Nat.reduceBEq, Nat.reduceBneDiff, Nat.reduceMul, ↓reduceIte, Int.reduceToNat, reduceCtorEq, Int.reduceNeg, Int.reduceAdd, hn]
set_option maxHeartbeats 1000000 in
theorem eqT_Formula_of (x : Fm) (h_atom : EqT_Term x.atom) (h_parts : EqTS_Formula x.parts) : EqT_Formula x := by
  intro hb
  have qb := Fm.bulk_eq x
  replace h_atom := h_atom (by omega)
  replace h_parts := h_parts (by omega)
  refine E_walk k_laws_eqFormula m_laws_eqFormula (of_decide_eq_true rfl) ?_
  simp (disch := omega) only [c_laws_eqFormula, go_sem, Nat.reduceAdd, Nat.reduceSub, Nat.reduceLT, Nat.reduceLeDiff, Nat.reduceEqDiff, Nat.reduceBEq, Nat.reduceBneDiff, Nat.reduceMul, ↓reduceIte, Int.reduceToNat, reduceCtorEq, Int.reduceNeg, Int.reduceAdd, h_atom, m_laws_eqTerm, h_parts, m_laws_eqFormulaS, dec_refl]
theorem eqT_Formula (x : Fm) : EqT_Formula x := eqT_Formula_of x (eqT_Term x.atom) (eqTS_Formula_of x.parts fun y hy => eqT_Formula y)
termination_by SizeOf.sizeOf x
decreasing_by exact Fm.lt_of_mem hy
theorem eqTS_Formula (xs : List Fm) : EqTS_Formula xs := eqTS_Formula_of xs fun x _ => eqT_Formula x
def c_laws_eqLiteral : SC := (.seq (.reg [⟨(some 2), none, (.boxv 31 3 (.t 0))⟩, ⟨(some 3), none, (.boxv 31 3 (.t 1))⟩, ⟨(some 4), none, (.mv (.c (.bool false)))⟩]) (.seq (.seq (.reg [⟨(some 5), none, (.faddr 0 (.t 2))⟩, ⟨(some 6), none, (.load false 1 (.t 5))⟩, ⟨(some 7), none, (.faddr 0 (.t 3))⟩, ⟨(some 8), none, (.load false 1 (.t 7))⟩, ⟨(some 9), none, (.bin .neq true (.t 6) (.t 8))⟩]) (.cond (.t 9) (.seq (.reg [⟨(some 4), none, (.mv (.c (.bool false)))⟩]) .ret) .skip)) (.seq (.seq (.reg [⟨(some 10), none, (.faddr 1 (.t 2))⟩, ⟨(some 11), none, (.load true 2 (.t 10))⟩, ⟨(some 12), none, (.faddr 1 (.t 3))⟩, ⟨(some 13), none, (.load true 2 (.t 12))⟩, ⟨(some 14), none, (.call 11 [(.t 11), (.t 13)])⟩, ⟨(some 15), none, (.un .not (.t 14))⟩]) (.cond (.t 15) (.seq (.reg [⟨(some 4), none, (.mv (.c (.bool false)))⟩]) .ret) .skip)) (.seq (.reg [⟨(some 4), none, (.mv (.c (.bool true)))⟩]) .ret))))
theorem k_laws_eqLiteral : codeOf Try.prog 18 = some ⟨16, c_laws_eqLiteral, [(.tmp 4)]⟩ := by kernel_rfl
theorem m_laws_eqLiteral : modes 18 = ⟨[], .asis, none, false⟩ := by unfold modes; rfl
abbrev EqT_Literal (x : Lt) : Prop := x.bulk ≤ 1048576 → E 18 [x.sv, x.sv] [] = some (.bool true, [])
set_option maxHeartbeats 1000000 in
theorem eqT_Literal_of (x : Lt) (h_atom : EqT_Term x.atom) : EqT_Literal x := by
  intro hb
  have qb := Lt.bulk_eq x
  replace h_atom := h_atom (by omega)
  refine E_walk k_laws_eqLiteral m_laws_eqLiteral (of_decide_eq_true rfl) ?_
  simp (disch := omega) only [c_laws_eqLiteral, go_sem, Nat.reduceAdd, Nat.reduceSub, Nat.reduceLT, Nat.reduceLeDiff, Nat.reduceEqDiff, Nat.reduceBEq, Nat.reduceBneDiff, Nat.reduceMul, ↓reduceIte, Int.reduceToNat, reduceCtorEq, Int.reduceNeg, Int.reduceAdd, h_atom, m_laws_eqTerm, dec_refl]
theorem eqT_Literal (x : Lt) : EqT_Literal x := eqT_Literal_of x (eqT_Term x.atom)
def c_laws_eqAssigned : SC := (.seq (.reg [⟨(some 2), none, (.boxv 113 2 (.t 0))⟩, ⟨(some 3), none, (.boxv 113 2 (.t 1))⟩, ⟨(some 4), none, (.mv (.c (.bool false)))⟩]) (.seq (.seq (.reg [⟨(some 5), none, (.faddr 0 (.t 2))⟩, ⟨(some 6), none, (.load false 1 (.t 5))⟩, ⟨(some 7), none, (.faddr 0 (.t 3))⟩, ⟨(some 8), none, (.load false 1 (.t 7))⟩, ⟨(some 9), none, (.bin .neq false (.t 6) (.t 8))⟩]) (.cond (.t 9) (.seq (.reg [⟨(some 4), none, (.mv (.c (.bool false)))⟩]) .ret) .skip)) (.seq (.seq (.reg [⟨(some 10), none, (.faddr 1 (.t 2))⟩, ⟨(some 11), none, (.load false 1 (.t 10))⟩, ⟨(some 12), none, (.faddr 1 (.t 3))⟩, ⟨(some 13), none, (.load false 1 (.t 12))⟩, ⟨(some 14), none, (.bin .neq false (.t 11) (.t 13))⟩]) (.cond (.t 14) (.seq (.reg [⟨(some 4), none, (.mv (.c (.bool false)))⟩]) .ret) .skip)) (.seq (.reg [⟨(some 4), none, (.mv (.c (.bool true)))⟩]) .ret))))
theorem k_laws_eqAssigned : codeOf Try.prog 90 = some ⟨15, c_laws_eqAssigned, [(.tmp 4)]⟩ := by kernel_rfl
theorem m_laws_eqAssigned : modes 90 = ⟨[], .asis, none, false⟩ := by unfold modes; rfl
def c_laws_eqAssignedS : SC := (.seq (.reg [⟨(some 4), none, (.mv (.c (.bool false)))⟩]) (.seq (.seq (.reg [⟨(some 6), none, (.mv (.t 0))⟩, ⟨(some 7), none, (.len false (.t 6))⟩, ⟨(some 8), none, (.mv (.t 1))⟩, ⟨(some 9), none, (.len false (.t 8))⟩, ⟨(some 10), none, (.bin .neq false (.t 7) (.t 9))⟩]) (.cond (.t 10) (.seq (.reg [⟨(some 4), none, (.mv (.c (.bool false)))⟩]) .ret) .skip)) (.seq (.seq (.reg [⟨(some 5), none, (.mv (.c (.int .i64 0)))⟩]) (.block 0 (.loop [1, 1, 0, 0, 0, 1, 0, 0, 0, 0, 0, 0, 0, 0, 0, 0, 0, 0, 0, 0, 0, 0, 0, 0, 0, 0, 0] (.seq (.seq (.reg [⟨(some 11), none, (.mv (.t 5))⟩, ⟨(some 12), none, (.mv (.t 0))⟩, ⟨(some 13), none, (.len false (.t 12))⟩, ⟨(some 14), none, (.bin .lss false (.t 11) (.t 13))⟩]) (.cond (.t 14) .skip (.exit 0))) (.seq (.block 1 (.seq (.dreg [[], [], [0, 1], [2, 0, 1], [], [], [4, 5], [6, 4, 5], [3, 2, 0, 1, 7, 6, 4, 5], [8, 3, 2, 0, 1, 7, 6, 4, 5]] [⟨(some 17), none, (.mv (.t 0))⟩, ⟨(some 18), none, (.mv (.t 5))⟩, ⟨(some 19), none, (.iaddr 2 (.t 17) (.t 18))⟩, ⟨(some 20), none, (.load true 2 (.t 19))⟩, ⟨(some 21), none, (.mv (.t 1))⟩, ⟨(some 22), none, (.mv (.t 5))⟩, ⟨(some 23), none, (.iaddr 2 (.t 21) (.t 22))⟩, ⟨(some 24), none, (.load true 2 (.t 23))⟩, ⟨(some 25), none, (.call 90 [(.t 20), (.t 24)])⟩, ⟨(some 26), none, (.un .not (.t 25))⟩]) (.cond (.t 26) (.seq (.reg [⟨(some 4), none, (.mv (.c (.bool false)))⟩]) .ret) .skip))) (.reg [⟨(some 15), none, (.mv (.t 5))⟩, ⟨(some 16), none, (.bin .add false (.t 15) (.c (.int .i64 1)))⟩, ⟨(some 5), none, (.mv (.t 16))⟩])))))) (.seq (.reg [⟨(some 4), none, (.mv (.c (.bool true)))⟩]) .ret))))
theorem k_laws_eqAssignedS : codeOf Try.prog 44 = some ⟨27, c_laws_eqAssignedS, [(.tmp 4)]⟩ := by kernel_rfl
theorem m_laws_eqAssignedS : modes 44 = ⟨[], .asis, none, false⟩ := by unfold modes; rfl
abbrev EqT_Assigned (x : Ag) : Prop := x.bulk ≤ 1048576 → E 90 [x.sv, x.sv] [] = some (.bool true, [])
abbrev EqTS_Assigned (xs : List Ag) : Prop := xs.length + Ag.sumB xs ≤ 1048576 → E 44 [.arr (xs.map Ag.d), .arr (xs.map Ag.d)] [] = some (.bool true, [])
set_option maxHeartbeats 1000000 in
theorem eqTS_Assigned_of (xs : List Ag) (h : ∀ x ∈ xs, EqT_Assigned x) : EqTS_Assigned xs := by
  intro hb
  refine E_walk k_laws_eqAssignedS m_laws_eqAssignedS (of_decide_eq_true rfl) ?_
  simp (disch := omega) only [c_laws_eqAssignedS, go_sem, Nat.reduceAdd, Nat.reduceSub, Nat.reduceLT, Nat.reduceLeDiff, Nat.reduceEqDiff, Nat.reduceBEq, Nat.reduceBneDiff, Nat.reduceMul, ↓reduceIte, Int.reduceToNat, reduceCtorEq, Int.reduceNeg, Int.reduceAdd]
  refine go_loop (α := Int) (fun i => ⟨slots 27 0 [(0, .arr (xs.map Ag.d)), (1, .arr (xs.map Ag.d)), (5, .int .i64 i)], []⟩) (fun i => ∃ k : Nat, i = k ∧ k ≤ xs.length) (fun i => xs.length - i.toNat) 0 ⟨0, rfl, Nat.zero_le _⟩ (by simp (disch := omega) only [go_sem, Nat.reduceAdd, Nat.reduceSub, Nat.reduceLT, Nat.reduceLeDiff, Nat.reduceEqDiff, Nat.reduceBEq, Nat.reduceBneDiff, Nat.reduceMul, ↓reduceIte, Int.reduceToNat, reduceCtorEq, Int.reduceNeg, Int.reduceAdd]) ?_
  · rintro i ⟨k, rfl, hk⟩
    obtain ⟨i, hi⟩ : ∃ i : Int, i = (k : Int) := ⟨_, rfl⟩
    rw [← hi]
    have hn : i.toNat = k := by omega
    rcases Nat.lt_or_ge k xs.length with hlt | hge
    · have hg := get_at Ag.d hlt
      rw [Ag.d_eq] at hg
      have hle := Ag.bulk_le xs k hlt
      have hc := h xs[k] (List.getElem_mem hlt) (by omega)
      simp (disch := omega) only [go_sem, Nat.reduceAdd, Nat.reduceSub, Nat.reduceLT, Nat.reduceLeDiff, Nat.reduceEqDiff, Nat.reduceBEq, Nat.reduceBneDiff, Nat.reduceMul, ↓reduceIte, Int.reduceToNat, reduceCtorEq, Int.reduceNeg, Int.reduceAdd, hn, hg, hc, m_laws_eqAssigned]
      refine ⟨i + 1, ⟨k + 1, by omega, hlt⟩, by omega, ?_⟩
      trivial
    · obtain rfl : k = xs.length := by omega
      simp (disch := omega) only [go_sem, Nat.reduceAdd, Nat.reduceSub, Nat.reduceLT, Nat.reduceLeDiff, Nat.reduceEqDiff, Nat.reduceBEq, Nat.reduceBneDiff, Nat.reduceMul, ↓reduceIte, Int.reduceToNat, reduceCtorEq, Int.reduceNeg, Int.reduceAdd, hn]
set_option maxHeartbeats 1000000 in
theorem eqT_Assigned_of (x : Ag) : EqT_Assigned x := by
  intro hb
  have qb := Ag.bulk_eq x
  refine E_walk k_laws_eqAssigned m_laws_eqAssigned (of_decide_eq_true rfl) ?_
  simp (disch := omega) only [c_laws_eqAssigned, go_sem, Nat.reduceAdd, Nat.reduceSub, Nat.reduceLT, Nat.reduceLeDiff, Nat.reduceEqDiff, Nat.reduceBEq, Nat.reduceBneDiff, Nat.reduceMul, ↓reduceIte, Int.reduceToNat, reduceCtorEq, Int.reduceNeg, Int.reduceAdd, dec_refl]
theorem eqT_Assigned (x : Ag) : EqT_Assigned x := eqT_Assigned_of x 
theorem eqTS_Assigned (xs : List Ag) : EqTS_Assigned xs := eqTS_Assigned_of xs fun x _ => eqT_Assigned x
end Go.Proofs.Ytjafnijgkjjadab

set_option maxRecDepth 100000
set_option linter.unusedSimpArgs false
set_option linter.unusedVariables false
namespace Go.Proofs.Ytjafnijgkjjadab
open Go.RowKit

def c_laws_FnExactParseTerm : SC := (.seq (.reg [⟨(some 2), none, (.mv (.c (.bool false)))⟩]) (.seq (.seq (.reg [⟨(some 11), none, (.mv (.t 0))⟩, ⟨(some 12), none, (.len true (.t 11))⟩, ⟨(some 13), none, (.bin .gtr false (.t 12) (.c (.int .i64 1048576)))⟩]) (.cond (.t 13) (.seq (.reg [⟨(some 2), none, (.mv (.c (.bool true)))⟩]) .ret) .skip)) (.seq (.reg [⟨(some 15), none, (.mv (.t 0))⟩, ⟨(some 16), none, (.call 9 [(.t 15)])⟩, ⟨(some 14), none, (.mv (.t 16))⟩, ⟨(some 17), none, (.ext (.t 14) 0)⟩, ⟨(some 18), none, (.ext (.t 14) 1)⟩, ⟨(some 3), none, (.alloc 24 [(.str ⟨#[]⟩), .nil])⟩, ⟨none, none, (.store 2 (.t 3) (.t 17))⟩, ⟨(some 4), none, (.mv (.t 18))⟩]) (.seq (.reg [⟨(some 20), none, (.mv (.t 0))⟩, ⟨(some 21), none, (.call 10 [(.t 20)])⟩, ⟨(some 19), none, (.mv (.t 21))⟩, ⟨(some 22), none, (.ext (.t 19) 0)⟩, ⟨(some 23), none, (.ext (.t 19) 1)⟩, ⟨(some 5), none, (.alloc 24 [(.str ⟨#[]⟩), .nil])⟩, ⟨none, none, (.store 2 (.t 5) (.t 22))⟩, ⟨(some 6), none, (.mv (.t 23))⟩]) (.seq (.seq (.reg [⟨(some 24), none, (.load true 2 (.t 5))⟩, ⟨(some 25), none, (.load true 2 (.t 3))⟩, ⟨(some 26), none, (.call 11 [(.t 24), (.t 25)])⟩, ⟨(some 27), none, (.un .not (.t 26))⟩, ⟨(some 28), none, (.mv (.t 27))⟩, ⟨(some 29), (some (28, false)), (.mv (.t 6))⟩, ⟨(some 30), (some (28, false)), (.mv (.t 4))⟩, ⟨(some 31), (some (28, false)), (.bin .neq true (.t 29) (.t 30))⟩, ⟨(some 32), none, (.pick (.t 28) (.c (.bool true)) (.t 31))⟩]) (.cond (.t 32) (.seq (.reg [⟨(some 2), none, (.mv (.c (.bool false)))⟩]) .ret) .skip)) (.seq (.reg [⟨(some 7), none, (.mv (.c (.int .i64 1)))⟩]) (.seq (.reg [⟨(some 33), none, (.load true 2 (.t 5))⟩, ⟨(some 34), none, (.mv (.t 7))⟩, ⟨(some 35), none, (.call 12 [(.t 33), (.t 34)])⟩, ⟨(some 7), none, (.mv (.t 35))⟩]) (.seq (.reg [⟨(some 8), none, (.mv (.c (.int .i64 1)))⟩]) (.seq (.reg [⟨(some 36), none, (.load true 2 (.t 5))⟩, ⟨(some 37), none, (.mv (.t 8))⟩, ⟨(some 38), none, (.call 13 [(.t 36), (.t 37)])⟩, ⟨(some 8), none, (.mv (.t 38))⟩]) (.seq (.seq (.reg [⟨(some 39), none, (.mv (.t 8))⟩, ⟨(some 40), none, (.bin .lss false (.t 39) (.c (.int .i64 0)))⟩]) (.cond (.t 40) (.seq (.reg [⟨(some 2), none, (.mv (.c (.bool false)))⟩]) .ret) .skip)) (.seq (.seq (.reg [⟨(some 41), none, (.mv (.t 8))⟩, ⟨(some 42), none, (.mv (.t 7))⟩, ⟨(some 43), none, (.bin .neq false (.t 41) (.t 42))⟩]) (.cond (.t 43) (.seq (.reg [⟨(some 2), none, (.mv (.c (.bool false)))⟩]) .ret) .skip)) (.seq (.reg [⟨(some 45), none, (.mv (.t 0))⟩, ⟨(some 46), none, (.call 10 [(.t 45)])⟩, ⟨(some 44), none, (.mv (.t 46))⟩, ⟨(some 47), none, (.ext (.t 44) 0)⟩, ⟨(some 48), none, (.ext (.t 44) 1)⟩, ⟨(some 9), none, (.alloc 24 [(.str ⟨#[]⟩), .nil])⟩, ⟨none, none, (.store 2 (.t 9) (.t 47))⟩, ⟨(some 10), none, (.mv (.t 48))⟩]) (.seq (.seq (.reg [⟨(some 49), none, (.load true 2 (.t 9))⟩, ⟨(some 50), none, (.load true 2 (.t 3))⟩, ⟨(some 51), none, (.call 11 [(.t 49), (.t 50)])⟩, ⟨(some 52), none, (.un .not (.t 51))⟩, ⟨(some 53), none, (.mv (.t 52))⟩, ⟨(some 54), (some (53, false)), (.mv (.t 10))⟩, ⟨(some 55), (some (53, false)), (.mv (.t 4))⟩, ⟨(some 56), (some (53, false)), (.bin .neq true (.t 54) (.t 55))⟩, ⟨(some 57), none, (.pick (.t 53) (.c (.bool true)) (.t 56))⟩]) (.cond (.t 57) (.seq (.reg [⟨(some 2), none, (.mv (.c (.bool false)))⟩]) .ret) .skip)) (.seq (.reg [⟨(some 8), none, (.mv (.c (.int .i64 1)))⟩]) (.seq (.reg [⟨(some 58), none, (.load true 2 (.t 5))⟩, ⟨(some 59), none, (.mv (.t 8))⟩, ⟨(some 60), none, (.call 13 [(.t 58), (.t 59)])⟩, ⟨(some 8), none, (.mv (.t 60))⟩]) (.seq (.seq (.reg [⟨(some 61), none, (.mv (.t 8))⟩, ⟨(some 62), none, (.bin .lss false (.t 61) (.c (.int .i64 0)))⟩]) (.cond (.t 62) (.seq (.reg [⟨(some 2), none, (.mv (.c (.bool false)))⟩]) .ret) .skip)) (.seq (.seq (.reg [⟨(some 63), none, (.mv (.t 8))⟩, ⟨(some 64), none, (.mv (.t 7))⟩, ⟨(some 65), none, (.bin .neq false (.t 63) (.t 64))⟩]) (.cond (.t 65) (.seq (.reg [⟨(some 2), none, (.mv (.c (.bool false)))⟩]) .ret) .skip)) (.seq (.reg [⟨(some 2), none, (.mv (.c (.bool true)))⟩]) .ret))))))))))))))))))
theorem k_laws_FnExactParseTerm : codeOf Try.prog 3 = some ⟨66, c_laws_FnExactParseTerm, [(.tmp 2)]⟩ := by kernel_rfl
theorem m_laws_FnExactParseTerm : modes 3 = ⟨[], .asis, none, false⟩ := by unfold modes; rfl

theorem Tm.valid_bulk {x : Tm} (h : x.valid = true) : x.bulk ≤ 1048576 := by
  have h3 := Tm.names_bulk x (valid_names' h)
  have h4 := valid_nodes' h
  omega
theorem prTo_bulk (s : ByteArray) : (prTo s).bulk ≤ 1048576 := by
  cases h : prOk s with
  | false =>
    rw [pr_no h, Tm.bulk_eq]
    show 0 + _ ≤ _
    simp [Tm.args, Tm.sumB]
  | true => exact Tm.valid_bulk (pr_yes h).1
set_option maxHeartbeats 8000000 in
theorem law4_E (s : ByteArray) (hf : s.size ≤ 9223372036854775807) : E 3 [.str s] [] = some (.bool true, []) := by
  rcases Nat.lt_or_ge 1048576 s.size with h0 | h0
  · have hq : ((1048576 : Int) < (s.size : Int)) = True := eq_true (by omega)
    refine E_walk k_laws_FnExactParseTerm m_laws_FnExactParseTerm (of_decide_eq_true rfl) ?_
    simp (disch := omega) only [c_laws_FnExactParseTerm, go_sem, Nat.reduceAdd, Nat.reduceSub, Nat.reduceLT, Nat.reduceLeDiff, Nat.reduceEqDiff, Nat.reduceBEq, Nat.reduceBneDiff, Nat.reduceMul, ↓reduceIte, Int.reduceToNat, reduceCtorEq, Int.reduceNeg, Int.reduceAdd, hq]
  have hq : ((1048576 : Int) < (s.size : Int)) = False := eq_false (by omega)
  have a1 := specParseTerm_E s (by omega)
  have a2 := implParseTerm_E s (by omega)
  have hbr := prTo_bulk s
  obtain ⟨r, hr⟩ : ∃ r, r = prTo s := ⟨_, rfl⟩
  obtain ⟨o, ho⟩ : ∃ o, o = prOk s := ⟨_, rfl⟩
  rw [← hr] at a1 a2 hbr
  rw [← ho] at a1 a2
  have e3 := eqT_Term r hbr
  have wr := Tm.wtS_bulk r.args
  have br := Tm.bulk_eq r
  have k3 := Tm.mkS_end r.args 1
  have m3 := markT_Term r 1 (.row 24 2 (r.args.map Tm.o)) (by omega) (by omega) rfl
  have h3 := heldT_Term r 1 (by omega) (by omega)
  obtain ⟨n3, hn3⟩ : ∃ n3, n3 = (r.mkr 1).2 := ⟨_, rfl⟩
  have hn3' : n3 = (Tm.mkS r.args 1).2 := hn3
  rw [← hn3] at m3 h3
  refine E_walk k_laws_FnExactParseTerm m_laws_FnExactParseTerm (of_decide_eq_true rfl) ?_
  simp (disch := omega) only [c_laws_FnExactParseTerm, go_sem, Nat.reduceAdd, Nat.reduceSub, Nat.reduceLT, Nat.reduceLeDiff, Nat.reduceEqDiff, Nat.reduceBEq, Nat.reduceBneDiff, Nat.reduceMul, ↓reduceIte, Int.reduceToNat, reduceCtorEq, Int.reduceNeg, Int.reduceAdd, hq, a1, a2, e3, m3, h3, dec_refl, m_spec_ParseTerm, m_impl_ParseTerm, m_laws_eqTerm, m_laws_markTerm, m_laws_heldTerm, Tm.osv, Tm.obs, Tm.erss, Tm.noss]
end Go.Proofs.Ytjafnijgkjjadab

set_option maxRecDepth 100000
set_option linter.unusedSimpArgs false
set_option linter.unusedVariables false
namespace Go.Proofs.Ytjafnijgkjjadab
open Go.RowKit Go.ChangeShapes Go.WideShapes Go.ChangeAt Go.Deep

section
variable {H : Type} {enc : TypeId × Value → H} {P : Program} {w : World} {base : Nat} {spare : Nat → Bool} {held : Bool}

theorem addr_add_plain {b o k : Nat} : (⟨b, o, none⟩ : Addr).add k = ⟨b, o + k, none⟩ := by
  unfold Addr.add; split
  · subst_vars; rfl
  · rfl
theorem cell_lt {a : Addr} {v : Value} (h : w.cell? a = some v) : a.block < w.heap.size := by
  unfold World.cell? at h
  cases hb : w.heap[a.block]? with
  | none => rw [hb] at h; cases h
  | some o => exact (Array.getElem?_eq_some_iff.1 hb).1

/-- A slice that is read: its cells, and each element's own reading. -/
theorem open_sl {t e : TypeId} {fuel : Nat} {cs : List Value} {x : DataW H × List MemPlace} (sz : Nat) (hsz : P.cellsOf e = sz) (h0 : 0 < sz) (ht : P.underlying t = some (.slice e)) (h : DataW.trod enc P w base spare held fuel t cs = some x) :
    ∃ (a : Option Addr) (len cap : Nat) (f : Nat → Nat → Value), cs = [.slice a len cap] ∧ len ≤ cap ∧ cap ≤ 9223372036854775807 ∧ SlA w 0 sz len f a ∧
      ∀ i, i < len → ∃ n x', DataW.trod enc P w base spare held n e ((List.range sz).map (f i)) = some x' := by
  rcases open_slice ht h with ⟨hcs, _⟩ | ⟨a, len, cap, m, n, D, Pl, hcs, hb, hl, hm, hmm, hx, hi⟩
  · exact ⟨none, 0, 0, fun _ _ => undef, hcs, Nat.le_refl _, by omega, .inl rfl, fun i hi => absurd hi (by omega)⟩
  · have hlm : len ≤ m := by rw [hmm]; split <;> omega
    have hcell : ∀ i j, i < len → j < sz → ∃ v, w.cell? (a.add (i * sz + j)) = some v := by
      intro i j hil hj
      obtain ⟨cs', hc, _⟩ := hi i (by omega)
      rw [hsz] at hc
      obtain ⟨_, hcl, hat⟩ := World.cells?_some hc
      have h1 := hat j hj
      rw [Go.Deep.add_add, List.getElem?_eq_getElem (by omega)] at h1
      exact ⟨_, h1⟩
    refine ⟨some a, len, cap, fun i j => (w.cell? (a.add (i * sz + j))).getD undef, hcs, hl, hm, ?_, ?_⟩
    · rcases Nat.eq_zero_or_pos len with h | h
      · exact .inl h
      · obtain ⟨v, hv⟩ := hcell 0 0 h h0
        rw [Nat.zero_mul, Nat.zero_add] at hv
        have hsp : a.spot = none := by simpa [Addr.add] using World.cell?_spot hv
        have hlt := cell_lt hv
        obtain ⟨b, off, spot⟩ := a
        simp only at hsp
        subst hsp
        refine .inr ⟨b, off, rfl, Nat.zero_le _, by simpa [Addr.add] using hlt, fun i j hil hj => ?_⟩
        obtain ⟨v', hv'⟩ := hcell i j hil hj
        rw [addr_add_plain] at hv'
        show _ = some ((w.cell? ((⟨b, off, none⟩ : Addr).add (i * sz + j))).getD undef)
        rw [addr_add_plain, Nat.add_assoc, hv']
        rfl
    · intro i hil
      obtain ⟨cs', hc, ht'⟩ := hi i (by omega)
      rw [hsz] at hc
      obtain ⟨_, hcl, hat⟩ := World.cells?_some hc
      refine ⟨n, (D i, Pl i), ?_⟩
      · have hcs' : (List.range sz).map (fun j => (w.cell? (a.add (i * sz + j))).getD undef) = cs' := by
          apply List.ext_getElem?
          intro j
          by_cases hj : j < sz
          · rw [List.getElem?_map, List.getElem?_range hj]
            have h1 := hat j hj
            rw [Go.Deep.add_add] at h1
            rw [List.getElem?_eq_getElem (by omega : j < cs'.length)] at h1 ⊢
            simp [h1]
          · rw [List.getElem?_eq_none (by simp; omega), List.getElem?_eq_none (by omega)]
        rw [hcs']
        exact ht'

/-- A struct of one-cell fields: each field's own reading. -/
theorem open_fields {e : TypeId} {fs : Array Field} {n sz : Nat} {g : Nat → Value} {x : DataW H × List MemPlace} (he : P.underlying e = some (.struct fs)) (hone : oneCellFields P fs = true) (hs : fs.size = sz)
    (h : DataW.trod enc P w base spare held n e ((List.range sz).map g) = some x) (j : Nat) (f : Field) (hj : fs[j]? = some f) :
    ∃ n' y, DataW.trod enc P w base spare held n' f.type [g j] = some y := by
  obtain ⟨xs, n', hn, hx, hlen, hxl, hf⟩ := DataW.trod_struct he h
  obtain ⟨ho, hk⟩ := hone_of hone j f hj
  have hjl : j < fs.size := (Array.getElem?_eq_some_iff.1 hj).1
  have h1 := hf j f hj
  rw [ho, hk] at h1
  have e1 : ((((List.range sz).map g).drop j).take 1) = [g j] := by
    rw [List.drop_eq_getElem_cons (by simp; omega)]
    simp
  rw [e1, List.getElem?_eq_getElem (by omega : j < xs.length)] at h1
  exact ⟨n', _, h1⟩

theorem open_intsAt {t e : TypeId} {fuel : Nat} {v : Value} {x : DataW H × List MemPlace} (ht : P.underlying t = some (.slice e)) (he : P.underlying e = some (.int .i64)) (hc : P.cellsOf e = 1)
    (h : DataW.trod enc P w base spare held fuel t [v] = some x) : ∃ xs, IntsAt w 0 v xs ∧ ∀ n ∈ xs, (Lit.int .i64 n).wf = true := by
  obtain ⟨a, len, cap, f, hcs, hl, hm, hS, hr⟩ := open_sl 1 hc (by omega) ht h
  simp only [List.cons.injEq, and_true] at hcs
  subst hcs
  have hint : ∀ i, i < len → ∃ z, f i 0 = .int .i64 z ∧ (Lit.int .i64 z).wf = true := by
    intro i hi
    obtain ⟨n, x', h1⟩ := hr i hi
    obtain ⟨z, hz, _, hw⟩ := DataW.trod_int he h1
    simp at hz
    exact ⟨z, hz, hw⟩
  let g : Nat → Int := fun i => match f i 0 with | .int _ z => z | _ => 0
  have hg : ∀ i, i < len → f i 0 = .int .i64 (g i) ∧ (Lit.int .i64 (g i)).wf = true := by
    intro i hi
    obtain ⟨z, hz, hw⟩ := hint i hi
    have : g i = z := by show (match f i 0 with | .int _ z => z | _ => 0) = z; rw [hz]
    rw [this]; exact ⟨hz, hw⟩
  refine ⟨(List.range len).map g, ⟨a, cap, by simp, by simpa using hl, hm, ?_⟩, ?_⟩
  · have : ((List.range len).map g).length = len := by simp
    rw [this]
    refine hS.congr fun i j hi hj => ?_
    obtain rfl : j = 0 := by omega
    rw [(hg i hi).1, atZ_get (by simpa using hi)]
    simp
  · intro n hn
    simp only [List.mem_map, List.mem_range] at hn
    obtain ⟨i, hi, rfl⟩ := hn
    exact (hg i hi).2
end

section
variable {H : Type} {enc : TypeId × Value → H} {w : World} {base : Nat} {spare : Nat → Bool} {held : Bool}

theorem open_tabs {fuel : Nat} {v : Value} {x : DataW H × List MemPlace} (h : DataW.trod enc Try.prog w base spare held fuel 52 [v] = some x) : ∃ ts, TabsAt w 0 v ts := by
  obtain ⟨a, len, cap, f, hcs, hl, hm, hS, hr⟩ := open_sl (P := Try.prog) 4 (by kernel_rfl) (by omega) Try.underlying52 h
  simp only [List.cons.injEq, and_true] at hcs
  subst hcs
  have hel : ∀ i, i < len → ∃ t : Tb, (f i 0 = .string t.name ∧ f i 1 = .int .i64 t.arity ∧ f i 2 = .bool t.pred) ∧ TabAt w 0 t (f i 3) := by
    intro i hi
    obtain ⟨n, x', h1⟩ := hr i hi
    obtain ⟨n0, y0, k0⟩ := open_fields (P := Try.prog) Try.underlying136 (by kernel_rfl) rfl h1 0 _ rfl
    obtain ⟨n1, y1, k1⟩ := open_fields (P := Try.prog) Try.underlying136 (by kernel_rfl) rfl h1 1 _ rfl
    obtain ⟨n2, y2, k2⟩ := open_fields (P := Try.prog) Try.underlying136 (by kernel_rfl) rfl h1 2 _ rfl
    obtain ⟨n3, y3, k3⟩ := open_fields (P := Try.prog) Try.underlying136 (by kernel_rfl) rfl h1 3 _ rfl
    obtain ⟨s, hs, _, hsz⟩ := DataW.trod_string Try.underlying9 k0
    obtain ⟨z, hz, _, _⟩ := DataW.trod_int Try.underlying3 k1
    obtain ⟨b, hb, _⟩ := DataW.trod_bool Try.underlying4 k2
    obtain ⟨xs, hxs, _⟩ := open_intsAt Try.underlying55 Try.underlying3 (by kernel_rfl) k3
    simp only [List.cons.injEq, and_true] at hs hz hb
    exact ⟨⟨s, z, b, xs⟩, ⟨hs, hz, hb⟩, hxs, hsz⟩
  obtain ⟨g, hg⟩ : ∃ g : Nat → Tb, ∀ i, i < len → (f i 0 = .string (g i).name ∧ f i 1 = .int .i64 (g i).arity ∧ f i 2 = .bool (g i).pred) ∧ TabAt w 0 (g i) (f i 3) :=
    ⟨fun i => if h : i < len then (hel i h).choose else ⟨⟨#[]⟩, 0, false, []⟩, fun i hi => by simp only [hi, dif_pos]; exact (hel i hi).choose_spec⟩
  have hlen : ((List.range len).map g).length = len := by simp
  have hget : ∀ i (hi : i < len), ((List.range len).map g).getD i ⟨⟨#[]⟩, 0, false, []⟩ = g i := by
    intro i hi
    rw [getD_at _ (by simpa using hi)]; simp
  refine ⟨(List.range len).map g, fun i => f i 3, ⟨a, cap, by simp, by simpa using hl, hm, ?_⟩, fun i hi => ?_⟩
  · rw [hlen]
    refine hS.congr fun i j hi hj => ?_
    rw [hget i hi]
    obtain ⟨⟨h0, h1, h2⟩, _⟩ := hg i hi
    match j, hj with
    | 0, _ => exact h0
    | 1, _ => exact h1
    | 2, _ => exact h2
    | 3, _ => rfl
  · rw [hlen] at hi
    have := (hg i hi).2
    simpa using this
end
end Go.Proofs.Ytjafnijgkjjadab

set_option maxRecDepth 100000
set_option linter.unusedSimpArgs false
set_option linter.unusedVariables false
namespace Go.Proofs.Ytjafnijgkjjadab
open Go.RowKit Go.ChangeShapes Go.WideShapes Go.ChangeAt Go.Deep

section
variable {H : Type} {enc : TypeId × Value → H} {P : Program} {w : World} {base : Nat} {spare : Nat → Bool} {held : Bool}

/-- A slice that is read: its cells, and each element's own reading, with less fuel. -/
theorem open_sl' {t e : TypeId} {fuel : Nat} {v : Value} {x : DataW H × List MemPlace} (sz : Nat) (hsz : P.cellsOf e = sz) (h0 : 0 < sz) (ht : P.underlying t = some (.slice e)) (h : DataW.trod enc P w base spare held fuel t [v] = some x) :
    ∃ (a : Option Addr) (len cap : Nat) (f : Nat → Nat → Value), v = .slice a len cap ∧ len ≤ cap ∧ cap ≤ 9223372036854775807 ∧ SlA w 0 sz len f a ∧
      ∀ i, i < len → ∃ n x', n < fuel ∧ DataW.trod enc P w base spare held n e ((List.range sz).map (f i)) = some x' := by
  rcases DataW.trod_slice ht h with ⟨hcs, _⟩ | ⟨a, len, cap, elems, rest, n, hf, hcs, hx, hb, hl, hm, hlen, hel, _, _⟩
  · simp only [List.cons.injEq, and_true] at hcs
    exact ⟨none, 0, 0, fun _ _ => undef, hcs, Nat.le_refl _, by omega, .inl rfl, fun i hi => absurd hi (by omega)⟩
  · have hi : ∀ i, i < len → ∃ cs' x', w.cells? base (a.add (i * sz)) sz = some cs' ∧ DataW.trod enc P w base spare held n e cs' = some x' := by
      intro i hi
      have h1 := hel i hi
      rw [hsz, List.getElem?_eq_getElem (by omega)] at h1
      obtain ⟨cs', h2, h3⟩ := Option.bind_eq_some_iff.1 h1
      exact ⟨cs', _, h2, h3⟩
    have hcell : ∀ i j, i < len → j < sz → ∃ v, w.cell? (a.add (i * sz + j)) = some v := by
      intro i j hil hj
      obtain ⟨cs', x', hc, _⟩ := hi i hil
      obtain ⟨_, hcl, hat⟩ := World.cells?_some hc
      have h1 := hat j hj
      rw [Go.Deep.add_add, List.getElem?_eq_getElem (by omega)] at h1
      exact ⟨_, h1⟩
    simp only [List.cons.injEq, and_true] at hcs
    refine ⟨some a, len, cap, fun i j => (w.cell? (a.add (i * sz + j))).getD undef, hcs, hl, hm, ?_, ?_⟩
    · rcases Nat.eq_zero_or_pos len with h | h
      · exact .inl h
      · obtain ⟨v, hv⟩ := hcell 0 0 h h0
        rw [Nat.zero_mul, Nat.zero_add] at hv
        have hsp : a.spot = none := by simpa [Addr.add] using World.cell?_spot hv
        have hlt := cell_lt hv
        obtain ⟨b, off, spot⟩ := a
        simp only at hsp
        subst hsp
        refine .inr ⟨b, off, rfl, Nat.zero_le _, by simpa [Addr.add] using hlt, fun i j hil hj => ?_⟩
        obtain ⟨v', hv'⟩ := hcell i j hil hj
        rw [addr_add_plain] at hv'
        show _ = some ((w.cell? ((⟨b, off, none⟩ : Addr).add (i * sz + j))).getD undef)
        rw [addr_add_plain, Nat.add_assoc, hv']
        rfl
    · intro i hil
      obtain ⟨cs', x', hc, ht'⟩ := hi i hil
      obtain ⟨_, hcl, hat⟩ := World.cells?_some hc
      refine ⟨n, x', by omega, ?_⟩
      have hcs' : (List.range sz).map (fun j => (w.cell? (a.add (i * sz + j))).getD undef) = cs' := by
        apply List.ext_getElem?
        intro j
        by_cases hj : j < sz
        · rw [List.getElem?_map, List.getElem?_range hj]
          have h1 := hat j hj
          rw [Go.Deep.add_add] at h1
          rw [List.getElem?_eq_getElem (by omega : j < cs'.length)] at h1 ⊢
          simp [h1]
        · rw [List.getElem?_eq_none (by simp; omega), List.getElem?_eq_none (by omega)]
      rw [hcs']
      exact ht'
/-- A struct that is read: each field's own reading, with less fuel. -/
theorem open_st' {t : TypeId} {fs : Array Field} {fuel : Nat} {cs : List Value} {x : DataW H × List MemPlace} (ht : P.underlying t = some (.struct fs)) (h : DataW.trod enc P w base spare held fuel t cs = some x) :
    ∃ n, n < fuel ∧ cs.length = P.cellsOf t ∧ ∀ (i : Nat) (f : Field), fs[i]? = some f → ∃ y, DataW.trod enc P w base spare held n f.type ((cs.drop f.offset).take (P.cellsOf f.type)) = some y := by
  obtain ⟨xs, n, hn, hx, hlen, hxl, hf⟩ := DataW.trod_struct ht h
  refine ⟨n, by omega, hlen, fun i f hi => ?_⟩
  have hil : i < fs.size := (Array.getElem?_eq_some_iff.1 hi).1
  have h1 := hf i f hi
  rw [List.getElem?_eq_getElem (by omega : i < xs.length)] at h1
  exact ⟨_, h1⟩
end

/-- Leaves that are read, one by one. -/
inductive Lvs (w : World) : List D → List Value → Prop
  | nil : Lvs w [] []
  | cons {d : D} {v : Value} {ds : List D} {vs : List Value} (h : DAt w d v) (hs : Lvs w ds vs) : Lvs w (d :: ds) (v :: vs)
theorem Lvs.len {w : World} {ds : List D} {vs : List Value} (h : Lvs w ds vs) : ds.length = vs.length := by
  induction h with
  | nil => rfl
  | cons h hs ih => simp [ih]
theorem Lvs.get {w : World} {ds : List D} {vs : List Value} (h : Lvs w ds vs) : ∀ j (h1 : j < ds.length) (h2 : j < vs.length), DAt w ds[j] vs[j] := by
  induction h with
  | nil => intro j h1; simp at h1
  | cons h hs ih =>
    intro j h1 h2
    cases j with
    | zero => exact h
    | succ j => exact ih j (by simpa using h1) (by simpa using h2)
theorem open_arr {α : Type} [Inhabited α] (dd : α → List D) {w : World} {m len cap : Nat} {f : Nat → Nat → Value} {a : Option Addr} (hl : len ≤ cap) (hm : cap ≤ 9223372036854775807) (hS : SlA w 0 m len f a)
    (hel : ∀ i, i < len → ∃ X : α, Lvs w (dd X) ((List.range m).map (f i))) : ∃ xs : List α, DAt w (.arr (xs.map dd)) (.slice a len cap) := by
  obtain ⟨g, hg⟩ : ∃ g : Nat → α, ∀ i, i < len → Lvs w (dd (g i)) ((List.range m).map (f i)) :=
    ⟨fun i => if h : i < len then (hel i h).choose else default, fun i hi => by simp only [hi, dif_pos]; exact (hel i hi).choose_spec⟩
  refine ⟨(List.range len).map g, ?_⟩
  have hlen : (((List.range len).map g).map dd).length = len := by simp
  have := DAt.arr_mk (w := w) (es := ((List.range len).map g).map dd) (sz := m) (cap := cap) (a := a) (f := f) (by rw [hlen]; exact hl) hm (by rw [hlen]; exact hS) (fun i hi => by
    rw [hlen] at hi
    have := (hg i hi).len
    simpa using this) (fun i j hi hj => by
    rw [hlen] at hi
    have h1 := hg i hi
    have h2 := h1.len
    simp only [List.length_map, List.length_range] at h2
    simp only [List.getElem_map, List.getElem_range] at hj ⊢
    have := h1.get j hj (by simp; omega)
    simpa using this)
  rw [hlen] at this
  exact this
instance : Inhabited Tm := ⟨Tm.zero⟩
instance : Inhabited Fm := ⟨Fm.zero⟩

section
variable {H : Type} {enc : TypeId × Value → H} {w : World} {base : Nat} {spare : Nat → Bool} {held : Bool}
theorem open_term_of {fuel : Nat} (ih : ∀ n, n < fuel → ∀ v x, DataW.trod enc Try.prog w base spare held n 36 [v] = some x → ∃ xs, TmsAt w xs v) {cs : List Value} {x : DataW H × List MemPlace}
    (h : DataW.trod enc Try.prog w base spare held fuel 38 cs = some x) : ∃ X : Tm, Lvs w X.d cs := by
  obtain ⟨n, hn, hlen, hf⟩ := open_st' Try.underlying38 h
  rw [show Try.prog.cellsOf 38 = 2 by kernel_rfl] at hlen
  match cs, hlen with
  | [c0, c1], _ =>
    obtain ⟨y0, k0⟩ := hf 0 _ rfl
    obtain ⟨y1, k1⟩ := hf 1 _ rfl
    obtain ⟨s, hs, _, hsz⟩ := DataW.trod_string Try.underlying9 k0
    have e1 : (([c0, c1].drop 1).take (Try.prog.cellsOf 36)) = [c1] := by rw [show Try.prog.cellsOf 36 = 1 by kernel_rfl]; rfl
    have e0 : (([c0, c1].drop 0).take (Try.prog.cellsOf 9)) = [c0] := by rw [show Try.prog.cellsOf 9 = 1 by kernel_rfl]; rfl
    obtain ⟨xs, hxs⟩ := ih n hn c1 y1 (by rw [← e1]; exact k1)
    have hs' : c0 = .string s := by
      have : [c0] = [.string s] := by rw [← e0]; exact hs
      simpa using this
    subst hs'
    exact ⟨.mk s xs, by rw [Tm.d_eq]; exact .cons (.str _ s hsz) (.cons hxs .nil)⟩
theorem open_terms_all : ∀ (fuel : Nat) (v : Value) (x : DataW H × List MemPlace), DataW.trod enc Try.prog w base spare held fuel 36 [v] = some x → ∃ xs, TmsAt w xs v := by
  intro fuel
  induction fuel using Nat.strongRecOn with
  | _ fuel ih =>
    intro v x h
    obtain ⟨a, len, cap, f, rfl, hl, hm, hS, hr⟩ := open_sl' (P := Try.prog) 2 (by kernel_rfl) (by omega) Try.underlying36 h
    exact open_arr Tm.d hl hm hS fun i hi => by
      obtain ⟨n, x', hn, h1⟩ := hr i hi
      exact open_term_of (fun n' hn' => ih n' (by omega)) h1
theorem open_term {fuel : Nat} {cs : List Value} {x : DataW H × List MemPlace} (h : DataW.trod enc Try.prog w base spare held fuel 38 cs = some x) : ∃ X : Tm, Lvs w X.d cs :=
  open_term_of (fun n _ => open_terms_all n) h
theorem open_formula_of {fuel : Nat} (ih : ∀ n, n < fuel → ∀ v x, DataW.trod enc Try.prog w base spare held n 39 [v] = some x → ∃ xs, FmsAt w xs v) {cs : List Value} {x : DataW H × List MemPlace}
    (h : DataW.trod enc Try.prog w base spare held fuel 41 cs = some x) : ∃ X : Fm, Lvs w X.d cs := by
  obtain ⟨n, hn, hlen, hf⟩ := open_st' Try.underlying41 h
  rw [show Try.prog.cellsOf 41 = 5 by kernel_rfl] at hlen
  match cs, hlen with
  | [c0, c1, c2, c3, c4], _ =>
    obtain ⟨y0, k0⟩ := hf 0 _ rfl
    obtain ⟨y1, k1⟩ := hf 1 _ rfl
    obtain ⟨y2, k2⟩ := hf 2 _ rfl
    obtain ⟨y3, k3⟩ := hf 3 _ rfl
    obtain ⟨z, hz, _, _⟩ := DataW.trod_int Try.underlying3 k0
    obtain ⟨X, hX⟩ := open_term k1
    obtain ⟨s, hs, _, hsz⟩ := DataW.trod_string Try.underlying9 k2
    have e0 : (([c0, c1, c2, c3, c4].drop 0).take (Try.prog.cellsOf 3)) = [c0] := by rw [show Try.prog.cellsOf 3 = 1 by kernel_rfl]; rfl
    have e1 : (([c0, c1, c2, c3, c4].drop 1).take (Try.prog.cellsOf 38)) = [c1, c2] := by rw [show Try.prog.cellsOf 38 = 2 by kernel_rfl]; rfl
    have e2 : (([c0, c1, c2, c3, c4].drop 3).take (Try.prog.cellsOf 9)) = [c3] := by rw [show Try.prog.cellsOf 9 = 1 by kernel_rfl]; rfl
    have e3 : (([c0, c1, c2, c3, c4].drop 4).take (Try.prog.cellsOf 39)) = [c4] := by rw [show Try.prog.cellsOf 39 = 1 by kernel_rfl]; rfl
    obtain ⟨xs, hxs⟩ := ih n hn c4 y3 (by rw [← e3]; exact k3)
    have hX' : Lvs w X.d [c1, c2] := by rw [← e1]; exact hX
    rw [Tm.d_eq] at hX'
    cases hX' with
    | cons g0 g1 =>
      cases g1 with
      | cons g1 _ =>
        have hz' : c0 = .int .i64 z := by
          have : [c0] = [.int .i64 z] := by rw [← e0]; exact hz
          simpa using this
        have hs' : c3 = .string s := by
          have : [c3] = [.string s] := by rw [← e2]; exact hs
          simpa using this
        subst hz' hs'
        exact ⟨.mk z X s xs, by rw [Fm.d_eq]; exact .cons (.int _ z) (.cons g0 (.cons g1 (.cons (.str _ s hsz) (.cons hxs .nil))))⟩
theorem open_formulas_all : ∀ (fuel : Nat) (v : Value) (x : DataW H × List MemPlace), DataW.trod enc Try.prog w base spare held fuel 39 [v] = some x → ∃ xs, FmsAt w xs v := by
  intro fuel
  induction fuel using Nat.strongRecOn with
  | _ fuel ih =>
    intro v x h
    obtain ⟨a, len, cap, f, rfl, hl, hm, hS, hr⟩ := open_sl' (P := Try.prog) 5 (by kernel_rfl) (by omega) Try.underlying39 h
    exact open_arr Fm.d hl hm hS fun i hi => by
      obtain ⟨n, x', hn, h1⟩ := hr i hi
      exact open_formula_of (fun n' hn' => ih n' (by omega)) h1
theorem open_formula {fuel : Nat} {cs : List Value} {x : DataW H × List MemPlace} (h : DataW.trod enc Try.prog w base spare held fuel 41 cs = some x) : ∃ X : Fm, Lvs w X.d cs :=
  open_formula_of (fun n _ => open_formulas_all n) h
end
end Go.Proofs.Ytjafnijgkjjadab

set_option maxRecDepth 100000
set_option linter.unusedSimpArgs false
set_option linter.unusedVariables false
namespace Go.Proofs.Ytjafnijgkjjadab
open Go.RowKit

theorem DRep.lt_ {own : Bool} {w : World} {S : Nat → Prop} {d : D} {v : Value} (h : DRep own w S d v) : DRep own w (fun b => S b ∧ b < w.heap.size) d v := by
  induction h with
  | int S n => exact .int _ n
  | bool S b => exact .bool _ b
  | str S s h => exact .str _ s h
  | arr S sz es a cap f Sub h1 h2 h3 h4 h5 h6 h7 ih =>
    refine .arr _ sz es a cap f (fun i j x => Sub i j x ∧ x < w.heap.size) h1 h2 ?_ h4 (fun i j x h => ⟨h5 i j x h.1, h.2⟩) (fun ho i j i' j' x h h' => h6 ho i j i' j' x h.1 h'.1) ih
    rcases h3 with h3 | ⟨b, off, ha, hS, hl, hc, ho⟩
    · exact .inl h3
    · exact .inr ⟨b, off, ha, ⟨hS, hl⟩, hl, hc, fun h => ⟨fun i j hx => (ho h).1 i j hx.1, (ho h).2⟩⟩
theorem DAt.rep {w : World} {es : List (List D)} {v : Value} (h : DAt w (.arr es) v) : RepV w (fun b => b < w.heap.size) (fun _ => none) (.arr es) v := by
  simp only [RepV]
  exact (DRep.lt_ h).up fun b hb => hb.2
/-- A law's function that says yes. -/
theorem Fun.yes {f : FuncId} {args : List SV} (h : Fun Try.prog f args [] (.bool true) []) {w : World} {vs : List Value} (hvs : RepVs w (fun b => b < w.heap.size) (fun _ => none) args vs) : Calls Try.prog f vs.toArray w (Ret w (.bool true)) := by
  have nl : ∀ g, ¬ (geto [] g).live := fun g hg => by simp [geto, Ob.live] at hg
  refine (h w (fun b => b < w.heap.size) (fun _ => none) (fun _ _ => False) vs ⟨fun b hb => hb, fun g hg => absurd hg (nl g), fun g b hg => absurd hg (nl g), fun g b hg => absurd hg (nl g), fun g g' b hg => absurd hg (nl g), fun g _ => rfl⟩ hvs).mono ?_
  rintro e w' ⟨v, I', V', B', rfl, hr, hp⟩
  simp only [RepV] at hr
  subst hr
  exact ⟨rfl, hp.fr.os, hp.fr.tape, hp.fr.output, hp.fr.size, fun b hb => hp.fr.block b hb fun ⟨g, hg, _⟩ => absurd hg (nl g)⟩

theorem lvs_cons {w : World} {d : D} {ds : List D} {v : Value} {vs : List Value} (h : Lvs w (d :: ds) (v :: vs)) : DAt w d v ∧ Lvs w ds vs := by
  cases h with
  | cons h1 h2 => exact ⟨h1, h2⟩
theorem DAt.rep_sv {w : World} {d : D} {v : Value} (h : DAt w d v) : RepV w (fun b => b < w.heap.size) (fun _ => none) d.sv v :=
  D.rep_sv ((DRep.lt_ h).up fun b hb => hb.2)
theorem Lvs.reps {w : World} {ds : List D} {vs : List Value} (h : Lvs w ds vs) : RepVs w (fun b => b < w.heap.size) (fun _ => none) (ds.map D.sv) vs := by
  induction h with
  | nil => simp [RepVs]
  | cons h hs ih => simp only [List.map_cons, RepVs]; exact ⟨_, _, rfl, h.rep_sv, ih⟩
theorem Lvs.agg {w : World} {ds : List D} {vs : List Value} (h : Lvs w ds vs) : RepV w (fun b => b < w.heap.size) (fun _ => none) (.agg (ds.map D.sv)) (.agg vs.toArray) := by
  simp only [RepV]; exact ⟨vs, rfl, h.reps⟩
theorem Lvs.fits {w : World} {ds : List D} {vs : List Value} (h : Lvs w ds vs) : D.fits ds := by
  induction h with
  | nil => trivial
  | cons h hs ih => exact ⟨DRep.fit h, ih⟩
theorem DAt.fit {w : World} {d : D} {v : Value} (h : DAt w d v) : D.fit d := DRep.fit h
theorem args_nil {w : World} {I : Nat → Prop} {V : Nat → Option Value} : RepVs w I V [] [] := by simp [RepVs]
theorem args_more {w : World} {I : Nat → Prop} {V : Nat → Option Value} {x : SV} {xs : List SV} {v : Value} {vs : List Value} (h : RepV w I V x v) (hs : RepVs w I V xs vs) : RepVs w I V (x :: xs) (v :: vs) := by
  simp only [RepVs]; exact ⟨v, vs, rfl, h, hs⟩
instance : Inhabited Ag := ⟨Ag.zero⟩
section
variable {H : Type} {enc : TypeId × Value → H} {w : World} {base : Nat} {spare : Nat → Bool} {held : Bool}
theorem opn_Term_of {fuel : Nat} (ih : ∀ n, n < fuel → ∀ v x, DataW.trod enc Try.prog w base spare held n 36 [v] = some x → ∃ xs : List Tm, DAt w (.arr (xs.map Tm.d)) v) {cs : List Value} {x : DataW H × List MemPlace} (h : DataW.trod enc Try.prog w base spare held fuel 38 cs = some x) : ∃ X : Tm, Lvs w X.d cs := by
  obtain ⟨n, hn, hlen, hf⟩ := open_st' Try.underlying38 h
  rw [show Try.prog.cellsOf 38 = 2 by kernel_rfl] at hlen
  match cs, hlen with
  | [c0, c1], _ =>
    obtain ⟨y0, k0⟩ := hf 0 _ rfl
    have e0 : (([c0, c1].drop 0).take (Try.prog.cellsOf 9)) = [c0] := by rw [show Try.prog.cellsOf 9 = 1 by kernel_rfl]; rfl
    obtain ⟨z0, q0, _, s0⟩ := DataW.trod_string Try.underlying9 k0
    have q0' : c0 = .string z0 := by
      have : [c0] = [.string z0] := by rw [← e0]; exact q0
      simpa using this
    obtain ⟨y1, k1⟩ := hf 1 _ rfl
    have e1 : (([c0, c1].drop 1).take (Try.prog.cellsOf 36)) = [c1] := by rw [show Try.prog.cellsOf 36 = 1 by kernel_rfl]; rfl
    have k1' : DataW.trod enc Try.prog w base spare held n 36 [c1] = some y1 := by rw [← e1]; exact k1
    obtain ⟨z1, g1⟩ := ih n hn c1 y1 k1'
    subst q0'
    exact ⟨.mk z0 z1, by rw [Tm.d_eq]; exact (.cons (.str _ z0 s0) (.cons g1 .nil))⟩
theorem opnS_Term_all : ∀ (fuel : Nat) (v : Value) (x : DataW H × List MemPlace), DataW.trod enc Try.prog w base spare held fuel 36 [v] = some x → ∃ xs : List Tm, DAt w (.arr (xs.map Tm.d)) v := by
  intro fuel
  induction fuel using Nat.strongRecOn with
  | _ fuel ih =>
    intro v x h
    obtain ⟨a, len, cap, f, rfl, hl, hm, hS, hr⟩ := open_sl' (P := Try.prog) 2 (by kernel_rfl) (by omega) Try.underlying36 h
    exact open_arr Tm.d hl hm hS fun i hi => by
      obtain ⟨n, x', hn, h1⟩ := hr i hi
      exact opn_Term_of (fun n' hn' => ih n' (by omega)) h1
theorem opn_Term {fuel : Nat} {cs : List Value} {x : DataW H × List MemPlace} (h : DataW.trod enc Try.prog w base spare held fuel 38 cs = some x) : ∃ X : Tm, Lvs w X.d cs :=
  opn_Term_of (fun n _ => opnS_Term_all n) h
theorem opnS_Term {fuel : Nat} {v : Value} {x : DataW H × List MemPlace} (h : DataW.trod enc Try.prog w base spare held fuel 36 [v] = some x) : ∃ xs : List Tm, DAt w (.arr (xs.map Tm.d)) v := by
  exact opnS_Term_all fuel v x h
theorem opn_Formula_of {fuel : Nat} (ih : ∀ n, n < fuel → ∀ v x, DataW.trod enc Try.prog w base spare held n 39 [v] = some x → ∃ xs : List Fm, DAt w (.arr (xs.map Fm.d)) v) {cs : List Value} {x : DataW H × List MemPlace} (h : DataW.trod enc Try.prog w base spare held fuel 41 cs = some x) : ∃ X : Fm, Lvs w X.d cs := by
  obtain ⟨n, hn, hlen, hf⟩ := open_st' Try.underlying41 h
  rw [show Try.prog.cellsOf 41 = 5 by kernel_rfl] at hlen
  match cs, hlen with
  | [c0, c1, c2, c3, c4], _ =>
    obtain ⟨y0, k0⟩ := hf 0 _ rfl
    have e0 : (([c0, c1, c2, c3, c4].drop 0).take (Try.prog.cellsOf 3)) = [c0] := by rw [show Try.prog.cellsOf 3 = 1 by kernel_rfl]; rfl
    obtain ⟨z0, q0, _, _⟩ := DataW.trod_int Try.underlying3 k0
    have q0' : c0 = .int .i64 z0 := by
      have : [c0] = [.int .i64 z0] := by rw [← e0]; exact q0
      simpa using this
    obtain ⟨y1, k1⟩ := hf 1 _ rfl
    have e1 : (([c0, c1, c2, c3, c4].drop 1).take (Try.prog.cellsOf 38)) = [c1, c2] := by rw [show Try.prog.cellsOf 38 = 2 by kernel_rfl]; rfl
    have k1' : DataW.trod enc Try.prog w base spare held n 38 [c1, c2] = some y1 := by rw [← e1]; exact k1
    obtain ⟨z1, g1⟩ := opn_Term k1'
    rw [Tm.d_eq] at g1
    obtain ⟨g1_0, g1⟩ := lvs_cons g1
    obtain ⟨g1_1, g1⟩ := lvs_cons g1
    obtain ⟨y2, k2⟩ := hf 2 _ rfl
    have e2 : (([c0, c1, c2, c3, c4].drop 3).take (Try.prog.cellsOf 9)) = [c3] := by rw [show Try.prog.cellsOf 9 = 1 by kernel_rfl]; rfl
    obtain ⟨z2, q2, _, s2⟩ := DataW.trod_string Try.underlying9 k2
    have q2' : c3 = .string z2 := by
      have : [c3] = [.string z2] := by rw [← e2]; exact q2
      simpa using this
    obtain ⟨y3, k3⟩ := hf 3 _ rfl
    have e3 : (([c0, c1, c2, c3, c4].drop 4).take (Try.prog.cellsOf 39)) = [c4] := by rw [show Try.prog.cellsOf 39 = 1 by kernel_rfl]; rfl
    have k3' : DataW.trod enc Try.prog w base spare held n 39 [c4] = some y3 := by rw [← e3]; exact k3
    obtain ⟨z3, g3⟩ := ih n hn c4 y3 k3'
    subst q0' q2'
    exact ⟨.mk z0 z1 z2 z3, by rw [Fm.d_eq]; exact (.cons (.int _ z0) (.cons g1_0 (.cons g1_1 (.cons (.str _ z2 s2) (.cons g3 .nil)))))⟩
theorem opnS_Formula_all : ∀ (fuel : Nat) (v : Value) (x : DataW H × List MemPlace), DataW.trod enc Try.prog w base spare held fuel 39 [v] = some x → ∃ xs : List Fm, DAt w (.arr (xs.map Fm.d)) v := by
  intro fuel
  induction fuel using Nat.strongRecOn with
  | _ fuel ih =>
    intro v x h
    obtain ⟨a, len, cap, f, rfl, hl, hm, hS, hr⟩ := open_sl' (P := Try.prog) 5 (by kernel_rfl) (by omega) Try.underlying39 h
    exact open_arr Fm.d hl hm hS fun i hi => by
      obtain ⟨n, x', hn, h1⟩ := hr i hi
      exact opn_Formula_of (fun n' hn' => ih n' (by omega)) h1
theorem opn_Formula {fuel : Nat} {cs : List Value} {x : DataW H × List MemPlace} (h : DataW.trod enc Try.prog w base spare held fuel 41 cs = some x) : ∃ X : Fm, Lvs w X.d cs :=
  opn_Formula_of (fun n _ => opnS_Formula_all n) h
theorem opnS_Formula {fuel : Nat} {v : Value} {x : DataW H × List MemPlace} (h : DataW.trod enc Try.prog w base spare held fuel 39 [v] = some x) : ∃ xs : List Fm, DAt w (.arr (xs.map Fm.d)) v := by
  exact opnS_Formula_all fuel v x h
theorem opn_Assigned {fuel : Nat} {cs : List Value} {x : DataW H × List MemPlace} (h : DataW.trod enc Try.prog w base spare held fuel 109 cs = some x) : ∃ X : Ag, Lvs w X.d cs := by
  obtain ⟨n, hn, hlen, hf⟩ := open_st' Try.underlying109 h
  rw [show Try.prog.cellsOf 109 = 2 by kernel_rfl] at hlen
  match cs, hlen with
  | [c0, c1], _ =>
    obtain ⟨y0, k0⟩ := hf 0 _ rfl
    have e0 : (([c0, c1].drop 0).take (Try.prog.cellsOf 9)) = [c0] := by rw [show Try.prog.cellsOf 9 = 1 by kernel_rfl]; rfl
    obtain ⟨z0, q0, _, s0⟩ := DataW.trod_string Try.underlying9 k0
    have q0' : c0 = .string z0 := by
      have : [c0] = [.string z0] := by rw [← e0]; exact q0
      simpa using this
    obtain ⟨y1, k1⟩ := hf 1 _ rfl
    have e1 : (([c0, c1].drop 1).take (Try.prog.cellsOf 3)) = [c1] := by rw [show Try.prog.cellsOf 3 = 1 by kernel_rfl]; rfl
    obtain ⟨z1, q1, _, _⟩ := DataW.trod_int Try.underlying3 k1
    have q1' : c1 = .int .i64 z1 := by
      have : [c1] = [.int .i64 z1] := by rw [← e1]; exact q1
      simpa using this
    subst q0' q1'
    exact ⟨⟨z0, z1⟩, by rw [Ag.d_eq]; exact (.cons (.str _ z0 s0) (.cons (.int _ z1) .nil))⟩
theorem opnS_Assigned {fuel : Nat} {v : Value} {x : DataW H × List MemPlace} (h : DataW.trod enc Try.prog w base spare held fuel 69 [v] = some x) : ∃ xs : List Ag, DAt w (.arr (xs.map Ag.d)) v := by
  obtain ⟨a, len, cap, f, rfl, hl, hm, hS, hr⟩ := open_sl' (P := Try.prog) 2 (by kernel_rfl) (by omega) Try.underlying69 h
  exact open_arr Ag.d hl hm hS fun i hi => by
    obtain ⟨n, x', hn, h1⟩ := hr i hi
    exact opn_Assigned h1
end
end Go.Proofs.Ytjafnijgkjjadab
