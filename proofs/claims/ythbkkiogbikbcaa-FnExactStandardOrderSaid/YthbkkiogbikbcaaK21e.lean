/-
  This text holds, one behind the other: This text tells what the laws' comparing functions answer. No condition.
  This text holds plain laws of expressions and of the sizes of terms. No condition.
  This text tells what the law of StandardOrder answers. No condition.
  This text opens arguments: slices of integers, of structs, of tables: what is read as data lies in memory as our words say. No condition.
  This text opens arguments: what is read as data, terms and formulas, lies in memory as our words say. No condition.
  This text turns a function's answer into a walk of the kit's form, and opens arguments that are clauses. No condition.
-/
import Derived.Test.YthbkkiogbikbcaaK21c
import Derived.Test.YthbkkiogbikbcaaK21d
import Derived.ProofKit
import Derived.Deep.Slices
import Derived.Deep.Fields
import Derived.ChangeSame
import Derived.OpenShut
import Derived.ShutString
import Derived.ChangeOld
set_option maxRecDepth 100000
set_option linter.unusedSimpArgs false
set_option linter.unusedVariables false
namespace Go.Proofs.Ythbkkiogbikbcaa
open Go.RowKit

def c_laws_eqTerm : SC := (.seq (.reg [⟨(some 2), none, (.boxv 30 2 (.t 0))⟩, ⟨(some 3), none, (.boxv 30 2 (.t 1))⟩, ⟨(some 4), none, (.mv (.c (.bool false)))⟩]) (.seq (.seq (.reg [⟨(some 5), none, (.faddr 0 (.t 2))⟩, ⟨(some 6), none, (.load false 1 (.t 5))⟩, ⟨(some 7), none, (.faddr 0 (.t 3))⟩, ⟨(some 8), none, (.load false 1 (.t 7))⟩, ⟨(some 9), none, (.bin .neq false (.t 6) (.t 8))⟩]) (.cond (.t 9) (.seq (.reg [⟨(some 4), none, (.mv (.c (.bool false)))⟩]) .ret) .skip)) (.seq (.seq (.reg [⟨(some 10), none, (.faddr 1 (.t 2))⟩, ⟨(some 11), none, (.load false 1 (.t 10))⟩, ⟨(some 12), none, (.faddr 1 (.t 3))⟩, ⟨(some 13), none, (.load false 1 (.t 12))⟩, ⟨(some 14), none, (.call 15 [(.t 11), (.t 13)])⟩, ⟨(some 15), none, (.un .not (.t 14))⟩]) (.cond (.t 15) (.seq (.reg [⟨(some 4), none, (.mv (.c (.bool false)))⟩]) .ret) .skip)) (.seq (.reg [⟨(some 4), none, (.mv (.c (.bool true)))⟩]) .ret))))
theorem k_laws_eqTerm : codeOf Try.prog 8 = some ⟨16, c_laws_eqTerm, [(.tmp 4)]⟩ := by kernel_rfl
theorem m_laws_eqTerm : modes 8 = ⟨[], .asis, none, false⟩ := by unfold modes; rfl
def c_laws_eqTermS : SC := (.seq (.reg [⟨(some 4), none, (.mv (.c (.bool false)))⟩]) (.seq (.seq (.reg [⟨(some 6), none, (.mv (.t 0))⟩, ⟨(some 7), none, (.len false (.t 6))⟩, ⟨(some 8), none, (.mv (.t 1))⟩, ⟨(some 9), none, (.len false (.t 8))⟩, ⟨(some 10), none, (.bin .neq false (.t 7) (.t 9))⟩]) (.cond (.t 10) (.seq (.reg [⟨(some 4), none, (.mv (.c (.bool false)))⟩]) .ret) .skip)) (.seq (.seq (.reg [⟨(some 5), none, (.mv (.c (.int .i64 0)))⟩]) (.block 0 (.loop [1, 1, 0, 0, 0, 1, 0, 0, 0, 0, 0, 0, 0, 0, 0, 0, 0, 0, 0, 0, 0, 0, 0, 0, 0, 0, 0] (.seq (.seq (.reg [⟨(some 11), none, (.mv (.t 5))⟩, ⟨(some 12), none, (.mv (.t 0))⟩, ⟨(some 13), none, (.len false (.t 12))⟩, ⟨(some 14), none, (.bin .lss false (.t 11) (.t 13))⟩]) (.cond (.t 14) .skip (.exit 0))) (.seq (.block 1 (.seq (.dreg [[], [], [0, 1], [2, 0, 1], [], [], [4, 5], [6, 4, 5], [3, 2, 0, 1, 7, 6, 4, 5], [8, 3, 2, 0, 1, 7, 6, 4, 5]] [⟨(some 17), none, (.mv (.t 0))⟩, ⟨(some 18), none, (.mv (.t 5))⟩, ⟨(some 19), none, (.iaddr 2 (.t 17) (.t 18))⟩, ⟨(some 20), none, (.load true 2 (.t 19))⟩, ⟨(some 21), none, (.mv (.t 1))⟩, ⟨(some 22), none, (.mv (.t 5))⟩, ⟨(some 23), none, (.iaddr 2 (.t 21) (.t 22))⟩, ⟨(some 24), none, (.load true 2 (.t 23))⟩, ⟨(some 25), none, (.call 8 [(.t 20), (.t 24)])⟩, ⟨(some 26), none, (.un .not (.t 25))⟩]) (.cond (.t 26) (.seq (.reg [⟨(some 4), none, (.mv (.c (.bool false)))⟩]) .ret) .skip))) (.reg [⟨(some 15), none, (.mv (.t 5))⟩, ⟨(some 16), none, (.bin .add false (.t 15) (.c (.int .i64 1)))⟩, ⟨(some 5), none, (.mv (.t 16))⟩])))))) (.seq (.reg [⟨(some 4), none, (.mv (.c (.bool true)))⟩]) .ret))))
theorem k_laws_eqTermS : codeOf Try.prog 15 = some ⟨27, c_laws_eqTermS, [(.tmp 4)]⟩ := by kernel_rfl
theorem m_laws_eqTermS : modes 15 = ⟨[], .asis, none, false⟩ := by unfold modes; rfl
abbrev EqT_Term (x : Tm) : Prop := x.bulk ≤ 1048576 → E 8 [x.sv, x.sv] [] = some (.bool true, [])
abbrev EqTS_Term (xs : List Tm) : Prop := xs.length + Tm.sumB xs ≤ 1048576 → E 15 [.arr (xs.map Tm.d), .arr (xs.map Tm.d)] [] = some (.bool true, [])
set_option maxHeartbeats 1000000 in
theorem eqTS_Term_of (xs : List Tm) (h : ∀ x ∈ xs, EqT_Term x) : EqTS_Term xs := by
  intro hb
  refine E_walk k_laws_eqTermS m_laws_eqTermS (of_decide_eq_true rfl) ?_
  simp (disch := omega) only [c_laws_eqTermS, go_sem, Nat.reduceAdd, Nat.reduceSub, Nat.reduceLT, Nat.reduceLeDiff, Nat.reduceEqDiff, Nat.reduceBEq, Nat.reduceBneDiff, Nat.reduceMul, ↓reduceIte, Int.reduceToNat, reduceCtorEq, Int.reduceNeg, Int.reduceAdd]
  refine go_loop (α := Int) (fun i => ⟨slots 27 0 [(0, .arr (xs.map Tm.d)), (1, .arr (xs.map Tm.d)), (5, .int .i64 i)], []⟩) (fun i => ∃ k : Nat, i = k ∧ k ≤ xs.length) (fun i => xs.length - i.toNat) 0 ⟨0, rfl, Nat.zero_le _⟩ (by simp (disch := omega) only [go_sem, Nat.reduceAdd, Nat.reduceSub, Nat.reduceLT, Nat.reduceLeDiff, Nat.reduceEqDiff, Nat.reduceBEq, Nat.reduceBneDiff, Nat.reduceMul, ↓reduceIte, Int.reduceToNat, reduceCtorEq, Int.reduceNeg, Int.reduceAdd]) ?_
  · rintro i ⟨k, rfl, hk⟩
    obtain ⟨i, hi⟩ : ∃ i : Int, i = (k : Int) := ⟨_, rfl⟩
    rw [← hi]
    have hn : i.toNat = k := by omega
    rcases Nat.lt_or_ge k xs.length with hlt | hge
    · have hg := get_at Tm.d hlt
      rw [Tm.d_eq] at hg
      have hle := Tm.bulk_le xs k hlt
      have hc := h xs[k] (List.getElem_mem hlt) (by omega)
      simp (disch := omega) only [go_sem, Nat.reduceAdd, Nat.reduceSub, Nat.reduceLT, Nat.reduceLeDiff, Nat.reduceEqDiff, Nat.reduceBEq, Nat.reduceBneDiff, Nat.reduceMul, ↓reduceIte, Int.reduceToNat, reduceCtorEq, Int.reduceNeg, Int.reduceAdd, hn, hg, hc, m_laws_eqTerm]
      refine ⟨i + 1, ⟨k + 1, by omega, hlt⟩, by omega, ?_⟩
      trivial
    · obtain rfl : k = xs.length := by omega
      simp (disch := omega) only [go_sem, Nat.reduceAdd, Nat.reduceSub, Nat.reduceLT, Nat.reduceLeDiff, Nat.reduceEqDiff, Nat.reduceBEq, Nat.reduceBneDiff, Nat.reduceMul, ↓reduceIte, Int.reduceToNat, reduceCtorEq, Int.reduceNeg, Int.reduceAdd, hn]
set_option maxHeartbeats 1000000 in
theorem eqT_Term_of (x : Tm) (h_args : EqTS_Term x.args) : EqT_Term x := by
  intro hb
  have qb := Tm.bulk_eq x
  replace h_args := h_args (by omega)
  refine E_walk k_laws_eqTerm m_laws_eqTerm (of_decide_eq_true rfl) ?_
  simp (disch := omega) only [c_laws_eqTerm, go_sem, Nat.reduceAdd, Nat.reduceSub, Nat.reduceLT, Nat.reduceLeDiff, Nat.reduceEqDiff, Nat.reduceBEq, Nat.reduceBneDiff, Nat.reduceMul, ↓reduceIte, Int.reduceToNat, reduceCtorEq, Int.reduceNeg, Int.reduceAdd, h_args, m_laws_eqTermS, dec_refl]
theorem eqT_Term (x : Tm) : EqT_Term x := eqT_Term_of x (eqTS_Term_of x.args fun y hy => eqT_Term y)
termination_by SizeOf.sizeOf x
decreasing_by exact Tm.lt_of_mem hy
theorem eqTS_Term (xs : List Tm) : EqTS_Term xs := eqTS_Term_of xs fun x _ => eqT_Term x
end Go.Proofs.Ythbkkiogbikbcaa

set_option maxRecDepth 100000
set_option linter.unusedSimpArgs false
set_option linter.unusedVariables false
namespace Go.Proofs.Ythbkkiogbikbcaa
open Go.RowKit

noncomputable def Tm.expr (x : Tm) : Bool := x.valid || x.atom
theorem Tm.expr_small {x : Tm} (h : x.expr = true) : x.small = true := by
  unfold Tm.expr Tm.atom Tm.valid at h
  cases hs : x.small with
  | true => rfl
  | false =>
    rw [hs] at h
    split at h <;> simp at h
theorem Tm.expr_nodes {x : Tm} (h : x.expr = true) : x.nodes ≤ 30 := by
  have := Tm.expr_small h
  unfold Tm.small at this
  rw [Bool.and_eq_true, decide_eq_true_eq] at this
  exact this.1
theorem Tm.eqn_var {x : Tm} (h : x.eqn = true) : varB x.name = false := by
  unfold Tm.eqn at h
  rw [dec_iff.1 h]
  kernel_rfl
theorem Tm.expr_names {x : Tm} (h : x.expr = true) : x.names = true ∨ (x.eqn = true ∧ Tm.nameS x.args = true) := by
  unfold Tm.expr Tm.valid at h
  cases hn : x.names with
  | true => exact .inl rfl
  | false =>
    rw [hn, Bool.and_false, Bool.false_or] at h
    unfold Tm.atom at h
    split at h
    · rename_i he
      rw [Bool.and_eq_true] at h
      exact .inr ⟨he, h.2⟩
    · unfold Tm.valid at h; rw [hn, Bool.and_false, Bool.and_false] at h; cases h
theorem Tm.expr_var {x : Tm} (h : x.expr = true) : varB x.name = true → x.args = [] := by
  intro hv
  rcases Tm.expr_names h with h1 | ⟨h1, h2⟩
  · exact Tm.names_var h1 hv
  · rw [Tm.eqn_var h1] at hv; cases hv
theorem Tm.expr_arg {x : Tm} (h : x.expr = true) {y : Tm} (hy : y ∈ x.args) : y.names = true := by
  rcases Tm.expr_names h with h1 | ⟨h1, h2⟩
  · exact Tm.names_arg h1 hy
  · rw [Tm.nameS_all, List.all_eq_true] at h2; exact h2 y hy

theorem Tm.nodeS_sumB : ∀ xs : List Tm, (∀ x ∈ xs, x.nodes ≤ 1 + x.bulk) → Tm.nodeS xs ≤ xs.length + Tm.sumB xs
  | [], _ => by simp [Tm.nodeS]
  | x :: xs, h => by
    have h1 := h x (by simp)
    have h2 := Tm.nodeS_sumB xs fun y hy => h y (by simp [hy])
    rw [Tm.nodeS, Tm.sumB]; simp only [List.length_cons]; omega
theorem Tm.nodes_bulk (x : Tm) : x.nodes ≤ 1 + x.bulk := by
  rw [Tm.nodes_eq, Tm.bulk_eq]
  have := Tm.nodeS_sumB x.args fun y hy => Tm.nodes_bulk y
  omega
termination_by SizeOf.sizeOf x
decreasing_by exact Tm.lt_of_mem hy
theorem varB_size {s : ByteArray} (h : varB s = true) : s.size ≤ 6 := by
  unfold varB inB at h
  simp at h
  omega
theorem symB_size {s : ByteArray} (h : symB s = true) : s.size ≤ 6 := by
  unfold symB inB at h
  simp at h
  omega
theorem Tm.sumB_nodes : ∀ xs : List Tm, (∀ x ∈ xs, x.bulk + 1 ≤ 8 * x.nodes) → xs.length + Tm.sumB xs ≤ 8 * Tm.nodeS xs
  | [], _ => by simp [Tm.nodeS, Tm.sumB]
  | x :: xs, h => by
    have h1 := h x (by simp)
    have h2 := Tm.sumB_nodes xs fun y hy => h y (by simp [hy])
    rw [Tm.nodeS, Tm.sumB]; simp only [List.length_cons]; omega
theorem Tm.names_bulk (x : Tm) (h : x.names = true) : x.bulk + 1 ≤ 8 * x.nodes := by
  have h1 := Tm.sumB_nodes x.args fun y hy => Tm.names_bulk y (Tm.names_arg h hy)
  have h2 : x.name.size ≤ 6 := by
    rw [Tm.names_eq] at h
    split at h
    · rename_i hv; exact varB_size hv
    · rw [Bool.and_eq_true, Bool.and_eq_true] at h; exact symB_size h.1.1
  rw [Tm.nodes_eq, Tm.bulk_eq]
  omega
termination_by SizeOf.sizeOf x
decreasing_by exact Tm.lt_of_mem hy
theorem Tm.expr_bulk {x : Tm} (h : x.expr = true) : x.bulk ≤ 1048576 := by
  have hn := Tm.expr_nodes h
  have h1 := Tm.sumB_nodes x.args fun y hy => Tm.names_bulk y (Tm.expr_arg h hy)
  have h2 : x.name.size ≤ 6 := by
    rcases Tm.expr_names h with h3 | ⟨h3, _⟩
    · rw [Tm.names_eq] at h3
      split at h3
      · rename_i hv; exact varB_size hv
      · rw [Bool.and_eq_true, Bool.and_eq_true] at h3; exact symB_size h3.1.1
    · unfold Tm.eqn at h3
      rw [dec_iff.1 h3]; decide
  rw [Tm.nodes_eq] at hn
  rw [Tm.bulk_eq]
  omega
end Go.Proofs.Ythbkkiogbikbcaa

set_option maxRecDepth 100000
set_option linter.unusedSimpArgs false
set_option linter.unusedVariables false
namespace Go.Proofs.Ythbkkiogbikbcaa
open Go.RowKit

def c_laws_FnExactStandardOrder : SC := (.seq (.reg [⟨(some 2), none, (.boxv 24 2 (.t 0))⟩, ⟨(some 3), none, (.boxv 24 2 (.t 1))⟩, ⟨(some 4), none, (.mv (.c (.bool false)))⟩]) (.seq (.reg [⟨(some 5), none, (.mv (.c (.int .i64 1048576)))⟩]) (.seq (.reg [⟨(some 12), none, (.load true 2 (.t 2))⟩, ⟨(some 13), none, (.mv (.t 5))⟩, ⟨(some 14), none, (.call 4 [(.t 12), (.t 13)])⟩, ⟨(some 5), none, (.mv (.t 14))⟩]) (.seq (.seq (.reg [⟨(some 15), none, (.mv (.t 5))⟩, ⟨(some 16), none, (.bin .lss false (.t 15) (.c (.int .i64 0)))⟩]) (.cond (.t 16) (.seq (.reg [⟨(some 4), none, (.mv (.c (.bool true)))⟩]) .ret) .skip)) (.seq (.reg [⟨(some 17), none, (.load true 2 (.t 3))⟩, ⟨(some 18), none, (.mv (.t 5))⟩, ⟨(some 19), none, (.call 4 [(.t 17), (.t 18)])⟩, ⟨(some 5), none, (.mv (.t 19))⟩]) (.seq (.seq (.reg [⟨(some 20), none, (.mv (.t 5))⟩, ⟨(some 21), none, (.bin .lss false (.t 20) (.c (.int .i64 0)))⟩]) (.cond (.t 21) (.seq (.reg [⟨(some 4), none, (.mv (.c (.bool true)))⟩]) .ret) .skip)) (.seq (.dreg [[], [0], [], [2, 1, 0], [1, 0, 3, 2], [4, 1, 0, 3, 2], [5, 4, 1, 0, 3, 2], [5, 4, 1, 0, 3, 2], [6, 5, 4, 1, 0, 3, 2], [7, 5, 4, 1, 0, 3, 2, 8, 6]] [⟨(some 23), none, (.load true 2 (.t 2))⟩, ⟨(some 24), none, (.call 6 [(.t 23)])⟩, ⟨(some 25), none, (.load true 2 (.t 3))⟩, ⟨(some 26), none, (.call 6 [(.t 25)])⟩, ⟨(some 27), none, (.call 5 [(.t 24), (.t 26)])⟩, ⟨(some 22), none, (.mv (.t 27))⟩, ⟨(some 28), none, (.ext (.t 22) 0)⟩, ⟨(some 29), none, (.ext (.t 22) 1)⟩, ⟨(some 6), none, (.mv (.t 28))⟩, ⟨(some 7), none, (.mv (.t 29))⟩]) (.seq (.reg [⟨(some 30), none, (.load true 2 (.t 2))⟩, ⟨(some 31), none, (.call 6 [(.t 30)])⟩, ⟨(some 8), none, (.alloc 30 [(.str ⟨#[]⟩), .nil])⟩, ⟨none, none, (.store 2 (.t 8) (.t 31))⟩]) (.seq (.reg [⟨(some 32), none, (.load true 2 (.t 3))⟩, ⟨(some 33), none, (.call 6 [(.t 32)])⟩, ⟨(some 9), none, (.alloc 30 [(.str ⟨#[]⟩), .nil])⟩, ⟨none, none, (.store 2 (.t 9) (.t 33))⟩]) (.seq (.reg [⟨(some 35), none, (.load true 2 (.t 8))⟩, ⟨(some 36), none, (.load true 2 (.t 9))⟩, ⟨(some 37), none, (.call 7 [(.t 35), (.t 36)])⟩, ⟨(some 34), none, (.mv (.t 37))⟩, ⟨(some 38), none, (.ext (.t 34) 0)⟩, ⟨(some 39), none, (.ext (.t 34) 1)⟩, ⟨(some 10), none, (.mv (.t 38))⟩, ⟨(some 11), none, (.mv (.t 39))⟩]) (.seq (.seq (.reg [⟨(some 40), none, (.mv (.t 10))⟩, ⟨(some 41), none, (.mv (.t 6))⟩, ⟨(some 42), none, (.bin .neq false (.t 40) (.t 41))⟩, ⟨(some 43), none, (.mv (.t 42))⟩, ⟨(some 44), (some (43, false)), (.mv (.t 11))⟩, ⟨(some 45), (some (43, false)), (.mv (.t 7))⟩, ⟨(some 46), (some (43, false)), (.bin .neq true (.t 44) (.t 45))⟩, ⟨(some 47), none, (.pick (.t 43) (.c (.bool true)) (.t 46))⟩]) (.cond (.t 47) (.seq (.reg [⟨(some 4), none, (.mv (.c (.bool false)))⟩]) .ret) .skip)) (.seq (.seq (.dreg [[], [], [1], [0, 2, 1], [3, 0, 2, 1]] [⟨(some 48), none, (.load true 2 (.t 8))⟩, ⟨(some 49), none, (.load true 2 (.t 2))⟩, ⟨(some 50), none, (.call 6 [(.t 49)])⟩, ⟨(some 51), none, (.call 8 [(.t 48), (.t 50)])⟩, ⟨(some 52), none, (.un .not (.t 51))⟩]) (.cond (.t 52) (.seq (.reg [⟨(some 4), none, (.mv (.c (.bool false)))⟩]) .ret) .skip)) (.seq (.seq (.dreg [[], [], [1], [0, 2, 1], [3, 0, 2, 1]] [⟨(some 53), none, (.load true 2 (.t 9))⟩, ⟨(some 54), none, (.load true 2 (.t 3))⟩, ⟨(some 55), none, (.call 6 [(.t 54)])⟩, ⟨(some 56), none, (.call 8 [(.t 53), (.t 55)])⟩, ⟨(some 57), none, (.un .not (.t 56))⟩]) (.cond (.t 57) (.seq (.reg [⟨(some 4), none, (.mv (.c (.bool false)))⟩]) .ret) .skip)) (.seq (.reg [⟨(some 4), none, (.mv (.c (.bool true)))⟩]) .ret))))))))))))))
theorem k_laws_FnExactStandardOrder : codeOf Try.prog 3 = some ⟨58, c_laws_FnExactStandardOrder, [(.tmp 4)]⟩ := by kernel_rfl
theorem m_laws_FnExactStandardOrder : modes 3 = ⟨[], .asis, none, false⟩ := by unfold modes; rfl

theorem l2StandardOrder_E (s t : Tm) (h1 : s.nodes ≤ 1099511627776) (h2 : t.nodes ≤ 1099511627776) : E 5 [s.sv, t.sv] [] = some (.tup [.int .i64 (bif s.valid && t.valid then ordO s t else 0), .bool (s.valid && t.valid)], []) := by
  have v1 := l2Good_E s h1
  have v2 := l2Good_E t h2
  cases hs : s.valid with
  | false =>
    rw [hs] at v1
    rw [Bool.false_and]
    refine E_walk k_spec_StandardOrder m_spec_StandardOrder (of_decide_eq_true rfl) ?_
    simp (disch := omega) only [c_spec_StandardOrder, go_sem, Nat.reduceAdd, Nat.reduceSub, Nat.reduceLT, Nat.reduceLeDiff, Nat.reduceEqDiff, Nat.reduceBEq, Nat.reduceBneDiff, Nat.reduceMul, ↓reduceIte, Int.reduceToNat, reduceCtorEq, Int.reduceNeg, Int.reduceAdd, v1, v2, m_spec_l2Good]
  | true =>
    rw [hs] at v1
    cases ht : t.valid with
    | false =>
      rw [ht] at v2
      rw [Bool.true_and]
      refine E_walk k_spec_StandardOrder m_spec_StandardOrder (of_decide_eq_true rfl) ?_
      simp (disch := omega) only [c_spec_StandardOrder, go_sem, Nat.reduceAdd, Nat.reduceSub, Nat.reduceLT, Nat.reduceLeDiff, Nat.reduceEqDiff, Nat.reduceBEq, Nat.reduceBneDiff, Nat.reduceMul, ↓reduceIte, Int.reduceToNat, reduceCtorEq, Int.reduceNeg, Int.reduceAdd, v1, v2, m_spec_l2Good]
    | true =>
      rw [ht] at v2
      have h3 := l12Order_E s t hs ht
      rw [Bool.true_and, cond_true]
      refine E_walk k_spec_StandardOrder m_spec_StandardOrder (of_decide_eq_true rfl) ?_
      simp (disch := omega) only [c_spec_StandardOrder, go_sem, Nat.reduceAdd, Nat.reduceSub, Nat.reduceLT, Nat.reduceLeDiff, Nat.reduceEqDiff, Nat.reduceBEq, Nat.reduceBneDiff, Nat.reduceMul, ↓reduceIte, Int.reduceToNat, reduceCtorEq, Int.reduceNeg, Int.reduceAdd, v1, v2, h3, m_spec_l2Good, m_spec_l12Order]
set_option maxHeartbeats 8000000 in
theorem law21_E (x y : Tm) (hfx : D.fits x.d) (hfy : D.fits y.d) : E 3 [x.sv, y.sv] [] = some (.bool true, []) := by
  have h1 := szT_Term x hfx 1048576 (by omega) (by omega)
  have q := szR_spec 1048576 x.bulk
  obtain ⟨l, hl⟩ : ∃ l, l = szR 1048576 x.bulk := ⟨_, rfl⟩
  rw [← hl] at h1 q
  rcases Int.lt_or_le l 0 with h0 | h0
  · refine E_walk k_laws_FnExactStandardOrder m_laws_FnExactStandardOrder (of_decide_eq_true rfl) ?_
    simp (disch := omega) only [c_laws_FnExactStandardOrder, go_sem, Nat.reduceAdd, Nat.reduceSub, Nat.reduceLT, Nat.reduceLeDiff, Nat.reduceEqDiff, Nat.reduceBEq, Nat.reduceBneDiff, Nat.reduceMul, ↓reduceIte, Int.reduceToNat, reduceCtorEq, Int.reduceNeg, Int.reduceAdd, h1, m_laws_szTerm]
  have h2 := szT_Term y hfy l h0 (by omega)
  have q2 := szR_spec l y.bulk
  obtain ⟨l2, hl2⟩ : ∃ l2, l2 = szR l y.bulk := ⟨_, rfl⟩
  rw [← hl2] at h2 q2
  rcases Int.lt_or_le l2 0 with h02 | h02
  · refine E_walk k_laws_FnExactStandardOrder m_laws_FnExactStandardOrder (of_decide_eq_true rfl) ?_
    simp (disch := omega) only [c_laws_FnExactStandardOrder, go_sem, Nat.reduceAdd, Nat.reduceSub, Nat.reduceLT, Nat.reduceLeDiff, Nat.reduceEqDiff, Nat.reduceBEq, Nat.reduceBneDiff, Nat.reduceMul, ↓reduceIte, Int.reduceToNat, reduceCtorEq, Int.reduceNeg, Int.reduceAdd, h1, h2, m_laws_szTerm]
  have hbx : x.bulk ≤ 1048576 := by omega
  have hby : y.bulk ≤ 1048576 := by omega
  have hnx := Tm.nodes_bulk x
  have hny := Tm.nodes_bulk y
  have t2 := toT_Term x hbx
  have t3 := toT_Term y hby
  have a1 := l2StandardOrder_E x y (by omega) (by omega)
  have a2 := standardOrder2_E x y (by omega) (by omega)
  obtain ⟨o, ho⟩ : ∃ o, o = (x.valid && y.valid) := ⟨_, rfl⟩
  rw [← ho] at a1 a2
  obtain ⟨r, hr⟩ : ∃ r : Int, r = bif o then ordO x y else 0 := ⟨_, rfl⟩
  rw [← hr] at a1 a2
  have e2 := eqT_Term x hbx
  have e3 := eqT_Term y hby
  refine E_walk k_laws_FnExactStandardOrder m_laws_FnExactStandardOrder (of_decide_eq_true rfl) ?_
  simp (disch := omega) only [c_laws_FnExactStandardOrder, go_sem, Nat.reduceAdd, Nat.reduceSub, Nat.reduceLT, Nat.reduceLeDiff, Nat.reduceEqDiff, Nat.reduceBEq, Nat.reduceBneDiff, Nat.reduceMul, ↓reduceIte, Int.reduceToNat, reduceCtorEq, Int.reduceNeg, Int.reduceAdd, h1, h2, t2, t3, a1, a2, e2, e3, dec_refl, m_laws_szTerm, m_laws_toTerm, m_spec_StandardOrder, m_impl_StandardOrder, m_laws_eqTerm, Tm.osv, Tm.obs, Tm.erss, Tm.noss]
end Go.Proofs.Ythbkkiogbikbcaa

set_option maxRecDepth 100000
set_option linter.unusedSimpArgs false
set_option linter.unusedVariables false
namespace Go.Proofs.Ythbkkiogbikbcaa
open Go.RowKit Go.ChangeShapes Go.WideShapes Go.ChangeAt Go.Deep

section
variable {H : Type} {enc : TypeId × Value → H} {P : Program} {w : World} {base : Nat} {spare : Nat → Bool} {held : Bool}

theorem addr_add_plain {b o k : Nat} : (⟨b, o, none⟩ : Addr).add k = ⟨b, o + k, none⟩ := by
  unfold Addr.add; split
  · subst_vars; rfl
  · rfl
theorem cell_lt {a : Addr} {v : Value} (h : w.cell? a = some v) : a.block < w.heap.size := by
  unfold World.cell? at h
  cases hb : w.heap[a.block]? with
  | none => rw [hb] at h; cases h
  | some o => exact (Array.getElem?_eq_some_iff.1 hb).1

/-- A slice that is read: its cells, and each element's own reading. -/
theorem open_sl {t e : TypeId} {fuel : Nat} {cs : List Value} {x : DataW H × List MemPlace} (sz : Nat) (hsz : P.cellsOf e = sz) (h0 : 0 < sz) (ht : P.underlying t = some (.slice e)) (h : DataW.trod enc P w base spare held fuel t cs = some x) :
    ∃ (a : Option Addr) (len cap : Nat) (f : Nat → Nat → Value), cs = [.slice a len cap] ∧ len ≤ cap ∧ cap ≤ 9223372036854775807 ∧ SlA w 0 sz len f a ∧
      ∀ i, i < len → ∃ n x', DataW.trod enc P w base spare held n e ((List.range sz).map (f i)) = some x' := by
  rcases open_slice ht h with ⟨hcs, _⟩ | ⟨a, len, cap, m, n, D, Pl, hcs, hb, hl, hm, hmm, hx, hi⟩
  · exact ⟨none, 0, 0, fun _ _ => undef, hcs, Nat.le_refl _, by omega, .inl rfl, fun i hi => absurd hi (by omega)⟩
  · have hlm : len ≤ m := by rw [hmm]; split <;> omega
    have hcell : ∀ i j, i < len → j < sz → ∃ v, w.cell? (a.add (i * sz + j)) = some v := by
      intro i j hil hj
      obtain ⟨cs', hc, _⟩ := hi i (by omega)
      rw [hsz] at hc
      obtain ⟨_, hcl, hat⟩ := World.cells?_some hc
      have h1 := hat j hj
      rw [Go.Deep.add_add, List.getElem?_eq_getElem (by omega)] at h1
      exact ⟨_, h1⟩
    refine ⟨some a, len, cap, fun i j => (w.cell? (a.add (i * sz + j))).getD undef, hcs, hl, hm, ?_, ?_⟩
    · rcases Nat.eq_zero_or_pos len with h | h
      · exact .inl h
      · obtain ⟨v, hv⟩ := hcell 0 0 h h0
        rw [Nat.zero_mul, Nat.zero_add] at hv
        have hsp : a.spot = none := by simpa [Addr.add] using World.cell?_spot hv
        have hlt := cell_lt hv
        obtain ⟨b, off, spot⟩ := a
        simp only at hsp
        subst hsp
        refine .inr ⟨b, off, rfl, Nat.zero_le _, by simpa [Addr.add] using hlt, fun i j hil hj => ?_⟩
        obtain ⟨v', hv'⟩ := hcell i j hil hj
        rw [addr_add_plain] at hv'
        show _ = some ((w.cell? ((⟨b, off, none⟩ : Addr).add (i * sz + j))).getD undef)
        rw [addr_add_plain, Nat.add_assoc, hv']
        rfl
    · intro i hil
      obtain ⟨cs', hc, ht'⟩ := hi i (by omega)
      rw [hsz] at hc
      obtain ⟨_, hcl, hat⟩ := World.cells?_some hc
      refine ⟨n, (D i, Pl i), ?_⟩
      · have hcs' : (List.range sz).map (fun j => (w.cell? (a.add (i * sz + j))).getD undef) = cs' := by
          apply List.ext_getElem?
          intro j
          by_cases hj : j < sz
          · rw [List.getElem?_map, List.getElem?_range hj]
            have h1 := hat j hj
            rw [Go.Deep.add_add] at h1
            rw [List.getElem?_eq_getElem (by omega : j < cs'.length)] at h1 ⊢
            simp [h1]
          · rw [List.getElem?_eq_none (by simp; omega), List.getElem?_eq_none (by omega)]
        rw [hcs']
        exact ht'

/-- A struct of one-cell fields: each field's own reading. -/
theorem open_fields {e : TypeId} {fs : Array Field} {n sz : Nat} {g : Nat → Value} {x : DataW H × List MemPlace} (he : P.underlying e = some (.struct fs)) (hone : oneCellFields P fs = true) (hs : fs.size = sz)
    (h : DataW.trod enc P w base spare held n e ((List.range sz).map g) = some x) (j : Nat) (f : Field) (hj : fs[j]? = some f) :
    ∃ n' y, DataW.trod enc P w base spare held n' f.type [g j] = some y := by
  obtain ⟨xs, n', hn, hx, hlen, hxl, hf⟩ := DataW.trod_struct he h
  obtain ⟨ho, hk⟩ := hone_of hone j f hj
  have hjl : j < fs.size := (Array.getElem?_eq_some_iff.1 hj).1
  have h1 := hf j f hj
  rw [ho, hk] at h1
  have e1 : ((((List.range sz).map g).drop j).take 1) = [g j] := by
    rw [List.drop_eq_getElem_cons (by simp; omega)]
    simp
  rw [e1, List.getElem?_eq_getElem (by omega : j < xs.length)] at h1
  exact ⟨n', _, h1⟩

theorem open_intsAt {t e : TypeId} {fuel : Nat} {v : Value} {x : DataW H × List MemPlace} (ht : P.underlying t = some (.slice e)) (he : P.underlying e = some (.int .i64)) (hc : P.cellsOf e = 1)
    (h : DataW.trod enc P w base spare held fuel t [v] = some x) : ∃ xs, IntsAt w 0 v xs ∧ ∀ n ∈ xs, (Lit.int .i64 n).wf = true := by
  obtain ⟨a, len, cap, f, hcs, hl, hm, hS, hr⟩ := open_sl 1 hc (by omega) ht h
  simp only [List.cons.injEq, and_true] at hcs
  subst hcs
  have hint : ∀ i, i < len → ∃ z, f i 0 = .int .i64 z ∧ (Lit.int .i64 z).wf = true := by
    intro i hi
    obtain ⟨n, x', h1⟩ := hr i hi
    obtain ⟨z, hz, _, hw⟩ := DataW.trod_int he h1
    simp at hz
    exact ⟨z, hz, hw⟩
  let g : Nat → Int := fun i => match f i 0 with | .int _ z => z | _ => 0
  have hg : ∀ i, i < len → f i 0 = .int .i64 (g i) ∧ (Lit.int .i64 (g i)).wf = true := by
    intro i hi
    obtain ⟨z, hz, hw⟩ := hint i hi
    have : g i = z := by show (match f i 0 with | .int _ z => z | _ => 0) = z; rw [hz]
    rw [this]; exact ⟨hz, hw⟩
  refine ⟨(List.range len).map g, ⟨a, cap, by simp, by simpa using hl, hm, ?_⟩, ?_⟩
  · have : ((List.range len).map g).length = len := by simp
    rw [this]
    refine hS.congr fun i j hi hj => ?_
    obtain rfl : j = 0 := by omega
    rw [(hg i hi).1, atZ_get (by simpa using hi)]
    simp
  · intro n hn
    simp only [List.mem_map, List.mem_range] at hn
    obtain ⟨i, hi, rfl⟩ := hn
    exact (hg i hi).2
end

section
variable {H : Type} {enc : TypeId × Value → H} {w : World} {base : Nat} {spare : Nat → Bool} {held : Bool}

end
end Go.Proofs.Ythbkkiogbikbcaa

set_option maxRecDepth 100000
set_option linter.unusedSimpArgs false
set_option linter.unusedVariables false
namespace Go.Proofs.Ythbkkiogbikbcaa
open Go.RowKit Go.ChangeShapes Go.WideShapes Go.ChangeAt Go.Deep

section
variable {H : Type} {enc : TypeId × Value → H} {P : Program} {w : World} {base : Nat} {spare : Nat → Bool} {held : Bool}

/-- A slice that is read: its cells, and each element's own reading, with less fuel. -/
theorem open_sl' {t e : TypeId} {fuel : Nat} {v : Value} {x : DataW H × List MemPlace} (sz : Nat) (hsz : P.cellsOf e = sz) (h0 : 0 < sz) (ht : P.underlying t = some (.slice e)) (h : DataW.trod enc P w base spare held fuel t [v] = some x) :
    ∃ (a : Option Addr) (len cap : Nat) (f : Nat → Nat → Value), v = .slice a len cap ∧ len ≤ cap ∧ cap ≤ 9223372036854775807 ∧ SlA w 0 sz len f a ∧
      ∀ i, i < len → ∃ n x', n < fuel ∧ DataW.trod enc P w base spare held n e ((List.range sz).map (f i)) = some x' := by
  rcases DataW.trod_slice ht h with ⟨hcs, _⟩ | ⟨a, len, cap, elems, rest, n, hf, hcs, hx, hb, hl, hm, hlen, hel, _, _⟩
  · simp only [List.cons.injEq, and_true] at hcs
    exact ⟨none, 0, 0, fun _ _ => undef, hcs, Nat.le_refl _, by omega, .inl rfl, fun i hi => absurd hi (by omega)⟩
  · have hi : ∀ i, i < len → ∃ cs' x', w.cells? base (a.add (i * sz)) sz = some cs' ∧ DataW.trod enc P w base spare held n e cs' = some x' := by
      intro i hi
      have h1 := hel i hi
      rw [hsz, List.getElem?_eq_getElem (by omega)] at h1
      obtain ⟨cs', h2, h3⟩ := Option.bind_eq_some_iff.1 h1
      exact ⟨cs', _, h2, h3⟩
    have hcell : ∀ i j, i < len → j < sz → ∃ v, w.cell? (a.add (i * sz + j)) = some v := by
      intro i j hil hj
      obtain ⟨cs', x', hc, _⟩ := hi i hil
      obtain ⟨_, hcl, hat⟩ := World.cells?_some hc
      have h1 := hat j hj
      rw [Go.Deep.add_add, List.getElem?_eq_getElem (by omega)] at h1
      exact ⟨_, h1⟩
    simp only [List.cons.injEq, and_true] at hcs
    refine ⟨some a, len, cap, fun i j => (w.cell? (a.add (i * sz + j))).getD undef, hcs, hl, hm, ?_, ?_⟩
    · rcases Nat.eq_zero_or_pos len with h | h
      · exact .inl h
      · obtain ⟨v, hv⟩ := hcell 0 0 h h0
        rw [Nat.zero_mul, Nat.zero_add] at hv
        have hsp : a.spot = none := by simpa [Addr.add] using World.cell?_spot hv
        have hlt := cell_lt hv
        obtain ⟨b, off, spot⟩ := a
        simp only at hsp
        subst hsp
        refine .inr ⟨b, off, rfl, Nat.zero_le _, by simpa [Addr.add] using hlt, fun i j hil hj => ?_⟩
        obtain ⟨v', hv'⟩ := hcell i j hil hj
        rw [addr_add_plain] at hv'
        show _ = some ((w.cell? ((⟨b, off, none⟩ : Addr).add (i * sz + j))).getD undef)
        rw [addr_add_plain, Nat.add_assoc, hv']
        rfl
    · intro i hil
      obtain ⟨cs', x', hc, ht'⟩ := hi i hil
      obtain ⟨_, hcl, hat⟩ := World.cells?_some hc
      refine ⟨n, x', by omega, ?_⟩
      have hcs' : (List.range sz).map (fun j => (w.cell? (a.add (i * sz + j))).getD undef) = cs' := by
        apply List.ext_getElem?
        intro j
        by_cases hj : j < sz
        · rw [List.getElem?_map, List.getElem?_range hj]
          have h1 := hat j hj
          rw [Go.Deep.add_add] at h1
          rw [List.getElem?_eq_getElem (by omega : j < cs'.length)] at h1 ⊢
          simp [h1]
        · rw [List.getElem?_eq_none (by simp; omega), List.getElem?_eq_none (by omega)]
      rw [hcs']
      exact ht'
/-- A struct that is read: each field's own reading, with less fuel. -/
theorem open_st' {t : TypeId} {fs : Array Field} {fuel : Nat} {cs : List Value} {x : DataW H × List MemPlace} (ht : P.underlying t = some (.struct fs)) (h : DataW.trod enc P w base spare held fuel t cs = some x) :
    ∃ n, n < fuel ∧ cs.length = P.cellsOf t ∧ ∀ (i : Nat) (f : Field), fs[i]? = some f → ∃ y, DataW.trod enc P w base spare held n f.type ((cs.drop f.offset).take (P.cellsOf f.type)) = some y := by
  obtain ⟨xs, n, hn, hx, hlen, hxl, hf⟩ := DataW.trod_struct ht h
  refine ⟨n, by omega, hlen, fun i f hi => ?_⟩
  have hil : i < fs.size := (Array.getElem?_eq_some_iff.1 hi).1
  have h1 := hf i f hi
  rw [List.getElem?_eq_getElem (by omega : i < xs.length)] at h1
  exact ⟨_, h1⟩
end

/-- Leaves that are read, one by one. -/
inductive Lvs (w : World) : List D → List Value → Prop
  | nil : Lvs w [] []
  | cons {d : D} {v : Value} {ds : List D} {vs : List Value} (h : DAt w d v) (hs : Lvs w ds vs) : Lvs w (d :: ds) (v :: vs)
theorem Lvs.len {w : World} {ds : List D} {vs : List Value} (h : Lvs w ds vs) : ds.length = vs.length := by
  induction h with
  | nil => rfl
  | cons h hs ih => simp [ih]
theorem Lvs.get {w : World} {ds : List D} {vs : List Value} (h : Lvs w ds vs) : ∀ j (h1 : j < ds.length) (h2 : j < vs.length), DAt w ds[j] vs[j] := by
  induction h with
  | nil => intro j h1; simp at h1
  | cons h hs ih =>
    intro j h1 h2
    cases j with
    | zero => exact h
    | succ j => exact ih j (by simpa using h1) (by simpa using h2)
theorem open_arr {α : Type} [Inhabited α] (dd : α → List D) {w : World} {m len cap : Nat} {f : Nat → Nat → Value} {a : Option Addr} (hl : len ≤ cap) (hm : cap ≤ 9223372036854775807) (hS : SlA w 0 m len f a)
    (hel : ∀ i, i < len → ∃ X : α, Lvs w (dd X) ((List.range m).map (f i))) : ∃ xs : List α, DAt w (.arr (xs.map dd)) (.slice a len cap) := by
  obtain ⟨g, hg⟩ : ∃ g : Nat → α, ∀ i, i < len → Lvs w (dd (g i)) ((List.range m).map (f i)) :=
    ⟨fun i => if h : i < len then (hel i h).choose else default, fun i hi => by simp only [hi, dif_pos]; exact (hel i hi).choose_spec⟩
  refine ⟨(List.range len).map g, ?_⟩
  have hlen : (((List.range len).map g).map dd).length = len := by simp
  have := DAt.arr_mk (w := w) (es := ((List.range len).map g).map dd) (sz := m) (cap := cap) (a := a) (f := f) (by rw [hlen]; exact hl) hm (by rw [hlen]; exact hS) (fun i hi => by
    rw [hlen] at hi
    have := (hg i hi).len
    simpa using this) (fun i j hi hj => by
    rw [hlen] at hi
    have h1 := hg i hi
    have h2 := h1.len
    simp only [List.length_map, List.length_range] at h2
    simp only [List.getElem_map, List.getElem_range] at hj ⊢
    have := h1.get j hj (by simp; omega)
    simpa using this)
  rw [hlen] at this
  exact this
instance : Inhabited Tm := ⟨Tm.zero⟩
instance : Inhabited Fm := ⟨Fm.zero⟩

section
variable {H : Type} {enc : TypeId × Value → H} {w : World} {base : Nat} {spare : Nat → Bool} {held : Bool}
theorem open_term_of {fuel : Nat} (ih : ∀ n, n < fuel → ∀ v x, DataW.trod enc Try.prog w base spare held n 22 [v] = some x → ∃ xs, TmsAt w xs v) {cs : List Value} {x : DataW H × List MemPlace}
    (h : DataW.trod enc Try.prog w base spare held fuel 24 cs = some x) : ∃ X : Tm, Lvs w X.d cs := by
  obtain ⟨n, hn, hlen, hf⟩ := open_st' Try.underlying24 h
  rw [show Try.prog.cellsOf 24 = 2 by kernel_rfl] at hlen
  match cs, hlen with
  | [c0, c1], _ =>
    obtain ⟨y0, k0⟩ := hf 0 _ rfl
    obtain ⟨y1, k1⟩ := hf 1 _ rfl
    obtain ⟨s, hs, _, hsz⟩ := DataW.trod_string Try.underlying9 k0
    have e1 : (([c0, c1].drop 1).take (Try.prog.cellsOf 22)) = [c1] := by rw [show Try.prog.cellsOf 22 = 1 by kernel_rfl]; rfl
    have e0 : (([c0, c1].drop 0).take (Try.prog.cellsOf 9)) = [c0] := by rw [show Try.prog.cellsOf 9 = 1 by kernel_rfl]; rfl
    obtain ⟨xs, hxs⟩ := ih n hn c1 y1 (by rw [← e1]; exact k1)
    have hs' : c0 = .string s := by
      have : [c0] = [.string s] := by rw [← e0]; exact hs
      simpa using this
    subst hs'
    exact ⟨.mk s xs, by rw [Tm.d_eq]; exact .cons (.str _ s hsz) (.cons hxs .nil)⟩
theorem open_terms_all : ∀ (fuel : Nat) (v : Value) (x : DataW H × List MemPlace), DataW.trod enc Try.prog w base spare held fuel 22 [v] = some x → ∃ xs, TmsAt w xs v := by
  intro fuel
  induction fuel using Nat.strongRecOn with
  | _ fuel ih =>
    intro v x h
    obtain ⟨a, len, cap, f, rfl, hl, hm, hS, hr⟩ := open_sl' (P := Try.prog) 2 (by kernel_rfl) (by omega) Try.underlying22 h
    exact open_arr Tm.d hl hm hS fun i hi => by
      obtain ⟨n, x', hn, h1⟩ := hr i hi
      exact open_term_of (fun n' hn' => ih n' (by omega)) h1
theorem open_term {fuel : Nat} {cs : List Value} {x : DataW H × List MemPlace} (h : DataW.trod enc Try.prog w base spare held fuel 24 cs = some x) : ∃ X : Tm, Lvs w X.d cs :=
  open_term_of (fun n _ => open_terms_all n) h
end
end Go.Proofs.Ythbkkiogbikbcaa

set_option maxRecDepth 100000
set_option linter.unusedSimpArgs false
set_option linter.unusedVariables false
namespace Go.Proofs.Ythbkkiogbikbcaa
open Go.RowKit

theorem DRep.lt_ {own : Bool} {w : World} {S : Nat → Prop} {d : D} {v : Value} (h : DRep own w S d v) : DRep own w (fun b => S b ∧ b < w.heap.size) d v := by
  induction h with
  | int S n => exact .int _ n
  | bool S b => exact .bool _ b
  | str S s h => exact .str _ s h
  | arr S sz es a cap f Sub h1 h2 h3 h4 h5 h6 h7 ih =>
    refine .arr _ sz es a cap f (fun i j x => Sub i j x ∧ x < w.heap.size) h1 h2 ?_ h4 (fun i j x h => ⟨h5 i j x h.1, h.2⟩) (fun ho i j i' j' x h h' => h6 ho i j i' j' x h.1 h'.1) ih
    rcases h3 with h3 | ⟨b, off, ha, hS, hl, hc, ho⟩
    · exact .inl h3
    · exact .inr ⟨b, off, ha, ⟨hS, hl⟩, hl, hc, fun h => ⟨fun i j hx => (ho h).1 i j hx.1, (ho h).2⟩⟩
theorem DAt.rep {w : World} {es : List (List D)} {v : Value} (h : DAt w (.arr es) v) : RepV w (fun b => b < w.heap.size) (fun _ => none) (.arr es) v := by
  simp only [RepV]
  exact (DRep.lt_ h).up fun b hb => hb.2
/-- A law's function that says yes. -/
theorem Fun.yes {f : FuncId} {args : List SV} (h : Fun Try.prog f args [] (.bool true) []) {w : World} {vs : List Value} (hvs : RepVs w (fun b => b < w.heap.size) (fun _ => none) args vs) : Calls Try.prog f vs.toArray w (Ret w (.bool true)) := by
  have nl : ∀ g, ¬ (geto [] g).live := fun g hg => by simp [geto, Ob.live] at hg
  refine (h w (fun b => b < w.heap.size) (fun _ => none) (fun _ _ => False) vs ⟨fun b hb => hb, fun g hg => absurd hg (nl g), fun g b hg => absurd hg (nl g), fun g b hg => absurd hg (nl g), fun g g' b hg => absurd hg (nl g), fun g _ => rfl⟩ hvs).mono ?_
  rintro e w' ⟨v, I', V', B', rfl, hr, hp⟩
  simp only [RepV] at hr
  subst hr
  exact ⟨rfl, hp.fr.os, hp.fr.tape, hp.fr.output, hp.fr.size, fun b hb => hp.fr.block b hb fun ⟨g, hg, _⟩ => absurd hg (nl g)⟩

theorem lvs_cons {w : World} {d : D} {ds : List D} {v : Value} {vs : List Value} (h : Lvs w (d :: ds) (v :: vs)) : DAt w d v ∧ Lvs w ds vs := by
  cases h with
  | cons h1 h2 => exact ⟨h1, h2⟩
theorem DAt.rep_sv {w : World} {d : D} {v : Value} (h : DAt w d v) : RepV w (fun b => b < w.heap.size) (fun _ => none) d.sv v :=
  D.rep_sv ((DRep.lt_ h).up fun b hb => hb.2)
theorem Lvs.reps {w : World} {ds : List D} {vs : List Value} (h : Lvs w ds vs) : RepVs w (fun b => b < w.heap.size) (fun _ => none) (ds.map D.sv) vs := by
  induction h with
  | nil => simp [RepVs]
  | cons h hs ih => simp only [List.map_cons, RepVs]; exact ⟨_, _, rfl, h.rep_sv, ih⟩
theorem Lvs.agg {w : World} {ds : List D} {vs : List Value} (h : Lvs w ds vs) : RepV w (fun b => b < w.heap.size) (fun _ => none) (.agg (ds.map D.sv)) (.agg vs.toArray) := by
  simp only [RepV]; exact ⟨vs, rfl, h.reps⟩
theorem Lvs.fits {w : World} {ds : List D} {vs : List Value} (h : Lvs w ds vs) : D.fits ds := by
  induction h with
  | nil => trivial
  | cons h hs ih => exact ⟨DRep.fit h, ih⟩
theorem DAt.fit {w : World} {d : D} {v : Value} (h : DAt w d v) : D.fit d := DRep.fit h
theorem args_nil {w : World} {I : Nat → Prop} {V : Nat → Option Value} : RepVs w I V [] [] := by simp [RepVs]
theorem args_more {w : World} {I : Nat → Prop} {V : Nat → Option Value} {x : SV} {xs : List SV} {v : Value} {vs : List Value} (h : RepV w I V x v) (hs : RepVs w I V xs vs) : RepVs w I V (x :: xs) (v :: vs) := by
  simp only [RepVs]; exact ⟨v, vs, rfl, h, hs⟩
section
variable {H : Type} {enc : TypeId × Value → H} {w : World} {base : Nat} {spare : Nat → Bool} {held : Bool}
theorem opn_Term_of {fuel : Nat} (ih : ∀ n, n < fuel → ∀ v x, DataW.trod enc Try.prog w base spare held n 22 [v] = some x → ∃ xs : List Tm, DAt w (.arr (xs.map Tm.d)) v) {cs : List Value} {x : DataW H × List MemPlace} (h : DataW.trod enc Try.prog w base spare held fuel 24 cs = some x) : ∃ X : Tm, Lvs w X.d cs := by
  obtain ⟨n, hn, hlen, hf⟩ := open_st' Try.underlying24 h
  rw [show Try.prog.cellsOf 24 = 2 by kernel_rfl] at hlen
  match cs, hlen with
  | [c0, c1], _ =>
    obtain ⟨y0, k0⟩ := hf 0 _ rfl
    have e0 : (([c0, c1].drop 0).take (Try.prog.cellsOf 9)) = [c0] := by rw [show Try.prog.cellsOf 9 = 1 by kernel_rfl]; rfl
    obtain ⟨z0, q0, _, s0⟩ := DataW.trod_string Try.underlying9 k0
    have q0' : c0 = .string z0 := by
      have : [c0] = [.string z0] := by rw [← e0]; exact q0
      simpa using this
    obtain ⟨y1, k1⟩ := hf 1 _ rfl
    have e1 : (([c0, c1].drop 1).take (Try.prog.cellsOf 22)) = [c1] := by rw [show Try.prog.cellsOf 22 = 1 by kernel_rfl]; rfl
    have k1' : DataW.trod enc Try.prog w base spare held n 22 [c1] = some y1 := by rw [← e1]; exact k1
    obtain ⟨z1, g1⟩ := ih n hn c1 y1 k1'
    subst q0'
    exact ⟨.mk z0 z1, by rw [Tm.d_eq]; exact (.cons (.str _ z0 s0) (.cons g1 .nil))⟩
theorem opnS_Term_all : ∀ (fuel : Nat) (v : Value) (x : DataW H × List MemPlace), DataW.trod enc Try.prog w base spare held fuel 22 [v] = some x → ∃ xs : List Tm, DAt w (.arr (xs.map Tm.d)) v := by
  intro fuel
  induction fuel using Nat.strongRecOn with
  | _ fuel ih =>
    intro v x h
    obtain ⟨a, len, cap, f, rfl, hl, hm, hS, hr⟩ := open_sl' (P := Try.prog) 2 (by kernel_rfl) (by omega) Try.underlying22 h
    exact open_arr Tm.d hl hm hS fun i hi => by
      obtain ⟨n, x', hn, h1⟩ := hr i hi
      exact opn_Term_of (fun n' hn' => ih n' (by omega)) h1
theorem opn_Term {fuel : Nat} {cs : List Value} {x : DataW H × List MemPlace} (h : DataW.trod enc Try.prog w base spare held fuel 24 cs = some x) : ∃ X : Tm, Lvs w X.d cs :=
  opn_Term_of (fun n _ => opnS_Term_all n) h
theorem opnS_Term {fuel : Nat} {v : Value} {x : DataW H × List MemPlace} (h : DataW.trod enc Try.prog w base spare held fuel 22 [v] = some x) : ∃ xs : List Tm, DAt w (.arr (xs.map Tm.d)) v := by
  exact opnS_Term_all fuel v x h
end
end Go.Proofs.Ythbkkiogbikbcaa
