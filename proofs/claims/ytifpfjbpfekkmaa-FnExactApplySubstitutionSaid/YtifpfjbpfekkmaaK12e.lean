/-
  This text holds, one behind the other: This text tells what the laws' copying functions answer. No condition.
  This text tells what the laws' comparing functions answer. No condition.
  This text tells what the law of ApplySubstitution answers. No condition.
  This text opens arguments: slices of integers, of structs, of tables: what is read as data lies in memory as our words say. No condition.
  This text opens arguments: what is read as data, terms and formulas, lies in memory as our words say. No condition.
  This text turns a function's answer into a walk of the kit's form, and opens arguments that are clauses. No condition.
-/
import Derived.Test.YtifpfjbpfekkmaaK12c
import Derived.Test.YtifpfjbpfekkmaaK12d
import Derived.ProofKit
import Derived.Deep.Slices
import Derived.Deep.Fields
import Derived.ChangeSame
import Derived.OpenShut
import Derived.ShutString
import Derived.ChangeOld
set_option maxRecDepth 100000
set_option linter.unusedSimpArgs false
set_option linter.unusedVariables false
namespace Go.Proofs.Ytifpfjbpfekkmaa
open Go.RowKit

def c_laws_toTerm : SC := (.seq (.reg [⟨(some 1), none, (.boxv 56 2 (.t 0))⟩, ⟨(some 2), none, (.alloc 67 [(.str ⟨#[]⟩), .nil])⟩]) (.seq (.reg [⟨(some 3), none, (.alloc 67 [(.str ⟨#[]⟩), .nil])⟩]) (.seq (.reg [⟨(some 4), none, (.faddr 0 (.t 1))⟩, ⟨(some 5), none, (.load false 1 (.t 4))⟩, ⟨(some 6), none, (.faddr 0 (.t 3))⟩, ⟨none, none, (.store 1 (.t 6) (.t 5))⟩]) (.seq (.reg [⟨(some 7), none, (.faddr 1 (.t 1))⟩, ⟨(some 8), none, (.load false 1 (.t 7))⟩, ⟨(some 9), none, (.call 87 [(.t 8)])⟩, ⟨(some 10), none, (.faddr 1 (.t 3))⟩, ⟨none, none, (.store 1 (.t 10) (.t 9))⟩]) (.seq (.reg [⟨(some 11), none, (.load true 2 (.t 3))⟩, ⟨none, none, (.store 2 (.t 2) (.t 11))⟩]) .ret)))))
theorem k_laws_toTerm : codeOf Try.prog 32 = some ⟨12, c_laws_toTerm, [(.cell 2 true 2)]⟩ := by kernel_rfl
theorem m_laws_toTerm : modes 32 = ⟨[], .asis, none, false⟩ := by unfold modes; rfl
def c_laws_toTermS : SC := (.seq (.reg [⟨(some 2), none, (.mv (.c .nil))⟩]) (.seq (.reg [⟨(some 5), none, (.mv (.t 0))⟩, ⟨(some 6), none, (.len false (.t 5))⟩, ⟨(some 7), none, (.mkslice 67 2 40 [(.str ⟨#[]⟩), .nil] (.t 6))⟩, ⟨(some 3), none, (.mv (.t 7))⟩]) (.seq (.seq (.reg [⟨(some 4), none, (.mv (.c (.int .i64 0)))⟩]) (.block 0 (.loop [1, 0, 0, 1, 1, 0, 0, 0, 0, 0, 0, 0, 0, 0, 0, 0, 0, 0, 0, 0, 0, 0, 0] (.seq (.seq (.reg [⟨(some 8), none, (.mv (.t 4))⟩, ⟨(some 9), none, (.mv (.t 0))⟩, ⟨(some 10), none, (.len false (.t 9))⟩, ⟨(some 11), none, (.bin .lss false (.t 8) (.t 10))⟩]) (.cond (.t 11) .skip (.exit 0))) (.seq (.block 1 (.reg [⟨(some 14), none, (.mv (.t 3))⟩, ⟨(some 15), none, (.mv (.t 4))⟩, ⟨(some 16), none, (.mv (.t 0))⟩, ⟨(some 17), none, (.mv (.t 4))⟩, ⟨(some 18), none, (.iaddr 2 (.t 16) (.t 17))⟩, ⟨(some 19), none, (.load true 2 (.t 18))⟩, ⟨(some 20), none, (.call 32 [(.t 19)])⟩, ⟨(some 21), none, (.iaddr 2 (.t 14) (.t 15))⟩, ⟨none, none, (.store 2 (.t 21) (.t 20))⟩])) (.reg [⟨(some 12), none, (.mv (.t 4))⟩, ⟨(some 13), none, (.bin .add false (.t 12) (.c (.int .i64 1)))⟩, ⟨(some 4), none, (.mv (.t 13))⟩])))))) (.seq (.reg [⟨(some 22), none, (.mv (.t 3))⟩, ⟨(some 2), none, (.mv (.t 22))⟩]) .ret))))
theorem k_laws_toTermS : codeOf Try.prog 87 = some ⟨23, c_laws_toTermS, [(.tmp 2)]⟩ := by kernel_rfl
theorem m_laws_toTermS : modes 87 = ⟨[], .asis, none, false⟩ := by unfold modes; rfl
abbrev ToT_Term (x : Tm) : Prop := x.bulk ≤ 1048576 → E 32 [x.sv] [] = some (x.osv, x.obs)
abbrev ToTS_Term (xs : List Tm) : Prop := xs.length + Tm.sumB xs ≤ 1048576 → E 87 [.arr (xs.map Tm.d)] [] = some (.ref 0, [.row 67 2 (xs.map Tm.o)])
set_option maxHeartbeats 1000000 in
theorem toTS_Term_of (xs : List Tm) (h : ∀ x ∈ xs, ToT_Term x) : ToTS_Term xs := by
  intro hb
  refine E_walk k_laws_toTermS m_laws_toTermS (of_decide_eq_true rfl) ?_
  simp (disch := omega) only [c_laws_toTermS, go_sem, Nat.reduceAdd, Nat.reduceSub, Nat.reduceLT, Nat.reduceLeDiff, Nat.reduceEqDiff, Nat.reduceBEq, Nat.reduceBneDiff, Nat.reduceMul, ↓reduceIte, Int.reduceToNat, reduceCtorEq, Int.reduceNeg, Int.reduceAdd]
  refine go_loop (α := Int) (fun i => ⟨slots 23 0 [(0, .arr (xs.map Tm.d)), (3, .ref 0), (4, .int .i64 i)], [.row 67 2 (fillR Tm.o [.str ⟨#[]⟩, .ow []] xs i.toNat)]⟩) (fun i => ∃ k : Nat, i = k ∧ k ≤ xs.length) (fun i => xs.length - i.toNat) 0 ⟨0, rfl, Nat.zero_le _⟩ (by simp (disch := omega) only [go_sem, Nat.reduceAdd, Nat.reduceSub, Nat.reduceLT, Nat.reduceLeDiff, Nat.reduceEqDiff, Nat.reduceBEq, Nat.reduceBneDiff, Nat.reduceMul, ↓reduceIte, Int.reduceToNat, reduceCtorEq, Int.reduceNeg, Int.reduceAdd, fillR_zero, Int.toNat_zero]) ?_
  · rintro i ⟨k, rfl, hk⟩
    obtain ⟨i, hi⟩ : ∃ i : Int, i = (k : Int) := ⟨_, rfl⟩
    rw [← hi]
    have hn : i.toNat = k := by omega
    have hn1 : (i + 1).toNat = k + 1 := by omega
    rcases Nat.lt_or_ge k xs.length with hlt | hge
    · have hg := get_at Tm.d hlt
      rw [Tm.d_eq] at hg
      have hz := fillR_get Tm.o [.str ⟨#[]⟩, .ow []] hlt
      have hle := Tm.bulk_le xs k hlt
      have hc := h xs[k] (List.getElem_mem hlt) (by omega)
      have hs := fillR_set Tm.o [.str ⟨#[]⟩, .ow []] hlt
      rw [Tm.o_eq] at hs
      simp (disch := omega) only [go_sem, Nat.reduceAdd, Nat.reduceSub, Nat.reduceLT, Nat.reduceLeDiff, Nat.reduceEqDiff, Nat.reduceBEq, Nat.reduceBneDiff, Nat.reduceMul, ↓reduceIte, Int.reduceToNat, reduceCtorEq, Int.reduceNeg, Int.reduceAdd, hn, hg, hc, hz, fillR_len, m_laws_toTerm, Tm.osv, Tm.obs]
      refine ⟨i + 1, ⟨k + 1, by omega, hlt⟩, by omega, ?_⟩
      simp (disch := omega) only [go_sem, Nat.reduceAdd, Nat.reduceSub, Nat.reduceLT, Nat.reduceLeDiff, Nat.reduceEqDiff, Nat.reduceBEq, Nat.reduceBneDiff, Nat.reduceMul, ↓reduceIte, Int.reduceToNat, reduceCtorEq, Int.reduceNeg, Int.reduceAdd, hn1, hs]
    · obtain rfl : k = xs.length := by omega
      simp (disch := omega) only [go_sem, Nat.reduceAdd, Nat.reduceSub, Nat.reduceLT, Nat.reduceLeDiff, Nat.reduceEqDiff, Nat.reduceBEq, Nat.reduceBneDiff, Nat.reduceMul, ↓reduceIte, Int.reduceToNat, reduceCtorEq, Int.reduceNeg, Int.reduceAdd, hn, fillR_end]
set_option maxHeartbeats 1000000 in
theorem toT_Term_of (x : Tm) (h_args : ToTS_Term x.args) : ToT_Term x := by
  intro hb
  have qb := Tm.bulk_eq x
  replace h_args := h_args (by omega)
  refine E_walk k_laws_toTerm m_laws_toTerm (of_decide_eq_true rfl) ?_
  simp (disch := omega) only [c_laws_toTerm, go_sem, Nat.reduceAdd, Nat.reduceSub, Nat.reduceLT, Nat.reduceLeDiff, Nat.reduceEqDiff, Nat.reduceBEq, Nat.reduceBneDiff, Nat.reduceMul, ↓reduceIte, Int.reduceToNat, reduceCtorEq, Int.reduceNeg, Int.reduceAdd, h_args, m_laws_toTermS]
theorem toT_Term (x : Tm) : ToT_Term x := toT_Term_of x (toTS_Term_of x.args fun y hy => toT_Term y)
termination_by SizeOf.sizeOf x
decreasing_by exact Tm.lt_of_mem hy
theorem toTS_Term (xs : List Tm) : ToTS_Term xs := toTS_Term_of xs fun x _ => toT_Term x
def c_laws_toFormula : SC := (.seq (.reg [⟨(some 1), none, (.boxv 86 5 (.t 0))⟩, ⟨(some 2), none, (.alloc 90 [(.int .i64 0), (.str ⟨#[]⟩), .nil, (.str ⟨#[]⟩), .nil])⟩]) (.seq (.reg [⟨(some 3), none, (.alloc 90 [(.int .i64 0), (.str ⟨#[]⟩), .nil, (.str ⟨#[]⟩), .nil])⟩]) (.seq (.reg [⟨(some 4), none, (.faddr 0 (.t 1))⟩, ⟨(some 5), none, (.load false 1 (.t 4))⟩, ⟨(some 6), none, (.faddr 0 (.t 3))⟩, ⟨none, none, (.store 1 (.t 6) (.t 5))⟩]) (.seq (.reg [⟨(some 7), none, (.faddr 1 (.t 1))⟩, ⟨(some 8), none, (.load true 2 (.t 7))⟩, ⟨(some 9), none, (.call 32 [(.t 8)])⟩, ⟨(some 10), none, (.faddr 1 (.t 3))⟩, ⟨none, none, (.store 2 (.t 10) (.t 9))⟩]) (.seq (.reg [⟨(some 11), none, (.faddr 3 (.t 1))⟩, ⟨(some 12), none, (.load false 1 (.t 11))⟩, ⟨(some 13), none, (.faddr 3 (.t 3))⟩, ⟨none, none, (.store 1 (.t 13) (.t 12))⟩]) (.seq (.reg [⟨(some 14), none, (.faddr 4 (.t 1))⟩, ⟨(some 15), none, (.load false 1 (.t 14))⟩, ⟨(some 16), none, (.call 108 [(.t 15)])⟩, ⟨(some 17), none, (.faddr 4 (.t 3))⟩, ⟨none, none, (.store 1 (.t 17) (.t 16))⟩]) (.seq (.reg [⟨(some 18), none, (.load true 5 (.t 3))⟩, ⟨none, none, (.store 5 (.t 2) (.t 18))⟩]) .ret)))))))
theorem k_laws_toFormula : codeOf Try.prog 48 = some ⟨19, c_laws_toFormula, [(.cell 2 true 5)]⟩ := by kernel_rfl
theorem m_laws_toFormula : modes 48 = ⟨[], .asis, none, false⟩ := by unfold modes; rfl
def c_laws_toFormulaS : SC := (.seq (.reg [⟨(some 2), none, (.mv (.c .nil))⟩]) (.seq (.reg [⟨(some 5), none, (.mv (.t 0))⟩, ⟨(some 6), none, (.len false (.t 5))⟩, ⟨(some 7), none, (.mkslice 90 5 88 [(.int .i64 0), (.str ⟨#[]⟩), .nil, (.str ⟨#[]⟩), .nil] (.t 6))⟩, ⟨(some 3), none, (.mv (.t 7))⟩]) (.seq (.seq (.reg [⟨(some 4), none, (.mv (.c (.int .i64 0)))⟩]) (.block 0 (.loop [1, 0, 0, 1, 1, 0, 0, 0, 0, 0, 0, 0, 0, 0, 0, 0, 0, 0, 0, 0, 0, 0, 0] (.seq (.seq (.reg [⟨(some 8), none, (.mv (.t 4))⟩, ⟨(some 9), none, (.mv (.t 0))⟩, ⟨(some 10), none, (.len false (.t 9))⟩, ⟨(some 11), none, (.bin .lss false (.t 8) (.t 10))⟩]) (.cond (.t 11) .skip (.exit 0))) (.seq (.block 1 (.reg [⟨(some 14), none, (.mv (.t 3))⟩, ⟨(some 15), none, (.mv (.t 4))⟩, ⟨(some 16), none, (.mv (.t 0))⟩, ⟨(some 17), none, (.mv (.t 4))⟩, ⟨(some 18), none, (.iaddr 5 (.t 16) (.t 17))⟩, ⟨(some 19), none, (.load true 5 (.t 18))⟩, ⟨(some 20), none, (.call 48 [(.t 19)])⟩, ⟨(some 21), none, (.iaddr 5 (.t 14) (.t 15))⟩, ⟨none, none, (.store 5 (.t 21) (.t 20))⟩])) (.reg [⟨(some 12), none, (.mv (.t 4))⟩, ⟨(some 13), none, (.bin .add false (.t 12) (.c (.int .i64 1)))⟩, ⟨(some 4), none, (.mv (.t 13))⟩])))))) (.seq (.reg [⟨(some 22), none, (.mv (.t 3))⟩, ⟨(some 2), none, (.mv (.t 22))⟩]) .ret))))
theorem k_laws_toFormulaS : codeOf Try.prog 108 = some ⟨23, c_laws_toFormulaS, [(.tmp 2)]⟩ := by kernel_rfl
theorem m_laws_toFormulaS : modes 108 = ⟨[], .asis, none, false⟩ := by unfold modes; rfl
abbrev ToT_Formula (x : Fm) : Prop := x.bulk ≤ 1048576 → E 48 [x.sv] [] = some (x.osv, x.obs)
abbrev ToTS_Formula (xs : List Fm) : Prop := xs.length + Fm.sumB xs ≤ 1048576 → E 108 [.arr (xs.map Fm.d)] [] = some (.ref 0, [.row 90 5 (xs.map Fm.o)])
set_option maxHeartbeats 1000000 in
theorem toTS_Formula_of (xs : List Fm) (h : ∀ x ∈ xs, ToT_Formula x) : ToTS_Formula xs := by
  intro hb
  refine E_walk k_laws_toFormulaS m_laws_toFormulaS (of_decide_eq_true rfl) ?_
  simp (disch := omega) only [c_laws_toFormulaS, go_sem, Nat.reduceAdd, Nat.reduceSub, Nat.reduceLT, Nat.reduceLeDiff, Nat.reduceEqDiff, Nat.reduceBEq, Nat.reduceBneDiff, Nat.reduceMul, ↓reduceIte, Int.reduceToNat, reduceCtorEq, Int.reduceNeg, Int.reduceAdd]
  refine go_loop (α := Int) (fun i => ⟨slots 23 0 [(0, .arr (xs.map Fm.d)), (3, .ref 0), (4, .int .i64 i)], [.row 90 5 (fillR Fm.o [.int 0, .str ⟨#[]⟩, .ow [], .str ⟨#[]⟩, .ow []] xs i.toNat)]⟩) (fun i => ∃ k : Nat, i = k ∧ k ≤ xs.length) (fun i => xs.length - i.toNat) 0 ⟨0, rfl, Nat.zero_le _⟩ (by simp (disch := omega) only [go_sem, Nat.reduceAdd, Nat.reduceSub, Nat.reduceLT, Nat.reduceLeDiff, Nat.reduceEqDiff, Nat.reduceBEq, Nat.reduceBneDiff, Nat.reduceMul, ↓reduceIte, Int.reduceToNat, reduceCtorEq, Int.reduceNeg, Int.reduceAdd, fillR_zero, Int.toNat_zero]) ?_
  · rintro i ⟨k, rfl, hk⟩
    obtain ⟨i, hi⟩ : ∃ i : Int, i = (k : Int) := ⟨_, rfl⟩
    rw [← hi]
    have hn : i.toNat = k := by omega
    have hn1 : (i + 1).toNat = k + 1 := by omega
    rcases Nat.lt_or_ge k xs.length with hlt | hge
    · have hg := get_at Fm.d hlt
      rw [Fm.d_eq] at hg
      have hz := fillR_get Fm.o [.int 0, .str ⟨#[]⟩, .ow [], .str ⟨#[]⟩, .ow []] hlt
      have hle := Fm.bulk_le xs k hlt
      have hc := h xs[k] (List.getElem_mem hlt) (by omega)
      have hs := fillR_set Fm.o [.int 0, .str ⟨#[]⟩, .ow [], .str ⟨#[]⟩, .ow []] hlt
      rw [Fm.o_eq] at hs
      simp (disch := omega) only [go_sem, Nat.reduceAdd, Nat.reduceSub, Nat.reduceLT, Nat.reduceLeDiff, Nat.reduceEqDiff, Nat.reduceBEq, Nat.reduceBneDiff, Nat.reduceMul, ↓reduceIte, Int.reduceToNat, reduceCtorEq, Int.reduceNeg, Int.reduceAdd, hn, hg, hc, hz, fillR_len, m_laws_toFormula, Fm.osv, Fm.obs]
      refine ⟨i + 1, ⟨k + 1, by omega, hlt⟩, by omega, ?_⟩
      simp (disch := omega) only [go_sem, Nat.reduceAdd, Nat.reduceSub, Nat.reduceLT, Nat.reduceLeDiff, Nat.reduceEqDiff, Nat.reduceBEq, Nat.reduceBneDiff, Nat.reduceMul, ↓reduceIte, Int.reduceToNat, reduceCtorEq, Int.reduceNeg, Int.reduceAdd, hn1, hs]
    · obtain rfl : k = xs.length := by omega
      simp (disch := omega) only [go_sem, Nat.reduceAdd, Nat.reduceSub, Nat.reduceLT, Nat.reduceLeDiff, Nat.reduceEqDiff, Nat.reduceBEq, Nat.reduceBneDiff, Nat.reduceMul, ↓reduceIte, Int.reduceToNat, reduceCtorEq, Int.reduceNeg, Int.reduceAdd, hn, fillR_end]
set_option maxHeartbeats 1000000 in
theorem toT_Formula_of (x : Fm) (h_atom : ToT_Term x.atom) (h_parts : ToTS_Formula x.parts) : ToT_Formula x := by
  intro hb
  have qb := Fm.bulk_eq x
  replace h_atom := h_atom (by omega)
  replace h_parts := h_parts (by omega)
  refine E_walk k_laws_toFormula m_laws_toFormula (of_decide_eq_true rfl) ?_
  simp (disch := omega) only [c_laws_toFormula, go_sem, Nat.reduceAdd, Nat.reduceSub, Nat.reduceLT, Nat.reduceLeDiff, Nat.reduceEqDiff, Nat.reduceBEq, Nat.reduceBneDiff, Nat.reduceMul, ↓reduceIte, Int.reduceToNat, reduceCtorEq, Int.reduceNeg, Int.reduceAdd, h_atom, m_laws_toTerm, h_parts, m_laws_toFormulaS]
theorem toT_Formula (x : Fm) : ToT_Formula x := toT_Formula_of x (toT_Term x.atom) (toTS_Formula_of x.parts fun y hy => toT_Formula y)
termination_by SizeOf.sizeOf x
decreasing_by exact Fm.lt_of_mem hy
theorem toTS_Formula (xs : List Fm) : ToTS_Formula xs := toTS_Formula_of xs fun x _ => toT_Formula x
def c_laws_toLiteral : SC := (.seq (.reg [⟨(some 1), none, (.boxv 187 3 (.t 0))⟩, ⟨(some 2), none, (.alloc 78 [(.bool false), (.str ⟨#[]⟩), .nil])⟩]) (.seq (.reg [⟨(some 3), none, (.alloc 78 [(.bool false), (.str ⟨#[]⟩), .nil])⟩]) (.seq (.reg [⟨(some 4), none, (.faddr 0 (.t 1))⟩, ⟨(some 5), none, (.load false 1 (.t 4))⟩, ⟨(some 6), none, (.faddr 0 (.t 3))⟩, ⟨none, none, (.store 1 (.t 6) (.t 5))⟩]) (.seq (.reg [⟨(some 7), none, (.faddr 1 (.t 1))⟩, ⟨(some 8), none, (.load true 2 (.t 7))⟩, ⟨(some 9), none, (.call 32 [(.t 8)])⟩, ⟨(some 10), none, (.faddr 1 (.t 3))⟩, ⟨none, none, (.store 2 (.t 10) (.t 9))⟩]) (.seq (.reg [⟨(some 11), none, (.load true 3 (.t 3))⟩, ⟨none, none, (.store 3 (.t 2) (.t 11))⟩]) .ret)))))
theorem k_laws_toLiteral : codeOf Try.prog 155 = some ⟨12, c_laws_toLiteral, [(.cell 2 true 3)]⟩ := by kernel_rfl
theorem m_laws_toLiteral : modes 155 = ⟨[], .asis, none, false⟩ := by unfold modes; rfl
def c_laws_toLiteralS : SC := (.seq (.reg [⟨(some 2), none, (.mv (.c .nil))⟩]) (.seq (.reg [⟨(some 5), none, (.mv (.t 0))⟩, ⟨(some 6), none, (.len false (.t 5))⟩, ⟨(some 7), none, (.mkslice 78 3 48 [(.bool false), (.str ⟨#[]⟩), .nil] (.t 6))⟩, ⟨(some 3), none, (.mv (.t 7))⟩]) (.seq (.seq (.reg [⟨(some 4), none, (.mv (.c (.int .i64 0)))⟩]) (.block 0 (.loop [1, 0, 0, 1, 1, 0, 0, 0, 0, 0, 0, 0, 0, 0, 0, 0, 0, 0, 0, 0, 0, 0, 0] (.seq (.seq (.reg [⟨(some 8), none, (.mv (.t 4))⟩, ⟨(some 9), none, (.mv (.t 0))⟩, ⟨(some 10), none, (.len false (.t 9))⟩, ⟨(some 11), none, (.bin .lss false (.t 8) (.t 10))⟩]) (.cond (.t 11) .skip (.exit 0))) (.seq (.block 1 (.reg [⟨(some 14), none, (.mv (.t 3))⟩, ⟨(some 15), none, (.mv (.t 4))⟩, ⟨(some 16), none, (.mv (.t 0))⟩, ⟨(some 17), none, (.mv (.t 4))⟩, ⟨(some 18), none, (.iaddr 3 (.t 16) (.t 17))⟩, ⟨(some 19), none, (.load true 3 (.t 18))⟩, ⟨(some 20), none, (.call 155 [(.t 19)])⟩, ⟨(some 21), none, (.iaddr 3 (.t 14) (.t 15))⟩, ⟨none, none, (.store 3 (.t 21) (.t 20))⟩])) (.reg [⟨(some 12), none, (.mv (.t 4))⟩, ⟨(some 13), none, (.bin .add false (.t 12) (.c (.int .i64 1)))⟩, ⟨(some 4), none, (.mv (.t 13))⟩])))))) (.seq (.reg [⟨(some 22), none, (.mv (.t 3))⟩, ⟨(some 2), none, (.mv (.t 22))⟩]) .ret))))
theorem k_laws_toLiteralS : codeOf Try.prog 79 = some ⟨23, c_laws_toLiteralS, [(.tmp 2)]⟩ := by kernel_rfl
theorem m_laws_toLiteralS : modes 79 = ⟨[], .asis, none, false⟩ := by unfold modes; rfl
abbrev ToT_Literal (x : Lt) : Prop := x.bulk ≤ 1048576 → E 155 [x.sv] [] = some (x.osv, x.obs)
abbrev ToTS_Literal (xs : List Lt) : Prop := xs.length + Lt.sumB xs ≤ 1048576 → E 79 [.arr (xs.map Lt.d)] [] = some (.ref 0, [.row 78 3 (xs.map Lt.o)])
set_option maxHeartbeats 1000000 in
theorem toTS_Literal_of (xs : List Lt) (h : ∀ x ∈ xs, ToT_Literal x) : ToTS_Literal xs := by
  intro hb
  refine E_walk k_laws_toLiteralS m_laws_toLiteralS (of_decide_eq_true rfl) ?_
  simp (disch := omega) only [c_laws_toLiteralS, go_sem, Nat.reduceAdd, Nat.reduceSub, Nat.reduceLT, Nat.reduceLeDiff, Nat.reduceEqDiff, Nat.reduceBEq, Nat.reduceBneDiff, Nat.reduceMul, ↓reduceIte, Int.reduceToNat, reduceCtorEq, Int.reduceNeg, Int.reduceAdd]
  refine go_loop (α := Int) (fun i => ⟨slots 23 0 [(0, .arr (xs.map Lt.d)), (3, .ref 0), (4, .int .i64 i)], [.row 78 3 (fillR Lt.o [.bool false, .str ⟨#[]⟩, .ow []] xs i.toNat)]⟩) (fun i => ∃ k : Nat, i = k ∧ k ≤ xs.length) (fun i => xs.length - i.toNat) 0 ⟨0, rfl, Nat.zero_le _⟩ (by simp (disch := omega) only [go_sem, Nat.reduceAdd, Nat.reduceSub, Nat.reduceLT, Nat.reduceLeDiff, Nat.reduceEqDiff, Nat.reduceBEq, Nat.reduceBneDiff, Nat.reduceMul, ↓reduceIte, Int.reduceToNat, reduceCtorEq, Int.reduceNeg, Int.reduceAdd, fillR_zero, Int.toNat_zero]) ?_
  · rintro i ⟨k, rfl, hk⟩
    obtain ⟨i, hi⟩ : ∃ i : Int, i = (k : Int) := ⟨_, rfl⟩
    rw [← hi]
    have hn : i.toNat = k := by omega
    have hn1 : (i + 1).toNat = k + 1 := by omega
    rcases Nat.lt_or_ge k xs.length with hlt | hge
    · have hg := get_at Lt.d hlt
      rw [Lt.d_eq] at hg
      have hz := fillR_get Lt.o [.bool false, .str ⟨#[]⟩, .ow []] hlt
      have hle := Lt.bulk_le xs k hlt
      have hc := h xs[k] (List.getElem_mem hlt) (by omega)
      have hs := fillR_set Lt.o [.bool false, .str ⟨#[]⟩, .ow []] hlt
      rw [Lt.o_eq] at hs
      simp (disch := omega) only [go_sem, Nat.reduceAdd, Nat.reduceSub, Nat.reduceLT, Nat.reduceLeDiff, Nat.reduceEqDiff, Nat.reduceBEq, Nat.reduceBneDiff, Nat.reduceMul, ↓reduceIte, Int.reduceToNat, reduceCtorEq, Int.reduceNeg, Int.reduceAdd, hn, hg, hc, hz, fillR_len, m_laws_toLiteral, Lt.osv, Lt.obs]
      refine ⟨i + 1, ⟨k + 1, by omega, hlt⟩, by omega, ?_⟩
      simp (disch := omega) only [go_sem, Nat.reduceAdd, Nat.reduceSub, Nat.reduceLT, Nat.reduceLeDiff, Nat.reduceEqDiff, Nat.reduceBEq, Nat.reduceBneDiff, Nat.reduceMul, ↓reduceIte, Int.reduceToNat, reduceCtorEq, Int.reduceNeg, Int.reduceAdd, hn1, hs]
    · obtain rfl : k = xs.length := by omega
      simp (disch := omega) only [go_sem, Nat.reduceAdd, Nat.reduceSub, Nat.reduceLT, Nat.reduceLeDiff, Nat.reduceEqDiff, Nat.reduceBEq, Nat.reduceBneDiff, Nat.reduceMul, ↓reduceIte, Int.reduceToNat, reduceCtorEq, Int.reduceNeg, Int.reduceAdd, hn, fillR_end]
set_option maxHeartbeats 1000000 in
theorem toT_Literal_of (x : Lt) (h_atom : ToT_Term x.atom) : ToT_Literal x := by
  intro hb
  have qb := Lt.bulk_eq x
  replace h_atom := h_atom (by omega)
  refine E_walk k_laws_toLiteral m_laws_toLiteral (of_decide_eq_true rfl) ?_
  simp (disch := omega) only [c_laws_toLiteral, go_sem, Nat.reduceAdd, Nat.reduceSub, Nat.reduceLT, Nat.reduceLeDiff, Nat.reduceEqDiff, Nat.reduceBEq, Nat.reduceBneDiff, Nat.reduceMul, ↓reduceIte, Int.reduceToNat, reduceCtorEq, Int.reduceNeg, Int.reduceAdd, h_atom, m_laws_toTerm]
theorem toT_Literal (x : Lt) : ToT_Literal x := toT_Literal_of x (toT_Term x.atom)
theorem toTS_Literal (xs : List Lt) : ToTS_Literal xs := toTS_Literal_of xs fun x _ => toT_Literal x
def c_laws_toClause : SC := (.seq (.reg [⟨(some 1), none, (.boxv 41 1 (.t 0))⟩, ⟨(some 2), none, (.alloc 47 [.nil])⟩]) (.seq (.reg [⟨(some 3), none, (.alloc 47 [.nil])⟩]) (.seq (.reg [⟨(some 4), none, (.faddr 0 (.t 1))⟩, ⟨(some 5), none, (.load false 1 (.t 4))⟩, ⟨(some 6), none, (.call 79 [(.t 5)])⟩, ⟨(some 7), none, (.faddr 0 (.t 3))⟩, ⟨none, none, (.store 1 (.t 7) (.t 6))⟩]) (.seq (.reg [⟨(some 8), none, (.load true 1 (.t 3))⟩, ⟨none, none, (.store 1 (.t 2) (.t 8))⟩]) .ret))))
theorem k_laws_toClause : codeOf Try.prog 25 = some ⟨9, c_laws_toClause, [(.cell 2 true 1)]⟩ := by kernel_rfl
theorem m_laws_toClause : modes 25 = ⟨[], .asis, none, false⟩ := by unfold modes; rfl
abbrev ToT_Clause (x : Cl) : Prop := x.bulk ≤ 1048576 → E 25 [x.sv] [] = some (x.osv, x.obs)
set_option maxHeartbeats 1000000 in
theorem toT_Clause_of (x : Cl) (h_lits : ToTS_Literal x.lits) : ToT_Clause x := by
  intro hb
  have qb := Cl.bulk_eq x
  replace h_lits := h_lits (by omega)
  refine E_walk k_laws_toClause m_laws_toClause (of_decide_eq_true rfl) ?_
  simp (disch := omega) only [c_laws_toClause, go_sem, Nat.reduceAdd, Nat.reduceSub, Nat.reduceLT, Nat.reduceLeDiff, Nat.reduceEqDiff, Nat.reduceBEq, Nat.reduceBneDiff, Nat.reduceMul, ↓reduceIte, Int.reduceToNat, reduceCtorEq, Int.reduceNeg, Int.reduceAdd, h_lits, m_laws_toLiteralS]
theorem toT_Clause (x : Cl) : ToT_Clause x := toT_Clause_of x (toTS_Literal_of x.lits fun y hy => toT_Literal y)
def c_laws_toAssigned : SC := (.seq (.reg [⟨(some 1), none, (.boxv 153 2 (.t 0))⟩, ⟨(some 2), none, (.alloc 156 [(.str ⟨#[]⟩), (.int .i64 0)])⟩]) (.seq (.reg [⟨(some 3), none, (.alloc 156 [(.str ⟨#[]⟩), (.int .i64 0)])⟩]) (.seq (.reg [⟨(some 4), none, (.faddr 0 (.t 1))⟩, ⟨(some 5), none, (.load false 1 (.t 4))⟩, ⟨(some 6), none, (.faddr 0 (.t 3))⟩, ⟨none, none, (.store 1 (.t 6) (.t 5))⟩]) (.seq (.reg [⟨(some 7), none, (.faddr 1 (.t 1))⟩, ⟨(some 8), none, (.load false 1 (.t 7))⟩, ⟨(some 9), none, (.faddr 1 (.t 3))⟩, ⟨none, none, (.store 1 (.t 9) (.t 8))⟩]) (.seq (.reg [⟨(some 10), none, (.load true 2 (.t 3))⟩, ⟨none, none, (.store 2 (.t 2) (.t 10))⟩]) .ret)))))
theorem k_laws_toAssigned : codeOf Try.prog 119 = some ⟨11, c_laws_toAssigned, [(.cell 2 true 2)]⟩ := by kernel_rfl
theorem m_laws_toAssigned : modes 119 = ⟨[], .asis, none, false⟩ := by unfold modes; rfl
def c_laws_toAssignedS : SC := (.seq (.reg [⟨(some 2), none, (.mv (.c .nil))⟩]) (.seq (.reg [⟨(some 5), none, (.mv (.t 0))⟩, ⟨(some 6), none, (.len false (.t 5))⟩, ⟨(some 7), none, (.mkslice 156 2 24 [(.str ⟨#[]⟩), (.int .i64 0)] (.t 6))⟩, ⟨(some 3), none, (.mv (.t 7))⟩]) (.seq (.seq (.reg [⟨(some 4), none, (.mv (.c (.int .i64 0)))⟩]) (.block 0 (.loop [1, 0, 0, 1, 1, 0, 0, 0, 0, 0, 0, 0, 0, 0, 0, 0, 0, 0, 0, 0, 0, 0, 0] (.seq (.seq (.reg [⟨(some 8), none, (.mv (.t 4))⟩, ⟨(some 9), none, (.mv (.t 0))⟩, ⟨(some 10), none, (.len false (.t 9))⟩, ⟨(some 11), none, (.bin .lss false (.t 8) (.t 10))⟩]) (.cond (.t 11) .skip (.exit 0))) (.seq (.block 1 (.reg [⟨(some 14), none, (.mv (.t 3))⟩, ⟨(some 15), none, (.mv (.t 4))⟩, ⟨(some 16), none, (.mv (.t 0))⟩, ⟨(some 17), none, (.mv (.t 4))⟩, ⟨(some 18), none, (.iaddr 2 (.t 16) (.t 17))⟩, ⟨(some 19), none, (.load true 2 (.t 18))⟩, ⟨(some 20), none, (.call 119 [(.t 19)])⟩, ⟨(some 21), none, (.iaddr 2 (.t 14) (.t 15))⟩, ⟨none, none, (.store 2 (.t 21) (.t 20))⟩])) (.reg [⟨(some 12), none, (.mv (.t 4))⟩, ⟨(some 13), none, (.bin .add false (.t 12) (.c (.int .i64 1)))⟩, ⟨(some 4), none, (.mv (.t 13))⟩])))))) (.seq (.reg [⟨(some 22), none, (.mv (.t 3))⟩, ⟨(some 2), none, (.mv (.t 22))⟩]) .ret))))
theorem k_laws_toAssignedS : codeOf Try.prog 55 = some ⟨23, c_laws_toAssignedS, [(.tmp 2)]⟩ := by kernel_rfl
theorem m_laws_toAssignedS : modes 55 = ⟨[], .asis, none, false⟩ := by unfold modes; rfl
abbrev ToT_Assigned (x : Ag) : Prop := x.bulk ≤ 1048576 → E 119 [x.sv] [] = some (x.osv, x.obs)
abbrev ToTS_Assigned (xs : List Ag) : Prop := xs.length + Ag.sumB xs ≤ 1048576 → E 55 [.arr (xs.map Ag.d)] [] = some (.ref 0, [.row 156 2 (xs.map Ag.o)])
set_option maxHeartbeats 1000000 in
theorem toTS_Assigned_of (xs : List Ag) (h : ∀ x ∈ xs, ToT_Assigned x) : ToTS_Assigned xs := by
  intro hb
  refine E_walk k_laws_toAssignedS m_laws_toAssignedS (of_decide_eq_true rfl) ?_
  simp (disch := omega) only [c_laws_toAssignedS, go_sem, Nat.reduceAdd, Nat.reduceSub, Nat.reduceLT, Nat.reduceLeDiff, Nat.reduceEqDiff, Nat.reduceBEq, Nat.reduceBneDiff, Nat.reduceMul, ↓reduceIte, Int.reduceToNat, reduceCtorEq, Int.reduceNeg, Int.reduceAdd]
  refine go_loop (α := Int) (fun i => ⟨slots 23 0 [(0, .arr (xs.map Ag.d)), (3, .ref 0), (4, .int .i64 i)], [.row 156 2 (fillR Ag.o [.str ⟨#[]⟩, .int 0] xs i.toNat)]⟩) (fun i => ∃ k : Nat, i = k ∧ k ≤ xs.length) (fun i => xs.length - i.toNat) 0 ⟨0, rfl, Nat.zero_le _⟩ (by simp (disch := omega) only [go_sem, Nat.reduceAdd, Nat.reduceSub, Nat.reduceLT, Nat.reduceLeDiff, Nat.reduceEqDiff, Nat.reduceBEq, Nat.reduceBneDiff, Nat.reduceMul, ↓reduceIte, Int.reduceToNat, reduceCtorEq, Int.reduceNeg, Int.reduceAdd, fillR_zero, Int.toNat_zero]) ?_
  · rintro i ⟨k, rfl, hk⟩
    obtain ⟨i, hi⟩ : ∃ i : Int, i = (k : Int) := ⟨_, rfl⟩
    rw [← hi]
    have hn : i.toNat = k := by omega
    have hn1 : (i + 1).toNat = k + 1 := by omega
    rcases Nat.lt_or_ge k xs.length with hlt | hge
    · have hg := get_at Ag.d hlt
      rw [Ag.d_eq] at hg
      have hz := fillR_get Ag.o [.str ⟨#[]⟩, .int 0] hlt
      have hle := Ag.bulk_le xs k hlt
      have hc := h xs[k] (List.getElem_mem hlt) (by omega)
      have hs := fillR_set Ag.o [.str ⟨#[]⟩, .int 0] hlt
      rw [Ag.o_eq] at hs
      simp (disch := omega) only [go_sem, Nat.reduceAdd, Nat.reduceSub, Nat.reduceLT, Nat.reduceLeDiff, Nat.reduceEqDiff, Nat.reduceBEq, Nat.reduceBneDiff, Nat.reduceMul, ↓reduceIte, Int.reduceToNat, reduceCtorEq, Int.reduceNeg, Int.reduceAdd, hn, hg, hc, hz, fillR_len, m_laws_toAssigned, Ag.osv, Ag.obs]
      refine ⟨i + 1, ⟨k + 1, by omega, hlt⟩, by omega, ?_⟩
      simp (disch := omega) only [go_sem, Nat.reduceAdd, Nat.reduceSub, Nat.reduceLT, Nat.reduceLeDiff, Nat.reduceEqDiff, Nat.reduceBEq, Nat.reduceBneDiff, Nat.reduceMul, ↓reduceIte, Int.reduceToNat, reduceCtorEq, Int.reduceNeg, Int.reduceAdd, hn1, hs]
    · obtain rfl : k = xs.length := by omega
      simp (disch := omega) only [go_sem, Nat.reduceAdd, Nat.reduceSub, Nat.reduceLT, Nat.reduceLeDiff, Nat.reduceEqDiff, Nat.reduceBEq, Nat.reduceBneDiff, Nat.reduceMul, ↓reduceIte, Int.reduceToNat, reduceCtorEq, Int.reduceNeg, Int.reduceAdd, hn, fillR_end]
set_option maxHeartbeats 1000000 in
theorem toT_Assigned_of (x : Ag) : ToT_Assigned x := by
  intro hb
  have qb := Ag.bulk_eq x
  refine E_walk k_laws_toAssigned m_laws_toAssigned (of_decide_eq_true rfl) ?_
  simp (disch := omega) only [c_laws_toAssigned, go_sem, Nat.reduceAdd, Nat.reduceSub, Nat.reduceLT, Nat.reduceLeDiff, Nat.reduceEqDiff, Nat.reduceBEq, Nat.reduceBneDiff, Nat.reduceMul, ↓reduceIte, Int.reduceToNat, reduceCtorEq, Int.reduceNeg, Int.reduceAdd]
theorem toT_Assigned (x : Ag) : ToT_Assigned x := toT_Assigned_of x 
theorem toTS_Assigned (xs : List Ag) : ToTS_Assigned xs := toTS_Assigned_of xs fun x _ => toT_Assigned x
def c_laws_toBinding : SC := (.seq (.reg [⟨(some 1), none, (.boxv 192 3 (.t 0))⟩, ⟨(some 2), none, (.alloc 167 [(.str ⟨#[]⟩), (.str ⟨#[]⟩), .nil])⟩]) (.seq (.reg [⟨(some 3), none, (.alloc 167 [(.str ⟨#[]⟩), (.str ⟨#[]⟩), .nil])⟩]) (.seq (.reg [⟨(some 4), none, (.faddr 0 (.t 1))⟩, ⟨(some 5), none, (.load false 1 (.t 4))⟩, ⟨(some 6), none, (.faddr 0 (.t 3))⟩, ⟨none, none, (.store 1 (.t 6) (.t 5))⟩]) (.seq (.reg [⟨(some 7), none, (.faddr 1 (.t 1))⟩, ⟨(some 8), none, (.load true 2 (.t 7))⟩, ⟨(some 9), none, (.call 32 [(.t 8)])⟩, ⟨(some 10), none, (.faddr 1 (.t 3))⟩, ⟨none, none, (.store 2 (.t 10) (.t 9))⟩]) (.seq (.reg [⟨(some 11), none, (.load true 3 (.t 3))⟩, ⟨none, none, (.store 3 (.t 2) (.t 11))⟩]) .ret)))))
theorem k_laws_toBinding : codeOf Try.prog 158 = some ⟨12, c_laws_toBinding, [(.cell 2 true 3)]⟩ := by kernel_rfl
theorem m_laws_toBinding : modes 158 = ⟨[], .asis, none, false⟩ := by unfold modes; rfl
def c_laws_toBindingS : SC := (.seq (.reg [⟨(some 2), none, (.mv (.c .nil))⟩]) (.seq (.reg [⟨(some 5), none, (.mv (.t 0))⟩, ⟨(some 6), none, (.len false (.t 5))⟩, ⟨(some 7), none, (.mkslice 167 3 56 [(.str ⟨#[]⟩), (.str ⟨#[]⟩), .nil] (.t 6))⟩, ⟨(some 3), none, (.mv (.t 7))⟩]) (.seq (.seq (.reg [⟨(some 4), none, (.mv (.c (.int .i64 0)))⟩]) (.block 0 (.loop [1, 0, 0, 1, 1, 0, 0, 0, 0, 0, 0, 0, 0, 0, 0, 0, 0, 0, 0, 0, 0, 0, 0] (.seq (.seq (.reg [⟨(some 8), none, (.mv (.t 4))⟩, ⟨(some 9), none, (.mv (.t 0))⟩, ⟨(some 10), none, (.len false (.t 9))⟩, ⟨(some 11), none, (.bin .lss false (.t 8) (.t 10))⟩]) (.cond (.t 11) .skip (.exit 0))) (.seq (.block 1 (.reg [⟨(some 14), none, (.mv (.t 3))⟩, ⟨(some 15), none, (.mv (.t 4))⟩, ⟨(some 16), none, (.mv (.t 0))⟩, ⟨(some 17), none, (.mv (.t 4))⟩, ⟨(some 18), none, (.iaddr 3 (.t 16) (.t 17))⟩, ⟨(some 19), none, (.load true 3 (.t 18))⟩, ⟨(some 20), none, (.call 158 [(.t 19)])⟩, ⟨(some 21), none, (.iaddr 3 (.t 14) (.t 15))⟩, ⟨none, none, (.store 3 (.t 21) (.t 20))⟩])) (.reg [⟨(some 12), none, (.mv (.t 4))⟩, ⟨(some 13), none, (.bin .add false (.t 12) (.c (.int .i64 1)))⟩, ⟨(some 4), none, (.mv (.t 13))⟩])))))) (.seq (.reg [⟨(some 22), none, (.mv (.t 3))⟩, ⟨(some 2), none, (.mv (.t 22))⟩]) .ret))))
theorem k_laws_toBindingS : codeOf Try.prog 86 = some ⟨23, c_laws_toBindingS, [(.tmp 2)]⟩ := by kernel_rfl
theorem m_laws_toBindingS : modes 86 = ⟨[], .asis, none, false⟩ := by unfold modes; rfl
abbrev ToT_Binding (x : Bd) : Prop := x.bulk ≤ 1048576 → E 158 [x.sv] [] = some (x.osv, x.obs)
abbrev ToTS_Binding (xs : List Bd) : Prop := xs.length + Bd.sumB xs ≤ 1048576 → E 86 [.arr (xs.map Bd.d)] [] = some (.ref 0, [.row 167 3 (xs.map Bd.o)])
set_option maxHeartbeats 1000000 in
theorem toTS_Binding_of (xs : List Bd) (h : ∀ x ∈ xs, ToT_Binding x) : ToTS_Binding xs := by
  intro hb
  refine E_walk k_laws_toBindingS m_laws_toBindingS (of_decide_eq_true rfl) ?_
  simp (disch := omega) only [c_laws_toBindingS, go_sem, Nat.reduceAdd, Nat.reduceSub, Nat.reduceLT, Nat.reduceLeDiff, Nat.reduceEqDiff, Nat.reduceBEq, Nat.reduceBneDiff, Nat.reduceMul, ↓reduceIte, Int.reduceToNat, reduceCtorEq, Int.reduceNeg, Int.reduceAdd]
  refine go_loop (α := Int) (fun i => ⟨slots 23 0 [(0, .arr (xs.map Bd.d)), (3, .ref 0), (4, .int .i64 i)], [.row 167 3 (fillR Bd.o [.str ⟨#[]⟩, .str ⟨#[]⟩, .ow []] xs i.toNat)]⟩) (fun i => ∃ k : Nat, i = k ∧ k ≤ xs.length) (fun i => xs.length - i.toNat) 0 ⟨0, rfl, Nat.zero_le _⟩ (by simp (disch := omega) only [go_sem, Nat.reduceAdd, Nat.reduceSub, Nat.reduceLT, Nat.reduceLeDiff, Nat.reduceEqDiff, Nat.reduceBEq, Nat.reduceBneDiff, Nat.reduceMul, ↓reduceIte, Int.reduceToNat, reduceCtorEq, Int.reduceNeg, Int.reduceAdd, fillR_zero, Int.toNat_zero]) ?_
  · rintro i ⟨k, rfl, hk⟩
    obtain ⟨i, hi⟩ : ∃ i : Int, i = (k : Int) := ⟨_, rfl⟩
    rw [← hi]
    have hn : i.toNat = k := by omega
    have hn1 : (i + 1).toNat = k + 1 := by omega
    rcases Nat.lt_or_ge k xs.length with hlt | hge
    · have hg := get_at Bd.d hlt
      rw [Bd.d_eq] at hg
      have hz := fillR_get Bd.o [.str ⟨#[]⟩, .str ⟨#[]⟩, .ow []] hlt
      have hle := Bd.bulk_le xs k hlt
      have hc := h xs[k] (List.getElem_mem hlt) (by omega)
      have hs := fillR_set Bd.o [.str ⟨#[]⟩, .str ⟨#[]⟩, .ow []] hlt
      rw [Bd.o_eq] at hs
      simp (disch := omega) only [go_sem, Nat.reduceAdd, Nat.reduceSub, Nat.reduceLT, Nat.reduceLeDiff, Nat.reduceEqDiff, Nat.reduceBEq, Nat.reduceBneDiff, Nat.reduceMul, ↓reduceIte, Int.reduceToNat, reduceCtorEq, Int.reduceNeg, Int.reduceAdd, hn, hg, hc, hz, fillR_len, m_laws_toBinding, Bd.osv, Bd.obs]
      refine ⟨i + 1, ⟨k + 1, by omega, hlt⟩, by omega, ?_⟩
      simp (disch := omega) only [go_sem, Nat.reduceAdd, Nat.reduceSub, Nat.reduceLT, Nat.reduceLeDiff, Nat.reduceEqDiff, Nat.reduceBEq, Nat.reduceBneDiff, Nat.reduceMul, ↓reduceIte, Int.reduceToNat, reduceCtorEq, Int.reduceNeg, Int.reduceAdd, hn1, hs]
    · obtain rfl : k = xs.length := by omega
      simp (disch := omega) only [go_sem, Nat.reduceAdd, Nat.reduceSub, Nat.reduceLT, Nat.reduceLeDiff, Nat.reduceEqDiff, Nat.reduceBEq, Nat.reduceBneDiff, Nat.reduceMul, ↓reduceIte, Int.reduceToNat, reduceCtorEq, Int.reduceNeg, Int.reduceAdd, hn, fillR_end]
set_option maxHeartbeats 1000000 in
theorem toT_Binding_of (x : Bd) (h_term : ToT_Term x.term) : ToT_Binding x := by
  intro hb
  have qb := Bd.bulk_eq x
  replace h_term := h_term (by omega)
  refine E_walk k_laws_toBinding m_laws_toBinding (of_decide_eq_true rfl) ?_
  simp (disch := omega) only [c_laws_toBinding, go_sem, Nat.reduceAdd, Nat.reduceSub, Nat.reduceLT, Nat.reduceLeDiff, Nat.reduceEqDiff, Nat.reduceBEq, Nat.reduceBneDiff, Nat.reduceMul, ↓reduceIte, Int.reduceToNat, reduceCtorEq, Int.reduceNeg, Int.reduceAdd, h_term, m_laws_toTerm]
theorem toT_Binding (x : Bd) : ToT_Binding x := toT_Binding_of x (toT_Term x.term)
theorem toTS_Binding (xs : List Bd) : ToTS_Binding xs := toTS_Binding_of xs fun x _ => toT_Binding x
def c_laws_toSubstitution : SC := (.seq (.reg [⟨(some 1), none, (.boxv 53 1 (.t 0))⟩, ⟨(some 2), none, (.alloc 63 [.nil])⟩]) (.seq (.reg [⟨(some 3), none, (.alloc 63 [.nil])⟩]) (.seq (.reg [⟨(some 4), none, (.faddr 0 (.t 1))⟩, ⟨(some 5), none, (.load false 1 (.t 4))⟩, ⟨(some 6), none, (.call 86 [(.t 5)])⟩, ⟨(some 7), none, (.faddr 0 (.t 3))⟩, ⟨none, none, (.store 1 (.t 7) (.t 6))⟩]) (.seq (.reg [⟨(some 8), none, (.load true 1 (.t 3))⟩, ⟨none, none, (.store 1 (.t 2) (.t 8))⟩]) .ret))))
theorem k_laws_toSubstitution : codeOf Try.prog 31 = some ⟨9, c_laws_toSubstitution, [(.cell 2 true 1)]⟩ := by kernel_rfl
theorem m_laws_toSubstitution : modes 31 = ⟨[], .asis, none, false⟩ := by unfold modes; rfl
abbrev ToT_Substitution (x : Sb) : Prop := x.bulk ≤ 1048576 → E 31 [x.sv] [] = some (x.osv, x.obs)
set_option maxHeartbeats 1000000 in
theorem toT_Substitution_of (x : Sb) (h_binds : ToTS_Binding x.binds) : ToT_Substitution x := by
  intro hb
  have qb := Sb.bulk_eq x
  replace h_binds := h_binds (by omega)
  refine E_walk k_laws_toSubstitution m_laws_toSubstitution (of_decide_eq_true rfl) ?_
  simp (disch := omega) only [c_laws_toSubstitution, go_sem, Nat.reduceAdd, Nat.reduceSub, Nat.reduceLT, Nat.reduceLeDiff, Nat.reduceEqDiff, Nat.reduceBEq, Nat.reduceBneDiff, Nat.reduceMul, ↓reduceIte, Int.reduceToNat, reduceCtorEq, Int.reduceNeg, Int.reduceAdd, h_binds, m_laws_toBindingS]
theorem toT_Substitution (x : Sb) : ToT_Substitution x := toT_Substitution_of x (toTS_Binding_of x.binds fun y hy => toT_Binding y)
end Go.Proofs.Ytifpfjbpfekkmaa

set_option maxRecDepth 100000
set_option linter.unusedSimpArgs false
set_option linter.unusedVariables false
namespace Go.Proofs.Ytifpfjbpfekkmaa
open Go.RowKit

def c_laws_eqTerm : SC := (.seq (.reg [⟨(some 2), none, (.boxv 67 2 (.t 0))⟩, ⟨(some 3), none, (.boxv 67 2 (.t 1))⟩, ⟨(some 4), none, (.mv (.c (.bool false)))⟩]) (.seq (.seq (.reg [⟨(some 5), none, (.faddr 0 (.t 2))⟩, ⟨(some 6), none, (.load false 1 (.t 5))⟩, ⟨(some 7), none, (.faddr 0 (.t 3))⟩, ⟨(some 8), none, (.load false 1 (.t 7))⟩, ⟨(some 9), none, (.bin .neq false (.t 6) (.t 8))⟩]) (.cond (.t 9) (.seq (.reg [⟨(some 4), none, (.mv (.c (.bool false)))⟩]) .ret) .skip)) (.seq (.seq (.reg [⟨(some 10), none, (.faddr 1 (.t 2))⟩, ⟨(some 11), none, (.load false 1 (.t 10))⟩, ⟨(some 12), none, (.faddr 1 (.t 3))⟩, ⟨(some 13), none, (.load false 1 (.t 12))⟩, ⟨(some 14), none, (.call 90 [(.t 11), (.t 13)])⟩, ⟨(some 15), none, (.un .not (.t 14))⟩]) (.cond (.t 15) (.seq (.reg [⟨(some 4), none, (.mv (.c (.bool false)))⟩]) .ret) .skip)) (.seq (.reg [⟨(some 4), none, (.mv (.c (.bool true)))⟩]) .ret))))
theorem k_laws_eqTerm : codeOf Try.prog 35 = some ⟨16, c_laws_eqTerm, [(.tmp 4)]⟩ := by kernel_rfl
theorem m_laws_eqTerm : modes 35 = ⟨[], .asis, none, false⟩ := by unfold modes; rfl
def c_laws_eqTermS : SC := (.seq (.reg [⟨(some 4), none, (.mv (.c (.bool false)))⟩]) (.seq (.seq (.reg [⟨(some 6), none, (.mv (.t 0))⟩, ⟨(some 7), none, (.len false (.t 6))⟩, ⟨(some 8), none, (.mv (.t 1))⟩, ⟨(some 9), none, (.len false (.t 8))⟩, ⟨(some 10), none, (.bin .neq false (.t 7) (.t 9))⟩]) (.cond (.t 10) (.seq (.reg [⟨(some 4), none, (.mv (.c (.bool false)))⟩]) .ret) .skip)) (.seq (.seq (.reg [⟨(some 5), none, (.mv (.c (.int .i64 0)))⟩]) (.block 0 (.loop [1, 1, 0, 0, 0, 1, 0, 0, 0, 0, 0, 0, 0, 0, 0, 0, 0, 0, 0, 0, 0, 0, 0, 0, 0, 0, 0] (.seq (.seq (.reg [⟨(some 11), none, (.mv (.t 5))⟩, ⟨(some 12), none, (.mv (.t 0))⟩, ⟨(some 13), none, (.len false (.t 12))⟩, ⟨(some 14), none, (.bin .lss false (.t 11) (.t 13))⟩]) (.cond (.t 14) .skip (.exit 0))) (.seq (.block 1 (.seq (.dreg [[], [], [0, 1], [2, 0, 1], [], [], [4, 5], [6, 4, 5], [3, 2, 0, 1, 7, 6, 4, 5], [8, 3, 2, 0, 1, 7, 6, 4, 5]] [⟨(some 17), none, (.mv (.t 0))⟩, ⟨(some 18), none, (.mv (.t 5))⟩, ⟨(some 19), none, (.iaddr 2 (.t 17) (.t 18))⟩, ⟨(some 20), none, (.load true 2 (.t 19))⟩, ⟨(some 21), none, (.mv (.t 1))⟩, ⟨(some 22), none, (.mv (.t 5))⟩, ⟨(some 23), none, (.iaddr 2 (.t 21) (.t 22))⟩, ⟨(some 24), none, (.load true 2 (.t 23))⟩, ⟨(some 25), none, (.call 35 [(.t 20), (.t 24)])⟩, ⟨(some 26), none, (.un .not (.t 25))⟩]) (.cond (.t 26) (.seq (.reg [⟨(some 4), none, (.mv (.c (.bool false)))⟩]) .ret) .skip))) (.reg [⟨(some 15), none, (.mv (.t 5))⟩, ⟨(some 16), none, (.bin .add false (.t 15) (.c (.int .i64 1)))⟩, ⟨(some 5), none, (.mv (.t 16))⟩])))))) (.seq (.reg [⟨(some 4), none, (.mv (.c (.bool true)))⟩]) .ret))))
theorem k_laws_eqTermS : codeOf Try.prog 90 = some ⟨27, c_laws_eqTermS, [(.tmp 4)]⟩ := by kernel_rfl
theorem m_laws_eqTermS : modes 90 = ⟨[], .asis, none, false⟩ := by unfold modes; rfl
abbrev EqT_Term (x : Tm) : Prop := x.bulk ≤ 1048576 → E 35 [x.sv, x.sv] [] = some (.bool true, [])
abbrev EqTS_Term (xs : List Tm) : Prop := xs.length + Tm.sumB xs ≤ 1048576 → E 90 [.arr (xs.map Tm.d), .arr (xs.map Tm.d)] [] = some (.bool true, [])
set_option maxHeartbeats 1000000 in
theorem eqTS_Term_of (xs : List Tm) (h : ∀ x ∈ xs, EqT_Term x) : EqTS_Term xs := by
  intro hb
  refine E_walk k_laws_eqTermS m_laws_eqTermS (of_decide_eq_true rfl) ?_
  simp (disch := omega) only [c_laws_eqTermS, go_sem, Nat.reduceAdd, Nat.reduceSub, Nat.reduceLT, Nat.reduceLeDiff, Nat.reduceEqDiff, Nat.reduceBEq, Nat.reduceBneDiff, Nat.reduceMul, ↓reduceIte, Int.reduceToNat, reduceCtorEq, Int.reduceNeg, Int.reduceAdd]
  refine go_loop (α := Int) (fun i => ⟨slots 27 0 [(0, .arr (xs.map Tm.d)), (1, .arr (xs.map Tm.d)), (5, .int .i64 i)], []⟩) (fun i => ∃ k : Nat, i = k ∧ k ≤ xs.length) (fun i => xs.length - i.toNat) 0 ⟨0, rfl, Nat.zero_le _⟩ (by simp (disch := omega) only [go_sem, Nat.reduceAdd, Nat.reduceSub, Nat.reduceLT, Nat.reduceLeDiff, Nat.reduceEqDiff, Nat.reduceBEq, Nat.reduceBneDiff, Nat.reduceMul, ↓reduceIte, Int.reduceToNat, reduceCtorEq, Int.reduceNeg, Int.reduceAdd]) ?_
  · rintro i ⟨k, rfl, hk⟩
    obtain ⟨i, hi⟩ : ∃ i : Int, i = (k : Int) := ⟨_, rfl⟩
    rw [← hi]
    have hn : i.toNat = k := by omega
    rcases Nat.lt_or_ge k xs.length with hlt | hge
    · have hg := get_at Tm.d hlt
      rw [Tm.d_eq] at hg
      have hle := Tm.bulk_le xs k hlt
      have hc := h xs[k] (List.getElem_mem hlt) (by omega)
      simp (disch := omega) only [go_sem, Nat.reduceAdd, Nat.reduceSub, Nat.reduceLT, Nat.reduceLeDiff, Nat.reduceEqDiff, Nat.reduceBEq, Nat.reduceBneDiff, Nat.reduceMul, ↓reduceIte, Int.reduceToNat, reduceCtorEq, Int.reduceNeg, Int.reduceAdd, hn, hg, hc, m_laws_eqTerm]
      refine ⟨i + 1, ⟨k + 1, by omega, hlt⟩, by omega, ?_⟩
      trivial
    · obtain rfl : k = xs.length := by omega
      simp (disch := omega) only [go_sem, Nat.reduceAdd, Nat.reduceSub, Nat.reduceLT, Nat.reduceLeDiff, Nat.reduceEqDiff, Nat.reduceBEq, Nat.reduceBneDiff, Nat.reduceMul, ↓reduceIte, Int.reduceToNat, reduceCtorEq, Int.reduceNeg, Int.reduceAdd, hn]
set_option maxHeartbeats 1000000 in
theorem eqT_Term_of (x : Tm) (h_args : EqTS_Term x.args) : EqT_Term x := by
  intro hb
  have qb := Tm.bulk_eq x
  replace h_args := h_args (by omega)
  refine E_walk k_laws_eqTerm m_laws_eqTerm (of_decide_eq_true rfl) ?_
  simp (disch := omega) only [c_laws_eqTerm, go_sem, Nat.reduceAdd, Nat.reduceSub, Nat.reduceLT, Nat.reduceLeDiff, Nat.reduceEqDiff, Nat.reduceBEq, Nat.reduceBneDiff, Nat.reduceMul, ↓reduceIte, Int.reduceToNat, reduceCtorEq, Int.reduceNeg, Int.reduceAdd, h_args, m_laws_eqTermS, dec_refl]
theorem eqT_Term (x : Tm) : EqT_Term x := eqT_Term_of x (eqTS_Term_of x.args fun y hy => eqT_Term y)
termination_by SizeOf.sizeOf x
decreasing_by exact Tm.lt_of_mem hy
theorem eqTS_Term (xs : List Tm) : EqTS_Term xs := eqTS_Term_of xs fun x _ => eqT_Term x
def c_laws_eqFormula : SC := (.seq (.reg [⟨(some 2), none, (.boxv 90 5 (.t 0))⟩, ⟨(some 3), none, (.boxv 90 5 (.t 1))⟩, ⟨(some 4), none, (.mv (.c (.bool false)))⟩]) (.seq (.seq (.reg [⟨(some 5), none, (.faddr 0 (.t 2))⟩, ⟨(some 6), none, (.load false 1 (.t 5))⟩, ⟨(some 7), none, (.faddr 0 (.t 3))⟩, ⟨(some 8), none, (.load false 1 (.t 7))⟩, ⟨(some 9), none, (.bin .neq false (.t 6) (.t 8))⟩]) (.cond (.t 9) (.seq (.reg [⟨(some 4), none, (.mv (.c (.bool false)))⟩]) .ret) .skip)) (.seq (.seq (.reg [⟨(some 10), none, (.faddr 1 (.t 2))⟩, ⟨(some 11), none, (.load true 2 (.t 10))⟩, ⟨(some 12), none, (.faddr 1 (.t 3))⟩, ⟨(some 13), none, (.load true 2 (.t 12))⟩, ⟨(some 14), none, (.call 35 [(.t 11), (.t 13)])⟩, ⟨(some 15), none, (.un .not (.t 14))⟩]) (.cond (.t 15) (.seq (.reg [⟨(some 4), none, (.mv (.c (.bool false)))⟩]) .ret) .skip)) (.seq (.seq (.reg [⟨(some 16), none, (.faddr 3 (.t 2))⟩, ⟨(some 17), none, (.load false 1 (.t 16))⟩, ⟨(some 18), none, (.faddr 3 (.t 3))⟩, ⟨(some 19), none, (.load false 1 (.t 18))⟩, ⟨(some 20), none, (.bin .neq false (.t 17) (.t 19))⟩]) (.cond (.t 20) (.seq (.reg [⟨(some 4), none, (.mv (.c (.bool false)))⟩]) .ret) .skip)) (.seq (.seq (.reg [⟨(some 21), none, (.faddr 4 (.t 2))⟩, ⟨(some 22), none, (.load false 1 (.t 21))⟩, ⟨(some 23), none, (.faddr 4 (.t 3))⟩, ⟨(some 24), none, (.load false 1 (.t 23))⟩, ⟨(some 25), none, (.call 112 [(.t 22), (.t 24)])⟩, ⟨(some 26), none, (.un .not (.t 25))⟩]) (.cond (.t 26) (.seq (.reg [⟨(some 4), none, (.mv (.c (.bool false)))⟩]) .ret) .skip)) (.seq (.reg [⟨(some 4), none, (.mv (.c (.bool true)))⟩]) .ret))))))
theorem k_laws_eqFormula : codeOf Try.prog 50 = some ⟨27, c_laws_eqFormula, [(.tmp 4)]⟩ := by kernel_rfl
theorem m_laws_eqFormula : modes 50 = ⟨[], .asis, none, false⟩ := by unfold modes; rfl
def c_laws_eqFormulaS : SC := (.seq (.reg [⟨(some 4), none, (.mv (.c (.bool false)))⟩]) (.seq (.seq (.reg [⟨(some 6), none, (.mv (.t 0))⟩, ⟨(some 7), none, (.len false (.t 6))⟩, ⟨(some 8), none, (.mv (.t 1))⟩, ⟨(some 9), none, (.len false (.t 8))⟩, ⟨(some 10), none, (.bin .neq false (.t 7) (.t 9))⟩]) (.cond (.t 10) (.seq (.reg [⟨(some 4), none, (.mv (.c (.bool false)))⟩]) .ret) .skip)) (.seq (.seq (.reg [⟨(some 5), none, (.mv (.c (.int .i64 0)))⟩]) (.block 0 (.loop [1, 1, 0, 0, 0, 1, 0, 0, 0, 0, 0, 0, 0, 0, 0, 0, 0, 0, 0, 0, 0, 0, 0, 0, 0, 0, 0] (.seq (.seq (.reg [⟨(some 11), none, (.mv (.t 5))⟩, ⟨(some 12), none, (.mv (.t 0))⟩, ⟨(some 13), none, (.len false (.t 12))⟩, ⟨(some 14), none, (.bin .lss false (.t 11) (.t 13))⟩]) (.cond (.t 14) .skip (.exit 0))) (.seq (.block 1 (.seq (.dreg [[], [], [0, 1], [2, 0, 1], [], [], [4, 5], [6, 4, 5], [3, 2, 0, 1, 7, 6, 4, 5], [8, 3, 2, 0, 1, 7, 6, 4, 5]] [⟨(some 17), none, (.mv (.t 0))⟩, ⟨(some 18), none, (.mv (.t 5))⟩, ⟨(some 19), none, (.iaddr 5 (.t 17) (.t 18))⟩, ⟨(some 20), none, (.load true 5 (.t 19))⟩, ⟨(some 21), none, (.mv (.t 1))⟩, ⟨(some 22), none, (.mv (.t 5))⟩, ⟨(some 23), none, (.iaddr 5 (.t 21) (.t 22))⟩, ⟨(some 24), none, (.load true 5 (.t 23))⟩, ⟨(some 25), none, (.call 50 [(.t 20), (.t 24)])⟩, ⟨(some 26), none, (.un .not (.t 25))⟩]) (.cond (.t 26) (.seq (.reg [⟨(some 4), none, (.mv (.c (.bool false)))⟩]) .ret) .skip))) (.reg [⟨(some 15), none, (.mv (.t 5))⟩, ⟨(some 16), none, (.bin .add false (.t 15) (.c (.int .i64 1)))⟩, ⟨(some 5), none, (.mv (.t 16))⟩])))))) (.seq (.reg [⟨(some 4), none, (.mv (.c (.bool true)))⟩]) .ret))))
theorem k_laws_eqFormulaS : codeOf Try.prog 112 = some ⟨27, c_laws_eqFormulaS, [(.tmp 4)]⟩ := by kernel_rfl
theorem m_laws_eqFormulaS : modes 112 = ⟨[], .asis, none, false⟩ := by unfold modes; rfl
abbrev EqT_Formula (x : Fm) : Prop := x.bulk ≤ 1048576 → E 50 [x.sv, x.sv] [] = some (.bool true, [])
abbrev EqTS_Formula (xs : List Fm) : Prop := xs.length + Fm.sumB xs ≤ 1048576 → E 112 [.arr (xs.map Fm.d), .arr (xs.map Fm.d)] [] = some (.bool true, [])
set_option maxHeartbeats 1000000 in
theorem eqTS_Formula_of (xs : List Fm) (h : ∀ x ∈ xs, EqT_Formula x) : EqTS_Formula xs := by
  intro hb
  refine E_walk k_laws_eqFormulaS m_laws_eqFormulaS (of_decide_eq_true rfl) ?_
  simp (disch := omega) only [c_laws_eqFormulaS, go_sem, Nat.reduceAdd, Nat.reduceSub, Nat.reduceLT, Nat.reduceLeDiff, Nat.reduceEqDiff, Nat.reduceBEq, Nat.reduceBneDiff, Nat.reduceMul, ↓reduceIte, Int.reduceToNat, reduceCtorEq, Int.reduceNeg, Int.reduceAdd]
  refine go_loop (α := Int) (fun i => ⟨slots 27 0 [(0, .arr (xs.map Fm.d)), (1, .arr (xs.map Fm.d)), (5, .int .i64 i)], []⟩) (fun i => ∃ k : Nat, i = k ∧ k ≤ xs.length) (fun i => xs.length - i.toNat) 0 ⟨0, rfl, Nat.zero_le _⟩ (by simp (disch := omega) only [go_sem, Nat.reduceAdd, Nat.reduceSub, Nat.reduceLT, Nat.reduceLeDiff, Nat.reduceEqDiff, Nat.reduceBEq, Nat.reduceBneDiff, Nat.reduceMul, ↓reduceIte, Int.reduceToNat, reduceCtorEq, Int.reduceNeg, Int.reduceAdd]) ?_
  · rintro i ⟨k, rfl, hk⟩
    obtain ⟨i, hi⟩ : ∃ i : Int, i = (k : Int) := ⟨_, rfl⟩
    rw [← hi]
    have hn : i.toNat = k := by omega
    rcases Nat.lt_or_ge k xs.length with hlt | hge
    · have hg := get_at Fm.d hlt
      rw [Fm.d_eq] at hg
      have hle := Fm.bulk_le xs k hlt
      have hc := h xs[k] (List.getElem_mem hlt) (by omega)
      simp (disch := omega) only [go_sem, Nat.reduceAdd, Nat.reduceSub, Nat.reduceLT, Nat.reduceLeDiff, Nat.reduceEqDiff, Nat.reduceBEq, Nat.reduceBneDiff, Nat.reduceMul, ↓reduceIte, Int.reduceToNat, reduceCtorEq, Int.reduceNeg, Int.reduceAdd, hn, hg, hc, m_laws_eqFormula]
      refine ⟨i + 1, ⟨k + 1, by omega, hlt⟩, by omega, ?_⟩
      trivial
    · obtain rfl : k = xs.length := by omega
      simp (disch := omega) only [go_sem, Nat.reduceAdd, Nat.reduceSub, Nat.reduceLT, Nat.reduceLeDiff, Nat.reduceEqDiff, Nat.reduceBEq, Nat.reduceBneDiff, Nat.reduceMul, ↓reduceIte, Int.reduceToNat, reduceCtorEq, Int.reduceNeg, Int.reduceAdd, hn]
set_option maxHeartbeats 1000000 in
theorem eqT_Formula_of (x : Fm) (h_atom : EqT_Term x.atom) (h_parts : EqTS_Formula x.parts) : EqT_Formula x := by
  intro hb
  have qb := Fm.bulk_eq x
  replace h_atom := h_atom (by omega)
  replace h_parts := h_parts (by omega)
  refine E_walk k_laws_eqFormula m_laws_eqFormula (of_decide_eq_true rfl) ?_
  simp (disch := omega) only [c_laws_eqFormula, go_sem, Nat.reduceAdd, Nat.reduceSub, Nat.reduceLT, Nat.reduceLeDiff, Nat.reduceEqDiff, Nat.reduceBEq, Nat.reduceBneDiff, Nat.reduceMul, ↓reduceIte, Int.reduceToNat, reduceCtorEq, Int.reduceNeg, Int.reduceAdd, h_atom, m_laws_eqTerm, h_parts, m_laws_eqFormulaS, dec_refl]
theorem eqT_Formula (x : Fm) : EqT_Formula x := eqT_Formula_of x (eqT_Term x.atom) (eqTS_Formula_of x.parts fun y hy => eqT_Formula y)
termination_by SizeOf.sizeOf x
decreasing_by exact Fm.lt_of_mem hy
theorem eqTS_Formula (xs : List Fm) : EqTS_Formula xs := eqTS_Formula_of xs fun x _ => eqT_Formula x
def c_laws_eqLiteral : SC := (.seq (.reg [⟨(some 2), none, (.boxv 78 3 (.t 0))⟩, ⟨(some 3), none, (.boxv 78 3 (.t 1))⟩, ⟨(some 4), none, (.mv (.c (.bool false)))⟩]) (.seq (.seq (.reg [⟨(some 5), none, (.faddr 0 (.t 2))⟩, ⟨(some 6), none, (.load false 1 (.t 5))⟩, ⟨(some 7), none, (.faddr 0 (.t 3))⟩, ⟨(some 8), none, (.load false 1 (.t 7))⟩, ⟨(some 9), none, (.bin .neq true (.t 6) (.t 8))⟩]) (.cond (.t 9) (.seq (.reg [⟨(some 4), none, (.mv (.c (.bool false)))⟩]) .ret) .skip)) (.seq (.seq (.reg [⟨(some 10), none, (.faddr 1 (.t 2))⟩, ⟨(some 11), none, (.load true 2 (.t 10))⟩, ⟨(some 12), none, (.faddr 1 (.t 3))⟩, ⟨(some 13), none, (.load true 2 (.t 12))⟩, ⟨(some 14), none, (.call 35 [(.t 11), (.t 13)])⟩, ⟨(some 15), none, (.un .not (.t 14))⟩]) (.cond (.t 15) (.seq (.reg [⟨(some 4), none, (.mv (.c (.bool false)))⟩]) .ret) .skip)) (.seq (.reg [⟨(some 4), none, (.mv (.c (.bool true)))⟩]) .ret))))
theorem k_laws_eqLiteral : codeOf Try.prog 43 = some ⟨16, c_laws_eqLiteral, [(.tmp 4)]⟩ := by kernel_rfl
theorem m_laws_eqLiteral : modes 43 = ⟨[], .asis, none, false⟩ := by unfold modes; rfl
def c_laws_eqLiteralS : SC := (.seq (.reg [⟨(some 4), none, (.mv (.c (.bool false)))⟩]) (.seq (.seq (.reg [⟨(some 6), none, (.mv (.t 0))⟩, ⟨(some 7), none, (.len false (.t 6))⟩, ⟨(some 8), none, (.mv (.t 1))⟩, ⟨(some 9), none, (.len false (.t 8))⟩, ⟨(some 10), none, (.bin .neq false (.t 7) (.t 9))⟩]) (.cond (.t 10) (.seq (.reg [⟨(some 4), none, (.mv (.c (.bool false)))⟩]) .ret) .skip)) (.seq (.seq (.reg [⟨(some 5), none, (.mv (.c (.int .i64 0)))⟩]) (.block 0 (.loop [1, 1, 0, 0, 0, 1, 0, 0, 0, 0, 0, 0, 0, 0, 0, 0, 0, 0, 0, 0, 0, 0, 0, 0, 0, 0, 0] (.seq (.seq (.reg [⟨(some 11), none, (.mv (.t 5))⟩, ⟨(some 12), none, (.mv (.t 0))⟩, ⟨(some 13), none, (.len false (.t 12))⟩, ⟨(some 14), none, (.bin .lss false (.t 11) (.t 13))⟩]) (.cond (.t 14) .skip (.exit 0))) (.seq (.block 1 (.seq (.dreg [[], [], [0, 1], [2, 0, 1], [], [], [4, 5], [6, 4, 5], [3, 2, 0, 1, 7, 6, 4, 5], [8, 3, 2, 0, 1, 7, 6, 4, 5]] [⟨(some 17), none, (.mv (.t 0))⟩, ⟨(some 18), none, (.mv (.t 5))⟩, ⟨(some 19), none, (.iaddr 3 (.t 17) (.t 18))⟩, ⟨(some 20), none, (.load true 3 (.t 19))⟩, ⟨(some 21), none, (.mv (.t 1))⟩, ⟨(some 22), none, (.mv (.t 5))⟩, ⟨(some 23), none, (.iaddr 3 (.t 21) (.t 22))⟩, ⟨(some 24), none, (.load true 3 (.t 23))⟩, ⟨(some 25), none, (.call 43 [(.t 20), (.t 24)])⟩, ⟨(some 26), none, (.un .not (.t 25))⟩]) (.cond (.t 26) (.seq (.reg [⟨(some 4), none, (.mv (.c (.bool false)))⟩]) .ret) .skip))) (.reg [⟨(some 15), none, (.mv (.t 5))⟩, ⟨(some 16), none, (.bin .add false (.t 15) (.c (.int .i64 1)))⟩, ⟨(some 5), none, (.mv (.t 16))⟩])))))) (.seq (.reg [⟨(some 4), none, (.mv (.c (.bool true)))⟩]) .ret))))
theorem k_laws_eqLiteralS : codeOf Try.prog 82 = some ⟨27, c_laws_eqLiteralS, [(.tmp 4)]⟩ := by kernel_rfl
theorem m_laws_eqLiteralS : modes 82 = ⟨[], .asis, none, false⟩ := by unfold modes; rfl
abbrev EqT_Literal (x : Lt) : Prop := x.bulk ≤ 1048576 → E 43 [x.sv, x.sv] [] = some (.bool true, [])
abbrev EqTS_Literal (xs : List Lt) : Prop := xs.length + Lt.sumB xs ≤ 1048576 → E 82 [.arr (xs.map Lt.d), .arr (xs.map Lt.d)] [] = some (.bool true, [])
set_option maxHeartbeats 1000000 in
theorem eqTS_Literal_of (xs : List Lt) (h : ∀ x ∈ xs, EqT_Literal x) : EqTS_Literal xs := by
  intro hb
  refine E_walk k_laws_eqLiteralS m_laws_eqLiteralS (of_decide_eq_true rfl) ?_
  simp (disch := omega) only [c_laws_eqLiteralS, go_sem, Nat.reduceAdd, Nat.reduceSub, Nat.reduceLT, Nat.reduceLeDiff, Nat.reduceEqDiff, Nat.reduceBEq, Nat.reduceBneDiff, Nat.reduceMul, ↓reduceIte, Int.reduceToNat, reduceCtorEq, Int.reduceNeg, Int.reduceAdd]
  refine go_loop (α := Int) (fun i => ⟨slots 27 0 [(0, .arr (xs.map Lt.d)), (1, .arr (xs.map Lt.d)), (5, .int .i64 i)], []⟩) (fun i => ∃ k : Nat, i = k ∧ k ≤ xs.length) (fun i => xs.length - i.toNat) 0 ⟨0, rfl, Nat.zero_le _⟩ (by simp (disch := omega) only [go_sem, Nat.reduceAdd, Nat.reduceSub, Nat.reduceLT, Nat.reduceLeDiff, Nat.reduceEqDiff, Nat.reduceBEq, Nat.reduceBneDiff, Nat.reduceMul, ↓reduceIte, Int.reduceToNat, reduceCtorEq, Int.reduceNeg, Int.reduceAdd]) ?_
  · rintro i ⟨k, rfl, hk⟩
    obtain ⟨i, hi⟩ : ∃ i : Int, i = (k : Int) := ⟨_, rfl⟩
    rw [← hi]
    have hn : i.toNat = k := by omega
    rcases Nat.lt_or_ge k xs.length with hlt | hge
    · have hg := get_at Lt.d hlt
      rw [Lt.d_eq] at hg
      have hle := Lt.bulk_le xs k hlt
      have hc := h xs[k] (List.getElem_mem hlt) (by omega)
      simp (disch := omega) only [go_sem, Nat.reduceAdd, Nat.reduceSub, Nat.reduceLT, Nat.reduceLeDiff, Nat.reduceEqDiff, Nat.reduceBEq, Nat.reduceBneDiff, Nat.reduceMul, ↓reduceIte, Int.reduceToNat, reduceCtorEq, Int.reduceNeg, Int.reduceAdd, hn, hg, hc, m_laws_eqLiteral]
      refine ⟨i + 1, ⟨k + 1, by omega, hlt⟩, by omega, ?_⟩
      trivial
    · obtain rfl : k = xs.length := by omega
      simp (disch := omega) only [go_sem, Nat.reduceAdd, Nat.reduceSub, Nat.reduceLT, Nat.reduceLeDiff, Nat.reduceEqDiff, Nat.reduceBEq, Nat.reduceBneDiff, Nat.reduceMul, ↓reduceIte, Int.reduceToNat, reduceCtorEq, Int.reduceNeg, Int.reduceAdd, hn]
set_option maxHeartbeats 1000000 in
theorem eqT_Literal_of (x : Lt) (h_atom : EqT_Term x.atom) : EqT_Literal x := by
  intro hb
  have qb := Lt.bulk_eq x
  replace h_atom := h_atom (by omega)
  refine E_walk k_laws_eqLiteral m_laws_eqLiteral (of_decide_eq_true rfl) ?_
  simp (disch := omega) only [c_laws_eqLiteral, go_sem, Nat.reduceAdd, Nat.reduceSub, Nat.reduceLT, Nat.reduceLeDiff, Nat.reduceEqDiff, Nat.reduceBEq, Nat.reduceBneDiff, Nat.reduceMul, ↓reduceIte, Int.reduceToNat, reduceCtorEq, Int.reduceNeg, Int.reduceAdd, h_atom, m_laws_eqTerm, dec_refl]
theorem eqT_Literal (x : Lt) : EqT_Literal x := eqT_Literal_of x (eqT_Term x.atom)
theorem eqTS_Literal (xs : List Lt) : EqTS_Literal xs := eqTS_Literal_of xs fun x _ => eqT_Literal x
def c_laws_eqClause : SC := (.seq (.reg [⟨(some 2), none, (.boxv 47 1 (.t 0))⟩, ⟨(some 3), none, (.boxv 47 1 (.t 1))⟩, ⟨(some 4), none, (.mv (.c (.bool false)))⟩]) (.seq (.seq (.reg [⟨(some 5), none, (.faddr 0 (.t 2))⟩, ⟨(some 6), none, (.load false 1 (.t 5))⟩, ⟨(some 7), none, (.faddr 0 (.t 3))⟩, ⟨(some 8), none, (.load false 1 (.t 7))⟩, ⟨(some 9), none, (.call 82 [(.t 6), (.t 8)])⟩, ⟨(some 10), none, (.un .not (.t 9))⟩]) (.cond (.t 10) (.seq (.reg [⟨(some 4), none, (.mv (.c (.bool false)))⟩]) .ret) .skip)) (.seq (.reg [⟨(some 4), none, (.mv (.c (.bool true)))⟩]) .ret)))
theorem k_laws_eqClause : codeOf Try.prog 27 = some ⟨11, c_laws_eqClause, [(.tmp 4)]⟩ := by kernel_rfl
theorem m_laws_eqClause : modes 27 = ⟨[], .asis, none, false⟩ := by unfold modes; rfl
abbrev EqT_Clause (x : Cl) : Prop := x.bulk ≤ 1048576 → E 27 [x.sv, x.sv] [] = some (.bool true, [])
set_option maxHeartbeats 1000000 in
theorem eqT_Clause_of (x : Cl) (h_lits : EqTS_Literal x.lits) : EqT_Clause x := by
  intro hb
  have qb := Cl.bulk_eq x
  replace h_lits := h_lits (by omega)
  refine E_walk k_laws_eqClause m_laws_eqClause (of_decide_eq_true rfl) ?_
  simp (disch := omega) only [c_laws_eqClause, go_sem, Nat.reduceAdd, Nat.reduceSub, Nat.reduceLT, Nat.reduceLeDiff, Nat.reduceEqDiff, Nat.reduceBEq, Nat.reduceBneDiff, Nat.reduceMul, ↓reduceIte, Int.reduceToNat, reduceCtorEq, Int.reduceNeg, Int.reduceAdd, h_lits, m_laws_eqLiteralS, dec_refl]
theorem eqT_Clause (x : Cl) : EqT_Clause x := eqT_Clause_of x (eqTS_Literal_of x.lits fun y hy => eqT_Literal y)
def c_laws_eqAssigned : SC := (.seq (.reg [⟨(some 2), none, (.boxv 156 2 (.t 0))⟩, ⟨(some 3), none, (.boxv 156 2 (.t 1))⟩, ⟨(some 4), none, (.mv (.c (.bool false)))⟩]) (.seq (.seq (.reg [⟨(some 5), none, (.faddr 0 (.t 2))⟩, ⟨(some 6), none, (.load false 1 (.t 5))⟩, ⟨(some 7), none, (.faddr 0 (.t 3))⟩, ⟨(some 8), none, (.load false 1 (.t 7))⟩, ⟨(some 9), none, (.bin .neq false (.t 6) (.t 8))⟩]) (.cond (.t 9) (.seq (.reg [⟨(some 4), none, (.mv (.c (.bool false)))⟩]) .ret) .skip)) (.seq (.seq (.reg [⟨(some 10), none, (.faddr 1 (.t 2))⟩, ⟨(some 11), none, (.load false 1 (.t 10))⟩, ⟨(some 12), none, (.faddr 1 (.t 3))⟩, ⟨(some 13), none, (.load false 1 (.t 12))⟩, ⟨(some 14), none, (.bin .neq false (.t 11) (.t 13))⟩]) (.cond (.t 14) (.seq (.reg [⟨(some 4), none, (.mv (.c (.bool false)))⟩]) .ret) .skip)) (.seq (.reg [⟨(some 4), none, (.mv (.c (.bool true)))⟩]) .ret))))
theorem k_laws_eqAssigned : codeOf Try.prog 123 = some ⟨15, c_laws_eqAssigned, [(.tmp 4)]⟩ := by kernel_rfl
theorem m_laws_eqAssigned : modes 123 = ⟨[], .asis, none, false⟩ := by unfold modes; rfl
def c_laws_eqAssignedS : SC := (.seq (.reg [⟨(some 4), none, (.mv (.c (.bool false)))⟩]) (.seq (.seq (.reg [⟨(some 6), none, (.mv (.t 0))⟩, ⟨(some 7), none, (.len false (.t 6))⟩, ⟨(some 8), none, (.mv (.t 1))⟩, ⟨(some 9), none, (.len false (.t 8))⟩, ⟨(some 10), none, (.bin .neq false (.t 7) (.t 9))⟩]) (.cond (.t 10) (.seq (.reg [⟨(some 4), none, (.mv (.c (.bool false)))⟩]) .ret) .skip)) (.seq (.seq (.reg [⟨(some 5), none, (.mv (.c (.int .i64 0)))⟩]) (.block 0 (.loop [1, 1, 0, 0, 0, 1, 0, 0, 0, 0, 0, 0, 0, 0, 0, 0, 0, 0, 0, 0, 0, 0, 0, 0, 0, 0, 0] (.seq (.seq (.reg [⟨(some 11), none, (.mv (.t 5))⟩, ⟨(some 12), none, (.mv (.t 0))⟩, ⟨(some 13), none, (.len false (.t 12))⟩, ⟨(some 14), none, (.bin .lss false (.t 11) (.t 13))⟩]) (.cond (.t 14) .skip (.exit 0))) (.seq (.block 1 (.seq (.dreg [[], [], [0, 1], [2, 0, 1], [], [], [4, 5], [6, 4, 5], [3, 2, 0, 1, 7, 6, 4, 5], [8, 3, 2, 0, 1, 7, 6, 4, 5]] [⟨(some 17), none, (.mv (.t 0))⟩, ⟨(some 18), none, (.mv (.t 5))⟩, ⟨(some 19), none, (.iaddr 2 (.t 17) (.t 18))⟩, ⟨(some 20), none, (.load true 2 (.t 19))⟩, ⟨(some 21), none, (.mv (.t 1))⟩, ⟨(some 22), none, (.mv (.t 5))⟩, ⟨(some 23), none, (.iaddr 2 (.t 21) (.t 22))⟩, ⟨(some 24), none, (.load true 2 (.t 23))⟩, ⟨(some 25), none, (.call 123 [(.t 20), (.t 24)])⟩, ⟨(some 26), none, (.un .not (.t 25))⟩]) (.cond (.t 26) (.seq (.reg [⟨(some 4), none, (.mv (.c (.bool false)))⟩]) .ret) .skip))) (.reg [⟨(some 15), none, (.mv (.t 5))⟩, ⟨(some 16), none, (.bin .add false (.t 15) (.c (.int .i64 1)))⟩, ⟨(some 5), none, (.mv (.t 16))⟩])))))) (.seq (.reg [⟨(some 4), none, (.mv (.c (.bool true)))⟩]) .ret))))
theorem k_laws_eqAssignedS : codeOf Try.prog 57 = some ⟨27, c_laws_eqAssignedS, [(.tmp 4)]⟩ := by kernel_rfl
theorem m_laws_eqAssignedS : modes 57 = ⟨[], .asis, none, false⟩ := by unfold modes; rfl
abbrev EqT_Assigned (x : Ag) : Prop := x.bulk ≤ 1048576 → E 123 [x.sv, x.sv] [] = some (.bool true, [])
abbrev EqTS_Assigned (xs : List Ag) : Prop := xs.length + Ag.sumB xs ≤ 1048576 → E 57 [.arr (xs.map Ag.d), .arr (xs.map Ag.d)] [] = some (.bool true, [])
set_option maxHeartbeats 1000000 in
theorem eqTS_Assigned_of (xs : List Ag) (h : ∀ x ∈ xs, EqT_Assigned x) : EqTS_Assigned xs := by
  intro hb
  refine E_walk k_laws_eqAssignedS m_laws_eqAssignedS (of_decide_eq_true rfl) ?_
  simp (disch := omega) only [c_laws_eqAssignedS, go_sem, Nat.reduceAdd, Nat.reduceSub, Nat.reduceLT, Nat.reduceLeDiff, Nat.reduceEqDiff, Nat.reduceBEq, Nat.reduceBneDiff, Nat.reduceMul, ↓reduceIte, Int.reduceToNat, reduceCtorEq, Int.reduceNeg, Int.reduceAdd]
  refine go_loop (α := Int) (fun i => ⟨slots 27 0 [(0, .arr (xs.map Ag.d)), (1, .arr (xs.map Ag.d)), (5, .int .i64 i)], []⟩) (fun i => ∃ k : Nat, i = k ∧ k ≤ xs.length) (fun i => xs.length - i.toNat) 0 ⟨0, rfl, Nat.zero_le _⟩ (by simp (disch := omega) only [go_sem, Nat.reduceAdd, Nat.reduceSub, Nat.reduceLT, Nat.reduceLeDiff, Nat.reduceEqDiff, Nat.reduceBEq, Nat.reduceBneDiff, Nat.reduceMul, ↓reduceIte, Int.reduceToNat, reduceCtorEq, Int.reduceNeg, Int.reduceAdd]) ?_
  · rintro i ⟨k, rfl, hk⟩
    obtain ⟨i, hi⟩ : ∃ i : Int, i = (k : Int) := ⟨_, rfl⟩
    rw [← hi]
    have hn : i.toNat = k := by omega
    rcases Nat.lt_or_ge k xs.length with hlt | hge
    · have hg := get_at Ag.d hlt
      rw [Ag.d_eq] at hg
      have hle := Ag.bulk_le xs k hlt
      have hc := h xs[k] (List.getElem_mem hlt) (by omega)
      simp (disch := omega) only [go_sem, Nat.reduceAdd, Nat.reduceSub, Nat.reduceLT, Nat.reduceLeDiff, Nat.reduceEqDiff, Nat.reduceBEq, Nat.reduceBneDiff, Nat.reduceMul, ↓reduceIte, Int.reduceToNat, reduceCtorEq, Int.reduceNeg, Int.reduceAdd, hn, hg, hc, m_laws_eqAssigned]
      refine ⟨i + 1, ⟨k + 1, by omega, hlt⟩, by omega, ?_⟩
      trivial
    · obtain rfl : k = xs.length := by omega
      simp (disch := omega) only [go_sem, Nat.reduceAdd, Nat.reduceSub, Nat.reduceLT, Nat.reduceLeDiff, Nat.reduceEqDiff, Nat.reduceBEq, Nat.reduceBneDiff, Nat.reduceMul, ↓reduceIte, Int.reduceToNat, reduceCtorEq, Int.reduceNeg, Int.reduceAdd, hn]
set_option maxHeartbeats 1000000 in
theorem eqT_Assigned_of (x : Ag) : EqT_Assigned x := by
  intro hb
  have qb := Ag.bulk_eq x
  refine E_walk k_laws_eqAssigned m_laws_eqAssigned (of_decide_eq_true rfl) ?_
  simp (disch := omega) only [c_laws_eqAssigned, go_sem, Nat.reduceAdd, Nat.reduceSub, Nat.reduceLT, Nat.reduceLeDiff, Nat.reduceEqDiff, Nat.reduceBEq, Nat.reduceBneDiff, Nat.reduceMul, ↓reduceIte, Int.reduceToNat, reduceCtorEq, Int.reduceNeg, Int.reduceAdd, dec_refl]
theorem eqT_Assigned (x : Ag) : EqT_Assigned x := eqT_Assigned_of x 
theorem eqTS_Assigned (xs : List Ag) : EqTS_Assigned xs := eqTS_Assigned_of xs fun x _ => eqT_Assigned x
def c_laws_eqBinding : SC := (.seq (.reg [⟨(some 2), none, (.boxv 167 3 (.t 0))⟩, ⟨(some 3), none, (.boxv 167 3 (.t 1))⟩, ⟨(some 4), none, (.mv (.c (.bool false)))⟩]) (.seq (.seq (.reg [⟨(some 5), none, (.faddr 0 (.t 2))⟩, ⟨(some 6), none, (.load false 1 (.t 5))⟩, ⟨(some 7), none, (.faddr 0 (.t 3))⟩, ⟨(some 8), none, (.load false 1 (.t 7))⟩, ⟨(some 9), none, (.bin .neq false (.t 6) (.t 8))⟩]) (.cond (.t 9) (.seq (.reg [⟨(some 4), none, (.mv (.c (.bool false)))⟩]) .ret) .skip)) (.seq (.seq (.reg [⟨(some 10), none, (.faddr 1 (.t 2))⟩, ⟨(some 11), none, (.load true 2 (.t 10))⟩, ⟨(some 12), none, (.faddr 1 (.t 3))⟩, ⟨(some 13), none, (.load true 2 (.t 12))⟩, ⟨(some 14), none, (.call 35 [(.t 11), (.t 13)])⟩, ⟨(some 15), none, (.un .not (.t 14))⟩]) (.cond (.t 15) (.seq (.reg [⟨(some 4), none, (.mv (.c (.bool false)))⟩]) .ret) .skip)) (.seq (.reg [⟨(some 4), none, (.mv (.c (.bool true)))⟩]) .ret))))
theorem k_laws_eqBinding : codeOf Try.prog 160 = some ⟨16, c_laws_eqBinding, [(.tmp 4)]⟩ := by kernel_rfl
theorem m_laws_eqBinding : modes 160 = ⟨[], .asis, none, false⟩ := by unfold modes; rfl
def c_laws_eqBindingS : SC := (.seq (.reg [⟨(some 4), none, (.mv (.c (.bool false)))⟩]) (.seq (.seq (.reg [⟨(some 6), none, (.mv (.t 0))⟩, ⟨(some 7), none, (.len false (.t 6))⟩, ⟨(some 8), none, (.mv (.t 1))⟩, ⟨(some 9), none, (.len false (.t 8))⟩, ⟨(some 10), none, (.bin .neq false (.t 7) (.t 9))⟩]) (.cond (.t 10) (.seq (.reg [⟨(some 4), none, (.mv (.c (.bool false)))⟩]) .ret) .skip)) (.seq (.seq (.reg [⟨(some 5), none, (.mv (.c (.int .i64 0)))⟩]) (.block 0 (.loop [1, 1, 0, 0, 0, 1, 0, 0, 0, 0, 0, 0, 0, 0, 0, 0, 0, 0, 0, 0, 0, 0, 0, 0, 0, 0, 0] (.seq (.seq (.reg [⟨(some 11), none, (.mv (.t 5))⟩, ⟨(some 12), none, (.mv (.t 0))⟩, ⟨(some 13), none, (.len false (.t 12))⟩, ⟨(some 14), none, (.bin .lss false (.t 11) (.t 13))⟩]) (.cond (.t 14) .skip (.exit 0))) (.seq (.block 1 (.seq (.dreg [[], [], [0, 1], [2, 0, 1], [], [], [4, 5], [6, 4, 5], [3, 2, 0, 1, 7, 6, 4, 5], [8, 3, 2, 0, 1, 7, 6, 4, 5]] [⟨(some 17), none, (.mv (.t 0))⟩, ⟨(some 18), none, (.mv (.t 5))⟩, ⟨(some 19), none, (.iaddr 3 (.t 17) (.t 18))⟩, ⟨(some 20), none, (.load true 3 (.t 19))⟩, ⟨(some 21), none, (.mv (.t 1))⟩, ⟨(some 22), none, (.mv (.t 5))⟩, ⟨(some 23), none, (.iaddr 3 (.t 21) (.t 22))⟩, ⟨(some 24), none, (.load true 3 (.t 23))⟩, ⟨(some 25), none, (.call 160 [(.t 20), (.t 24)])⟩, ⟨(some 26), none, (.un .not (.t 25))⟩]) (.cond (.t 26) (.seq (.reg [⟨(some 4), none, (.mv (.c (.bool false)))⟩]) .ret) .skip))) (.reg [⟨(some 15), none, (.mv (.t 5))⟩, ⟨(some 16), none, (.bin .add false (.t 15) (.c (.int .i64 1)))⟩, ⟨(some 5), none, (.mv (.t 16))⟩])))))) (.seq (.reg [⟨(some 4), none, (.mv (.c (.bool true)))⟩]) .ret))))
theorem k_laws_eqBindingS : codeOf Try.prog 89 = some ⟨27, c_laws_eqBindingS, [(.tmp 4)]⟩ := by kernel_rfl
theorem m_laws_eqBindingS : modes 89 = ⟨[], .asis, none, false⟩ := by unfold modes; rfl
abbrev EqT_Binding (x : Bd) : Prop := x.bulk ≤ 1048576 → E 160 [x.sv, x.sv] [] = some (.bool true, [])
abbrev EqTS_Binding (xs : List Bd) : Prop := xs.length + Bd.sumB xs ≤ 1048576 → E 89 [.arr (xs.map Bd.d), .arr (xs.map Bd.d)] [] = some (.bool true, [])
set_option maxHeartbeats 1000000 in
theorem eqTS_Binding_of (xs : List Bd) (h : ∀ x ∈ xs, EqT_Binding x) : EqTS_Binding xs := by
  intro hb
  refine E_walk k_laws_eqBindingS m_laws_eqBindingS (of_decide_eq_true rfl) ?_
  simp (disch := omega) only [c_laws_eqBindingS, go_sem, Nat.reduceAdd, Nat.reduceSub, Nat.reduceLT, Nat.reduceLeDiff, Nat.reduceEqDiff, Nat.reduceBEq, Nat.reduceBneDiff, Nat.reduceMul, ↓reduceIte, Int.reduceToNat, reduceCtorEq, Int.reduceNeg, Int.reduceAdd]
  refine go_loop (α := Int) (fun i => ⟨slots 27 0 [(0, .arr (xs.map Bd.d)), (1, .arr (xs.map Bd.d)), (5, .int .i64 i)], []⟩) (fun i => ∃ k : Nat, i = k ∧ k ≤ xs.length) (fun i => xs.length - i.toNat) 0 ⟨0, rfl, Nat.zero_le _⟩ (by simp (disch := omega) only [go_sem, Nat.reduceAdd, Nat.reduceSub, Nat.reduceLT, Nat.reduceLeDiff, Nat.reduceEqDiff, Nat.reduceBEq, Nat.reduceBneDiff, Nat.reduceMul, ↓reduceIte, Int.reduceToNat, reduceCtorEq, Int.reduceNeg, Int.reduceAdd]) ?_
  · rintro i ⟨k, rfl, hk⟩
    obtain ⟨i, hi⟩ : ∃ i : Int, i = (k : Int) := ⟨_, rfl⟩
    rw [← hi]
    have hn : i.toNat = k := by omega
    rcases Nat.lt_or_ge k xs.length with hlt | hge
    · have hg := get_at Bd.d hlt
      rw [Bd.d_eq] at hg
      have hle := Bd.bulk_le xs k hlt
      have hc := h xs[k] (List.getElem_mem hlt) (by omega)
      simp (disch := omega) only [go_sem, Nat.reduceAdd, Nat.reduceSub, Nat.reduceLT, Nat.reduceLeDiff, Nat.reduceEqDiff, Nat.reduceBEq, Nat.reduceBneDiff, Nat.reduceMul, ↓reduceIte, Int.reduceToNat, reduceCtorEq, Int.reduceNeg, Int.reduceAdd, hn, hg, hc, m_laws_eqBinding]
      refine ⟨i + 1, ⟨k + 1, by omega, hlt⟩, by omega, ?_⟩
      trivial
    · obtain rfl : k = xs.length := by omega
      simp (disch := omega) only [go_sem, Nat.reduceAdd, Nat.reduceSub, Nat.reduceLT, Nat.reduceLeDiff, Nat.reduceEqDiff, Nat.reduceBEq, Nat.reduceBneDiff, Nat.reduceMul, ↓reduceIte, Int.reduceToNat, reduceCtorEq, Int.reduceNeg, Int.reduceAdd, hn]
set_option maxHeartbeats 1000000 in
theorem eqT_Binding_of (x : Bd) (h_term : EqT_Term x.term) : EqT_Binding x := by
  intro hb
  have qb := Bd.bulk_eq x
  replace h_term := h_term (by omega)
  refine E_walk k_laws_eqBinding m_laws_eqBinding (of_decide_eq_true rfl) ?_
  simp (disch := omega) only [c_laws_eqBinding, go_sem, Nat.reduceAdd, Nat.reduceSub, Nat.reduceLT, Nat.reduceLeDiff, Nat.reduceEqDiff, Nat.reduceBEq, Nat.reduceBneDiff, Nat.reduceMul, ↓reduceIte, Int.reduceToNat, reduceCtorEq, Int.reduceNeg, Int.reduceAdd, h_term, m_laws_eqTerm, dec_refl]
theorem eqT_Binding (x : Bd) : EqT_Binding x := eqT_Binding_of x (eqT_Term x.term)
theorem eqTS_Binding (xs : List Bd) : EqTS_Binding xs := eqTS_Binding_of xs fun x _ => eqT_Binding x
def c_laws_eqSubstitution : SC := (.seq (.reg [⟨(some 2), none, (.boxv 63 1 (.t 0))⟩, ⟨(some 3), none, (.boxv 63 1 (.t 1))⟩, ⟨(some 4), none, (.mv (.c (.bool false)))⟩]) (.seq (.seq (.reg [⟨(some 5), none, (.faddr 0 (.t 2))⟩, ⟨(some 6), none, (.load false 1 (.t 5))⟩, ⟨(some 7), none, (.faddr 0 (.t 3))⟩, ⟨(some 8), none, (.load false 1 (.t 7))⟩, ⟨(some 9), none, (.call 89 [(.t 6), (.t 8)])⟩, ⟨(some 10), none, (.un .not (.t 9))⟩]) (.cond (.t 10) (.seq (.reg [⟨(some 4), none, (.mv (.c (.bool false)))⟩]) .ret) .skip)) (.seq (.reg [⟨(some 4), none, (.mv (.c (.bool true)))⟩]) .ret)))
theorem k_laws_eqSubstitution : codeOf Try.prog 34 = some ⟨11, c_laws_eqSubstitution, [(.tmp 4)]⟩ := by kernel_rfl
theorem m_laws_eqSubstitution : modes 34 = ⟨[], .asis, none, false⟩ := by unfold modes; rfl
abbrev EqT_Substitution (x : Sb) : Prop := x.bulk ≤ 1048576 → E 34 [x.sv, x.sv] [] = some (.bool true, [])
set_option maxHeartbeats 1000000 in
theorem eqT_Substitution_of (x : Sb) (h_binds : EqTS_Binding x.binds) : EqT_Substitution x := by
  intro hb
  have qb := Sb.bulk_eq x
  replace h_binds := h_binds (by omega)
  refine E_walk k_laws_eqSubstitution m_laws_eqSubstitution (of_decide_eq_true rfl) ?_
  simp (disch := omega) only [c_laws_eqSubstitution, go_sem, Nat.reduceAdd, Nat.reduceSub, Nat.reduceLT, Nat.reduceLeDiff, Nat.reduceEqDiff, Nat.reduceBEq, Nat.reduceBneDiff, Nat.reduceMul, ↓reduceIte, Int.reduceToNat, reduceCtorEq, Int.reduceNeg, Int.reduceAdd, h_binds, m_laws_eqBindingS, dec_refl]
theorem eqT_Substitution (x : Sb) : EqT_Substitution x := eqT_Substitution_of x (eqTS_Binding_of x.binds fun y hy => eqT_Binding y)
end Go.Proofs.Ytifpfjbpfekkmaa

set_option maxRecDepth 100000
set_option linter.unusedSimpArgs false
set_option linter.unusedVariables false
namespace Go.Proofs.Ytifpfjbpfekkmaa
open Go.RowKit

def c_laws_FnExactApplySubstitution : SC := (.seq (.reg [⟨(some 2), none, (.boxv 53 1 (.t 0))⟩, ⟨(some 3), none, (.boxv 56 2 (.t 1))⟩, ⟨(some 4), none, (.mv (.c (.bool false)))⟩]) (.seq (.reg [⟨(some 5), none, (.mv (.c (.int .i64 1048576)))⟩]) (.seq (.reg [⟨(some 17), none, (.load true 1 (.t 2))⟩, ⟨(some 18), none, (.mv (.t 5))⟩, ⟨(some 19), none, (.call 28 [(.t 17), (.t 18)])⟩, ⟨(some 5), none, (.mv (.t 19))⟩]) (.seq (.seq (.reg [⟨(some 20), none, (.mv (.t 5))⟩, ⟨(some 21), none, (.bin .lss false (.t 20) (.c (.int .i64 0)))⟩]) (.cond (.t 21) (.seq (.reg [⟨(some 4), none, (.mv (.c (.bool true)))⟩]) .ret) .skip)) (.seq (.reg [⟨(some 22), none, (.load true 2 (.t 3))⟩, ⟨(some 23), none, (.mv (.t 5))⟩, ⟨(some 24), none, (.call 29 [(.t 22), (.t 23)])⟩, ⟨(some 5), none, (.mv (.t 24))⟩]) (.seq (.seq (.reg [⟨(some 25), none, (.mv (.t 5))⟩, ⟨(some 26), none, (.bin .lss false (.t 25) (.c (.int .i64 0)))⟩]) (.cond (.t 26) (.seq (.reg [⟨(some 4), none, (.mv (.c (.bool true)))⟩]) .ret) .skip)) (.seq (.dreg [[], [0], [], [2, 1, 0], [1, 0, 3, 2], [4, 1, 0, 3, 2], [5, 4, 1, 0, 3, 2], [5, 4, 1, 0, 3, 2], [], [8, 6, 5, 4, 1, 0, 3, 2], [7, 5, 4, 1, 0, 3, 2, 9, 8, 6]] [⟨(some 28), none, (.load true 1 (.t 2))⟩, ⟨(some 29), none, (.call 31 [(.t 28)])⟩, ⟨(some 30), none, (.load true 2 (.t 3))⟩, ⟨(some 31), none, (.call 32 [(.t 30)])⟩, ⟨(some 32), none, (.call 36 [(.t 29), (.t 31)])⟩, ⟨(some 27), none, (.mv (.t 32))⟩, ⟨(some 33), none, (.ext (.t 27) 0)⟩, ⟨(some 34), none, (.ext (.t 27) 1)⟩, ⟨(some 6), none, (.alloc 67 [(.str ⟨#[]⟩), .nil])⟩, ⟨none, none, (.store 2 (.t 6) (.t 33))⟩, ⟨(some 7), none, (.mv (.t 34))⟩]) (.seq (.reg [⟨(some 35), none, (.load true 1 (.t 2))⟩, ⟨(some 36), none, (.call 31 [(.t 35)])⟩, ⟨(some 8), none, (.alloc 63 [.nil])⟩, ⟨none, none, (.store 1 (.t 8) (.t 36))⟩]) (.seq (.reg [⟨(some 37), none, (.load true 2 (.t 3))⟩, ⟨(some 38), none, (.call 32 [(.t 37)])⟩, ⟨(some 9), none, (.alloc 67 [(.str ⟨#[]⟩), .nil])⟩, ⟨none, none, (.store 2 (.t 9) (.t 38))⟩]) (.seq (.reg [⟨(some 40), none, (.load true 1 (.t 8))⟩, ⟨(some 41), none, (.load true 2 (.t 9))⟩, ⟨(some 42), none, (.call 37 [(.t 40), (.t 41)])⟩, ⟨(some 39), none, (.mv (.t 42))⟩, ⟨(some 43), none, (.ext (.t 39) 0)⟩, ⟨(some 44), none, (.ext (.t 39) 1)⟩, ⟨(some 10), none, (.alloc 67 [(.str ⟨#[]⟩), .nil])⟩, ⟨none, none, (.store 2 (.t 10) (.t 43))⟩, ⟨(some 11), none, (.mv (.t 44))⟩]) (.seq (.seq (.reg [⟨(some 45), none, (.load true 2 (.t 10))⟩, ⟨(some 46), none, (.load true 2 (.t 6))⟩, ⟨(some 47), none, (.call 35 [(.t 45), (.t 46)])⟩, ⟨(some 48), none, (.un .not (.t 47))⟩, ⟨(some 49), none, (.mv (.t 48))⟩, ⟨(some 50), (some (49, false)), (.mv (.t 11))⟩, ⟨(some 51), (some (49, false)), (.mv (.t 7))⟩, ⟨(some 52), (some (49, false)), (.bin .neq true (.t 50) (.t 51))⟩, ⟨(some 53), none, (.pick (.t 49) (.c (.bool true)) (.t 52))⟩]) (.cond (.t 53) (.seq (.reg [⟨(some 4), none, (.mv (.c (.bool false)))⟩]) .ret) .skip)) (.seq (.seq (.dreg [[], [], [1], [0, 2, 1], [3, 0, 2, 1]] [⟨(some 54), none, (.load true 1 (.t 8))⟩, ⟨(some 55), none, (.load true 1 (.t 2))⟩, ⟨(some 56), none, (.call 31 [(.t 55)])⟩, ⟨(some 57), none, (.call 34 [(.t 54), (.t 56)])⟩, ⟨(some 58), none, (.un .not (.t 57))⟩]) (.cond (.t 58) (.seq (.reg [⟨(some 4), none, (.mv (.c (.bool false)))⟩]) .ret) .skip)) (.seq (.seq (.dreg [[], [], [1], [0, 2, 1], [3, 0, 2, 1]] [⟨(some 59), none, (.load true 2 (.t 9))⟩, ⟨(some 60), none, (.load true 2 (.t 3))⟩, ⟨(some 61), none, (.call 32 [(.t 60)])⟩, ⟨(some 62), none, (.call 35 [(.t 59), (.t 61)])⟩, ⟨(some 63), none, (.un .not (.t 62))⟩]) (.cond (.t 63) (.seq (.reg [⟨(some 4), none, (.mv (.c (.bool false)))⟩]) .ret) .skip)) (.seq (.reg [⟨(some 12), none, (.mv (.c (.int .i64 1)))⟩]) (.seq (.reg [⟨(some 64), none, (.load true 1 (.t 8))⟩, ⟨(some 65), none, (.mv (.t 12))⟩, ⟨(some 66), none, (.call 38 [(.t 64), (.t 65)])⟩, ⟨(some 12), none, (.mv (.t 66))⟩]) (.seq (.reg [⟨(some 67), none, (.load true 2 (.t 9))⟩, ⟨(some 68), none, (.mv (.t 12))⟩, ⟨(some 69), none, (.call 39 [(.t 67), (.t 68)])⟩, ⟨(some 12), none, (.mv (.t 69))⟩]) (.seq (.seq (.reg [⟨(some 70), none, (.mv (.t 12))⟩, ⟨(some 71), none, (.bin .lss false (.t 70) (.c (.int .i64 0)))⟩, ⟨(some 72), none, (.mv (.t 71))⟩, ⟨(some 73), (some (72, false)), (.load true 2 (.t 10))⟩, ⟨(some 74), (some (72, false)), (.load true 2 (.t 6))⟩, ⟨(some 75), (some (72, false)), (.call 35 [(.t 73), (.t 74)])⟩, ⟨(some 76), (some (72, false)), (.un .not (.t 75))⟩, ⟨(some 77), none, (.pick (.t 72) (.c (.bool true)) (.t 76))⟩, ⟨(some 78), none, (.mv (.t 77))⟩, ⟨(some 79), (some (78, false)), (.mv (.t 11))⟩, ⟨(some 80), (some (78, false)), (.mv (.t 7))⟩, ⟨(some 81), (some (78, false)), (.bin .neq true (.t 79) (.t 80))⟩, ⟨(some 82), none, (.pick (.t 78) (.c (.bool true)) (.t 81))⟩]) (.cond (.t 82) (.seq (.reg [⟨(some 4), none, (.mv (.c (.bool false)))⟩]) .ret) .skip)) (.seq (.reg [⟨(some 13), none, (.mv (.c (.int .i64 1)))⟩]) (.seq (.reg [⟨(some 83), none, (.load true 2 (.t 10))⟩, ⟨(some 84), none, (.mv (.t 13))⟩, ⟨(some 85), none, (.call 39 [(.t 83), (.t 84)])⟩, ⟨(some 13), none, (.mv (.t 85))⟩]) (.seq (.reg [⟨(some 14), none, (.mv (.c (.int .i64 1)))⟩]) (.seq (.reg [⟨(some 86), none, (.load true 2 (.t 10))⟩, ⟨(some 87), none, (.mv (.t 14))⟩, ⟨(some 88), none, (.call 40 [(.t 86), (.t 87)])⟩, ⟨(some 14), none, (.mv (.t 88))⟩]) (.seq (.seq (.reg [⟨(some 89), none, (.mv (.t 14))⟩, ⟨(some 90), none, (.bin .lss false (.t 89) (.c (.int .i64 0)))⟩]) (.cond (.t 90) (.seq (.reg [⟨(some 4), none, (.mv (.c (.bool false)))⟩]) .ret) .skip)) (.seq (.seq (.reg [⟨(some 91), none, (.mv (.t 14))⟩, ⟨(some 92), none, (.mv (.t 13))⟩, ⟨(some 93), none, (.bin .neq false (.t 91) (.t 92))⟩]) (.cond (.t 93) (.seq (.reg [⟨(some 4), none, (.mv (.c (.bool false)))⟩]) .ret) .skip)) (.seq (.dreg [[], [0], [], [2, 1, 0], [1, 0, 3, 2], [4, 1, 0, 3, 2], [5, 4, 1, 0, 3, 2], [5, 4, 1, 0, 3, 2], [], [8, 6, 5, 4, 1, 0, 3, 2], [7, 5, 4, 1, 0, 3, 2, 9, 8, 6]] [⟨(some 95), none, (.load true 1 (.t 2))⟩, ⟨(some 96), none, (.call 31 [(.t 95)])⟩, ⟨(some 97), none, (.load true 2 (.t 3))⟩, ⟨(some 98), none, (.call 32 [(.t 97)])⟩, ⟨(some 99), none, (.call 37 [(.t 96), (.t 98)])⟩, ⟨(some 94), none, (.mv (.t 99))⟩, ⟨(some 100), none, (.ext (.t 94) 0)⟩, ⟨(some 101), none, (.ext (.t 94) 1)⟩, ⟨(some 15), none, (.alloc 67 [(.str ⟨#[]⟩), .nil])⟩, ⟨none, none, (.store 2 (.t 15) (.t 100))⟩, ⟨(some 16), none, (.mv (.t 101))⟩]) (.seq (.seq (.reg [⟨(some 102), none, (.load true 2 (.t 15))⟩, ⟨(some 103), none, (.load true 2 (.t 6))⟩, ⟨(some 104), none, (.call 35 [(.t 102), (.t 103)])⟩, ⟨(some 105), none, (.un .not (.t 104))⟩, ⟨(some 106), none, (.mv (.t 105))⟩, ⟨(some 107), (some (106, false)), (.mv (.t 16))⟩, ⟨(some 108), (some (106, false)), (.mv (.t 7))⟩, ⟨(some 109), (some (106, false)), (.bin .neq true (.t 107) (.t 108))⟩, ⟨(some 110), none, (.pick (.t 106) (.c (.bool true)) (.t 109))⟩]) (.cond (.t 110) (.seq (.reg [⟨(some 4), none, (.mv (.c (.bool false)))⟩]) .ret) .skip)) (.seq (.reg [⟨(some 14), none, (.mv (.c (.int .i64 1)))⟩]) (.seq (.reg [⟨(some 111), none, (.load true 2 (.t 10))⟩, ⟨(some 112), none, (.mv (.t 14))⟩, ⟨(some 113), none, (.call 40 [(.t 111), (.t 112)])⟩, ⟨(some 14), none, (.mv (.t 113))⟩]) (.seq (.seq (.reg [⟨(some 114), none, (.mv (.t 14))⟩, ⟨(some 115), none, (.bin .lss false (.t 114) (.c (.int .i64 0)))⟩]) (.cond (.t 115) (.seq (.reg [⟨(some 4), none, (.mv (.c (.bool false)))⟩]) .ret) .skip)) (.seq (.seq (.reg [⟨(some 116), none, (.mv (.t 14))⟩, ⟨(some 117), none, (.mv (.t 13))⟩, ⟨(some 118), none, (.bin .neq false (.t 116) (.t 117))⟩]) (.cond (.t 118) (.seq (.reg [⟨(some 4), none, (.mv (.c (.bool false)))⟩]) .ret) .skip)) (.seq (.reg [⟨(some 4), none, (.mv (.c (.bool true)))⟩]) .ret))))))))))))))))))))))))))))))
theorem k_laws_FnExactApplySubstitution : codeOf Try.prog 6 = some ⟨119, c_laws_FnExactApplySubstitution, [(.tmp 4)]⟩ := by kernel_rfl
theorem m_laws_FnExactApplySubstitution : modes 6 = ⟨[], .asis, none, false⟩ := by unfold modes; rfl

theorem Tm.nodeS_sumB : ∀ xs : List Tm, (∀ x ∈ xs, x.nodes ≤ 1 + x.bulk) → Tm.nodeS xs ≤ xs.length + Tm.sumB xs
  | [], _ => by simp [Tm.nodeS]
  | x :: xs, h => by
    have h1 := h x (by simp)
    have h2 := Tm.nodeS_sumB xs fun y hy => h y (by simp [hy])
    rw [Tm.nodeS, Tm.sumB]; simp only [List.length_cons]; omega
theorem Tm.nodes_bulk (x : Tm) : x.nodes ≤ 1 + x.bulk := by
  rw [Tm.nodes_eq, Tm.bulk_eq]
  have := Tm.nodeS_sumB x.args fun y hy => Tm.nodes_bulk y
  omega
termination_by SizeOf.sizeOf x
decreasing_by exact Tm.lt_of_mem hy
theorem Sb.tame_of {x : Sb} (h : x.bulk ≤ 1048576) : x.tame := by
  rw [Sb.bulk_eq] at h
  refine ⟨by omega, fun y hy => ?_⟩
  obtain ⟨k, hk, rfl⟩ := List.getElem_of_mem hy
  have h1 := Bd.bulk_le x.binds k hk
  have h2 := Tm.nodes_bulk x.binds[k].term
  have h3 := Bd.bulk_eq x.binds[k]
  omega
theorem varB_size {s : ByteArray} (h : varB s = true) : s.size ≤ 6 := by
  unfold varB inB at h
  simp at h
  omega
theorem symB_size {s : ByteArray} (h : symB s = true) : s.size ≤ 6 := by
  unfold symB inB at h
  simp at h
  omega
theorem Tm.sumB_nodes : ∀ xs : List Tm, (∀ x ∈ xs, x.bulk + 1 ≤ 8 * x.nodes) → xs.length + Tm.sumB xs ≤ 8 * Tm.nodeS xs
  | [], _ => by simp [Tm.nodeS, Tm.sumB]
  | x :: xs, h => by
    have h1 := h x (by simp)
    have h2 := Tm.sumB_nodes xs fun y hy => h y (by simp [hy])
    rw [Tm.nodeS, Tm.sumB]; simp only [List.length_cons]; omega
theorem Tm.names_bulk (x : Tm) (h : x.names = true) : x.bulk + 1 ≤ 8 * x.nodes := by
  have h1 := Tm.sumB_nodes x.args fun y hy => Tm.names_bulk y (Tm.names_arg h hy)
  have h2 : x.name.size ≤ 6 := by
    rw [Tm.names_eq] at h
    split at h
    · rename_i hv; exact varB_size hv
    · rw [Bool.and_eq_true, Bool.and_eq_true] at h; exact symB_size h.1.1
  rw [Tm.nodes_eq, Tm.bulk_eq]
  omega
termination_by SizeOf.sizeOf x
decreasing_by exact Tm.lt_of_mem hy
theorem Tm.expr_bulk {x : Tm} (h : x.expr = true) : x.bulk ≤ 1048576 := by
  have hn := Tm.expr_nodes h
  have h1 := Tm.sumB_nodes x.args fun y hy => Tm.names_bulk y (Tm.expr_arg h hy)
  have h2 : x.name.size ≤ 6 := by
    rcases Tm.expr_names h with h3 | ⟨h3, _⟩
    · rw [Tm.names_eq] at h3
      split at h3
      · rename_i hv; exact varB_size hv
      · rw [Bool.and_eq_true, Bool.and_eq_true] at h3; exact symB_size h3.1.1
    · unfold Tm.eqn at h3
      rw [dec_iff.1 h3]; decide
  rw [Tm.nodes_eq] at hn
  rw [Tm.bulk_eq]
  omega
theorem apTo_bulk (s : Sb) (x : Tm) : (apTo s x).bulk ≤ 1048576 := by
  cases h : apOk s x with
  | false =>
    rw [apTo_no h, Tm.bulk_eq]
    show 0 + _ ≤ _
    simp [Tm.args, Tm.sumB]
  | true =>
    rw [apTo_yes h]
    unfold apOk at h
    rw [Bool.and_eq_true, Bool.and_eq_true] at h
    refine Tm.expr_bulk ?_
    exact (Tm.ap_any (Sb.look_okF h.1) x h.2.1).trans h.2.2
set_option maxHeartbeats 8000000 in
theorem law12_E (s : Sb) (x : Tm) (hfs : D.fits s.d) (hfx : D.fits x.d) : E 6 [s.sv, x.sv] [] = some (.bool true, []) := by
  have h1 := szT_Substitution s hfs 1048576 (by omega) (by omega)
  have q := szR_spec 1048576 s.bulk
  obtain ⟨l, hl⟩ : ∃ l, l = szR 1048576 s.bulk := ⟨_, rfl⟩
  rw [← hl] at h1 q
  rcases Int.lt_or_le l 0 with h0 | h0
  · refine E_walk k_laws_FnExactApplySubstitution m_laws_FnExactApplySubstitution (of_decide_eq_true rfl) ?_
    simp (disch := omega) only [c_laws_FnExactApplySubstitution, go_sem, Nat.reduceAdd, Nat.reduceSub, Nat.reduceLT, Nat.reduceLeDiff, Nat.reduceEqDiff, Nat.reduceBEq, Nat.reduceBneDiff, Nat.reduceMul, ↓reduceIte, Int.reduceToNat, reduceCtorEq, Int.reduceNeg, Int.reduceAdd, h1, m_laws_szSubstitution]
  have h2 := szT_Term x hfx l h0 (by omega)
  have q2 := szR_spec l x.bulk
  obtain ⟨l2, hl2⟩ : ∃ l2, l2 = szR l x.bulk := ⟨_, rfl⟩
  rw [← hl2] at h2 q2
  rcases Int.lt_or_le l2 0 with h02 | h02
  · refine E_walk k_laws_FnExactApplySubstitution m_laws_FnExactApplySubstitution (of_decide_eq_true rfl) ?_
    simp (disch := omega) only [c_laws_FnExactApplySubstitution, go_sem, Nat.reduceAdd, Nat.reduceSub, Nat.reduceLT, Nat.reduceLeDiff, Nat.reduceEqDiff, Nat.reduceBEq, Nat.reduceBneDiff, Nat.reduceMul, ↓reduceIte, Int.reduceToNat, reduceCtorEq, Int.reduceNeg, Int.reduceAdd, h1, h2, m_laws_szSubstitution, m_laws_szTerm]
  have hbs : s.bulk ≤ 1048576 := by omega
  have hbx : x.bulk ≤ 1048576 := by omega
  have hts := Sb.tame_of hbs
  have hnx := Tm.nodes_bulk x
  have t1 := toT_Substitution s hbs
  have t2 := toT_Term x hbx
  have a1 := l4ApplySubstitution_E s hts x (by omega)
  have a2 := applySubstitution_E s hts x (by omega)
  have hbr := apTo_bulk s x
  obtain ⟨r, hr⟩ : ∃ r, r = apTo s x := ⟨_, rfl⟩
  obtain ⟨o, ho⟩ : ∃ o, o = apOk s x := ⟨_, rfl⟩
  rw [← hr] at a1 a2 hbr
  rw [← ho] at a1 a2
  have e1 := eqT_Substitution s hbs
  have e2 := eqT_Term x hbx
  have e3 := eqT_Term r hbr
  have ws := Bd.wtS_bulk s.binds
  have wx := Tm.wtS_bulk x.args
  have wr := Tm.wtS_bulk r.args
  have bs := Sb.bulk_eq s
  have bx := Tm.bulk_eq x
  have br := Tm.bulk_eq r
  have k1 := Bd.mkS_end s.binds 1
  have m1 := markT_Substitution s 1 (.row 167 3 (s.binds.map Bd.o)) (by omega) (by omega) rfl
  obtain ⟨n1, hn1⟩ : ∃ n1, n1 = (s.mkr 1).2 := ⟨_, rfl⟩
  have hn1' : n1 = (Bd.mkS s.binds 1).2 := hn1
  rw [← hn1] at m1
  have k2 := Tm.mkS_end x.args n1
  have m2 := markT_Term x n1 (.row 67 2 (x.args.map Tm.o)) (by omega) (by omega) rfl
  obtain ⟨n2, hn2⟩ : ∃ n2, n2 = (x.mkr n1).2 := ⟨_, rfl⟩
  have hn2' : n2 = (Tm.mkS x.args n1).2 := hn2
  rw [← hn2] at m2
  have k3 := Tm.mkS_end r.args 1
  have m3 := markT_Term r 1 (.row 67 2 (r.args.map Tm.o)) (by omega) (by omega) rfl
  have h3 := heldT_Term r 1 (by omega) (by omega)
  obtain ⟨n3, hn3⟩ : ∃ n3, n3 = (r.mkr 1).2 := ⟨_, rfl⟩
  have hn3' : n3 = (Tm.mkS r.args 1).2 := hn3
  rw [← hn3] at m3 h3
  refine E_walk k_laws_FnExactApplySubstitution m_laws_FnExactApplySubstitution (of_decide_eq_true rfl) ?_
  simp (disch := omega) only [c_laws_FnExactApplySubstitution, go_sem, Nat.reduceAdd, Nat.reduceSub, Nat.reduceLT, Nat.reduceLeDiff, Nat.reduceEqDiff, Nat.reduceBEq, Nat.reduceBneDiff, Nat.reduceMul, ↓reduceIte, Int.reduceToNat, reduceCtorEq, Int.reduceNeg, Int.reduceAdd, h1, h2, t1, t2, a1, a2, e1, e2, e3, m1, m2, m3, h3, dec_refl, m_laws_szSubstitution, m_laws_szTerm, m_laws_toSubstitution, m_laws_toTerm, m_spec_ApplySubstitution, m_impl_ApplySubstitution, m_laws_eqTerm, m_laws_eqSubstitution, m_laws_markSubstitution, m_laws_markTerm, m_laws_heldTerm, Sb.osv, Sb.obs, Tm.osv, Tm.obs, Bd.erss, Bd.noss, Tm.erss, Tm.noss]
end Go.Proofs.Ytifpfjbpfekkmaa

set_option maxRecDepth 100000
set_option linter.unusedSimpArgs false
set_option linter.unusedVariables false
namespace Go.Proofs.Ytifpfjbpfekkmaa
open Go.RowKit Go.ChangeShapes Go.WideShapes Go.ChangeAt Go.Deep

section
variable {H : Type} {enc : TypeId × Value → H} {P : Program} {w : World} {base : Nat} {spare : Nat → Bool} {held : Bool}

theorem addr_add_plain {b o k : Nat} : (⟨b, o, none⟩ : Addr).add k = ⟨b, o + k, none⟩ := by
  unfold Addr.add; split
  · subst_vars; rfl
  · rfl
theorem cell_lt {a : Addr} {v : Value} (h : w.cell? a = some v) : a.block < w.heap.size := by
  unfold World.cell? at h
  cases hb : w.heap[a.block]? with
  | none => rw [hb] at h; cases h
  | some o => exact (Array.getElem?_eq_some_iff.1 hb).1

/-- A slice that is read: its cells, and each element's own reading. -/
theorem open_sl {t e : TypeId} {fuel : Nat} {cs : List Value} {x : DataW H × List MemPlace} (sz : Nat) (hsz : P.cellsOf e = sz) (h0 : 0 < sz) (ht : P.underlying t = some (.slice e)) (h : DataW.trod enc P w base spare held fuel t cs = some x) :
    ∃ (a : Option Addr) (len cap : Nat) (f : Nat → Nat → Value), cs = [.slice a len cap] ∧ len ≤ cap ∧ cap ≤ 9223372036854775807 ∧ SlA w 0 sz len f a ∧
      ∀ i, i < len → ∃ n x', DataW.trod enc P w base spare held n e ((List.range sz).map (f i)) = some x' := by
  rcases open_slice ht h with ⟨hcs, _⟩ | ⟨a, len, cap, m, n, D, Pl, hcs, hb, hl, hm, hmm, hx, hi⟩
  · exact ⟨none, 0, 0, fun _ _ => undef, hcs, Nat.le_refl _, by omega, .inl rfl, fun i hi => absurd hi (by omega)⟩
  · have hlm : len ≤ m := by rw [hmm]; split <;> omega
    have hcell : ∀ i j, i < len → j < sz → ∃ v, w.cell? (a.add (i * sz + j)) = some v := by
      intro i j hil hj
      obtain ⟨cs', hc, _⟩ := hi i (by omega)
      rw [hsz] at hc
      obtain ⟨_, hcl, hat⟩ := World.cells?_some hc
      have h1 := hat j hj
      rw [Go.Deep.add_add, List.getElem?_eq_getElem (by omega)] at h1
      exact ⟨_, h1⟩
    refine ⟨some a, len, cap, fun i j => (w.cell? (a.add (i * sz + j))).getD undef, hcs, hl, hm, ?_, ?_⟩
    · rcases Nat.eq_zero_or_pos len with h | h
      · exact .inl h
      · obtain ⟨v, hv⟩ := hcell 0 0 h h0
        rw [Nat.zero_mul, Nat.zero_add] at hv
        have hsp : a.spot = none := by simpa [Addr.add] using World.cell?_spot hv
        have hlt := cell_lt hv
        obtain ⟨b, off, spot⟩ := a
        simp only at hsp
        subst hsp
        refine .inr ⟨b, off, rfl, Nat.zero_le _, by simpa [Addr.add] using hlt, fun i j hil hj => ?_⟩
        obtain ⟨v', hv'⟩ := hcell i j hil hj
        rw [addr_add_plain] at hv'
        show _ = some ((w.cell? ((⟨b, off, none⟩ : Addr).add (i * sz + j))).getD undef)
        rw [addr_add_plain, Nat.add_assoc, hv']
        rfl
    · intro i hil
      obtain ⟨cs', hc, ht'⟩ := hi i (by omega)
      rw [hsz] at hc
      obtain ⟨_, hcl, hat⟩ := World.cells?_some hc
      refine ⟨n, (D i, Pl i), ?_⟩
      · have hcs' : (List.range sz).map (fun j => (w.cell? (a.add (i * sz + j))).getD undef) = cs' := by
          apply List.ext_getElem?
          intro j
          by_cases hj : j < sz
          · rw [List.getElem?_map, List.getElem?_range hj]
            have h1 := hat j hj
            rw [Go.Deep.add_add] at h1
            rw [List.getElem?_eq_getElem (by omega : j < cs'.length)] at h1 ⊢
            simp [h1]
          · rw [List.getElem?_eq_none (by simp; omega), List.getElem?_eq_none (by omega)]
        rw [hcs']
        exact ht'

/-- A struct of one-cell fields: each field's own reading. -/
theorem open_fields {e : TypeId} {fs : Array Field} {n sz : Nat} {g : Nat → Value} {x : DataW H × List MemPlace} (he : P.underlying e = some (.struct fs)) (hone : oneCellFields P fs = true) (hs : fs.size = sz)
    (h : DataW.trod enc P w base spare held n e ((List.range sz).map g) = some x) (j : Nat) (f : Field) (hj : fs[j]? = some f) :
    ∃ n' y, DataW.trod enc P w base spare held n' f.type [g j] = some y := by
  obtain ⟨xs, n', hn, hx, hlen, hxl, hf⟩ := DataW.trod_struct he h
  obtain ⟨ho, hk⟩ := hone_of hone j f hj
  have hjl : j < fs.size := (Array.getElem?_eq_some_iff.1 hj).1
  have h1 := hf j f hj
  rw [ho, hk] at h1
  have e1 : ((((List.range sz).map g).drop j).take 1) = [g j] := by
    rw [List.drop_eq_getElem_cons (by simp; omega)]
    simp
  rw [e1, List.getElem?_eq_getElem (by omega : j < xs.length)] at h1
  exact ⟨n', _, h1⟩

theorem open_intsAt {t e : TypeId} {fuel : Nat} {v : Value} {x : DataW H × List MemPlace} (ht : P.underlying t = some (.slice e)) (he : P.underlying e = some (.int .i64)) (hc : P.cellsOf e = 1)
    (h : DataW.trod enc P w base spare held fuel t [v] = some x) : ∃ xs, IntsAt w 0 v xs ∧ ∀ n ∈ xs, (Lit.int .i64 n).wf = true := by
  obtain ⟨a, len, cap, f, hcs, hl, hm, hS, hr⟩ := open_sl 1 hc (by omega) ht h
  simp only [List.cons.injEq, and_true] at hcs
  subst hcs
  have hint : ∀ i, i < len → ∃ z, f i 0 = .int .i64 z ∧ (Lit.int .i64 z).wf = true := by
    intro i hi
    obtain ⟨n, x', h1⟩ := hr i hi
    obtain ⟨z, hz, _, hw⟩ := DataW.trod_int he h1
    simp at hz
    exact ⟨z, hz, hw⟩
  let g : Nat → Int := fun i => match f i 0 with | .int _ z => z | _ => 0
  have hg : ∀ i, i < len → f i 0 = .int .i64 (g i) ∧ (Lit.int .i64 (g i)).wf = true := by
    intro i hi
    obtain ⟨z, hz, hw⟩ := hint i hi
    have : g i = z := by show (match f i 0 with | .int _ z => z | _ => 0) = z; rw [hz]
    rw [this]; exact ⟨hz, hw⟩
  refine ⟨(List.range len).map g, ⟨a, cap, by simp, by simpa using hl, hm, ?_⟩, ?_⟩
  · have : ((List.range len).map g).length = len := by simp
    rw [this]
    refine hS.congr fun i j hi hj => ?_
    obtain rfl : j = 0 := by omega
    rw [(hg i hi).1, atZ_get (by simpa using hi)]
    simp
  · intro n hn
    simp only [List.mem_map, List.mem_range] at hn
    obtain ⟨i, hi, rfl⟩ := hn
    exact (hg i hi).2
end

section
variable {H : Type} {enc : TypeId × Value → H} {w : World} {base : Nat} {spare : Nat → Bool} {held : Bool}

theorem open_tabs {fuel : Nat} {v : Value} {x : DataW H × List MemPlace} (h : DataW.trod enc Try.prog w base spare held fuel 22 [v] = some x) : ∃ ts, TabsAt w 0 v ts := by
  obtain ⟨a, len, cap, f, hcs, hl, hm, hS, hr⟩ := open_sl (P := Try.prog) 4 (by kernel_rfl) (by omega) Try.underlying22 h
  simp only [List.cons.injEq, and_true] at hcs
  subst hcs
  have hel : ∀ i, i < len → ∃ t : Tb, (f i 0 = .string t.name ∧ f i 1 = .int .i64 t.arity ∧ f i 2 = .bool t.pred) ∧ TabAt w 0 t (f i 3) := by
    intro i hi
    obtain ⟨n, x', h1⟩ := hr i hi
    obtain ⟨n0, y0, k0⟩ := open_fields (P := Try.prog) Try.underlying174 (by kernel_rfl) rfl h1 0 _ rfl
    obtain ⟨n1, y1, k1⟩ := open_fields (P := Try.prog) Try.underlying174 (by kernel_rfl) rfl h1 1 _ rfl
    obtain ⟨n2, y2, k2⟩ := open_fields (P := Try.prog) Try.underlying174 (by kernel_rfl) rfl h1 2 _ rfl
    obtain ⟨n3, y3, k3⟩ := open_fields (P := Try.prog) Try.underlying174 (by kernel_rfl) rfl h1 3 _ rfl
    obtain ⟨s, hs, _, hsz⟩ := DataW.trod_string Try.underlying9 k0
    obtain ⟨z, hz, _, _⟩ := DataW.trod_int Try.underlying3 k1
    obtain ⟨b, hb, _⟩ := DataW.trod_bool Try.underlying4 k2
    obtain ⟨xs, hxs, _⟩ := open_intsAt Try.underlying25 Try.underlying3 (by kernel_rfl) k3
    simp only [List.cons.injEq, and_true] at hs hz hb
    exact ⟨⟨s, z, b, xs⟩, ⟨hs, hz, hb⟩, hxs, hsz⟩
  obtain ⟨g, hg⟩ : ∃ g : Nat → Tb, ∀ i, i < len → (f i 0 = .string (g i).name ∧ f i 1 = .int .i64 (g i).arity ∧ f i 2 = .bool (g i).pred) ∧ TabAt w 0 (g i) (f i 3) :=
    ⟨fun i => if h : i < len then (hel i h).choose else ⟨⟨#[]⟩, 0, false, []⟩, fun i hi => by simp only [hi, dif_pos]; exact (hel i hi).choose_spec⟩
  have hlen : ((List.range len).map g).length = len := by simp
  have hget : ∀ i (hi : i < len), ((List.range len).map g).getD i ⟨⟨#[]⟩, 0, false, []⟩ = g i := by
    intro i hi
    rw [getD_at _ (by simpa using hi)]; simp
  refine ⟨(List.range len).map g, fun i => f i 3, ⟨a, cap, by simp, by simpa using hl, hm, ?_⟩, fun i hi => ?_⟩
  · rw [hlen]
    refine hS.congr fun i j hi hj => ?_
    rw [hget i hi]
    obtain ⟨⟨h0, h1, h2⟩, _⟩ := hg i hi
    match j, hj with
    | 0, _ => exact h0
    | 1, _ => exact h1
    | 2, _ => exact h2
    | 3, _ => rfl
  · rw [hlen] at hi
    have := (hg i hi).2
    simpa using this
end
end Go.Proofs.Ytifpfjbpfekkmaa

set_option maxRecDepth 100000
set_option linter.unusedSimpArgs false
set_option linter.unusedVariables false
namespace Go.Proofs.Ytifpfjbpfekkmaa
open Go.RowKit Go.ChangeShapes Go.WideShapes Go.ChangeAt Go.Deep

section
variable {H : Type} {enc : TypeId × Value → H} {P : Program} {w : World} {base : Nat} {spare : Nat → Bool} {held : Bool}

/-- A slice that is read: its cells, and each element's own reading, with less fuel. -/
theorem open_sl' {t e : TypeId} {fuel : Nat} {v : Value} {x : DataW H × List MemPlace} (sz : Nat) (hsz : P.cellsOf e = sz) (h0 : 0 < sz) (ht : P.underlying t = some (.slice e)) (h : DataW.trod enc P w base spare held fuel t [v] = some x) :
    ∃ (a : Option Addr) (len cap : Nat) (f : Nat → Nat → Value), v = .slice a len cap ∧ len ≤ cap ∧ cap ≤ 9223372036854775807 ∧ SlA w 0 sz len f a ∧
      ∀ i, i < len → ∃ n x', n < fuel ∧ DataW.trod enc P w base spare held n e ((List.range sz).map (f i)) = some x' := by
  rcases DataW.trod_slice ht h with ⟨hcs, _⟩ | ⟨a, len, cap, elems, rest, n, hf, hcs, hx, hb, hl, hm, hlen, hel, _, _⟩
  · simp only [List.cons.injEq, and_true] at hcs
    exact ⟨none, 0, 0, fun _ _ => undef, hcs, Nat.le_refl _, by omega, .inl rfl, fun i hi => absurd hi (by omega)⟩
  · have hi : ∀ i, i < len → ∃ cs' x', w.cells? base (a.add (i * sz)) sz = some cs' ∧ DataW.trod enc P w base spare held n e cs' = some x' := by
      intro i hi
      have h1 := hel i hi
      rw [hsz, List.getElem?_eq_getElem (by omega)] at h1
      obtain ⟨cs', h2, h3⟩ := Option.bind_eq_some_iff.1 h1
      exact ⟨cs', _, h2, h3⟩
    have hcell : ∀ i j, i < len → j < sz → ∃ v, w.cell? (a.add (i * sz + j)) = some v := by
      intro i j hil hj
      obtain ⟨cs', x', hc, _⟩ := hi i hil
      obtain ⟨_, hcl, hat⟩ := World.cells?_some hc
      have h1 := hat j hj
      rw [Go.Deep.add_add, List.getElem?_eq_getElem (by omega)] at h1
      exact ⟨_, h1⟩
    simp only [List.cons.injEq, and_true] at hcs
    refine ⟨some a, len, cap, fun i j => (w.cell? (a.add (i * sz + j))).getD undef, hcs, hl, hm, ?_, ?_⟩
    · rcases Nat.eq_zero_or_pos len with h | h
      · exact .inl h
      · obtain ⟨v, hv⟩ := hcell 0 0 h h0
        rw [Nat.zero_mul, Nat.zero_add] at hv
        have hsp : a.spot = none := by simpa [Addr.add] using World.cell?_spot hv
        have hlt := cell_lt hv
        obtain ⟨b, off, spot⟩ := a
        simp only at hsp
        subst hsp
        refine .inr ⟨b, off, rfl, Nat.zero_le _, by simpa [Addr.add] using hlt, fun i j hil hj => ?_⟩
        obtain ⟨v', hv'⟩ := hcell i j hil hj
        rw [addr_add_plain] at hv'
        show _ = some ((w.cell? ((⟨b, off, none⟩ : Addr).add (i * sz + j))).getD undef)
        rw [addr_add_plain, Nat.add_assoc, hv']
        rfl
    · intro i hil
      obtain ⟨cs', x', hc, ht'⟩ := hi i hil
      obtain ⟨_, hcl, hat⟩ := World.cells?_some hc
      refine ⟨n, x', by omega, ?_⟩
      have hcs' : (List.range sz).map (fun j => (w.cell? (a.add (i * sz + j))).getD undef) = cs' := by
        apply List.ext_getElem?
        intro j
        by_cases hj : j < sz
        · rw [List.getElem?_map, List.getElem?_range hj]
          have h1 := hat j hj
          rw [Go.Deep.add_add] at h1
          rw [List.getElem?_eq_getElem (by omega : j < cs'.length)] at h1 ⊢
          simp [h1]
        · rw [List.getElem?_eq_none (by simp; omega), List.getElem?_eq_none (by omega)]
      rw [hcs']
      exact ht'
/-- A struct that is read: each field's own reading, with less fuel. -/
theorem open_st' {t : TypeId} {fs : Array Field} {fuel : Nat} {cs : List Value} {x : DataW H × List MemPlace} (ht : P.underlying t = some (.struct fs)) (h : DataW.trod enc P w base spare held fuel t cs = some x) :
    ∃ n, n < fuel ∧ cs.length = P.cellsOf t ∧ ∀ (i : Nat) (f : Field), fs[i]? = some f → ∃ y, DataW.trod enc P w base spare held n f.type ((cs.drop f.offset).take (P.cellsOf f.type)) = some y := by
  obtain ⟨xs, n, hn, hx, hlen, hxl, hf⟩ := DataW.trod_struct ht h
  refine ⟨n, by omega, hlen, fun i f hi => ?_⟩
  have hil : i < fs.size := (Array.getElem?_eq_some_iff.1 hi).1
  have h1 := hf i f hi
  rw [List.getElem?_eq_getElem (by omega : i < xs.length)] at h1
  exact ⟨_, h1⟩
end

/-- Leaves that are read, one by one. -/
inductive Lvs (w : World) : List D → List Value → Prop
  | nil : Lvs w [] []
  | cons {d : D} {v : Value} {ds : List D} {vs : List Value} (h : DAt w d v) (hs : Lvs w ds vs) : Lvs w (d :: ds) (v :: vs)
theorem Lvs.len {w : World} {ds : List D} {vs : List Value} (h : Lvs w ds vs) : ds.length = vs.length := by
  induction h with
  | nil => rfl
  | cons h hs ih => simp [ih]
theorem Lvs.get {w : World} {ds : List D} {vs : List Value} (h : Lvs w ds vs) : ∀ j (h1 : j < ds.length) (h2 : j < vs.length), DAt w ds[j] vs[j] := by
  induction h with
  | nil => intro j h1; simp at h1
  | cons h hs ih =>
    intro j h1 h2
    cases j with
    | zero => exact h
    | succ j => exact ih j (by simpa using h1) (by simpa using h2)
theorem open_arr {α : Type} [Inhabited α] (dd : α → List D) {w : World} {m len cap : Nat} {f : Nat → Nat → Value} {a : Option Addr} (hl : len ≤ cap) (hm : cap ≤ 9223372036854775807) (hS : SlA w 0 m len f a)
    (hel : ∀ i, i < len → ∃ X : α, Lvs w (dd X) ((List.range m).map (f i))) : ∃ xs : List α, DAt w (.arr (xs.map dd)) (.slice a len cap) := by
  obtain ⟨g, hg⟩ : ∃ g : Nat → α, ∀ i, i < len → Lvs w (dd (g i)) ((List.range m).map (f i)) :=
    ⟨fun i => if h : i < len then (hel i h).choose else default, fun i hi => by simp only [hi, dif_pos]; exact (hel i hi).choose_spec⟩
  refine ⟨(List.range len).map g, ?_⟩
  have hlen : (((List.range len).map g).map dd).length = len := by simp
  have := DAt.arr_mk (w := w) (es := ((List.range len).map g).map dd) (sz := m) (cap := cap) (a := a) (f := f) (by rw [hlen]; exact hl) hm (by rw [hlen]; exact hS) (fun i hi => by
    rw [hlen] at hi
    have := (hg i hi).len
    simpa using this) (fun i j hi hj => by
    rw [hlen] at hi
    have h1 := hg i hi
    have h2 := h1.len
    simp only [List.length_map, List.length_range] at h2
    simp only [List.getElem_map, List.getElem_range] at hj ⊢
    have := h1.get j hj (by simp; omega)
    simpa using this)
  rw [hlen] at this
  exact this
instance : Inhabited Tm := ⟨Tm.zero⟩
instance : Inhabited Fm := ⟨Fm.zero⟩

section
variable {H : Type} {enc : TypeId × Value → H} {w : World} {base : Nat} {spare : Nat → Bool} {held : Bool}
theorem open_term_of {fuel : Nat} (ih : ∀ n, n < fuel → ∀ v x, DataW.trod enc Try.prog w base spare held n 54 [v] = some x → ∃ xs, TmsAt w xs v) {cs : List Value} {x : DataW H × List MemPlace}
    (h : DataW.trod enc Try.prog w base spare held fuel 56 cs = some x) : ∃ X : Tm, Lvs w X.d cs := by
  obtain ⟨n, hn, hlen, hf⟩ := open_st' Try.underlying56 h
  rw [show Try.prog.cellsOf 56 = 2 by kernel_rfl] at hlen
  match cs, hlen with
  | [c0, c1], _ =>
    obtain ⟨y0, k0⟩ := hf 0 _ rfl
    obtain ⟨y1, k1⟩ := hf 1 _ rfl
    obtain ⟨s, hs, _, hsz⟩ := DataW.trod_string Try.underlying9 k0
    have e1 : (([c0, c1].drop 1).take (Try.prog.cellsOf 54)) = [c1] := by rw [show Try.prog.cellsOf 54 = 1 by kernel_rfl]; rfl
    have e0 : (([c0, c1].drop 0).take (Try.prog.cellsOf 9)) = [c0] := by rw [show Try.prog.cellsOf 9 = 1 by kernel_rfl]; rfl
    obtain ⟨xs, hxs⟩ := ih n hn c1 y1 (by rw [← e1]; exact k1)
    have hs' : c0 = .string s := by
      have : [c0] = [.string s] := by rw [← e0]; exact hs
      simpa using this
    subst hs'
    exact ⟨.mk s xs, by rw [Tm.d_eq]; exact .cons (.str _ s hsz) (.cons hxs .nil)⟩
theorem open_terms_all : ∀ (fuel : Nat) (v : Value) (x : DataW H × List MemPlace), DataW.trod enc Try.prog w base spare held fuel 54 [v] = some x → ∃ xs, TmsAt w xs v := by
  intro fuel
  induction fuel using Nat.strongRecOn with
  | _ fuel ih =>
    intro v x h
    obtain ⟨a, len, cap, f, rfl, hl, hm, hS, hr⟩ := open_sl' (P := Try.prog) 2 (by kernel_rfl) (by omega) Try.underlying54 h
    exact open_arr Tm.d hl hm hS fun i hi => by
      obtain ⟨n, x', hn, h1⟩ := hr i hi
      exact open_term_of (fun n' hn' => ih n' (by omega)) h1
theorem open_term {fuel : Nat} {cs : List Value} {x : DataW H × List MemPlace} (h : DataW.trod enc Try.prog w base spare held fuel 56 cs = some x) : ∃ X : Tm, Lvs w X.d cs :=
  open_term_of (fun n _ => open_terms_all n) h
theorem open_formula_of {fuel : Nat} (ih : ∀ n, n < fuel → ∀ v x, DataW.trod enc Try.prog w base spare held n 84 [v] = some x → ∃ xs, FmsAt w xs v) {cs : List Value} {x : DataW H × List MemPlace}
    (h : DataW.trod enc Try.prog w base spare held fuel 86 cs = some x) : ∃ X : Fm, Lvs w X.d cs := by
  obtain ⟨n, hn, hlen, hf⟩ := open_st' Try.underlying86 h
  rw [show Try.prog.cellsOf 86 = 5 by kernel_rfl] at hlen
  match cs, hlen with
  | [c0, c1, c2, c3, c4], _ =>
    obtain ⟨y0, k0⟩ := hf 0 _ rfl
    obtain ⟨y1, k1⟩ := hf 1 _ rfl
    obtain ⟨y2, k2⟩ := hf 2 _ rfl
    obtain ⟨y3, k3⟩ := hf 3 _ rfl
    obtain ⟨z, hz, _, _⟩ := DataW.trod_int Try.underlying3 k0
    obtain ⟨X, hX⟩ := open_term k1
    obtain ⟨s, hs, _, hsz⟩ := DataW.trod_string Try.underlying9 k2
    have e0 : (([c0, c1, c2, c3, c4].drop 0).take (Try.prog.cellsOf 3)) = [c0] := by rw [show Try.prog.cellsOf 3 = 1 by kernel_rfl]; rfl
    have e1 : (([c0, c1, c2, c3, c4].drop 1).take (Try.prog.cellsOf 56)) = [c1, c2] := by rw [show Try.prog.cellsOf 56 = 2 by kernel_rfl]; rfl
    have e2 : (([c0, c1, c2, c3, c4].drop 3).take (Try.prog.cellsOf 9)) = [c3] := by rw [show Try.prog.cellsOf 9 = 1 by kernel_rfl]; rfl
    have e3 : (([c0, c1, c2, c3, c4].drop 4).take (Try.prog.cellsOf 84)) = [c4] := by rw [show Try.prog.cellsOf 84 = 1 by kernel_rfl]; rfl
    obtain ⟨xs, hxs⟩ := ih n hn c4 y3 (by rw [← e3]; exact k3)
    have hX' : Lvs w X.d [c1, c2] := by rw [← e1]; exact hX
    rw [Tm.d_eq] at hX'
    cases hX' with
    | cons g0 g1 =>
      cases g1 with
      | cons g1 _ =>
        have hz' : c0 = .int .i64 z := by
          have : [c0] = [.int .i64 z] := by rw [← e0]; exact hz
          simpa using this
        have hs' : c3 = .string s := by
          have : [c3] = [.string s] := by rw [← e2]; exact hs
          simpa using this
        subst hz' hs'
        exact ⟨.mk z X s xs, by rw [Fm.d_eq]; exact .cons (.int _ z) (.cons g0 (.cons g1 (.cons (.str _ s hsz) (.cons hxs .nil))))⟩
theorem open_formulas_all : ∀ (fuel : Nat) (v : Value) (x : DataW H × List MemPlace), DataW.trod enc Try.prog w base spare held fuel 84 [v] = some x → ∃ xs, FmsAt w xs v := by
  intro fuel
  induction fuel using Nat.strongRecOn with
  | _ fuel ih =>
    intro v x h
    obtain ⟨a, len, cap, f, rfl, hl, hm, hS, hr⟩ := open_sl' (P := Try.prog) 5 (by kernel_rfl) (by omega) Try.underlying84 h
    exact open_arr Fm.d hl hm hS fun i hi => by
      obtain ⟨n, x', hn, h1⟩ := hr i hi
      exact open_formula_of (fun n' hn' => ih n' (by omega)) h1
theorem open_formula {fuel : Nat} {cs : List Value} {x : DataW H × List MemPlace} (h : DataW.trod enc Try.prog w base spare held fuel 86 cs = some x) : ∃ X : Fm, Lvs w X.d cs :=
  open_formula_of (fun n _ => open_formulas_all n) h
end
end Go.Proofs.Ytifpfjbpfekkmaa

set_option maxRecDepth 100000
set_option linter.unusedSimpArgs false
set_option linter.unusedVariables false
namespace Go.Proofs.Ytifpfjbpfekkmaa
open Go.RowKit

theorem DRep.lt_ {own : Bool} {w : World} {S : Nat → Prop} {d : D} {v : Value} (h : DRep own w S d v) : DRep own w (fun b => S b ∧ b < w.heap.size) d v := by
  induction h with
  | int S n => exact .int _ n
  | bool S b => exact .bool _ b
  | str S s h => exact .str _ s h
  | arr S sz es a cap f Sub h1 h2 h3 h4 h5 h6 h7 ih =>
    refine .arr _ sz es a cap f (fun i j x => Sub i j x ∧ x < w.heap.size) h1 h2 ?_ h4 (fun i j x h => ⟨h5 i j x h.1, h.2⟩) (fun ho i j i' j' x h h' => h6 ho i j i' j' x h.1 h'.1) ih
    rcases h3 with h3 | ⟨b, off, ha, hS, hl, hc, ho⟩
    · exact .inl h3
    · exact .inr ⟨b, off, ha, ⟨hS, hl⟩, hl, hc, fun h => ⟨fun i j hx => (ho h).1 i j hx.1, (ho h).2⟩⟩
theorem DAt.rep {w : World} {es : List (List D)} {v : Value} (h : DAt w (.arr es) v) : RepV w (fun b => b < w.heap.size) (fun _ => none) (.arr es) v := by
  simp only [RepV]
  exact (DRep.lt_ h).up fun b hb => hb.2
/-- A law's function that says yes. -/
theorem Fun.yes {f : FuncId} {args : List SV} (h : Fun Try.prog f args [] (.bool true) []) {w : World} {vs : List Value} (hvs : RepVs w (fun b => b < w.heap.size) (fun _ => none) args vs) : Calls Try.prog f vs.toArray w (Ret w (.bool true)) := by
  have nl : ∀ g, ¬ (geto [] g).live := fun g hg => by simp [geto, Ob.live] at hg
  refine (h w (fun b => b < w.heap.size) (fun _ => none) (fun _ _ => False) vs ⟨fun b hb => hb, fun g hg => absurd hg (nl g), fun g b hg => absurd hg (nl g), fun g b hg => absurd hg (nl g), fun g g' b hg => absurd hg (nl g), fun g _ => rfl⟩ hvs).mono ?_
  rintro e w' ⟨v, I', V', B', rfl, hr, hp⟩
  simp only [RepV] at hr
  subst hr
  exact ⟨rfl, hp.fr.os, hp.fr.tape, hp.fr.output, hp.fr.size, fun b hb => hp.fr.block b hb fun ⟨g, hg, _⟩ => absurd hg (nl g)⟩

theorem lvs_cons {w : World} {d : D} {ds : List D} {v : Value} {vs : List Value} (h : Lvs w (d :: ds) (v :: vs)) : DAt w d v ∧ Lvs w ds vs := by
  cases h with
  | cons h1 h2 => exact ⟨h1, h2⟩
theorem DAt.rep_sv {w : World} {d : D} {v : Value} (h : DAt w d v) : RepV w (fun b => b < w.heap.size) (fun _ => none) d.sv v :=
  D.rep_sv ((DRep.lt_ h).up fun b hb => hb.2)
theorem Lvs.reps {w : World} {ds : List D} {vs : List Value} (h : Lvs w ds vs) : RepVs w (fun b => b < w.heap.size) (fun _ => none) (ds.map D.sv) vs := by
  induction h with
  | nil => simp [RepVs]
  | cons h hs ih => simp only [List.map_cons, RepVs]; exact ⟨_, _, rfl, h.rep_sv, ih⟩
theorem Lvs.agg {w : World} {ds : List D} {vs : List Value} (h : Lvs w ds vs) : RepV w (fun b => b < w.heap.size) (fun _ => none) (.agg (ds.map D.sv)) (.agg vs.toArray) := by
  simp only [RepV]; exact ⟨vs, rfl, h.reps⟩
theorem Lvs.fits {w : World} {ds : List D} {vs : List Value} (h : Lvs w ds vs) : D.fits ds := by
  induction h with
  | nil => trivial
  | cons h hs ih => exact ⟨DRep.fit h, ih⟩
theorem DAt.fit {w : World} {d : D} {v : Value} (h : DAt w d v) : D.fit d := DRep.fit h
theorem args_nil {w : World} {I : Nat → Prop} {V : Nat → Option Value} : RepVs w I V [] [] := by simp [RepVs]
theorem args_more {w : World} {I : Nat → Prop} {V : Nat → Option Value} {x : SV} {xs : List SV} {v : Value} {vs : List Value} (h : RepV w I V x v) (hs : RepVs w I V xs vs) : RepVs w I V (x :: xs) (v :: vs) := by
  simp only [RepVs]; exact ⟨v, vs, rfl, h, hs⟩
instance : Inhabited Lt := ⟨Lt.zero⟩
instance : Inhabited Ag := ⟨Ag.zero⟩
instance : Inhabited Bd := ⟨Bd.zero⟩
section
variable {H : Type} {enc : TypeId × Value → H} {w : World} {base : Nat} {spare : Nat → Bool} {held : Bool}
theorem opn_Term_of {fuel : Nat} (ih : ∀ n, n < fuel → ∀ v x, DataW.trod enc Try.prog w base spare held n 54 [v] = some x → ∃ xs : List Tm, DAt w (.arr (xs.map Tm.d)) v) {cs : List Value} {x : DataW H × List MemPlace} (h : DataW.trod enc Try.prog w base spare held fuel 56 cs = some x) : ∃ X : Tm, Lvs w X.d cs := by
  obtain ⟨n, hn, hlen, hf⟩ := open_st' Try.underlying56 h
  rw [show Try.prog.cellsOf 56 = 2 by kernel_rfl] at hlen
  match cs, hlen with
  | [c0, c1], _ =>
    obtain ⟨y0, k0⟩ := hf 0 _ rfl
    have e0 : (([c0, c1].drop 0).take (Try.prog.cellsOf 9)) = [c0] := by rw [show Try.prog.cellsOf 9 = 1 by kernel_rfl]; rfl
    obtain ⟨z0, q0, _, s0⟩ := DataW.trod_string Try.underlying9 k0
    have q0' : c0 = .string z0 := by
      have : [c0] = [.string z0] := by rw [← e0]; exact q0
      simpa using this
    obtain ⟨y1, k1⟩ := hf 1 _ rfl
    have e1 : (([c0, c1].drop 1).take (Try.prog.cellsOf 54)) = [c1] := by rw [show Try.prog.cellsOf 54 = 1 by kernel_rfl]; rfl
    have k1' : DataW.trod enc Try.prog w base spare held n 54 [c1] = some y1 := by rw [← e1]; exact k1
    obtain ⟨z1, g1⟩ := ih n hn c1 y1 k1'
    subst q0'
    exact ⟨.mk z0 z1, by rw [Tm.d_eq]; exact (.cons (.str _ z0 s0) (.cons g1 .nil))⟩
theorem opnS_Term_all : ∀ (fuel : Nat) (v : Value) (x : DataW H × List MemPlace), DataW.trod enc Try.prog w base spare held fuel 54 [v] = some x → ∃ xs : List Tm, DAt w (.arr (xs.map Tm.d)) v := by
  intro fuel
  induction fuel using Nat.strongRecOn with
  | _ fuel ih =>
    intro v x h
    obtain ⟨a, len, cap, f, rfl, hl, hm, hS, hr⟩ := open_sl' (P := Try.prog) 2 (by kernel_rfl) (by omega) Try.underlying54 h
    exact open_arr Tm.d hl hm hS fun i hi => by
      obtain ⟨n, x', hn, h1⟩ := hr i hi
      exact opn_Term_of (fun n' hn' => ih n' (by omega)) h1
theorem opn_Term {fuel : Nat} {cs : List Value} {x : DataW H × List MemPlace} (h : DataW.trod enc Try.prog w base spare held fuel 56 cs = some x) : ∃ X : Tm, Lvs w X.d cs :=
  opn_Term_of (fun n _ => opnS_Term_all n) h
theorem opnS_Term {fuel : Nat} {v : Value} {x : DataW H × List MemPlace} (h : DataW.trod enc Try.prog w base spare held fuel 54 [v] = some x) : ∃ xs : List Tm, DAt w (.arr (xs.map Tm.d)) v := by
  exact opnS_Term_all fuel v x h
theorem opn_Formula_of {fuel : Nat} (ih : ∀ n, n < fuel → ∀ v x, DataW.trod enc Try.prog w base spare held n 84 [v] = some x → ∃ xs : List Fm, DAt w (.arr (xs.map Fm.d)) v) {cs : List Value} {x : DataW H × List MemPlace} (h : DataW.trod enc Try.prog w base spare held fuel 86 cs = some x) : ∃ X : Fm, Lvs w X.d cs := by
  obtain ⟨n, hn, hlen, hf⟩ := open_st' Try.underlying86 h
  rw [show Try.prog.cellsOf 86 = 5 by kernel_rfl] at hlen
  match cs, hlen with
  | [c0, c1, c2, c3, c4], _ =>
    obtain ⟨y0, k0⟩ := hf 0 _ rfl
    have e0 : (([c0, c1, c2, c3, c4].drop 0).take (Try.prog.cellsOf 3)) = [c0] := by rw [show Try.prog.cellsOf 3 = 1 by kernel_rfl]; rfl
    obtain ⟨z0, q0, _, _⟩ := DataW.trod_int Try.underlying3 k0
    have q0' : c0 = .int .i64 z0 := by
      have : [c0] = [.int .i64 z0] := by rw [← e0]; exact q0
      simpa using this
    obtain ⟨y1, k1⟩ := hf 1 _ rfl
    have e1 : (([c0, c1, c2, c3, c4].drop 1).take (Try.prog.cellsOf 56)) = [c1, c2] := by rw [show Try.prog.cellsOf 56 = 2 by kernel_rfl]; rfl
    have k1' : DataW.trod enc Try.prog w base spare held n 56 [c1, c2] = some y1 := by rw [← e1]; exact k1
    obtain ⟨z1, g1⟩ := opn_Term k1'
    rw [Tm.d_eq] at g1
    obtain ⟨g1_0, g1⟩ := lvs_cons g1
    obtain ⟨g1_1, g1⟩ := lvs_cons g1
    obtain ⟨y2, k2⟩ := hf 2 _ rfl
    have e2 : (([c0, c1, c2, c3, c4].drop 3).take (Try.prog.cellsOf 9)) = [c3] := by rw [show Try.prog.cellsOf 9 = 1 by kernel_rfl]; rfl
    obtain ⟨z2, q2, _, s2⟩ := DataW.trod_string Try.underlying9 k2
    have q2' : c3 = .string z2 := by
      have : [c3] = [.string z2] := by rw [← e2]; exact q2
      simpa using this
    obtain ⟨y3, k3⟩ := hf 3 _ rfl
    have e3 : (([c0, c1, c2, c3, c4].drop 4).take (Try.prog.cellsOf 84)) = [c4] := by rw [show Try.prog.cellsOf 84 = 1 by kernel_rfl]; rfl
    have k3' : DataW.trod enc Try.prog w base spare held n 84 [c4] = some y3 := by rw [← e3]; exact k3
    obtain ⟨z3, g3⟩ := ih n hn c4 y3 k3'
    subst q0' q2'
    exact ⟨.mk z0 z1 z2 z3, by rw [Fm.d_eq]; exact (.cons (.int _ z0) (.cons g1_0 (.cons g1_1 (.cons (.str _ z2 s2) (.cons g3 .nil)))))⟩
theorem opnS_Formula_all : ∀ (fuel : Nat) (v : Value) (x : DataW H × List MemPlace), DataW.trod enc Try.prog w base spare held fuel 84 [v] = some x → ∃ xs : List Fm, DAt w (.arr (xs.map Fm.d)) v := by
  intro fuel
  induction fuel using Nat.strongRecOn with
  | _ fuel ih =>
    intro v x h
    obtain ⟨a, len, cap, f, rfl, hl, hm, hS, hr⟩ := open_sl' (P := Try.prog) 5 (by kernel_rfl) (by omega) Try.underlying84 h
    exact open_arr Fm.d hl hm hS fun i hi => by
      obtain ⟨n, x', hn, h1⟩ := hr i hi
      exact opn_Formula_of (fun n' hn' => ih n' (by omega)) h1
theorem opn_Formula {fuel : Nat} {cs : List Value} {x : DataW H × List MemPlace} (h : DataW.trod enc Try.prog w base spare held fuel 86 cs = some x) : ∃ X : Fm, Lvs w X.d cs :=
  opn_Formula_of (fun n _ => opnS_Formula_all n) h
theorem opnS_Formula {fuel : Nat} {v : Value} {x : DataW H × List MemPlace} (h : DataW.trod enc Try.prog w base spare held fuel 84 [v] = some x) : ∃ xs : List Fm, DAt w (.arr (xs.map Fm.d)) v := by
  exact opnS_Formula_all fuel v x h
theorem opn_Literal {fuel : Nat} {cs : List Value} {x : DataW H × List MemPlace} (h : DataW.trod enc Try.prog w base spare held fuel 187 cs = some x) : ∃ X : Lt, Lvs w X.d cs := by
  obtain ⟨n, hn, hlen, hf⟩ := open_st' Try.underlying187 h
  rw [show Try.prog.cellsOf 187 = 3 by kernel_rfl] at hlen
  match cs, hlen with
  | [c0, c1, c2], _ =>
    obtain ⟨y0, k0⟩ := hf 0 _ rfl
    have e0 : (([c0, c1, c2].drop 0).take (Try.prog.cellsOf 4)) = [c0] := by rw [show Try.prog.cellsOf 4 = 1 by kernel_rfl]; rfl
    obtain ⟨z0, q0, _⟩ := DataW.trod_bool Try.underlying4 k0
    have q0' : c0 = .bool z0 := by
      have : [c0] = [.bool z0] := by rw [← e0]; exact q0
      simpa using this
    obtain ⟨y1, k1⟩ := hf 1 _ rfl
    have e1 : (([c0, c1, c2].drop 1).take (Try.prog.cellsOf 56)) = [c1, c2] := by rw [show Try.prog.cellsOf 56 = 2 by kernel_rfl]; rfl
    have k1' : DataW.trod enc Try.prog w base spare held n 56 [c1, c2] = some y1 := by rw [← e1]; exact k1
    obtain ⟨z1, g1⟩ := opn_Term k1'
    rw [Tm.d_eq] at g1
    obtain ⟨g1_0, g1⟩ := lvs_cons g1
    obtain ⟨g1_1, g1⟩ := lvs_cons g1
    subst q0'
    exact ⟨⟨z0, z1⟩, by rw [Lt.d_eq]; exact (.cons (.bool _ z0) (.cons g1_0 (.cons g1_1 .nil)))⟩
theorem opnS_Literal {fuel : Nat} {v : Value} {x : DataW H × List MemPlace} (h : DataW.trod enc Try.prog w base spare held fuel 39 [v] = some x) : ∃ xs : List Lt, DAt w (.arr (xs.map Lt.d)) v := by
  obtain ⟨a, len, cap, f, rfl, hl, hm, hS, hr⟩ := open_sl' (P := Try.prog) 3 (by kernel_rfl) (by omega) Try.underlying39 h
  exact open_arr Lt.d hl hm hS fun i hi => by
    obtain ⟨n, x', hn, h1⟩ := hr i hi
    exact opn_Literal h1
theorem opn_Clause {fuel : Nat} {cs : List Value} {x : DataW H × List MemPlace} (h : DataW.trod enc Try.prog w base spare held fuel 41 cs = some x) : ∃ X : Cl, Lvs w X.d cs := by
  obtain ⟨n, hn, hlen, hf⟩ := open_st' Try.underlying41 h
  rw [show Try.prog.cellsOf 41 = 1 by kernel_rfl] at hlen
  match cs, hlen with
  | [c0], _ =>
    obtain ⟨y0, k0⟩ := hf 0 _ rfl
    have e0 : (([c0].drop 0).take (Try.prog.cellsOf 39)) = [c0] := by rw [show Try.prog.cellsOf 39 = 1 by kernel_rfl]; rfl
    have k0' : DataW.trod enc Try.prog w base spare held n 39 [c0] = some y0 := by rw [← e0]; exact k0
    obtain ⟨z0, g0⟩ := opnS_Literal k0'
    exact ⟨⟨z0⟩, by rw [Cl.d_eq]; exact (.cons g0 .nil)⟩
theorem opn_Assigned {fuel : Nat} {cs : List Value} {x : DataW H × List MemPlace} (h : DataW.trod enc Try.prog w base spare held fuel 153 cs = some x) : ∃ X : Ag, Lvs w X.d cs := by
  obtain ⟨n, hn, hlen, hf⟩ := open_st' Try.underlying153 h
  rw [show Try.prog.cellsOf 153 = 2 by kernel_rfl] at hlen
  match cs, hlen with
  | [c0, c1], _ =>
    obtain ⟨y0, k0⟩ := hf 0 _ rfl
    have e0 : (([c0, c1].drop 0).take (Try.prog.cellsOf 9)) = [c0] := by rw [show Try.prog.cellsOf 9 = 1 by kernel_rfl]; rfl
    obtain ⟨z0, q0, _, s0⟩ := DataW.trod_string Try.underlying9 k0
    have q0' : c0 = .string z0 := by
      have : [c0] = [.string z0] := by rw [← e0]; exact q0
      simpa using this
    obtain ⟨y1, k1⟩ := hf 1 _ rfl
    have e1 : (([c0, c1].drop 1).take (Try.prog.cellsOf 3)) = [c1] := by rw [show Try.prog.cellsOf 3 = 1 by kernel_rfl]; rfl
    obtain ⟨z1, q1, _, _⟩ := DataW.trod_int Try.underlying3 k1
    have q1' : c1 = .int .i64 z1 := by
      have : [c1] = [.int .i64 z1] := by rw [← e1]; exact q1
      simpa using this
    subst q0' q1'
    exact ⟨⟨z0, z1⟩, by rw [Ag.d_eq]; exact (.cons (.str _ z0 s0) (.cons (.int _ z1) .nil))⟩
theorem opnS_Assigned {fuel : Nat} {v : Value} {x : DataW H × List MemPlace} (h : DataW.trod enc Try.prog w base spare held fuel 97 [v] = some x) : ∃ xs : List Ag, DAt w (.arr (xs.map Ag.d)) v := by
  obtain ⟨a, len, cap, f, rfl, hl, hm, hS, hr⟩ := open_sl' (P := Try.prog) 2 (by kernel_rfl) (by omega) Try.underlying97 h
  exact open_arr Ag.d hl hm hS fun i hi => by
    obtain ⟨n, x', hn, h1⟩ := hr i hi
    exact opn_Assigned h1
theorem opn_Binding {fuel : Nat} {cs : List Value} {x : DataW H × List MemPlace} (h : DataW.trod enc Try.prog w base spare held fuel 192 cs = some x) : ∃ X : Bd, Lvs w X.d cs := by
  obtain ⟨n, hn, hlen, hf⟩ := open_st' Try.underlying192 h
  rw [show Try.prog.cellsOf 192 = 3 by kernel_rfl] at hlen
  match cs, hlen with
  | [c0, c1, c2], _ =>
    obtain ⟨y0, k0⟩ := hf 0 _ rfl
    have e0 : (([c0, c1, c2].drop 0).take (Try.prog.cellsOf 9)) = [c0] := by rw [show Try.prog.cellsOf 9 = 1 by kernel_rfl]; rfl
    obtain ⟨z0, q0, _, s0⟩ := DataW.trod_string Try.underlying9 k0
    have q0' : c0 = .string z0 := by
      have : [c0] = [.string z0] := by rw [← e0]; exact q0
      simpa using this
    obtain ⟨y1, k1⟩ := hf 1 _ rfl
    have e1 : (([c0, c1, c2].drop 1).take (Try.prog.cellsOf 56)) = [c1, c2] := by rw [show Try.prog.cellsOf 56 = 2 by kernel_rfl]; rfl
    have k1' : DataW.trod enc Try.prog w base spare held n 56 [c1, c2] = some y1 := by rw [← e1]; exact k1
    obtain ⟨z1, g1⟩ := opn_Term k1'
    rw [Tm.d_eq] at g1
    obtain ⟨g1_0, g1⟩ := lvs_cons g1
    obtain ⟨g1_1, g1⟩ := lvs_cons g1
    subst q0'
    exact ⟨⟨z0, z1⟩, by rw [Bd.d_eq]; exact (.cons (.str _ z0 s0) (.cons g1_0 (.cons g1_1 .nil)))⟩
theorem opnS_Binding {fuel : Nat} {v : Value} {x : DataW H × List MemPlace} (h : DataW.trod enc Try.prog w base spare held fuel 51 [v] = some x) : ∃ xs : List Bd, DAt w (.arr (xs.map Bd.d)) v := by
  obtain ⟨a, len, cap, f, rfl, hl, hm, hS, hr⟩ := open_sl' (P := Try.prog) 3 (by kernel_rfl) (by omega) Try.underlying51 h
  exact open_arr Bd.d hl hm hS fun i hi => by
    obtain ⟨n, x', hn, h1⟩ := hr i hi
    exact opn_Binding h1
theorem opn_Substitution {fuel : Nat} {cs : List Value} {x : DataW H × List MemPlace} (h : DataW.trod enc Try.prog w base spare held fuel 53 cs = some x) : ∃ X : Sb, Lvs w X.d cs := by
  obtain ⟨n, hn, hlen, hf⟩ := open_st' Try.underlying53 h
  rw [show Try.prog.cellsOf 53 = 1 by kernel_rfl] at hlen
  match cs, hlen with
  | [c0], _ =>
    obtain ⟨y0, k0⟩ := hf 0 _ rfl
    have e0 : (([c0].drop 0).take (Try.prog.cellsOf 51)) = [c0] := by rw [show Try.prog.cellsOf 51 = 1 by kernel_rfl]; rfl
    have k0' : DataW.trod enc Try.prog w base spare held n 51 [c0] = some y0 := by rw [← e0]; exact k0
    obtain ⟨z0, g0⟩ := opnS_Binding k0'
    exact ⟨⟨z0⟩, by rw [Sb.d_eq]; exact (.cons g0 .nil)⟩
end
end Go.Proofs.Ytifpfjbpfekkmaa
