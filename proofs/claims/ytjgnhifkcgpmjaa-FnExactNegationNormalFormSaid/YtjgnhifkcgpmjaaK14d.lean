/-
  This text holds, one behind the other: This text tells what the sizes of formulas answer in both packages. No condition.
  This text tells what the forms and the validity of formulas answer in both packages. No condition.
  This text tells what copies of terms answer in both packages. No condition.
  This text holds a rule for runs of which a part of the answer is left open. No condition.
  This text tells what the reference's copies of terms answer. No condition.
  This text tells what copies of formulas answer in both packages. No condition.
  This text holds plain laws of formulas: what their forms say. No condition.
  This text holds plain laws of the negation normal form. No condition.
  This text tells what the program's check of a resulting formula answers. No condition.
  This text tells what the negation normal form answers in the program. No condition.
  This text tells what the negation normal form answers in the reference. No condition.
  This text holds a plain law of atoms. No condition.
  This text holds plain laws of formulas: how much they hold. No condition.
-/
import Derived.Test.YtjgnhifkcgpmjaaK14c
set_option maxRecDepth 100000
set_option linter.unusedSimpArgs false
set_option linter.unusedVariables false
namespace Go.Proofs.Ytjgnhifkcgpmjaa
open Go.RowKit

def c_impl_sizeOf : SC := (.seq (.reg [⟨(some 1), none, (.boxv 34 5 (.t 0))⟩, ⟨(some 2), none, (.mv (.c (.int .i64 0)))⟩]) (.seq (.reg [⟨(some 3), none, (.mv (.c (.int .i64 1)))⟩]) (.seq (.seq (.reg [⟨(some 6), none, (.faddr 4 (.t 1))⟩, ⟨(some 7), none, (.load false 1 (.t 6))⟩, ⟨(some 8), none, (.len false (.t 7))⟩, ⟨(some 9), none, (.mv (.c (.int .i64 0)))⟩]) (.block 0 (.loop [0, 0, 0, 1, 0, 0, 0, 1, 1, 1, 0, 0, 0, 0, 0, 0, 0, 0, 0, 0, 0, 0] (.seq (.reg [⟨(some 10), none, (.bin .lss false (.t 9) (.t 8))⟩]) (.seq (.cond (.t 10) .skip (.exit 0)) (.seq (.block 1 (.seq (.reg [⟨(some 11), none, (.iaddr 5 (.t 7) (.t 9))⟩, ⟨(some 12), none, (.load true 5 (.t 11))⟩, ⟨(some 5), none, (.alloc 34 [(.int .i64 0), (.str ⟨#[]⟩), .nil, (.str ⟨#[]⟩), .nil])⟩, ⟨none, none, (.store 5 (.t 5) (.t 12))⟩]) (.seq (.seq (.reg [⟨(some 13), none, (.mv (.t 3))⟩, ⟨(some 14), none, (.bin .gtr false (.t 13) (.c (.int .i64 40)))⟩]) (.cond (.t 14) (.seq (.reg [⟨(some 15), none, (.mv (.t 3))⟩, ⟨(some 2), none, (.mv (.t 15))⟩]) .ret) .skip)) (.reg [⟨(some 16), none, (.mv (.t 3))⟩, ⟨(some 17), none, (.load true 5 (.t 5))⟩, ⟨(some 18), none, (.call 33 [(.t 17)])⟩, ⟨(some 19), none, (.bin .add false (.t 16) (.t 18))⟩, ⟨(some 3), none, (.mv (.t 19))⟩])))) (.reg [⟨(some 20), none, (.bin .add false (.t 9) (.c (.int .i64 1)))⟩, ⟨(some 9), none, (.mv (.t 20))⟩]))))))) (.seq (.reg [⟨(some 21), none, (.mv (.t 3))⟩, ⟨(some 2), none, (.mv (.t 21))⟩]) .ret))))
theorem k_impl_sizeOf : codeOf Try.prog 33 = some ⟨22, c_impl_sizeOf, [(.tmp 2)]⟩ := by kernel_rfl
theorem m_impl_sizeOf : modes 33 = ⟨[], .asis, none, false⟩ := by unfold modes; rfl

set_option maxHeartbeats 1000000 in
theorem sizeF_of (x : Fm) (hn : x.nodes ≤ 1099511627776) (ih : ∀ y ∈ x.parts, E 33 [y.sv] [] = some (.int .i64 y.cap, [])) : E 33 [x.sv] [] = some (.int .i64 x.cap, []) := by
  have hl := Fm.length_le x.parts
  have hx := Fm.nodes_eq x
  rw [Fm.cap_eq]
  refine E_walk k_impl_sizeOf m_impl_sizeOf (of_decide_eq_true rfl) ?_
  simp (disch := omega) only [c_impl_sizeOf, go_sem, go_cond, Nat.reduceAdd, Nat.reduceSub, Nat.reduceLT, Nat.reduceLeDiff, Nat.reduceEqDiff, Nat.reduceBEq, Nat.reduceBneDiff, Nat.reduceMul, ↓reduceIte, Int.reduceToNat, reduceCtorEq, Int.reduceNeg, Int.reduceAdd]
  refine go_loop (α := Int × Int) (fun a => ⟨slots 22 0 [(3, .int .i64 a.2), (7, .arr (x.parts.map Fm.d)), (8, .int .i64 x.parts.length), (9, .int .i64 a.1)], []⟩) (fun a => ∃ k : Nat, a.1 = k ∧ k ≤ x.parts.length ∧ 1 ≤ a.2 ∧ a.2 + Fm.nodeS (x.parts.drop k) ≤ x.nodes ∧ Fm.capL (x.parts.drop k) a.2 = Fm.capL x.parts 1) (fun a => x.parts.length - a.1.toNat) (0, 1) ⟨0, rfl, Nat.zero_le _, by dsimp only; omega, by rw [List.drop_zero]; dsimp only; omega, rfl⟩ (by simp (disch := omega) only [go_sem, go_cond, Nat.reduceAdd, Nat.reduceSub, Nat.reduceLT, Nat.reduceLeDiff, Nat.reduceEqDiff, Nat.reduceBEq, Nat.reduceBneDiff, Nat.reduceMul, ↓reduceIte, Int.reduceToNat, reduceCtorEq, Int.reduceNeg, Int.reduceAdd]) ?_
  rintro ⟨i, n⟩ ⟨k, hi, hk, hn0, hn1, hs⟩
  dsimp only at hi hn0 hn1 hs
  have hni : i.toNat = k := by omega
  rcases Nat.lt_or_ge k x.parts.length with hlt | hge
  · have hg := get_at Fm.d hlt
    rw [Fm.d_eq] at hg
    have hd : x.parts.drop k = x.parts[k] :: x.parts.drop (k + 1) := List.drop_eq_getElem_cons hlt
    have hc := ih x.parts[k] (List.getElem_mem hlt)
    have hp := Fm.cap_spec x.parts[k]
    rw [hd, Fm.capL] at hs
    rw [hd, Fm.nodeS] at hn1
    rcases Int.lt_or_le 40 n with h30 | h30
    · rw [if_pos h30] at hs
      simp (disch := omega) only [go_sem, go_cond, Nat.reduceAdd, Nat.reduceSub, Nat.reduceLT, Nat.reduceLeDiff, Nat.reduceEqDiff, Nat.reduceBEq, Nat.reduceBneDiff, Nat.reduceMul, ↓reduceIte, Int.reduceToNat, reduceCtorEq, Int.reduceNeg, Int.reduceAdd, hni, hg, hc, m_impl_sizeOf]
      exact hs
    · rw [if_neg (by omega)] at hs
      simp (disch := omega) only [go_sem, go_cond, Nat.reduceAdd, Nat.reduceSub, Nat.reduceLT, Nat.reduceLeDiff, Nat.reduceEqDiff, Nat.reduceBEq, Nat.reduceBneDiff, Nat.reduceMul, ↓reduceIte, Int.reduceToNat, reduceCtorEq, Int.reduceNeg, Int.reduceAdd, hni, hg, hc, m_impl_sizeOf]
      refine ⟨(i + 1, n + x.parts[k].cap), ⟨k + 1, by dsimp only; omega, hlt, by dsimp only; omega, by dsimp only; omega, hs⟩, by dsimp only; omega, ?_⟩
      simp only [and_self]
  · have hd : x.parts.drop k = [] := List.drop_eq_nil_of_le hge
    rw [hd, Fm.capL] at hs
    simp (disch := omega) only [go_sem, go_cond, Nat.reduceAdd, Nat.reduceSub, Nat.reduceLT, Nat.reduceLeDiff, Nat.reduceEqDiff, Nat.reduceBEq, Nat.reduceBneDiff, Nat.reduceMul, ↓reduceIte, Int.reduceToNat, reduceCtorEq, Int.reduceNeg, Int.reduceAdd, hni]
    exact hs
theorem sizeF_E (x : Fm) (hn : x.nodes ≤ 1099511627776) : E 33 [x.sv] [] = some (.int .i64 x.cap, []) :=
  sizeF_of x hn fun y hy => sizeF_E y (by have := Fm.nodes_mem hy; have := Fm.nodes_eq x; omega)
termination_by SizeOf.sizeOf x
decreasing_by exact Fm.lt_of_mem hy

def c_spec_l8Many : SC := (.seq (.reg [⟨(some 2), none, (.boxv 34 5 (.t 0))⟩, ⟨(some 4), none, (.mv (.c (.int .i64 0)))⟩]) (.seq (.reg [⟨(some 5), none, (.mv (.c (.int .i64 1)))⟩]) (.seq (.seq (.reg [⟨(some 6), none, (.mv (.c (.int .i64 0)))⟩]) (.block 0 (.loop [0, 1, 1, 0, 0, 1, 1, 0, 0, 0, 0, 0, 0, 0, 0, 0, 0, 0, 0, 0, 0, 0, 0, 0, 0, 0, 0, 0, 0, 0, 0] (.seq (.seq (.reg [⟨(some 7), none, (.mv (.t 6))⟩, ⟨(some 8), none, (.faddr 4 (.t 2))⟩, ⟨(some 9), none, (.load false 1 (.t 8))⟩, ⟨(some 10), none, (.len false (.t 9))⟩, ⟨(some 11), none, (.bin .lss false (.t 7) (.t 10))⟩, ⟨(some 12), none, (.mv (.t 11))⟩, ⟨(some 13), (some (12, true)), (.mv (.t 5))⟩, ⟨(some 14), (some (12, true)), (.mv (.t 1))⟩, ⟨(some 15), (some (12, true)), (.bin .leq false (.t 13) (.t 14))⟩, ⟨(some 16), none, (.pick (.t 12) (.t 15) (.c (.bool false)))⟩]) (.cond (.t 16) .skip (.exit 0))) (.seq (.block 1 (.reg [⟨(some 19), none, (.mv (.t 5))⟩, ⟨(some 20), none, (.faddr 4 (.t 2))⟩, ⟨(some 21), none, (.load false 1 (.t 20))⟩, ⟨(some 22), none, (.mv (.t 6))⟩, ⟨(some 23), none, (.iaddr 5 (.t 21) (.t 22))⟩, ⟨(some 24), none, (.load true 5 (.t 23))⟩, ⟨(some 25), none, (.mv (.t 1))⟩, ⟨(some 26), none, (.mv (.t 5))⟩, ⟨(some 27), none, (.bin .sub false (.t 25) (.t 26))⟩, ⟨(some 28), none, (.call 27 [(.t 24), (.t 27)])⟩, ⟨(some 29), none, (.bin .add false (.t 19) (.t 28))⟩, ⟨(some 5), none, (.mv (.t 29))⟩])) (.reg [⟨(some 17), none, (.mv (.t 6))⟩, ⟨(some 18), none, (.bin .add false (.t 17) (.c (.int .i64 1)))⟩, ⟨(some 6), none, (.mv (.t 18))⟩])))))) (.seq (.reg [⟨(some 30), none, (.mv (.t 5))⟩, ⟨(some 4), none, (.mv (.t 30))⟩]) .ret))))
theorem k_spec_l8Many : codeOf Try.prog 27 = some ⟨31, c_spec_l8Many, [(.tmp 4)]⟩ := by kernel_rfl
theorem m_spec_l8Many : modes 27 = ⟨[], .asis, none, false⟩ := by unfold modes; rfl

set_option maxHeartbeats 1000000 in
theorem manyF_of (x : Fm) (m : Int) (hm : 0 ≤ m) (hm1 : m ≤ 1099511627776) (hn : x.nodes ≤ 1099511627776) (ih : ∀ y ∈ x.parts, ∀ m : Int, 0 ≤ m → m ≤ 1099511627776 → E 27 [y.sv, .int .i64 m] [] = some (.int .i64 (y.many m), [])) : E 27 [x.sv, .int .i64 m] [] = some (.int .i64 (x.many m), []) := by
  have hl := Fm.length_le x.parts
  have hx := Fm.nodes_eq x
  rw [Fm.many_eq]
  refine E_walk k_spec_l8Many m_spec_l8Many (of_decide_eq_true rfl) ?_
  simp (disch := omega) only [c_spec_l8Many, go_sem, go_cond, Nat.reduceAdd, Nat.reduceSub, Nat.reduceLT, Nat.reduceLeDiff, Nat.reduceEqDiff, Nat.reduceBEq, Nat.reduceBneDiff, Nat.reduceMul, ↓reduceIte, Int.reduceToNat, reduceCtorEq, Int.reduceNeg, Int.reduceAdd]
  refine go_loop (α := Int × Int) (fun a => ⟨slots 31 0 [(1, .int .i64 m), (2, .ptr 0 0), (5, .int .i64 a.2), (6, .int .i64 a.1)], [.box 34 [.int .i64 x.op, .str x.atom.name, .arr (x.atom.args.map Tm.d), .str x.var, .arr (x.parts.map Fm.d)]]⟩) (fun a => ∃ k : Nat, a.1 = k ∧ k ≤ x.parts.length ∧ 1 ≤ a.2 ∧ a.2 + Fm.nodeS (x.parts.drop k) ≤ x.nodes ∧ Fm.manyL (x.parts.drop k) m a.2 = Fm.manyL x.parts m 1) (fun a => x.parts.length - a.1.toNat) (0, 1) ⟨0, rfl, Nat.zero_le _, by dsimp only; omega, by rw [List.drop_zero]; dsimp only; omega, rfl⟩ (by simp (disch := omega) only [go_sem, go_cond, Nat.reduceAdd, Nat.reduceSub, Nat.reduceLT, Nat.reduceLeDiff, Nat.reduceEqDiff, Nat.reduceBEq, Nat.reduceBneDiff, Nat.reduceMul, ↓reduceIte, Int.reduceToNat, reduceCtorEq, Int.reduceNeg, Int.reduceAdd]) ?_
  rintro ⟨i, n⟩ ⟨k, hi, hk, hn0, hn1, hs⟩
  dsimp only at hi hn0 hn1 hs
  have hni : i.toNat = k := by omega
  rcases Nat.lt_or_ge k x.parts.length with hlt | hge
  · have hg := get_at Fm.d hlt
    rw [Fm.d_eq] at hg
    have hd : x.parts.drop k = x.parts[k] :: x.parts.drop (k + 1) := List.drop_eq_getElem_cons hlt
    rw [hd, Fm.manyL] at hs
    rw [hd, Fm.nodeS] at hn1
    rcases Int.lt_or_le m n with h30 | h30
    · rw [if_neg (by omega)] at hs
      simp (disch := omega) only [go_sem, go_cond, Nat.reduceAdd, Nat.reduceSub, Nat.reduceLT, Nat.reduceLeDiff, Nat.reduceEqDiff, Nat.reduceBEq, Nat.reduceBneDiff, Nat.reduceMul, ↓reduceIte, Int.reduceToNat, reduceCtorEq, Int.reduceNeg, Int.reduceAdd, hni, hg, m_spec_l8Many]
      exact hs
    · rw [if_pos h30] at hs
      have hc := ih x.parts[k] (List.getElem_mem hlt) (m - n) (by omega) (by omega)
      have hp := Fm.many_spec x.parts[k] (m - n)
      simp (disch := omega) only [go_sem, go_cond, Nat.reduceAdd, Nat.reduceSub, Nat.reduceLT, Nat.reduceLeDiff, Nat.reduceEqDiff, Nat.reduceBEq, Nat.reduceBneDiff, Nat.reduceMul, ↓reduceIte, Int.reduceToNat, reduceCtorEq, Int.reduceNeg, Int.reduceAdd, hni, hg, hc, m_spec_l8Many]
      refine ⟨(i + 1, n + x.parts[k].many (m - n)), ⟨k + 1, by dsimp only; omega, hlt, by dsimp only; omega, by dsimp only; omega, hs⟩, by dsimp only; omega, ?_⟩
      simp only [and_self]
  · have hd : x.parts.drop k = [] := List.drop_eq_nil_of_le hge
    rw [hd, Fm.manyL] at hs
    simp (disch := omega) only [go_sem, go_cond, Nat.reduceAdd, Nat.reduceSub, Nat.reduceLT, Nat.reduceLeDiff, Nat.reduceEqDiff, Nat.reduceBEq, Nat.reduceBneDiff, Nat.reduceMul, ↓reduceIte, Int.reduceToNat, reduceCtorEq, Int.reduceNeg, Int.reduceAdd, hni]
    exact hs
theorem manyF_E (x : Fm) (m : Int) (hm : 0 ≤ m) (hm1 : m ≤ 1099511627776) (hn : x.nodes ≤ 1099511627776) : E 27 [x.sv, .int .i64 m] [] = some (.int .i64 (x.many m), []) :=
  manyF_of x m hm hm1 hn fun y hy m hm hm1 => manyF_E y m hm hm1 (by have := Fm.nodes_mem hy; have := Fm.nodes_eq x; omega)
termination_by SizeOf.sizeOf x
decreasing_by exact Fm.lt_of_mem hy
end Go.Proofs.Ytjgnhifkcgpmjaa

set_option maxRecDepth 100000
set_option linter.unusedSimpArgs false
set_option linter.unusedVariables false
namespace Go.Proofs.Ytjgnhifkcgpmjaa
open Go.RowKit

def c_impl_isQuantifier : SC := (.seq (.reg [⟨(some 2), none, (.mv (.c (.bool false)))⟩]) (.seq (.reg [⟨(some 3), none, (.mv (.t 0))⟩, ⟨(some 4), none, (.bin .eql false (.t 3) (.c (.int .i64 8)))⟩, ⟨(some 5), none, (.mv (.t 4))⟩, ⟨(some 6), (some (5, false)), (.mv (.t 0))⟩, ⟨(some 7), (some (5, false)), (.bin .eql false (.t 6) (.c (.int .i64 9)))⟩, ⟨(some 8), none, (.pick (.t 5) (.c (.bool true)) (.t 7))⟩, ⟨(some 2), none, (.mv (.t 8))⟩]) .ret))
theorem k_impl_isQuantifier : codeOf Try.prog 46 = some ⟨9, c_impl_isQuantifier, [(.tmp 2)]⟩ := by kernel_rfl
theorem m_impl_isQuantifier : modes 46 = ⟨[], .asis, none, false⟩ := by unfold modes; rfl

def c_impl_isBinary : SC := (.seq (.reg [⟨(some 2), none, (.mv (.c (.bool false)))⟩]) (.seq (.reg [⟨(some 3), none, (.mv (.t 0))⟩, ⟨(some 4), none, (.bin .eql false (.t 3) (.c (.int .i64 5)))⟩, ⟨(some 5), none, (.mv (.t 4))⟩, ⟨(some 6), (some (5, false)), (.mv (.t 0))⟩, ⟨(some 7), (some (5, false)), (.bin .eql false (.t 6) (.c (.int .i64 6)))⟩, ⟨(some 8), none, (.pick (.t 5) (.c (.bool true)) (.t 7))⟩, ⟨(some 9), none, (.mv (.t 8))⟩, ⟨(some 10), (some (9, false)), (.mv (.t 0))⟩, ⟨(some 11), (some (9, false)), (.bin .eql false (.t 10) (.c (.int .i64 7)))⟩, ⟨(some 12), none, (.pick (.t 9) (.c (.bool true)) (.t 11))⟩, ⟨(some 2), none, (.mv (.t 12))⟩]) .ret))
theorem k_impl_isBinary : codeOf Try.prog 47 = some ⟨13, c_impl_isBinary, [(.tmp 2)]⟩ := by kernel_rfl
theorem m_impl_isBinary : modes 47 = ⟨[], .asis, none, false⟩ := by unfold modes; rfl

def c_impl_isZeroTerm : SC := (.seq (.reg [⟨(some 1), none, (.boxv 31 2 (.t 0))⟩, ⟨(some 2), none, (.mv (.c (.bool false)))⟩]) (.seq (.reg [⟨(some 3), none, (.faddr 0 (.t 1))⟩, ⟨(some 4), none, (.load false 1 (.t 3))⟩, ⟨(some 5), none, (.bin .eql false (.t 4) (.c (.str ⟨#[]⟩)))⟩, ⟨(some 6), none, (.mv (.t 5))⟩, ⟨(some 7), (some (6, true)), (.faddr 1 (.t 1))⟩, ⟨(some 8), (some (6, true)), (.load false 1 (.t 7))⟩, ⟨(some 9), (some (6, true)), (.len false (.t 8))⟩, ⟨(some 10), (some (6, true)), (.bin .eql false (.t 9) (.c (.int .i64 0)))⟩, ⟨(some 11), none, (.pick (.t 6) (.t 10) (.c (.bool false)))⟩, ⟨(some 2), none, (.mv (.t 11))⟩]) .ret))
theorem k_impl_isZeroTerm : codeOf Try.prog 50 = some ⟨12, c_impl_isZeroTerm, [(.tmp 2)]⟩ := by kernel_rfl
theorem m_impl_isZeroTerm : modes 50 = ⟨[], .asis, none, false⟩ := by unfold modes; rfl

def c_spec_l8None : SC := (.seq (.reg [⟨(some 1), none, (.boxv 31 2 (.t 0))⟩, ⟨(some 2), none, (.mv (.c (.bool false)))⟩]) (.seq (.reg [⟨(some 3), none, (.faddr 0 (.t 1))⟩, ⟨(some 4), none, (.load false 1 (.t 3))⟩, ⟨(some 5), none, (.bin .eql false (.t 4) (.c (.str ⟨#[]⟩)))⟩, ⟨(some 6), none, (.mv (.t 5))⟩, ⟨(some 7), (some (6, true)), (.faddr 1 (.t 1))⟩, ⟨(some 8), (some (6, true)), (.load false 1 (.t 7))⟩, ⟨(some 9), (some (6, true)), (.len false (.t 8))⟩, ⟨(some 10), (some (6, true)), (.bin .eql false (.t 9) (.c (.int .i64 0)))⟩, ⟨(some 11), none, (.pick (.t 6) (.t 10) (.c (.bool false)))⟩, ⟨(some 2), none, (.mv (.t 11))⟩]) .ret))
theorem k_spec_l8None : codeOf Try.prog 54 = some ⟨12, c_spec_l8None, [(.tmp 2)]⟩ := by kernel_rfl
theorem m_spec_l8None : modes 54 = ⟨[], .asis, none, false⟩ := by unfold modes; rfl

def c_slices_IndexFunc_impl_Formula_impl_Formula : SC := (.seq (.reg [⟨(some 4), none, (.mv (.c (.int .i64 0)))⟩]) (.seq (.seq (.reg [⟨(some 6), none, (.mv (.t 0))⟩, ⟨(some 7), none, (.len false (.t 6))⟩, ⟨(some 8), none, (.mv (.c (.int .i64 0)))⟩]) (.block 0 (.loop [1, 1, 0, 0, 0, 0, 0, 1, 1, 0, 0, 0, 0, 0, 0, 0, 0, 0, 0] (.seq (.reg [⟨(some 9), none, (.bin .lss false (.t 8) (.t 7))⟩]) (.seq (.cond (.t 9) .skip (.exit 0)) (.seq (.block 1 (.seq (.reg [⟨(some 10), none, (.mv (.t 8))⟩, ⟨(some 5), none, (.mv (.t 10))⟩]) (.seq (.reg [⟨(some 11), none, (.mv (.t 1))⟩, ⟨(some 12), none, (.mv (.t 0))⟩, ⟨(some 13), none, (.mv (.t 5))⟩, ⟨(some 14), none, (.iaddr 5 (.t 12) (.t 13))⟩, ⟨(some 15), none, (.load true 5 (.t 14))⟩, ⟨(some 16), none, (.callv (.t 11) [(.t 15)])⟩]) (.cond (.t 16) (.seq (.reg [⟨(some 17), none, (.mv (.t 5))⟩, ⟨(some 4), none, (.mv (.t 17))⟩]) .ret) .skip)))) (.reg [⟨(some 18), none, (.bin .add false (.t 8) (.c (.int .i64 1)))⟩, ⟨(some 8), none, (.mv (.t 18))⟩]))))))) (.seq (.reg [⟨(some 4), none, (.mv (.c (.int .i64 (-(0 + 1)))))⟩]) .ret)))
theorem k_slices_IndexFunc_impl_Formula_impl_Formula : codeOf Try.prog 66 = some ⟨19, c_slices_IndexFunc_impl_Formula_impl_Formula, [(.tmp 4)]⟩ := by kernel_rfl
theorem m_slices_IndexFunc_impl_Formula_impl_Formula : modes 66 = ⟨[], .asis, none, false⟩ := by unfold modes; rfl
def c_slices_ContainsFunc_impl_Formula_impl_Formula : SC := (.seq (.reg [⟨(some 4), none, (.mv (.c (.bool false)))⟩]) (.seq (.reg [⟨(some 5), none, (.mv (.t 0))⟩, ⟨(some 6), none, (.mv (.t 1))⟩, ⟨(some 7), none, (.call 66 [(.t 5), (.t 6)])⟩, ⟨(some 8), none, (.bin .geq false (.t 7) (.c (.int .i64 0)))⟩, ⟨(some 4), none, (.mv (.t 8))⟩]) .ret))
theorem k_slices_ContainsFunc_impl_Formula_impl_Formula : codeOf Try.prog 51 = some ⟨9, c_slices_ContainsFunc_impl_Formula_impl_Formula, [(.tmp 4)]⟩ := by kernel_rfl
theorem m_slices_ContainsFunc_impl_Formula_impl_Formula : modes 51 = ⟨[], .asis, none, false⟩ := by unfold modes; rfl
/-- The place of the first hit, or -1. -/
theorem indexFunc_forms (fid : Nat) (p : Fm → Bool) (xs : List Fm) (hl : xs.length ≤ 1099511627776) (hg : goFn Try.prog fid = true) (hm : (modes fid).hand = []) (hE : ∀ x ∈ xs, E fid [x.sv] [] = some (.bool (p x), [])) : E 66 [.arr (xs.map Fm.d), .fn fid []] [] = some (.int .i64 (idxP p xs 0), []) := by
  refine E_walk k_slices_IndexFunc_impl_Formula_impl_Formula m_slices_IndexFunc_impl_Formula_impl_Formula (of_decide_eq_true rfl) ?_
  simp (disch := omega) only [c_slices_IndexFunc_impl_Formula_impl_Formula, go_sem, go_cond, Nat.reduceAdd, Nat.reduceSub, Nat.reduceLT, Nat.reduceLeDiff, Nat.reduceEqDiff, Nat.reduceBEq, Nat.reduceBneDiff, Nat.reduceMul, ↓reduceIte, Int.reduceToNat, reduceCtorEq, Int.reduceNeg, Int.reduceAdd]
  refine go_loop (α := Int) (fun a => ⟨slots 19 0 [(0, .arr (xs.map Fm.d)), (1, .fn fid []), (7, .int .i64 xs.length), (8, .int .i64 a)], []⟩) (fun a => ∃ k : Nat, a = k ∧ k ≤ (xs).length ∧ idxP p (xs.drop k) a = idxP p xs 0) (fun a => (xs).length - (a).toNat) 0 ⟨0, rfl, Nat.zero_le _, by rw [List.drop_zero]⟩ (by simp (disch := omega) only [go_sem, go_cond, Nat.reduceAdd, Nat.reduceSub, Nat.reduceLT, Nat.reduceLeDiff, Nat.reduceEqDiff, Nat.reduceBEq, Nat.reduceBneDiff, Nat.reduceMul, ↓reduceIte, Int.reduceToNat, reduceCtorEq, Int.reduceNeg, Int.reduceAdd]) ?_
  rintro i ⟨k, hi, hk, hR⟩
  have hni : i.toNat = k := by omega
  have hni1 : (i + 1).toNat = k + 1 := by omega
  rcases Nat.lt_or_ge k (xs).length with hlt | hge
  · have hg' := get_at Fm.d hlt
    rw [Fm.d_eq] at hg'
    have hc := hE xs[k] (List.getElem_mem hlt)
    rw [List.drop_eq_getElem_cons hlt, idxP] at hR
    cases hp : p xs[k] with
    | true =>
      rw [hp] at hc hR
      simp (disch := omega) only [go_sem, go_cond, Nat.reduceAdd, Nat.reduceSub, Nat.reduceLT, Nat.reduceLeDiff, Nat.reduceEqDiff, Nat.reduceBEq, Nat.reduceBneDiff, Nat.reduceMul, ↓reduceIte, Int.reduceToNat, reduceCtorEq, Int.reduceNeg, Int.reduceAdd, hni, hg', hc, hg, hm]
      simpa using hR
    | false =>
      rw [hp] at hc hR
      simp (disch := omega) only [go_sem, go_cond, Nat.reduceAdd, Nat.reduceSub, Nat.reduceLT, Nat.reduceLeDiff, Nat.reduceEqDiff, Nat.reduceBEq, Nat.reduceBneDiff, Nat.reduceMul, ↓reduceIte, Int.reduceToNat, reduceCtorEq, Int.reduceNeg, Int.reduceAdd, hni, hg', hc, hg, hm]
      exact ⟨i + 1, ⟨k + 1, by omega, hlt, by simpa using hR⟩, by omega, by first | trivial | rfl⟩
  · rw [List.drop_eq_nil_of_le hge, idxP] at hR
    simp (disch := omega) only [go_sem, go_cond, Nat.reduceAdd, Nat.reduceSub, Nat.reduceLT, Nat.reduceLeDiff, Nat.reduceEqDiff, Nat.reduceBEq, Nat.reduceBneDiff, Nat.reduceMul, ↓reduceIte, Int.reduceToNat, reduceCtorEq, Int.reduceNeg, Int.reduceAdd, hni]
    exact hR
theorem containsFunc_forms (fid : Nat) (p : Fm → Bool) (xs : List Fm) (hl : xs.length ≤ 1099511627776) (hg : goFn Try.prog fid = true) (hm : (modes fid).hand = []) (hE : ∀ x ∈ xs, E fid [x.sv] [] = some (.bool (p x), [])) : E 51 [.arr (xs.map Fm.d), .fn fid []] [] = some (.bool (xs.any p), []) := by
  have h := indexFunc_forms fid p xs hl hg hm hE
  refine E_walk k_slices_ContainsFunc_impl_Formula_impl_Formula m_slices_ContainsFunc_impl_Formula_impl_Formula (of_decide_eq_true rfl) ?_
  simp (disch := omega) only [c_slices_ContainsFunc_impl_Formula_impl_Formula, go_sem, go_cond, Nat.reduceAdd, Nat.reduceSub, Nat.reduceLT, Nat.reduceLeDiff, Nat.reduceEqDiff, Nat.reduceBEq, Nat.reduceBneDiff, Nat.reduceMul, ↓reduceIte, Int.reduceToNat, reduceCtorEq, Int.reduceNeg, Int.reduceAdd, h, m_slices_IndexFunc_impl_Formula_impl_Formula]
  rw [idxP_any]

def c_impl_hasForm : SC := (.seq (.reg [⟨(some 1), none, (.boxv 34 5 (.t 0))⟩, ⟨(some 2), none, (.mv (.c (.bool false)))⟩]) (.seq (.reg [⟨(some 3), none, (.mv (.c (.int .i64 0)))⟩]) (.seq (.block 0 (.seq (.seq (.reg [⟨(some 5), none, (.faddr 0 (.t 1))⟩, ⟨(some 6), none, (.load false 1 (.t 5))⟩, ⟨(some 7), none, (.bin .eql false (.t 6) (.c (.int .i64 1)))⟩, ⟨(some 4), none, (.mv (.t 7))⟩]) (.cond (.t 4) .skip (.seq (.reg [⟨(some 8), none, (.faddr 0 (.t 1))⟩, ⟨(some 9), none, (.load false 1 (.t 8))⟩, ⟨(some 10), none, (.bin .eql false (.t 9) (.c (.int .i64 2)))⟩, ⟨(some 4), none, (.mv (.t 10))⟩]) (.cond (.t 4) .skip (.reg [⟨(some 11), none, (.faddr 0 (.t 1))⟩, ⟨(some 12), none, (.load false 1 (.t 11))⟩, ⟨(some 13), none, (.bin .eql false (.t 12) (.c (.int .i64 3)))⟩, ⟨(some 4), none, (.mv (.t 13))⟩]))))) (.cond (.t 4) .skip (.seq (.seq (.reg [⟨(some 15), none, (.faddr 0 (.t 1))⟩, ⟨(some 16), none, (.load false 1 (.t 15))⟩, ⟨(some 17), none, (.bin .eql false (.t 16) (.c (.int .i64 4)))⟩, ⟨(some 14), none, (.mv (.t 17))⟩]) (.cond (.t 14) .skip (.reg [⟨(some 18), none, (.faddr 0 (.t 1))⟩, ⟨(some 19), none, (.load false 1 (.t 18))⟩, ⟨(some 20), none, (.call 46 [(.t 19)])⟩, ⟨(some 14), none, (.mv (.t 20))⟩]))) (.cond (.t 14) (.reg [⟨(some 3), none, (.mv (.c (.int .i64 1)))⟩]) (.seq (.reg [⟨(some 22), none, (.faddr 0 (.t 1))⟩, ⟨(some 23), none, (.load false 1 (.t 22))⟩, ⟨(some 24), none, (.call 47 [(.t 23)])⟩, ⟨(some 21), none, (.mv (.t 24))⟩]) (.cond (.t 21) (.reg [⟨(some 3), none, (.mv (.c (.int .i64 2)))⟩]) (.seq (.reg [⟨(some 2), none, (.mv (.c (.bool false)))⟩]) .ret)))))))) (.seq (.seq (.reg [⟨(some 25), none, (.faddr 4 (.t 1))⟩, ⟨(some 26), none, (.load false 1 (.t 25))⟩, ⟨(some 27), none, (.len false (.t 26))⟩, ⟨(some 28), none, (.mv (.t 3))⟩, ⟨(some 29), none, (.bin .neq false (.t 27) (.t 28))⟩, ⟨(some 30), none, (.mv (.t 29))⟩, ⟨(some 31), (some (30, false)), (.faddr 0 (.t 1))⟩, ⟨(some 32), (some (30, false)), (.load false 1 (.t 31))⟩, ⟨(some 33), (some (30, false)), (.call 46 [(.t 32)])⟩, ⟨(some 34), (some (30, false)), (.mv (.t 33))⟩, ⟨(some 35), (some (34, true)), (.faddr 3 (.t 1))⟩, ⟨(some 36), (some (34, true)), (.load false 1 (.t 35))⟩, ⟨(some 37), (some (34, true)), (.call 48 [(.t 36)])⟩, ⟨(some 38), (some (34, true)), (.un .not (.t 37))⟩, ⟨(some 39), (some (30, false)), (.pick (.t 34) (.t 38) (.c (.bool false)))⟩, ⟨(some 40), none, (.pick (.t 30) (.c (.bool true)) (.t 39))⟩, ⟨(some 41), none, (.mv (.t 40))⟩, ⟨(some 42), (some (41, false)), (.faddr 0 (.t 1))⟩, ⟨(some 43), (some (41, false)), (.load false 1 (.t 42))⟩, ⟨(some 44), (some (41, false)), (.call 46 [(.t 43)])⟩, ⟨(some 45), (some (41, false)), (.un .not (.t 44))⟩, ⟨(some 46), (some (41, false)), (.mv (.t 45))⟩, ⟨(some 47), (some (46, true)), (.faddr 3 (.t 1))⟩, ⟨(some 48), (some (46, true)), (.load false 1 (.t 47))⟩, ⟨(some 49), (some (46, true)), (.bin .neq false (.t 48) (.c (.str ⟨#[]⟩)))⟩, ⟨(some 50), (some (41, false)), (.pick (.t 46) (.t 49) (.c (.bool false)))⟩, ⟨(some 51), none, (.pick (.t 41) (.c (.bool true)) (.t 50))⟩]) (.cond (.t 51) (.seq (.reg [⟨(some 2), none, (.mv (.c (.bool false)))⟩]) .ret) .skip)) (.seq (.seq (.reg [⟨(some 52), none, (.faddr 0 (.t 1))⟩, ⟨(some 53), none, (.load false 1 (.t 52))⟩, ⟨(some 54), none, (.bin .eql false (.t 53) (.c (.int .i64 3)))⟩, ⟨(some 55), none, (.mv (.t 54))⟩, ⟨(some 56), (some (55, true)), (.faddr 1 (.t 1))⟩, ⟨(some 57), (some (55, true)), (.load true 2 (.t 56))⟩, ⟨(some 58), (some (55, true)), (.call 49 [(.t 57)])⟩, ⟨(some 59), (some (55, true)), (.un .not (.t 58))⟩, ⟨(some 60), none, (.pick (.t 55) (.t 59) (.c (.bool false)))⟩, ⟨(some 61), none, (.mv (.t 60))⟩, ⟨(some 62), (some (61, false)), (.faddr 0 (.t 1))⟩, ⟨(some 63), (some (61, false)), (.load false 1 (.t 62))⟩, ⟨(some 64), (some (61, false)), (.bin .neq false (.t 63) (.c (.int .i64 3)))⟩, ⟨(some 65), (some (61, false)), (.mv (.t 64))⟩, ⟨(some 66), (some (65, true)), (.faddr 1 (.t 1))⟩, ⟨(some 67), (some (65, true)), (.load true 2 (.t 66))⟩, ⟨(some 68), (some (65, true)), (.call 50 [(.t 67)])⟩, ⟨(some 69), (some (65, true)), (.un .not (.t 68))⟩, ⟨(some 70), (some (61, false)), (.pick (.t 65) (.t 69) (.c (.bool false)))⟩, ⟨(some 71), none, (.pick (.t 61) (.c (.bool true)) (.t 70))⟩]) (.cond (.t 71) (.seq (.reg [⟨(some 2), none, (.mv (.c (.bool false)))⟩]) .ret) .skip)) (.seq (.reg [⟨(some 72), none, (.faddr 4 (.t 1))⟩, ⟨(some 73), none, (.load false 1 (.t 72))⟩, ⟨(some 74), none, (.call 51 [(.t 73), (.c (.fn 52 []))])⟩, ⟨(some 75), none, (.un .not (.t 74))⟩, ⟨(some 2), none, (.mv (.t 75))⟩]) .ret))))))
theorem k_impl_hasForm : codeOf Try.prog 34 = some ⟨76, c_impl_hasForm, [(.tmp 2)]⟩ := by kernel_rfl
theorem m_impl_hasForm : modes 34 = ⟨[], .asis, none, false⟩ := by unfold modes; rfl

def c_impl_hasForm_1 : SC := (.seq (.reg [⟨(some 1), none, (.boxv 34 5 (.t 0))⟩, ⟨(some 2), none, (.mv (.c (.bool false)))⟩]) (.seq (.reg [⟨(some 3), none, (.load true 5 (.t 1))⟩, ⟨(some 4), none, (.call 34 [(.t 3)])⟩, ⟨(some 5), none, (.un .not (.t 4))⟩, ⟨(some 2), none, (.mv (.t 5))⟩]) .ret))
theorem k_impl_hasForm_1 : codeOf Try.prog 52 = some ⟨6, c_impl_hasForm_1, [(.tmp 2)]⟩ := by kernel_rfl
theorem m_impl_hasForm_1 : modes 52 = ⟨[], .asis, none, false⟩ := by unfold modes; rfl

theorem g_impl_hasForm_1 : goFn Try.prog 52 = true := by kernel_rfl

def c_spec_l8Form : SC := (.seq (.reg [⟨(some 1), none, (.boxv 34 5 (.t 0))⟩, ⟨(some 2), none, (.mv (.c (.bool false)))⟩]) (.seq (.reg [⟨(some 4), none, (.faddr 4 (.t 1))⟩, ⟨(some 5), none, (.load false 1 (.t 4))⟩, ⟨(some 6), none, (.len false (.t 5))⟩, ⟨(some 3), none, (.mv (.t 6))⟩]) (.seq (.seq (.reg [⟨(some 7), none, (.faddr 0 (.t 1))⟩, ⟨(some 8), none, (.load false 1 (.t 7))⟩]) (.block 0 (.seq (.seq (.reg [⟨(some 10), none, (.bin .eql false (.t 8) (.c (.int .i64 1)))⟩, ⟨(some 9), none, (.mv (.t 10))⟩]) (.cond (.t 9) .skip (.reg [⟨(some 11), none, (.bin .eql false (.t 8) (.c (.int .i64 2)))⟩, ⟨(some 9), none, (.mv (.t 11))⟩]))) (.cond (.t 9) (.seq (.reg [⟨(some 12), none, (.mv (.t 3))⟩, ⟨(some 13), none, (.bin .eql false (.t 12) (.c (.int .i64 0)))⟩, ⟨(some 14), none, (.mv (.t 13))⟩, ⟨(some 15), (some (14, true)), (.faddr 1 (.t 1))⟩, ⟨(some 16), (some (14, true)), (.load true 2 (.t 15))⟩, ⟨(some 17), (some (14, true)), (.call 54 [(.t 16)])⟩, ⟨(some 18), none, (.pick (.t 14) (.t 17) (.c (.bool false)))⟩, ⟨(some 19), none, (.mv (.t 18))⟩, ⟨(some 20), (some (19, true)), (.faddr 3 (.t 1))⟩, ⟨(some 21), (some (19, true)), (.load false 1 (.t 20))⟩, ⟨(some 22), (some (19, true)), (.bin .eql false (.t 21) (.c (.str ⟨#[]⟩)))⟩, ⟨(some 23), none, (.pick (.t 19) (.t 22) (.c (.bool false)))⟩, ⟨(some 2), none, (.mv (.t 23))⟩]) .ret) (.seq (.reg [⟨(some 25), none, (.bin .eql false (.t 8) (.c (.int .i64 3)))⟩, ⟨(some 24), none, (.mv (.t 25))⟩]) (.cond (.t 24) (.seq (.reg [⟨(some 26), none, (.mv (.t 3))⟩, ⟨(some 27), none, (.bin .eql false (.t 26) (.c (.int .i64 0)))⟩, ⟨(some 28), none, (.mv (.t 27))⟩, ⟨(some 29), (some (28, true)), (.faddr 1 (.t 1))⟩, ⟨(some 30), (some (28, true)), (.load true 2 (.t 29))⟩, ⟨(some 31), (some (28, true)), (.call 55 [(.t 30)])⟩, ⟨(some 32), none, (.pick (.t 28) (.t 31) (.c (.bool false)))⟩, ⟨(some 33), none, (.mv (.t 32))⟩, ⟨(some 34), (some (33, true)), (.faddr 3 (.t 1))⟩, ⟨(some 35), (some (33, true)), (.load false 1 (.t 34))⟩, ⟨(some 36), (some (33, true)), (.bin .eql false (.t 35) (.c (.str ⟨#[]⟩)))⟩, ⟨(some 37), none, (.pick (.t 33) (.t 36) (.c (.bool false)))⟩, ⟨(some 2), none, (.mv (.t 37))⟩]) .ret) (.seq (.reg [⟨(some 39), none, (.bin .eql false (.t 8) (.c (.int .i64 4)))⟩, ⟨(some 38), none, (.mv (.t 39))⟩]) (.cond (.t 38) (.seq (.reg [⟨(some 40), none, (.mv (.t 3))⟩, ⟨(some 41), none, (.bin .eql false (.t 40) (.c (.int .i64 1)))⟩, ⟨(some 42), none, (.mv (.t 41))⟩, ⟨(some 43), (some (42, true)), (.faddr 1 (.t 1))⟩, ⟨(some 44), (some (42, true)), (.load true 2 (.t 43))⟩, ⟨(some 45), (some (42, true)), (.call 54 [(.t 44)])⟩, ⟨(some 46), none, (.pick (.t 42) (.t 45) (.c (.bool false)))⟩, ⟨(some 47), none, (.mv (.t 46))⟩, ⟨(some 48), (some (47, true)), (.faddr 3 (.t 1))⟩, ⟨(some 49), (some (47, true)), (.load false 1 (.t 48))⟩, ⟨(some 50), (some (47, true)), (.bin .eql false (.t 49) (.c (.str ⟨#[]⟩)))⟩, ⟨(some 51), none, (.pick (.t 47) (.t 50) (.c (.bool false)))⟩, ⟨(some 2), none, (.mv (.t 51))⟩]) .ret) (.seq (.seq (.reg [⟨(some 53), none, (.bin .eql false (.t 8) (.c (.int .i64 5)))⟩, ⟨(some 52), none, (.mv (.t 53))⟩]) (.cond (.t 52) .skip (.seq (.reg [⟨(some 54), none, (.bin .eql false (.t 8) (.c (.int .i64 6)))⟩, ⟨(some 52), none, (.mv (.t 54))⟩]) (.cond (.t 52) .skip (.reg [⟨(some 55), none, (.bin .eql false (.t 8) (.c (.int .i64 7)))⟩, ⟨(some 52), none, (.mv (.t 55))⟩]))))) (.cond (.t 52) (.seq (.reg [⟨(some 56), none, (.mv (.t 3))⟩, ⟨(some 57), none, (.bin .eql false (.t 56) (.c (.int .i64 2)))⟩, ⟨(some 58), none, (.mv (.t 57))⟩, ⟨(some 59), (some (58, true)), (.faddr 1 (.t 1))⟩, ⟨(some 60), (some (58, true)), (.load true 2 (.t 59))⟩, ⟨(some 61), (some (58, true)), (.call 54 [(.t 60)])⟩, ⟨(some 62), none, (.pick (.t 58) (.t 61) (.c (.bool false)))⟩, ⟨(some 63), none, (.mv (.t 62))⟩, ⟨(some 64), (some (63, true)), (.faddr 3 (.t 1))⟩, ⟨(some 65), (some (63, true)), (.load false 1 (.t 64))⟩, ⟨(some 66), (some (63, true)), (.bin .eql false (.t 65) (.c (.str ⟨#[]⟩)))⟩, ⟨(some 67), none, (.pick (.t 63) (.t 66) (.c (.bool false)))⟩, ⟨(some 2), none, (.mv (.t 67))⟩]) .ret) (.seq (.seq (.reg [⟨(some 69), none, (.bin .eql false (.t 8) (.c (.int .i64 8)))⟩, ⟨(some 68), none, (.mv (.t 69))⟩]) (.cond (.t 68) .skip (.reg [⟨(some 70), none, (.bin .eql false (.t 8) (.c (.int .i64 9)))⟩, ⟨(some 68), none, (.mv (.t 70))⟩]))) (.cond (.t 68) (.seq (.reg [⟨(some 71), none, (.mv (.t 3))⟩, ⟨(some 72), none, (.bin .eql false (.t 71) (.c (.int .i64 1)))⟩, ⟨(some 73), none, (.mv (.t 72))⟩, ⟨(some 74), (some (73, true)), (.faddr 1 (.t 1))⟩, ⟨(some 75), (some (73, true)), (.load true 2 (.t 74))⟩, ⟨(some 76), (some (73, true)), (.call 54 [(.t 75)])⟩, ⟨(some 77), none, (.pick (.t 73) (.t 76) (.c (.bool false)))⟩, ⟨(some 78), none, (.mv (.t 77))⟩, ⟨(some 79), (some (78, true)), (.faddr 3 (.t 1))⟩, ⟨(some 80), (some (78, true)), (.load false 1 (.t 79))⟩, ⟨(some 81), (some (78, true)), (.call 56 [(.t 80)])⟩, ⟨(some 82), none, (.pick (.t 78) (.t 81) (.c (.bool false)))⟩, ⟨(some 2), none, (.mv (.t 82))⟩]) .ret) .skip)))))))))))) (.seq (.reg [⟨(some 2), none, (.mv (.c (.bool false)))⟩]) .ret))))
theorem k_spec_l8Form : codeOf Try.prog 44 = some ⟨83, c_spec_l8Form, [(.tmp 2)]⟩ := by kernel_rfl
theorem m_spec_l8Form : modes 44 = ⟨[], .asis, none, false⟩ := by unfold modes; rfl

def c_spec_l8Forms : SC := (.seq (.reg [⟨(some 1), none, (.boxv 34 5 (.t 0))⟩, ⟨(some 2), none, (.mv (.c (.bool false)))⟩]) (.seq (.seq (.reg [⟨(some 4), none, (.load true 5 (.t 1))⟩, ⟨(some 5), none, (.call 44 [(.t 4)])⟩, ⟨(some 6), none, (.un .not (.t 5))⟩]) (.cond (.t 6) (.seq (.reg [⟨(some 2), none, (.mv (.c (.bool false)))⟩]) .ret) .skip)) (.seq (.seq (.reg [⟨(some 3), none, (.mv (.c (.int .i64 0)))⟩]) (.block 0 (.loop [0, 1, 0, 1, 0, 0, 0, 0, 0, 0, 0, 0, 0, 0, 0, 0, 0, 0, 0, 0, 0] (.seq (.seq (.reg [⟨(some 7), none, (.mv (.t 3))⟩, ⟨(some 8), none, (.faddr 4 (.t 1))⟩, ⟨(some 9), none, (.load false 1 (.t 8))⟩, ⟨(some 10), none, (.len false (.t 9))⟩, ⟨(some 11), none, (.bin .lss false (.t 7) (.t 10))⟩]) (.cond (.t 11) .skip (.exit 0))) (.seq (.block 1 (.seq (.reg [⟨(some 14), none, (.faddr 4 (.t 1))⟩, ⟨(some 15), none, (.load false 1 (.t 14))⟩, ⟨(some 16), none, (.mv (.t 3))⟩, ⟨(some 17), none, (.iaddr 5 (.t 15) (.t 16))⟩, ⟨(some 18), none, (.load true 5 (.t 17))⟩, ⟨(some 19), none, (.call 28 [(.t 18)])⟩, ⟨(some 20), none, (.un .not (.t 19))⟩]) (.cond (.t 20) (.seq (.reg [⟨(some 2), none, (.mv (.c (.bool false)))⟩]) .ret) .skip))) (.reg [⟨(some 12), none, (.mv (.t 3))⟩, ⟨(some 13), none, (.bin .add false (.t 12) (.c (.int .i64 1)))⟩, ⟨(some 3), none, (.mv (.t 13))⟩])))))) (.seq (.reg [⟨(some 2), none, (.mv (.c (.bool true)))⟩]) .ret))))
theorem k_spec_l8Forms : codeOf Try.prog 28 = some ⟨21, c_spec_l8Forms, [(.tmp 2)]⟩ := by kernel_rfl
theorem m_spec_l8Forms : modes 28 = ⟨[], .asis, none, false⟩ := by unfold modes; rfl

def c_impl_IsValidFormula : SC := (.seq (.reg [⟨(some 1), none, (.boxv 34 5 (.t 0))⟩, ⟨(some 2), none, (.mv (.c (.bool false)))⟩]) (.seq (.reg [⟨(some 3), none, (.load true 5 (.t 1))⟩, ⟨(some 4), none, (.call 33 [(.t 3)])⟩, ⟨(some 5), none, (.bin .leq false (.t 4) (.c (.int .i64 40)))⟩, ⟨(some 6), none, (.mv (.t 5))⟩, ⟨(some 7), (some (6, true)), (.load true 5 (.t 1))⟩, ⟨(some 8), (some (6, true)), (.call 34 [(.t 7)])⟩, ⟨(some 9), none, (.pick (.t 6) (.t 8) (.c (.bool false)))⟩, ⟨(some 2), none, (.mv (.t 9))⟩]) .ret))
theorem k_impl_IsValidFormula : codeOf Try.prog 17 = some ⟨10, c_impl_IsValidFormula, [(.tmp 2)]⟩ := by kernel_rfl
theorem m_impl_IsValidFormula : modes 17 = ⟨[], .asis, none, false⟩ := by unfold modes; rfl

def c_spec_l8Good : SC := (.seq (.reg [⟨(some 1), none, (.boxv 34 5 (.t 0))⟩, ⟨(some 2), none, (.mv (.c (.bool false)))⟩]) (.seq (.reg [⟨(some 3), none, (.load true 5 (.t 1))⟩, ⟨(some 4), none, (.call 27 [(.t 3), (.c (.int .i64 40))])⟩, ⟨(some 5), none, (.bin .leq false (.t 4) (.c (.int .i64 40)))⟩, ⟨(some 6), none, (.mv (.t 5))⟩, ⟨(some 7), (some (6, true)), (.load true 5 (.t 1))⟩, ⟨(some 8), (some (6, true)), (.call 28 [(.t 7)])⟩, ⟨(some 9), none, (.pick (.t 6) (.t 8) (.c (.bool false)))⟩, ⟨(some 2), none, (.mv (.t 9))⟩]) .ret))
theorem k_spec_l8Good : codeOf Try.prog 13 = some ⟨10, c_spec_l8Good, [(.tmp 2)]⟩ := by kernel_rfl
theorem m_spec_l8Good : modes 13 = ⟨[], .asis, none, false⟩ := by unfold modes; rfl

theorem isQuantifier_E (n : Int) : E 46 [.int .i64 n] [] = some (.bool (dec (n = 8) || dec (n = 9)), []) := by
  cases h1 : dec (n = 8) with
  | true =>
    refine E_walk k_impl_isQuantifier m_impl_isQuantifier (of_decide_eq_true rfl) ?_
    simp (disch := omega) only [c_impl_isQuantifier, go_sem, go_cond, Nat.reduceAdd, Nat.reduceSub, Nat.reduceLT, Nat.reduceLeDiff, Nat.reduceEqDiff, Nat.reduceBEq, Nat.reduceBneDiff, Nat.reduceMul, ↓reduceIte, Int.reduceToNat, reduceCtorEq, Int.reduceNeg, Int.reduceAdd, h1]
  | false =>
    refine E_walk k_impl_isQuantifier m_impl_isQuantifier (of_decide_eq_true rfl) ?_
    simp (disch := omega) only [c_impl_isQuantifier, go_sem, go_cond, Nat.reduceAdd, Nat.reduceSub, Nat.reduceLT, Nat.reduceLeDiff, Nat.reduceEqDiff, Nat.reduceBEq, Nat.reduceBneDiff, Nat.reduceMul, ↓reduceIte, Int.reduceToNat, reduceCtorEq, Int.reduceNeg, Int.reduceAdd, h1]
theorem isBinary_E (n : Int) : E 47 [.int .i64 n] [] = some (.bool (dec (n = 5) || dec (n = 6) || dec (n = 7)), []) := by
  cases h1 : dec (n = 5) <;> cases h2 : dec (n = 6)
  all_goals
    refine E_walk k_impl_isBinary m_impl_isBinary (of_decide_eq_true rfl) ?_
    simp (disch := omega) only [c_impl_isBinary, go_sem, go_cond, Nat.reduceAdd, Nat.reduceSub, Nat.reduceLT, Nat.reduceLeDiff, Nat.reduceEqDiff, Nat.reduceBEq, Nat.reduceBneDiff, Nat.reduceMul, ↓reduceIte, Int.reduceToNat, reduceCtorEq, Int.reduceNeg, Int.reduceAdd, h1, h2]
theorem isZeroTerm_E (x : Tm) : E 50 [x.sv] [] = some (.bool x.isZ, []) := by
  unfold Tm.isZ
  have hl : dec ((x.args.length : Int) = 0) = (x.args.length == 0) := by
    rw [dec_of]
    cases x.args <;> simp <;> omega
  cases h1 : dec (x.name = ⟨#[]⟩) with
  | true =>
    refine E_walk k_impl_isZeroTerm m_impl_isZeroTerm (of_decide_eq_true rfl) ?_
    simp (disch := omega) only [c_impl_isZeroTerm, go_sem, go_cond, Nat.reduceAdd, Nat.reduceSub, Nat.reduceLT, Nat.reduceLeDiff, Nat.reduceEqDiff, Nat.reduceBEq, Nat.reduceBneDiff, Nat.reduceMul, ↓reduceIte, Int.reduceToNat, reduceCtorEq, Int.reduceNeg, Int.reduceAdd, h1]
    try rw [hl]
  | false =>
    refine E_walk k_impl_isZeroTerm m_impl_isZeroTerm (of_decide_eq_true rfl) ?_
    simp (disch := omega) only [c_impl_isZeroTerm, go_sem, go_cond, Nat.reduceAdd, Nat.reduceSub, Nat.reduceLT, Nat.reduceLeDiff, Nat.reduceEqDiff, Nat.reduceBEq, Nat.reduceBneDiff, Nat.reduceMul, ↓reduceIte, Int.reduceToNat, reduceCtorEq, Int.reduceNeg, Int.reduceAdd, h1]
theorem l8None_E (x : Tm) : E 54 [x.sv] [] = some (.bool x.isZ, []) := by
  unfold Tm.isZ
  have hl : dec ((x.args.length : Int) = 0) = (x.args.length == 0) := by
    rw [dec_of]
    cases x.args <;> simp <;> omega
  cases h1 : dec (x.name = ⟨#[]⟩) with
  | true =>
    refine E_walk k_spec_l8None m_spec_l8None (of_decide_eq_true rfl) ?_
    simp (disch := omega) only [c_spec_l8None, go_sem, go_cond, Nat.reduceAdd, Nat.reduceSub, Nat.reduceLT, Nat.reduceLeDiff, Nat.reduceEqDiff, Nat.reduceBEq, Nat.reduceBneDiff, Nat.reduceMul, ↓reduceIte, Int.reduceToNat, reduceCtorEq, Int.reduceNeg, Int.reduceAdd, h1]
    try rw [hl]
  | false =>
    refine E_walk k_spec_l8None m_spec_l8None (of_decide_eq_true rfl) ?_
    simp (disch := omega) only [c_spec_l8None, go_sem, go_cond, Nat.reduceAdd, Nat.reduceSub, Nat.reduceLT, Nat.reduceLeDiff, Nat.reduceEqDiff, Nat.reduceBEq, Nat.reduceBneDiff, Nat.reduceMul, ↓reduceIte, Int.reduceToNat, reduceCtorEq, Int.reduceNeg, Int.reduceAdd, h1]
theorem l8Form_1 (x : Fm) (hn : x.atom.nodes ≤ 1099511627776) (ho : x.op = 1 ∨ x.op = 2) : E 44 [x.sv] [] = some (.bool x.form, []) := by
  have hf : x.form = (x.parts.length == 0 && x.atom.isZ && dec (x.var = ⟨#[]⟩)) := by unfold Fm.form; rcases ho with ho | ho <;> simp [ho]
  rcases ho with ho | ho
  all_goals
    first
      | (have o1 : dec (x.op = 1) = true := dec_t ho)
      | (have o1 : dec (x.op = 1) = false := dec_f (by omega))
    first
      | (have o2 : dec (x.op = 2) = true := dec_t ho)
      | (have o2 : dec (x.op = 2) = false := dec_f (by omega))
    have o3 : dec (x.op = 3) = false := dec_f (by omega)
    have o4 : dec (x.op = 4) = false := dec_f (by omega)
    have o5 : dec (x.op = 5) = false := dec_f (by omega)
    have o6 : dec (x.op = 6) = false := dec_f (by omega)
    have o7 : dec (x.op = 7) = false := dec_f (by omega)
    have o8 : dec (x.op = 8) = false := dec_f (by omega)
    have o9 : dec (x.op = 9) = false := dec_f (by omega)
    have ha := l8None_E x.atom
    have hv := l2Var_E x.var
    rw [hf]
    by_cases hl : x.parts.length = 0
    · have hl2 : dec ((x.parts.length : Int) = 0) = true := dec_t (by omega)
      rw [hl, beq_self_eq_true, Bool.true_and]
      cases hq : x.atom.isZ with
      | true =>
        rw [hq] at ha
        rw [Bool.true_and]
        refine E_walk k_spec_l8Form m_spec_l8Form (of_decide_eq_true rfl) ?_
        simp (disch := omega) only [c_spec_l8Form, go_sem, Nat.reduceAdd, Nat.reduceSub, Nat.reduceLT, Nat.reduceLeDiff, Nat.reduceEqDiff, Nat.reduceBEq, Nat.reduceBneDiff, Nat.reduceMul, ↓reduceIte, Int.reduceToNat, reduceCtorEq, Int.reduceNeg, Int.reduceAdd, o1, o2, o3, o4, o5, o6, o7, o8, o9, hl2, ha, hv, m_spec_l2Atom, m_spec_l8None, m_spec_l2Var]
        repeat ((first | (refine go_condT ?_ ?_; (focus (simp (disch := omega) only [go_sem, Nat.reduceAdd, Nat.reduceSub, Nat.reduceLT, Nat.reduceLeDiff, Nat.reduceEqDiff, Nat.reduceBEq, Nat.reduceBneDiff, Nat.reduceMul, ↓reduceIte, Int.reduceToNat, reduceCtorEq, Int.reduceNeg, Int.reduceAdd, o1, o2, o3, o4, o5, o6, o7, o8, o9, hl2, ha, hv, m_spec_l2Atom, m_spec_l8None, m_spec_l2Var]; done))) | (refine go_condF ?_ ?_; (focus (simp (disch := omega) only [go_sem, Nat.reduceAdd, Nat.reduceSub, Nat.reduceLT, Nat.reduceLeDiff, Nat.reduceEqDiff, Nat.reduceBEq, Nat.reduceBneDiff, Nat.reduceMul, ↓reduceIte, Int.reduceToNat, reduceCtorEq, Int.reduceNeg, Int.reduceAdd, o1, o2, o3, o4, o5, o6, o7, o8, o9, hl2, ha, hv, m_spec_l2Atom, m_spec_l8None, m_spec_l2Var]; done)))); (try simp (disch := omega) only [go_sem, Nat.reduceAdd, Nat.reduceSub, Nat.reduceLT, Nat.reduceLeDiff, Nat.reduceEqDiff, Nat.reduceBEq, Nat.reduceBneDiff, Nat.reduceMul, ↓reduceIte, Int.reduceToNat, reduceCtorEq, Int.reduceNeg, Int.reduceAdd, o1, o2, o3, o4, o5, o6, o7, o8, o9, hl2, ha, hv, m_spec_l2Atom, m_spec_l8None, m_spec_l2Var]))
      | false =>
        rw [hq] at ha
        rw [Bool.false_and]
        refine E_walk k_spec_l8Form m_spec_l8Form (of_decide_eq_true rfl) ?_
        simp (disch := omega) only [c_spec_l8Form, go_sem, Nat.reduceAdd, Nat.reduceSub, Nat.reduceLT, Nat.reduceLeDiff, Nat.reduceEqDiff, Nat.reduceBEq, Nat.reduceBneDiff, Nat.reduceMul, ↓reduceIte, Int.reduceToNat, reduceCtorEq, Int.reduceNeg, Int.reduceAdd, o1, o2, o3, o4, o5, o6, o7, o8, o9, hl2, ha, hv, m_spec_l2Atom, m_spec_l8None, m_spec_l2Var]
        repeat ((first | (refine go_condT ?_ ?_; (focus (simp (disch := omega) only [go_sem, Nat.reduceAdd, Nat.reduceSub, Nat.reduceLT, Nat.reduceLeDiff, Nat.reduceEqDiff, Nat.reduceBEq, Nat.reduceBneDiff, Nat.reduceMul, ↓reduceIte, Int.reduceToNat, reduceCtorEq, Int.reduceNeg, Int.reduceAdd, o1, o2, o3, o4, o5, o6, o7, o8, o9, hl2, ha, hv, m_spec_l2Atom, m_spec_l8None, m_spec_l2Var]; done))) | (refine go_condF ?_ ?_; (focus (simp (disch := omega) only [go_sem, Nat.reduceAdd, Nat.reduceSub, Nat.reduceLT, Nat.reduceLeDiff, Nat.reduceEqDiff, Nat.reduceBEq, Nat.reduceBneDiff, Nat.reduceMul, ↓reduceIte, Int.reduceToNat, reduceCtorEq, Int.reduceNeg, Int.reduceAdd, o1, o2, o3, o4, o5, o6, o7, o8, o9, hl2, ha, hv, m_spec_l2Atom, m_spec_l8None, m_spec_l2Var]; done)))); (try simp (disch := omega) only [go_sem, Nat.reduceAdd, Nat.reduceSub, Nat.reduceLT, Nat.reduceLeDiff, Nat.reduceEqDiff, Nat.reduceBEq, Nat.reduceBneDiff, Nat.reduceMul, ↓reduceIte, Int.reduceToNat, reduceCtorEq, Int.reduceNeg, Int.reduceAdd, o1, o2, o3, o4, o5, o6, o7, o8, o9, hl2, ha, hv, m_spec_l2Atom, m_spec_l8None, m_spec_l2Var]))
    · have hl2 : dec ((x.parts.length : Int) = 0) = false := dec_f (by omega)
      have hl3 : (x.parts.length == 0) = false := by simpa using hl
      rw [hl3, Bool.false_and, Bool.false_and]
      refine E_walk k_spec_l8Form m_spec_l8Form (of_decide_eq_true rfl) ?_
      simp (disch := omega) only [c_spec_l8Form, go_sem, Nat.reduceAdd, Nat.reduceSub, Nat.reduceLT, Nat.reduceLeDiff, Nat.reduceEqDiff, Nat.reduceBEq, Nat.reduceBneDiff, Nat.reduceMul, ↓reduceIte, Int.reduceToNat, reduceCtorEq, Int.reduceNeg, Int.reduceAdd, o1, o2, o3, o4, o5, o6, o7, o8, o9, hl2, ha, hv, m_spec_l2Atom, m_spec_l8None, m_spec_l2Var]
      repeat ((first | (refine go_condT ?_ ?_; (focus (simp (disch := omega) only [go_sem, Nat.reduceAdd, Nat.reduceSub, Nat.reduceLT, Nat.reduceLeDiff, Nat.reduceEqDiff, Nat.reduceBEq, Nat.reduceBneDiff, Nat.reduceMul, ↓reduceIte, Int.reduceToNat, reduceCtorEq, Int.reduceNeg, Int.reduceAdd, o1, o2, o3, o4, o5, o6, o7, o8, o9, hl2, ha, hv, m_spec_l2Atom, m_spec_l8None, m_spec_l2Var]; done))) | (refine go_condF ?_ ?_; (focus (simp (disch := omega) only [go_sem, Nat.reduceAdd, Nat.reduceSub, Nat.reduceLT, Nat.reduceLeDiff, Nat.reduceEqDiff, Nat.reduceBEq, Nat.reduceBneDiff, Nat.reduceMul, ↓reduceIte, Int.reduceToNat, reduceCtorEq, Int.reduceNeg, Int.reduceAdd, o1, o2, o3, o4, o5, o6, o7, o8, o9, hl2, ha, hv, m_spec_l2Atom, m_spec_l8None, m_spec_l2Var]; done)))); (try simp (disch := omega) only [go_sem, Nat.reduceAdd, Nat.reduceSub, Nat.reduceLT, Nat.reduceLeDiff, Nat.reduceEqDiff, Nat.reduceBEq, Nat.reduceBneDiff, Nat.reduceMul, ↓reduceIte, Int.reduceToNat, reduceCtorEq, Int.reduceNeg, Int.reduceAdd, o1, o2, o3, o4, o5, o6, o7, o8, o9, hl2, ha, hv, m_spec_l2Atom, m_spec_l8None, m_spec_l2Var]))
theorem l8Form_3 (x : Fm) (hn : x.atom.nodes ≤ 1099511627776) (ho : x.op = 3) : E 44 [x.sv] [] = some (.bool x.form, []) := by
  have hf : x.form = (x.parts.length == 0 && x.atom.atom && dec (x.var = ⟨#[]⟩)) := by unfold Fm.form; rcases ho with ho <;> simp [ho]
  rcases ho with ho
  all_goals
    have o1 : dec (x.op = 1) = false := dec_f (by omega)
    have o2 : dec (x.op = 2) = false := dec_f (by omega)
    have o3 : dec (x.op = 3) = true := dec_t ho
    have o4 : dec (x.op = 4) = false := dec_f (by omega)
    have o5 : dec (x.op = 5) = false := dec_f (by omega)
    have o6 : dec (x.op = 6) = false := dec_f (by omega)
    have o7 : dec (x.op = 7) = false := dec_f (by omega)
    have o8 : dec (x.op = 8) = false := dec_f (by omega)
    have o9 : dec (x.op = 9) = false := dec_f (by omega)
    have ha := l2Atom_E x.atom (by omega)
    have hv := l2Var_E x.var
    rw [hf]
    by_cases hl : x.parts.length = 0
    · have hl2 : dec ((x.parts.length : Int) = 0) = true := dec_t (by omega)
      rw [hl, beq_self_eq_true, Bool.true_and]
      cases hq : x.atom.atom with
      | true =>
        rw [hq] at ha
        rw [Bool.true_and]
        refine E_walk k_spec_l8Form m_spec_l8Form (of_decide_eq_true rfl) ?_
        simp (disch := omega) only [c_spec_l8Form, go_sem, Nat.reduceAdd, Nat.reduceSub, Nat.reduceLT, Nat.reduceLeDiff, Nat.reduceEqDiff, Nat.reduceBEq, Nat.reduceBneDiff, Nat.reduceMul, ↓reduceIte, Int.reduceToNat, reduceCtorEq, Int.reduceNeg, Int.reduceAdd, o1, o2, o3, o4, o5, o6, o7, o8, o9, hl2, ha, hv, m_spec_l2Atom, m_spec_l8None, m_spec_l2Var]
        repeat ((first | (refine go_condT ?_ ?_; (focus (simp (disch := omega) only [go_sem, Nat.reduceAdd, Nat.reduceSub, Nat.reduceLT, Nat.reduceLeDiff, Nat.reduceEqDiff, Nat.reduceBEq, Nat.reduceBneDiff, Nat.reduceMul, ↓reduceIte, Int.reduceToNat, reduceCtorEq, Int.reduceNeg, Int.reduceAdd, o1, o2, o3, o4, o5, o6, o7, o8, o9, hl2, ha, hv, m_spec_l2Atom, m_spec_l8None, m_spec_l2Var]; done))) | (refine go_condF ?_ ?_; (focus (simp (disch := omega) only [go_sem, Nat.reduceAdd, Nat.reduceSub, Nat.reduceLT, Nat.reduceLeDiff, Nat.reduceEqDiff, Nat.reduceBEq, Nat.reduceBneDiff, Nat.reduceMul, ↓reduceIte, Int.reduceToNat, reduceCtorEq, Int.reduceNeg, Int.reduceAdd, o1, o2, o3, o4, o5, o6, o7, o8, o9, hl2, ha, hv, m_spec_l2Atom, m_spec_l8None, m_spec_l2Var]; done)))); (try simp (disch := omega) only [go_sem, Nat.reduceAdd, Nat.reduceSub, Nat.reduceLT, Nat.reduceLeDiff, Nat.reduceEqDiff, Nat.reduceBEq, Nat.reduceBneDiff, Nat.reduceMul, ↓reduceIte, Int.reduceToNat, reduceCtorEq, Int.reduceNeg, Int.reduceAdd, o1, o2, o3, o4, o5, o6, o7, o8, o9, hl2, ha, hv, m_spec_l2Atom, m_spec_l8None, m_spec_l2Var]))
      | false =>
        rw [hq] at ha
        rw [Bool.false_and]
        refine E_walk k_spec_l8Form m_spec_l8Form (of_decide_eq_true rfl) ?_
        simp (disch := omega) only [c_spec_l8Form, go_sem, Nat.reduceAdd, Nat.reduceSub, Nat.reduceLT, Nat.reduceLeDiff, Nat.reduceEqDiff, Nat.reduceBEq, Nat.reduceBneDiff, Nat.reduceMul, ↓reduceIte, Int.reduceToNat, reduceCtorEq, Int.reduceNeg, Int.reduceAdd, o1, o2, o3, o4, o5, o6, o7, o8, o9, hl2, ha, hv, m_spec_l2Atom, m_spec_l8None, m_spec_l2Var]
        repeat ((first | (refine go_condT ?_ ?_; (focus (simp (disch := omega) only [go_sem, Nat.reduceAdd, Nat.reduceSub, Nat.reduceLT, Nat.reduceLeDiff, Nat.reduceEqDiff, Nat.reduceBEq, Nat.reduceBneDiff, Nat.reduceMul, ↓reduceIte, Int.reduceToNat, reduceCtorEq, Int.reduceNeg, Int.reduceAdd, o1, o2, o3, o4, o5, o6, o7, o8, o9, hl2, ha, hv, m_spec_l2Atom, m_spec_l8None, m_spec_l2Var]; done))) | (refine go_condF ?_ ?_; (focus (simp (disch := omega) only [go_sem, Nat.reduceAdd, Nat.reduceSub, Nat.reduceLT, Nat.reduceLeDiff, Nat.reduceEqDiff, Nat.reduceBEq, Nat.reduceBneDiff, Nat.reduceMul, ↓reduceIte, Int.reduceToNat, reduceCtorEq, Int.reduceNeg, Int.reduceAdd, o1, o2, o3, o4, o5, o6, o7, o8, o9, hl2, ha, hv, m_spec_l2Atom, m_spec_l8None, m_spec_l2Var]; done)))); (try simp (disch := omega) only [go_sem, Nat.reduceAdd, Nat.reduceSub, Nat.reduceLT, Nat.reduceLeDiff, Nat.reduceEqDiff, Nat.reduceBEq, Nat.reduceBneDiff, Nat.reduceMul, ↓reduceIte, Int.reduceToNat, reduceCtorEq, Int.reduceNeg, Int.reduceAdd, o1, o2, o3, o4, o5, o6, o7, o8, o9, hl2, ha, hv, m_spec_l2Atom, m_spec_l8None, m_spec_l2Var]))
    · have hl2 : dec ((x.parts.length : Int) = 0) = false := dec_f (by omega)
      have hl3 : (x.parts.length == 0) = false := by simpa using hl
      rw [hl3, Bool.false_and, Bool.false_and]
      refine E_walk k_spec_l8Form m_spec_l8Form (of_decide_eq_true rfl) ?_
      simp (disch := omega) only [c_spec_l8Form, go_sem, Nat.reduceAdd, Nat.reduceSub, Nat.reduceLT, Nat.reduceLeDiff, Nat.reduceEqDiff, Nat.reduceBEq, Nat.reduceBneDiff, Nat.reduceMul, ↓reduceIte, Int.reduceToNat, reduceCtorEq, Int.reduceNeg, Int.reduceAdd, o1, o2, o3, o4, o5, o6, o7, o8, o9, hl2, ha, hv, m_spec_l2Atom, m_spec_l8None, m_spec_l2Var]
      repeat ((first | (refine go_condT ?_ ?_; (focus (simp (disch := omega) only [go_sem, Nat.reduceAdd, Nat.reduceSub, Nat.reduceLT, Nat.reduceLeDiff, Nat.reduceEqDiff, Nat.reduceBEq, Nat.reduceBneDiff, Nat.reduceMul, ↓reduceIte, Int.reduceToNat, reduceCtorEq, Int.reduceNeg, Int.reduceAdd, o1, o2, o3, o4, o5, o6, o7, o8, o9, hl2, ha, hv, m_spec_l2Atom, m_spec_l8None, m_spec_l2Var]; done))) | (refine go_condF ?_ ?_; (focus (simp (disch := omega) only [go_sem, Nat.reduceAdd, Nat.reduceSub, Nat.reduceLT, Nat.reduceLeDiff, Nat.reduceEqDiff, Nat.reduceBEq, Nat.reduceBneDiff, Nat.reduceMul, ↓reduceIte, Int.reduceToNat, reduceCtorEq, Int.reduceNeg, Int.reduceAdd, o1, o2, o3, o4, o5, o6, o7, o8, o9, hl2, ha, hv, m_spec_l2Atom, m_spec_l8None, m_spec_l2Var]; done)))); (try simp (disch := omega) only [go_sem, Nat.reduceAdd, Nat.reduceSub, Nat.reduceLT, Nat.reduceLeDiff, Nat.reduceEqDiff, Nat.reduceBEq, Nat.reduceBneDiff, Nat.reduceMul, ↓reduceIte, Int.reduceToNat, reduceCtorEq, Int.reduceNeg, Int.reduceAdd, o1, o2, o3, o4, o5, o6, o7, o8, o9, hl2, ha, hv, m_spec_l2Atom, m_spec_l8None, m_spec_l2Var]))
theorem l8Form_4 (x : Fm) (hn : x.atom.nodes ≤ 1099511627776) (ho : x.op = 4) : E 44 [x.sv] [] = some (.bool x.form, []) := by
  have hf : x.form = (x.parts.length == 1 && x.atom.isZ && dec (x.var = ⟨#[]⟩)) := by unfold Fm.form; rcases ho with ho <;> simp [ho]
  rcases ho with ho
  all_goals
    have o1 : dec (x.op = 1) = false := dec_f (by omega)
    have o2 : dec (x.op = 2) = false := dec_f (by omega)
    have o3 : dec (x.op = 3) = false := dec_f (by omega)
    have o4 : dec (x.op = 4) = true := dec_t ho
    have o5 : dec (x.op = 5) = false := dec_f (by omega)
    have o6 : dec (x.op = 6) = false := dec_f (by omega)
    have o7 : dec (x.op = 7) = false := dec_f (by omega)
    have o8 : dec (x.op = 8) = false := dec_f (by omega)
    have o9 : dec (x.op = 9) = false := dec_f (by omega)
    have ha := l8None_E x.atom
    have hv := l2Var_E x.var
    rw [hf]
    by_cases hl : x.parts.length = 1
    · have hl2 : dec ((x.parts.length : Int) = 1) = true := dec_t (by omega)
      rw [hl, beq_self_eq_true, Bool.true_and]
      cases hq : x.atom.isZ with
      | true =>
        rw [hq] at ha
        rw [Bool.true_and]
        refine E_walk k_spec_l8Form m_spec_l8Form (of_decide_eq_true rfl) ?_
        simp (disch := omega) only [c_spec_l8Form, go_sem, Nat.reduceAdd, Nat.reduceSub, Nat.reduceLT, Nat.reduceLeDiff, Nat.reduceEqDiff, Nat.reduceBEq, Nat.reduceBneDiff, Nat.reduceMul, ↓reduceIte, Int.reduceToNat, reduceCtorEq, Int.reduceNeg, Int.reduceAdd, o1, o2, o3, o4, o5, o6, o7, o8, o9, hl2, ha, hv, m_spec_l2Atom, m_spec_l8None, m_spec_l2Var]
        repeat ((first | (refine go_condT ?_ ?_; (focus (simp (disch := omega) only [go_sem, Nat.reduceAdd, Nat.reduceSub, Nat.reduceLT, Nat.reduceLeDiff, Nat.reduceEqDiff, Nat.reduceBEq, Nat.reduceBneDiff, Nat.reduceMul, ↓reduceIte, Int.reduceToNat, reduceCtorEq, Int.reduceNeg, Int.reduceAdd, o1, o2, o3, o4, o5, o6, o7, o8, o9, hl2, ha, hv, m_spec_l2Atom, m_spec_l8None, m_spec_l2Var]; done))) | (refine go_condF ?_ ?_; (focus (simp (disch := omega) only [go_sem, Nat.reduceAdd, Nat.reduceSub, Nat.reduceLT, Nat.reduceLeDiff, Nat.reduceEqDiff, Nat.reduceBEq, Nat.reduceBneDiff, Nat.reduceMul, ↓reduceIte, Int.reduceToNat, reduceCtorEq, Int.reduceNeg, Int.reduceAdd, o1, o2, o3, o4, o5, o6, o7, o8, o9, hl2, ha, hv, m_spec_l2Atom, m_spec_l8None, m_spec_l2Var]; done)))); (try simp (disch := omega) only [go_sem, Nat.reduceAdd, Nat.reduceSub, Nat.reduceLT, Nat.reduceLeDiff, Nat.reduceEqDiff, Nat.reduceBEq, Nat.reduceBneDiff, Nat.reduceMul, ↓reduceIte, Int.reduceToNat, reduceCtorEq, Int.reduceNeg, Int.reduceAdd, o1, o2, o3, o4, o5, o6, o7, o8, o9, hl2, ha, hv, m_spec_l2Atom, m_spec_l8None, m_spec_l2Var]))
      | false =>
        rw [hq] at ha
        rw [Bool.false_and]
        refine E_walk k_spec_l8Form m_spec_l8Form (of_decide_eq_true rfl) ?_
        simp (disch := omega) only [c_spec_l8Form, go_sem, Nat.reduceAdd, Nat.reduceSub, Nat.reduceLT, Nat.reduceLeDiff, Nat.reduceEqDiff, Nat.reduceBEq, Nat.reduceBneDiff, Nat.reduceMul, ↓reduceIte, Int.reduceToNat, reduceCtorEq, Int.reduceNeg, Int.reduceAdd, o1, o2, o3, o4, o5, o6, o7, o8, o9, hl2, ha, hv, m_spec_l2Atom, m_spec_l8None, m_spec_l2Var]
        repeat ((first | (refine go_condT ?_ ?_; (focus (simp (disch := omega) only [go_sem, Nat.reduceAdd, Nat.reduceSub, Nat.reduceLT, Nat.reduceLeDiff, Nat.reduceEqDiff, Nat.reduceBEq, Nat.reduceBneDiff, Nat.reduceMul, ↓reduceIte, Int.reduceToNat, reduceCtorEq, Int.reduceNeg, Int.reduceAdd, o1, o2, o3, o4, o5, o6, o7, o8, o9, hl2, ha, hv, m_spec_l2Atom, m_spec_l8None, m_spec_l2Var]; done))) | (refine go_condF ?_ ?_; (focus (simp (disch := omega) only [go_sem, Nat.reduceAdd, Nat.reduceSub, Nat.reduceLT, Nat.reduceLeDiff, Nat.reduceEqDiff, Nat.reduceBEq, Nat.reduceBneDiff, Nat.reduceMul, ↓reduceIte, Int.reduceToNat, reduceCtorEq, Int.reduceNeg, Int.reduceAdd, o1, o2, o3, o4, o5, o6, o7, o8, o9, hl2, ha, hv, m_spec_l2Atom, m_spec_l8None, m_spec_l2Var]; done)))); (try simp (disch := omega) only [go_sem, Nat.reduceAdd, Nat.reduceSub, Nat.reduceLT, Nat.reduceLeDiff, Nat.reduceEqDiff, Nat.reduceBEq, Nat.reduceBneDiff, Nat.reduceMul, ↓reduceIte, Int.reduceToNat, reduceCtorEq, Int.reduceNeg, Int.reduceAdd, o1, o2, o3, o4, o5, o6, o7, o8, o9, hl2, ha, hv, m_spec_l2Atom, m_spec_l8None, m_spec_l2Var]))
    · have hl2 : dec ((x.parts.length : Int) = 1) = false := dec_f (by omega)
      have hl3 : (x.parts.length == 1) = false := by simpa using hl
      rw [hl3, Bool.false_and, Bool.false_and]
      refine E_walk k_spec_l8Form m_spec_l8Form (of_decide_eq_true rfl) ?_
      simp (disch := omega) only [c_spec_l8Form, go_sem, Nat.reduceAdd, Nat.reduceSub, Nat.reduceLT, Nat.reduceLeDiff, Nat.reduceEqDiff, Nat.reduceBEq, Nat.reduceBneDiff, Nat.reduceMul, ↓reduceIte, Int.reduceToNat, reduceCtorEq, Int.reduceNeg, Int.reduceAdd, o1, o2, o3, o4, o5, o6, o7, o8, o9, hl2, ha, hv, m_spec_l2Atom, m_spec_l8None, m_spec_l2Var]
      repeat ((first | (refine go_condT ?_ ?_; (focus (simp (disch := omega) only [go_sem, Nat.reduceAdd, Nat.reduceSub, Nat.reduceLT, Nat.reduceLeDiff, Nat.reduceEqDiff, Nat.reduceBEq, Nat.reduceBneDiff, Nat.reduceMul, ↓reduceIte, Int.reduceToNat, reduceCtorEq, Int.reduceNeg, Int.reduceAdd, o1, o2, o3, o4, o5, o6, o7, o8, o9, hl2, ha, hv, m_spec_l2Atom, m_spec_l8None, m_spec_l2Var]; done))) | (refine go_condF ?_ ?_; (focus (simp (disch := omega) only [go_sem, Nat.reduceAdd, Nat.reduceSub, Nat.reduceLT, Nat.reduceLeDiff, Nat.reduceEqDiff, Nat.reduceBEq, Nat.reduceBneDiff, Nat.reduceMul, ↓reduceIte, Int.reduceToNat, reduceCtorEq, Int.reduceNeg, Int.reduceAdd, o1, o2, o3, o4, o5, o6, o7, o8, o9, hl2, ha, hv, m_spec_l2Atom, m_spec_l8None, m_spec_l2Var]; done)))); (try simp (disch := omega) only [go_sem, Nat.reduceAdd, Nat.reduceSub, Nat.reduceLT, Nat.reduceLeDiff, Nat.reduceEqDiff, Nat.reduceBEq, Nat.reduceBneDiff, Nat.reduceMul, ↓reduceIte, Int.reduceToNat, reduceCtorEq, Int.reduceNeg, Int.reduceAdd, o1, o2, o3, o4, o5, o6, o7, o8, o9, hl2, ha, hv, m_spec_l2Atom, m_spec_l8None, m_spec_l2Var]))
theorem l8Form_5 (x : Fm) (hn : x.atom.nodes ≤ 1099511627776) (ho : x.op = 5 ∨ x.op = 6 ∨ x.op = 7) : E 44 [x.sv] [] = some (.bool x.form, []) := by
  have hf : x.form = (x.parts.length == 2 && x.atom.isZ && dec (x.var = ⟨#[]⟩)) := by unfold Fm.form; rcases ho with ho | ho | ho <;> simp [ho]
  rcases ho with ho | ho | ho
  all_goals
    have o1 : dec (x.op = 1) = false := dec_f (by omega)
    have o2 : dec (x.op = 2) = false := dec_f (by omega)
    have o3 : dec (x.op = 3) = false := dec_f (by omega)
    have o4 : dec (x.op = 4) = false := dec_f (by omega)
    first
      | (have o5 : dec (x.op = 5) = true := dec_t ho)
      | (have o5 : dec (x.op = 5) = false := dec_f (by omega))
    first
      | (have o6 : dec (x.op = 6) = true := dec_t ho)
      | (have o6 : dec (x.op = 6) = false := dec_f (by omega))
    first
      | (have o7 : dec (x.op = 7) = true := dec_t ho)
      | (have o7 : dec (x.op = 7) = false := dec_f (by omega))
    have o8 : dec (x.op = 8) = false := dec_f (by omega)
    have o9 : dec (x.op = 9) = false := dec_f (by omega)
    have ha := l8None_E x.atom
    have hv := l2Var_E x.var
    rw [hf]
    by_cases hl : x.parts.length = 2
    · have hl2 : dec ((x.parts.length : Int) = 2) = true := dec_t (by omega)
      rw [hl, beq_self_eq_true, Bool.true_and]
      cases hq : x.atom.isZ with
      | true =>
        rw [hq] at ha
        rw [Bool.true_and]
        refine E_walk k_spec_l8Form m_spec_l8Form (of_decide_eq_true rfl) ?_
        simp (disch := omega) only [c_spec_l8Form, go_sem, Nat.reduceAdd, Nat.reduceSub, Nat.reduceLT, Nat.reduceLeDiff, Nat.reduceEqDiff, Nat.reduceBEq, Nat.reduceBneDiff, Nat.reduceMul, ↓reduceIte, Int.reduceToNat, reduceCtorEq, Int.reduceNeg, Int.reduceAdd, o1, o2, o3, o4, o5, o6, o7, o8, o9, hl2, ha, hv, m_spec_l2Atom, m_spec_l8None, m_spec_l2Var]
        repeat ((first | (refine go_condT ?_ ?_; (focus (simp (disch := omega) only [go_sem, Nat.reduceAdd, Nat.reduceSub, Nat.reduceLT, Nat.reduceLeDiff, Nat.reduceEqDiff, Nat.reduceBEq, Nat.reduceBneDiff, Nat.reduceMul, ↓reduceIte, Int.reduceToNat, reduceCtorEq, Int.reduceNeg, Int.reduceAdd, o1, o2, o3, o4, o5, o6, o7, o8, o9, hl2, ha, hv, m_spec_l2Atom, m_spec_l8None, m_spec_l2Var]; done))) | (refine go_condF ?_ ?_; (focus (simp (disch := omega) only [go_sem, Nat.reduceAdd, Nat.reduceSub, Nat.reduceLT, Nat.reduceLeDiff, Nat.reduceEqDiff, Nat.reduceBEq, Nat.reduceBneDiff, Nat.reduceMul, ↓reduceIte, Int.reduceToNat, reduceCtorEq, Int.reduceNeg, Int.reduceAdd, o1, o2, o3, o4, o5, o6, o7, o8, o9, hl2, ha, hv, m_spec_l2Atom, m_spec_l8None, m_spec_l2Var]; done)))); (try simp (disch := omega) only [go_sem, Nat.reduceAdd, Nat.reduceSub, Nat.reduceLT, Nat.reduceLeDiff, Nat.reduceEqDiff, Nat.reduceBEq, Nat.reduceBneDiff, Nat.reduceMul, ↓reduceIte, Int.reduceToNat, reduceCtorEq, Int.reduceNeg, Int.reduceAdd, o1, o2, o3, o4, o5, o6, o7, o8, o9, hl2, ha, hv, m_spec_l2Atom, m_spec_l8None, m_spec_l2Var]))
      | false =>
        rw [hq] at ha
        rw [Bool.false_and]
        refine E_walk k_spec_l8Form m_spec_l8Form (of_decide_eq_true rfl) ?_
        simp (disch := omega) only [c_spec_l8Form, go_sem, Nat.reduceAdd, Nat.reduceSub, Nat.reduceLT, Nat.reduceLeDiff, Nat.reduceEqDiff, Nat.reduceBEq, Nat.reduceBneDiff, Nat.reduceMul, ↓reduceIte, Int.reduceToNat, reduceCtorEq, Int.reduceNeg, Int.reduceAdd, o1, o2, o3, o4, o5, o6, o7, o8, o9, hl2, ha, hv, m_spec_l2Atom, m_spec_l8None, m_spec_l2Var]
        repeat ((first | (refine go_condT ?_ ?_; (focus (simp (disch := omega) only [go_sem, Nat.reduceAdd, Nat.reduceSub, Nat.reduceLT, Nat.reduceLeDiff, Nat.reduceEqDiff, Nat.reduceBEq, Nat.reduceBneDiff, Nat.reduceMul, ↓reduceIte, Int.reduceToNat, reduceCtorEq, Int.reduceNeg, Int.reduceAdd, o1, o2, o3, o4, o5, o6, o7, o8, o9, hl2, ha, hv, m_spec_l2Atom, m_spec_l8None, m_spec_l2Var]; done))) | (refine go_condF ?_ ?_; (focus (simp (disch := omega) only [go_sem, Nat.reduceAdd, Nat.reduceSub, Nat.reduceLT, Nat.reduceLeDiff, Nat.reduceEqDiff, Nat.reduceBEq, Nat.reduceBneDiff, Nat.reduceMul, ↓reduceIte, Int.reduceToNat, reduceCtorEq, Int.reduceNeg, Int.reduceAdd, o1, o2, o3, o4, o5, o6, o7, o8, o9, hl2, ha, hv, m_spec_l2Atom, m_spec_l8None, m_spec_l2Var]; done)))); (try simp (disch := omega) only [go_sem, Nat.reduceAdd, Nat.reduceSub, Nat.reduceLT, Nat.reduceLeDiff, Nat.reduceEqDiff, Nat.reduceBEq, Nat.reduceBneDiff, Nat.reduceMul, ↓reduceIte, Int.reduceToNat, reduceCtorEq, Int.reduceNeg, Int.reduceAdd, o1, o2, o3, o4, o5, o6, o7, o8, o9, hl2, ha, hv, m_spec_l2Atom, m_spec_l8None, m_spec_l2Var]))
    · have hl2 : dec ((x.parts.length : Int) = 2) = false := dec_f (by omega)
      have hl3 : (x.parts.length == 2) = false := by simpa using hl
      rw [hl3, Bool.false_and, Bool.false_and]
      refine E_walk k_spec_l8Form m_spec_l8Form (of_decide_eq_true rfl) ?_
      simp (disch := omega) only [c_spec_l8Form, go_sem, Nat.reduceAdd, Nat.reduceSub, Nat.reduceLT, Nat.reduceLeDiff, Nat.reduceEqDiff, Nat.reduceBEq, Nat.reduceBneDiff, Nat.reduceMul, ↓reduceIte, Int.reduceToNat, reduceCtorEq, Int.reduceNeg, Int.reduceAdd, o1, o2, o3, o4, o5, o6, o7, o8, o9, hl2, ha, hv, m_spec_l2Atom, m_spec_l8None, m_spec_l2Var]
      repeat ((first | (refine go_condT ?_ ?_; (focus (simp (disch := omega) only [go_sem, Nat.reduceAdd, Nat.reduceSub, Nat.reduceLT, Nat.reduceLeDiff, Nat.reduceEqDiff, Nat.reduceBEq, Nat.reduceBneDiff, Nat.reduceMul, ↓reduceIte, Int.reduceToNat, reduceCtorEq, Int.reduceNeg, Int.reduceAdd, o1, o2, o3, o4, o5, o6, o7, o8, o9, hl2, ha, hv, m_spec_l2Atom, m_spec_l8None, m_spec_l2Var]; done))) | (refine go_condF ?_ ?_; (focus (simp (disch := omega) only [go_sem, Nat.reduceAdd, Nat.reduceSub, Nat.reduceLT, Nat.reduceLeDiff, Nat.reduceEqDiff, Nat.reduceBEq, Nat.reduceBneDiff, Nat.reduceMul, ↓reduceIte, Int.reduceToNat, reduceCtorEq, Int.reduceNeg, Int.reduceAdd, o1, o2, o3, o4, o5, o6, o7, o8, o9, hl2, ha, hv, m_spec_l2Atom, m_spec_l8None, m_spec_l2Var]; done)))); (try simp (disch := omega) only [go_sem, Nat.reduceAdd, Nat.reduceSub, Nat.reduceLT, Nat.reduceLeDiff, Nat.reduceEqDiff, Nat.reduceBEq, Nat.reduceBneDiff, Nat.reduceMul, ↓reduceIte, Int.reduceToNat, reduceCtorEq, Int.reduceNeg, Int.reduceAdd, o1, o2, o3, o4, o5, o6, o7, o8, o9, hl2, ha, hv, m_spec_l2Atom, m_spec_l8None, m_spec_l2Var]))
theorem l8Form_8 (x : Fm) (hn : x.atom.nodes ≤ 1099511627776) (ho : x.op = 8 ∨ x.op = 9) : E 44 [x.sv] [] = some (.bool x.form, []) := by
  have hf : x.form = (x.parts.length == 1 && x.atom.isZ && varB x.var) := by unfold Fm.form; rcases ho with ho | ho <;> simp [ho]
  rcases ho with ho | ho
  all_goals
    have o1 : dec (x.op = 1) = false := dec_f (by omega)
    have o2 : dec (x.op = 2) = false := dec_f (by omega)
    have o3 : dec (x.op = 3) = false := dec_f (by omega)
    have o4 : dec (x.op = 4) = false := dec_f (by omega)
    have o5 : dec (x.op = 5) = false := dec_f (by omega)
    have o6 : dec (x.op = 6) = false := dec_f (by omega)
    have o7 : dec (x.op = 7) = false := dec_f (by omega)
    first
      | (have o8 : dec (x.op = 8) = true := dec_t ho)
      | (have o8 : dec (x.op = 8) = false := dec_f (by omega))
    first
      | (have o9 : dec (x.op = 9) = true := dec_t ho)
      | (have o9 : dec (x.op = 9) = false := dec_f (by omega))
    have ha := l8None_E x.atom
    have hv := l2Var_E x.var
    rw [hf]
    by_cases hl : x.parts.length = 1
    · have hl2 : dec ((x.parts.length : Int) = 1) = true := dec_t (by omega)
      rw [hl, beq_self_eq_true, Bool.true_and]
      cases hq : x.atom.isZ with
      | true =>
        rw [hq] at ha
        rw [Bool.true_and]
        refine E_walk k_spec_l8Form m_spec_l8Form (of_decide_eq_true rfl) ?_
        simp (disch := omega) only [c_spec_l8Form, go_sem, Nat.reduceAdd, Nat.reduceSub, Nat.reduceLT, Nat.reduceLeDiff, Nat.reduceEqDiff, Nat.reduceBEq, Nat.reduceBneDiff, Nat.reduceMul, ↓reduceIte, Int.reduceToNat, reduceCtorEq, Int.reduceNeg, Int.reduceAdd, o1, o2, o3, o4, o5, o6, o7, o8, o9, hl2, ha, hv, m_spec_l2Atom, m_spec_l8None, m_spec_l2Var]
        repeat ((first | (refine go_condT ?_ ?_; (focus (simp (disch := omega) only [go_sem, Nat.reduceAdd, Nat.reduceSub, Nat.reduceLT, Nat.reduceLeDiff, Nat.reduceEqDiff, Nat.reduceBEq, Nat.reduceBneDiff, Nat.reduceMul, ↓reduceIte, Int.reduceToNat, reduceCtorEq, Int.reduceNeg, Int.reduceAdd, o1, o2, o3, o4, o5, o6, o7, o8, o9, hl2, ha, hv, m_spec_l2Atom, m_spec_l8None, m_spec_l2Var]; done))) | (refine go_condF ?_ ?_; (focus (simp (disch := omega) only [go_sem, Nat.reduceAdd, Nat.reduceSub, Nat.reduceLT, Nat.reduceLeDiff, Nat.reduceEqDiff, Nat.reduceBEq, Nat.reduceBneDiff, Nat.reduceMul, ↓reduceIte, Int.reduceToNat, reduceCtorEq, Int.reduceNeg, Int.reduceAdd, o1, o2, o3, o4, o5, o6, o7, o8, o9, hl2, ha, hv, m_spec_l2Atom, m_spec_l8None, m_spec_l2Var]; done)))); (try simp (disch := omega) only [go_sem, Nat.reduceAdd, Nat.reduceSub, Nat.reduceLT, Nat.reduceLeDiff, Nat.reduceEqDiff, Nat.reduceBEq, Nat.reduceBneDiff, Nat.reduceMul, ↓reduceIte, Int.reduceToNat, reduceCtorEq, Int.reduceNeg, Int.reduceAdd, o1, o2, o3, o4, o5, o6, o7, o8, o9, hl2, ha, hv, m_spec_l2Atom, m_spec_l8None, m_spec_l2Var]))
      | false =>
        rw [hq] at ha
        rw [Bool.false_and]
        refine E_walk k_spec_l8Form m_spec_l8Form (of_decide_eq_true rfl) ?_
        simp (disch := omega) only [c_spec_l8Form, go_sem, Nat.reduceAdd, Nat.reduceSub, Nat.reduceLT, Nat.reduceLeDiff, Nat.reduceEqDiff, Nat.reduceBEq, Nat.reduceBneDiff, Nat.reduceMul, ↓reduceIte, Int.reduceToNat, reduceCtorEq, Int.reduceNeg, Int.reduceAdd, o1, o2, o3, o4, o5, o6, o7, o8, o9, hl2, ha, hv, m_spec_l2Atom, m_spec_l8None, m_spec_l2Var]
        repeat ((first | (refine go_condT ?_ ?_; (focus (simp (disch := omega) only [go_sem, Nat.reduceAdd, Nat.reduceSub, Nat.reduceLT, Nat.reduceLeDiff, Nat.reduceEqDiff, Nat.reduceBEq, Nat.reduceBneDiff, Nat.reduceMul, ↓reduceIte, Int.reduceToNat, reduceCtorEq, Int.reduceNeg, Int.reduceAdd, o1, o2, o3, o4, o5, o6, o7, o8, o9, hl2, ha, hv, m_spec_l2Atom, m_spec_l8None, m_spec_l2Var]; done))) | (refine go_condF ?_ ?_; (focus (simp (disch := omega) only [go_sem, Nat.reduceAdd, Nat.reduceSub, Nat.reduceLT, Nat.reduceLeDiff, Nat.reduceEqDiff, Nat.reduceBEq, Nat.reduceBneDiff, Nat.reduceMul, ↓reduceIte, Int.reduceToNat, reduceCtorEq, Int.reduceNeg, Int.reduceAdd, o1, o2, o3, o4, o5, o6, o7, o8, o9, hl2, ha, hv, m_spec_l2Atom, m_spec_l8None, m_spec_l2Var]; done)))); (try simp (disch := omega) only [go_sem, Nat.reduceAdd, Nat.reduceSub, Nat.reduceLT, Nat.reduceLeDiff, Nat.reduceEqDiff, Nat.reduceBEq, Nat.reduceBneDiff, Nat.reduceMul, ↓reduceIte, Int.reduceToNat, reduceCtorEq, Int.reduceNeg, Int.reduceAdd, o1, o2, o3, o4, o5, o6, o7, o8, o9, hl2, ha, hv, m_spec_l2Atom, m_spec_l8None, m_spec_l2Var]))
    · have hl2 : dec ((x.parts.length : Int) = 1) = false := dec_f (by omega)
      have hl3 : (x.parts.length == 1) = false := by simpa using hl
      rw [hl3, Bool.false_and, Bool.false_and]
      refine E_walk k_spec_l8Form m_spec_l8Form (of_decide_eq_true rfl) ?_
      simp (disch := omega) only [c_spec_l8Form, go_sem, Nat.reduceAdd, Nat.reduceSub, Nat.reduceLT, Nat.reduceLeDiff, Nat.reduceEqDiff, Nat.reduceBEq, Nat.reduceBneDiff, Nat.reduceMul, ↓reduceIte, Int.reduceToNat, reduceCtorEq, Int.reduceNeg, Int.reduceAdd, o1, o2, o3, o4, o5, o6, o7, o8, o9, hl2, ha, hv, m_spec_l2Atom, m_spec_l8None, m_spec_l2Var]
      repeat ((first | (refine go_condT ?_ ?_; (focus (simp (disch := omega) only [go_sem, Nat.reduceAdd, Nat.reduceSub, Nat.reduceLT, Nat.reduceLeDiff, Nat.reduceEqDiff, Nat.reduceBEq, Nat.reduceBneDiff, Nat.reduceMul, ↓reduceIte, Int.reduceToNat, reduceCtorEq, Int.reduceNeg, Int.reduceAdd, o1, o2, o3, o4, o5, o6, o7, o8, o9, hl2, ha, hv, m_spec_l2Atom, m_spec_l8None, m_spec_l2Var]; done))) | (refine go_condF ?_ ?_; (focus (simp (disch := omega) only [go_sem, Nat.reduceAdd, Nat.reduceSub, Nat.reduceLT, Nat.reduceLeDiff, Nat.reduceEqDiff, Nat.reduceBEq, Nat.reduceBneDiff, Nat.reduceMul, ↓reduceIte, Int.reduceToNat, reduceCtorEq, Int.reduceNeg, Int.reduceAdd, o1, o2, o3, o4, o5, o6, o7, o8, o9, hl2, ha, hv, m_spec_l2Atom, m_spec_l8None, m_spec_l2Var]; done)))); (try simp (disch := omega) only [go_sem, Nat.reduceAdd, Nat.reduceSub, Nat.reduceLT, Nat.reduceLeDiff, Nat.reduceEqDiff, Nat.reduceBEq, Nat.reduceBneDiff, Nat.reduceMul, ↓reduceIte, Int.reduceToNat, reduceCtorEq, Int.reduceNeg, Int.reduceAdd, o1, o2, o3, o4, o5, o6, o7, o8, o9, hl2, ha, hv, m_spec_l2Atom, m_spec_l8None, m_spec_l2Var]))
theorem l8Form_E (x : Fm) (hn : x.atom.nodes ≤ 1099511627776) : E 44 [x.sv] [] = some (.bool x.form, []) := by
  rcases op_cases x.op with h | h | h | h | h | h | h | h | h | h
  · exact l8Form_1 x hn (.inl h)
  · exact l8Form_1 x hn (.inr h)
  · exact l8Form_3 x hn h
  · exact l8Form_4 x hn h
  · exact l8Form_5 x hn (.inl h)
  · exact l8Form_5 x hn (.inr (.inl h))
  · exact l8Form_5 x hn (.inr (.inr h))
  · exact l8Form_8 x hn (.inl h)
  · exact l8Form_8 x hn (.inr h)
  · obtain ⟨h1, h2, h3, h4, h5, h6, h7, h8, h9⟩ := h
    have hf : x.form = false := by unfold Fm.form; simp [h1, h2, h3, h4, h5, h6, h7, h8, h9]
    have o1 := dec_f h1
    have o2 := dec_f h2
    have o3 := dec_f h3
    have o4 := dec_f h4
    have o5 := dec_f h5
    have o6 := dec_f h6
    have o7 := dec_f h7
    have o8 := dec_f h8
    have o9 := dec_f h9
    rw [hf]
    refine E_walk k_spec_l8Form m_spec_l8Form (of_decide_eq_true rfl) ?_
    simp (disch := omega) only [c_spec_l8Form, go_sem, Nat.reduceAdd, Nat.reduceSub, Nat.reduceLT, Nat.reduceLeDiff, Nat.reduceEqDiff, Nat.reduceBEq, Nat.reduceBneDiff, Nat.reduceMul, ↓reduceIte, Int.reduceToNat, reduceCtorEq, Int.reduceNeg, Int.reduceAdd, o1, o2, o3, o4, o5, o6, o7, o8, o9]
    repeat ((first | (refine go_condT ?_ ?_; (focus (simp (disch := omega) only [go_sem, Nat.reduceAdd, Nat.reduceSub, Nat.reduceLT, Nat.reduceLeDiff, Nat.reduceEqDiff, Nat.reduceBEq, Nat.reduceBneDiff, Nat.reduceMul, ↓reduceIte, Int.reduceToNat, reduceCtorEq, Int.reduceNeg, Int.reduceAdd, o1, o2, o3, o4, o5, o6, o7, o8, o9]; done))) | (refine go_condF ?_ ?_; (focus (simp (disch := omega) only [go_sem, Nat.reduceAdd, Nat.reduceSub, Nat.reduceLT, Nat.reduceLeDiff, Nat.reduceEqDiff, Nat.reduceBEq, Nat.reduceBneDiff, Nat.reduceMul, ↓reduceIte, Int.reduceToNat, reduceCtorEq, Int.reduceNeg, Int.reduceAdd, o1, o2, o3, o4, o5, o6, o7, o8, o9]; done)))); (try simp (disch := omega) only [go_sem, Nat.reduceAdd, Nat.reduceSub, Nat.reduceLT, Nat.reduceLeDiff, Nat.reduceEqDiff, Nat.reduceBEq, Nat.reduceBneDiff, Nat.reduceMul, ↓reduceIte, Int.reduceToNat, reduceCtorEq, Int.reduceNeg, Int.reduceAdd, o1, o2, o3, o4, o5, o6, o7, o8, o9]))
set_option maxHeartbeats 1000000 in
theorem l8Forms_of (x : Fm) (ht : x.tame) (hn : x.nodes ≤ 1099511627776) (ih : ∀ y ∈ x.parts, E 28 [y.sv] [] = some (.bool y.forms, [])) : E 28 [x.sv] [] = some (.bool x.forms, []) := by
  have hl := Fm.length_le x.parts
  have hx := Fm.nodes_eq x
  have hf := l8Form_E x (Fm.tame_at ht)
  rw [Fm.forms_eq]
  cases hq : x.form with
  | false =>
    rw [hq] at hf
    rw [Bool.false_and]
    refine E_walk k_spec_l8Forms m_spec_l8Forms (of_decide_eq_true rfl) ?_
    simp (disch := omega) only [c_spec_l8Forms, go_sem, go_cond, Nat.reduceAdd, Nat.reduceSub, Nat.reduceLT, Nat.reduceLeDiff, Nat.reduceEqDiff, Nat.reduceBEq, Nat.reduceBneDiff, Nat.reduceMul, ↓reduceIte, Int.reduceToNat, reduceCtorEq, Int.reduceNeg, Int.reduceAdd, hf, m_spec_l8Form]
  | true =>
    rw [hq] at hf
    rw [Bool.true_and]
    refine E_walk k_spec_l8Forms m_spec_l8Forms (of_decide_eq_true rfl) ?_
    simp (disch := omega) only [c_spec_l8Forms, go_sem, go_cond, Nat.reduceAdd, Nat.reduceSub, Nat.reduceLT, Nat.reduceLeDiff, Nat.reduceEqDiff, Nat.reduceBEq, Nat.reduceBneDiff, Nat.reduceMul, ↓reduceIte, Int.reduceToNat, reduceCtorEq, Int.reduceNeg, Int.reduceAdd, hf, m_spec_l8Form]
    refine go_loop (α := Int) (fun a => ⟨slots 21 0 [(1, .ptr 0 0), (3, .int .i64 a)], [.box 34 [.int .i64 x.op, .str x.atom.name, .arr (x.atom.args.map Tm.d), .str x.var, .arr (x.parts.map Fm.d)]]⟩) (fun a => ∃ k : Nat, a = k ∧ k ≤ (x.parts).length ∧ Fm.formS (x.parts.drop k) = Fm.formS x.parts) (fun a => (x.parts).length - (a).toNat) 0 ⟨0, rfl, Nat.zero_le _, by rw [List.drop_zero]⟩ (by simp (disch := omega) only [go_sem, go_cond, Nat.reduceAdd, Nat.reduceSub, Nat.reduceLT, Nat.reduceLeDiff, Nat.reduceEqDiff, Nat.reduceBEq, Nat.reduceBneDiff, Nat.reduceMul, ↓reduceIte, Int.reduceToNat, reduceCtorEq, Int.reduceNeg, Int.reduceAdd]) ?_
    rintro i ⟨k, hi, hk, hR⟩
    have hni : i.toNat = k := by omega
    have hni1 : (i + 1).toNat = k + 1 := by omega
    rcases Nat.lt_or_ge k (x.parts).length with hlt | hge
    · have hg := get_at Fm.d hlt
      rw [Fm.d_eq] at hg
      have hc := ih x.parts[k] (List.getElem_mem hlt)
      rw [List.drop_eq_getElem_cons hlt, Fm.formS] at hR
      cases hp : x.parts[k].forms with
      | true =>
        rw [hp] at hc hR
        rw [Bool.true_and] at hR
        simp (disch := omega) only [go_sem, go_cond, Nat.reduceAdd, Nat.reduceSub, Nat.reduceLT, Nat.reduceLeDiff, Nat.reduceEqDiff, Nat.reduceBEq, Nat.reduceBneDiff, Nat.reduceMul, ↓reduceIte, Int.reduceToNat, reduceCtorEq, Int.reduceNeg, Int.reduceAdd, hni, hg, hc, m_spec_l8Forms]
        exact ⟨i + 1, ⟨k + 1, by omega, hlt, hR⟩, by omega, by first | trivial | rfl⟩
      | false =>
        rw [hp] at hc hR
        rw [Bool.false_and] at hR
        simp (disch := omega) only [go_sem, go_cond, Nat.reduceAdd, Nat.reduceSub, Nat.reduceLT, Nat.reduceLeDiff, Nat.reduceEqDiff, Nat.reduceBEq, Nat.reduceBneDiff, Nat.reduceMul, ↓reduceIte, Int.reduceToNat, reduceCtorEq, Int.reduceNeg, Int.reduceAdd, hni, hg, hc, m_spec_l8Forms]
        exact hR
    · rw [List.drop_eq_nil_of_le hge, Fm.formS] at hR
      simp (disch := omega) only [go_sem, go_cond, Nat.reduceAdd, Nat.reduceSub, Nat.reduceLT, Nat.reduceLeDiff, Nat.reduceEqDiff, Nat.reduceBEq, Nat.reduceBneDiff, Nat.reduceMul, ↓reduceIte, Int.reduceToNat, reduceCtorEq, Int.reduceNeg, Int.reduceAdd, hni]
      exact hR
theorem l8Forms_E (x : Fm) (ht : x.tame) (hn : x.nodes ≤ 1099511627776) : E 28 [x.sv] [] = some (.bool x.forms, []) :=
  l8Forms_of x ht hn fun y hy => l8Forms_E y (Fm.tame_part ht hy) (by have := Fm.nodes_mem hy; have := Fm.nodes_eq x; omega)
termination_by SizeOf.sizeOf x
decreasing_by exact Fm.lt_of_mem hy
set_option maxHeartbeats 1000000 in
theorem hasForm_1 (x : Fm) (hn : x.atom.nodes ≤ 1099511627776) (hl0 : x.parts.length ≤ 1099511627776) (ho : x.op = 1 ∨ x.op = 2) (h2 : E 51 [.arr (x.parts.map Fm.d), .fn 52 []] [] = some (.bool (x.parts.any fun y => !y.forms), [])) : E 34 [x.sv] [] = some (.bool x.forms, []) := by
  have hf : x.form = (x.parts.length == 0 && x.atom.isZ && dec (x.var = ⟨#[]⟩)) := by unfold Fm.form; rcases ho with ho | ho <;> simp [ho]
  rcases ho with ho | ho
  all_goals
    first
      | (have o1 : dec (x.op = 1) = true := dec_t ho)
      | (have o1 : dec (x.op = 1) = false := dec_f (by omega))
    first
      | (have o2 : dec (x.op = 2) = true := dec_t ho)
      | (have o2 : dec (x.op = 2) = false := dec_f (by omega))
    have o3 : dec (x.op = 3) = false := dec_f (by omega)
    have o4 : dec (x.op = 4) = false := dec_f (by omega)
    have o5 : dec (x.op = 5) = false := dec_f (by omega)
    have o6 : dec (x.op = 6) = false := dec_f (by omega)
    have o7 : dec (x.op = 7) = false := dec_f (by omega)
    have o8 : dec (x.op = 8) = false := dec_f (by omega)
    have o9 : dec (x.op = 9) = false := dec_f (by omega)
    have ha := isZeroTerm_E x.atom
    have hv := isVariable_E x.var
    have hb := isBinary_E x.op
    have hu := isQuantifier_E x.op
    rw [o5, o6, o7] at hb
    rw [o8, o9] at hu
    rw [Fm.forms_eq, hf, ← Fm.any_not]
    by_cases hl : x.parts.length = 0
    · have hl2 : dec ((x.parts.length : Int) = 0) = true := dec_t (by omega)
      rw [hl, beq_self_eq_true, Bool.true_and]
      cases hw : dec (x.var = ⟨#[]⟩) with
      | false =>
        try rw [hw] at hv
        rw [Bool.and_false, Bool.false_and]
        refine E_walk k_impl_hasForm m_impl_hasForm (of_decide_eq_true rfl) ?_
        simp (disch := omega) only [c_impl_hasForm, go_sem, Nat.reduceAdd, Nat.reduceSub, Nat.reduceLT, Nat.reduceLeDiff, Nat.reduceEqDiff, Nat.reduceBEq, Nat.reduceBneDiff, Nat.reduceMul, ↓reduceIte, Int.reduceToNat, reduceCtorEq, Int.reduceNeg, Int.reduceAdd, o1, o2, o3, o4, o5, o6, o7, o8, o9, hl2, ha, hv, hb, hu, hw, h2, m_impl_IsValidAtom, m_impl_isZeroTerm, m_impl_isVariable, m_impl_isQuantifier, m_impl_isBinary, m_slices_ContainsFunc_impl_Formula_impl_Formula]
        repeat ((first | (refine go_condT ?_ ?_; (focus (simp (disch := omega) only [go_sem, Nat.reduceAdd, Nat.reduceSub, Nat.reduceLT, Nat.reduceLeDiff, Nat.reduceEqDiff, Nat.reduceBEq, Nat.reduceBneDiff, Nat.reduceMul, ↓reduceIte, Int.reduceToNat, reduceCtorEq, Int.reduceNeg, Int.reduceAdd, o1, o2, o3, o4, o5, o6, o7, o8, o9, hl2, ha, hv, hb, hu, hw, h2, m_impl_IsValidAtom, m_impl_isZeroTerm, m_impl_isVariable, m_impl_isQuantifier, m_impl_isBinary, m_slices_ContainsFunc_impl_Formula_impl_Formula]; done))) | (refine go_condF ?_ ?_; (focus (simp (disch := omega) only [go_sem, Nat.reduceAdd, Nat.reduceSub, Nat.reduceLT, Nat.reduceLeDiff, Nat.reduceEqDiff, Nat.reduceBEq, Nat.reduceBneDiff, Nat.reduceMul, ↓reduceIte, Int.reduceToNat, reduceCtorEq, Int.reduceNeg, Int.reduceAdd, o1, o2, o3, o4, o5, o6, o7, o8, o9, hl2, ha, hv, hb, hu, hw, h2, m_impl_IsValidAtom, m_impl_isZeroTerm, m_impl_isVariable, m_impl_isQuantifier, m_impl_isBinary, m_slices_ContainsFunc_impl_Formula_impl_Formula]; done)))); (try simp (disch := omega) only [go_sem, Nat.reduceAdd, Nat.reduceSub, Nat.reduceLT, Nat.reduceLeDiff, Nat.reduceEqDiff, Nat.reduceBEq, Nat.reduceBneDiff, Nat.reduceMul, ↓reduceIte, Int.reduceToNat, reduceCtorEq, Int.reduceNeg, Int.reduceAdd, o1, o2, o3, o4, o5, o6, o7, o8, o9, hl2, ha, hv, hb, hu, hw, h2, m_impl_IsValidAtom, m_impl_isZeroTerm, m_impl_isVariable, m_impl_isQuantifier, m_impl_isBinary, m_slices_ContainsFunc_impl_Formula_impl_Formula]))
      | true =>
        try rw [hw] at hv
        rw [Bool.and_true]
        cases hq : x.atom.isZ with
        | true =>
          rw [hq] at ha
          rw [Bool.true_and]
          refine E_walk k_impl_hasForm m_impl_hasForm (of_decide_eq_true rfl) ?_
          simp (disch := omega) only [c_impl_hasForm, go_sem, Nat.reduceAdd, Nat.reduceSub, Nat.reduceLT, Nat.reduceLeDiff, Nat.reduceEqDiff, Nat.reduceBEq, Nat.reduceBneDiff, Nat.reduceMul, ↓reduceIte, Int.reduceToNat, reduceCtorEq, Int.reduceNeg, Int.reduceAdd, o1, o2, o3, o4, o5, o6, o7, o8, o9, hl2, ha, hv, hb, hu, hw, h2, m_impl_IsValidAtom, m_impl_isZeroTerm, m_impl_isVariable, m_impl_isQuantifier, m_impl_isBinary, m_slices_ContainsFunc_impl_Formula_impl_Formula]
          repeat ((first | (refine go_condT ?_ ?_; (focus (simp (disch := omega) only [go_sem, Nat.reduceAdd, Nat.reduceSub, Nat.reduceLT, Nat.reduceLeDiff, Nat.reduceEqDiff, Nat.reduceBEq, Nat.reduceBneDiff, Nat.reduceMul, ↓reduceIte, Int.reduceToNat, reduceCtorEq, Int.reduceNeg, Int.reduceAdd, o1, o2, o3, o4, o5, o6, o7, o8, o9, hl2, ha, hv, hb, hu, hw, h2, m_impl_IsValidAtom, m_impl_isZeroTerm, m_impl_isVariable, m_impl_isQuantifier, m_impl_isBinary, m_slices_ContainsFunc_impl_Formula_impl_Formula]; done))) | (refine go_condF ?_ ?_; (focus (simp (disch := omega) only [go_sem, Nat.reduceAdd, Nat.reduceSub, Nat.reduceLT, Nat.reduceLeDiff, Nat.reduceEqDiff, Nat.reduceBEq, Nat.reduceBneDiff, Nat.reduceMul, ↓reduceIte, Int.reduceToNat, reduceCtorEq, Int.reduceNeg, Int.reduceAdd, o1, o2, o3, o4, o5, o6, o7, o8, o9, hl2, ha, hv, hb, hu, hw, h2, m_impl_IsValidAtom, m_impl_isZeroTerm, m_impl_isVariable, m_impl_isQuantifier, m_impl_isBinary, m_slices_ContainsFunc_impl_Formula_impl_Formula]; done)))); (try simp (disch := omega) only [go_sem, Nat.reduceAdd, Nat.reduceSub, Nat.reduceLT, Nat.reduceLeDiff, Nat.reduceEqDiff, Nat.reduceBEq, Nat.reduceBneDiff, Nat.reduceMul, ↓reduceIte, Int.reduceToNat, reduceCtorEq, Int.reduceNeg, Int.reduceAdd, o1, o2, o3, o4, o5, o6, o7, o8, o9, hl2, ha, hv, hb, hu, hw, h2, m_impl_IsValidAtom, m_impl_isZeroTerm, m_impl_isVariable, m_impl_isQuantifier, m_impl_isBinary, m_slices_ContainsFunc_impl_Formula_impl_Formula]))
        | false =>
          rw [hq] at ha
          rw [Bool.false_and]
          refine E_walk k_impl_hasForm m_impl_hasForm (of_decide_eq_true rfl) ?_
          simp (disch := omega) only [c_impl_hasForm, go_sem, Nat.reduceAdd, Nat.reduceSub, Nat.reduceLT, Nat.reduceLeDiff, Nat.reduceEqDiff, Nat.reduceBEq, Nat.reduceBneDiff, Nat.reduceMul, ↓reduceIte, Int.reduceToNat, reduceCtorEq, Int.reduceNeg, Int.reduceAdd, o1, o2, o3, o4, o5, o6, o7, o8, o9, hl2, ha, hv, hb, hu, hw, h2, m_impl_IsValidAtom, m_impl_isZeroTerm, m_impl_isVariable, m_impl_isQuantifier, m_impl_isBinary, m_slices_ContainsFunc_impl_Formula_impl_Formula]
          repeat ((first | (refine go_condT ?_ ?_; (focus (simp (disch := omega) only [go_sem, Nat.reduceAdd, Nat.reduceSub, Nat.reduceLT, Nat.reduceLeDiff, Nat.reduceEqDiff, Nat.reduceBEq, Nat.reduceBneDiff, Nat.reduceMul, ↓reduceIte, Int.reduceToNat, reduceCtorEq, Int.reduceNeg, Int.reduceAdd, o1, o2, o3, o4, o5, o6, o7, o8, o9, hl2, ha, hv, hb, hu, hw, h2, m_impl_IsValidAtom, m_impl_isZeroTerm, m_impl_isVariable, m_impl_isQuantifier, m_impl_isBinary, m_slices_ContainsFunc_impl_Formula_impl_Formula]; done))) | (refine go_condF ?_ ?_; (focus (simp (disch := omega) only [go_sem, Nat.reduceAdd, Nat.reduceSub, Nat.reduceLT, Nat.reduceLeDiff, Nat.reduceEqDiff, Nat.reduceBEq, Nat.reduceBneDiff, Nat.reduceMul, ↓reduceIte, Int.reduceToNat, reduceCtorEq, Int.reduceNeg, Int.reduceAdd, o1, o2, o3, o4, o5, o6, o7, o8, o9, hl2, ha, hv, hb, hu, hw, h2, m_impl_IsValidAtom, m_impl_isZeroTerm, m_impl_isVariable, m_impl_isQuantifier, m_impl_isBinary, m_slices_ContainsFunc_impl_Formula_impl_Formula]; done)))); (try simp (disch := omega) only [go_sem, Nat.reduceAdd, Nat.reduceSub, Nat.reduceLT, Nat.reduceLeDiff, Nat.reduceEqDiff, Nat.reduceBEq, Nat.reduceBneDiff, Nat.reduceMul, ↓reduceIte, Int.reduceToNat, reduceCtorEq, Int.reduceNeg, Int.reduceAdd, o1, o2, o3, o4, o5, o6, o7, o8, o9, hl2, ha, hv, hb, hu, hw, h2, m_impl_IsValidAtom, m_impl_isZeroTerm, m_impl_isVariable, m_impl_isQuantifier, m_impl_isBinary, m_slices_ContainsFunc_impl_Formula_impl_Formula]))
    · have hl2 : dec ((x.parts.length : Int) = 0) = false := dec_f (by omega)
      have hl3 : (x.parts.length == 0) = false := by simpa using hl
      rw [hl3, Bool.false_and, Bool.false_and, Bool.false_and]
      refine E_walk k_impl_hasForm m_impl_hasForm (of_decide_eq_true rfl) ?_
      simp (disch := omega) only [c_impl_hasForm, go_sem, Nat.reduceAdd, Nat.reduceSub, Nat.reduceLT, Nat.reduceLeDiff, Nat.reduceEqDiff, Nat.reduceBEq, Nat.reduceBneDiff, Nat.reduceMul, ↓reduceIte, Int.reduceToNat, reduceCtorEq, Int.reduceNeg, Int.reduceAdd, o1, o2, o3, o4, o5, o6, o7, o8, o9, hl2, ha, hv, hb, hu,  h2, m_impl_IsValidAtom, m_impl_isZeroTerm, m_impl_isVariable, m_impl_isQuantifier, m_impl_isBinary, m_slices_ContainsFunc_impl_Formula_impl_Formula]
      repeat ((first | (refine go_condT ?_ ?_; (focus (simp (disch := omega) only [go_sem, Nat.reduceAdd, Nat.reduceSub, Nat.reduceLT, Nat.reduceLeDiff, Nat.reduceEqDiff, Nat.reduceBEq, Nat.reduceBneDiff, Nat.reduceMul, ↓reduceIte, Int.reduceToNat, reduceCtorEq, Int.reduceNeg, Int.reduceAdd, o1, o2, o3, o4, o5, o6, o7, o8, o9, hl2, ha, hv, hb, hu,  h2, m_impl_IsValidAtom, m_impl_isZeroTerm, m_impl_isVariable, m_impl_isQuantifier, m_impl_isBinary, m_slices_ContainsFunc_impl_Formula_impl_Formula]; done))) | (refine go_condF ?_ ?_; (focus (simp (disch := omega) only [go_sem, Nat.reduceAdd, Nat.reduceSub, Nat.reduceLT, Nat.reduceLeDiff, Nat.reduceEqDiff, Nat.reduceBEq, Nat.reduceBneDiff, Nat.reduceMul, ↓reduceIte, Int.reduceToNat, reduceCtorEq, Int.reduceNeg, Int.reduceAdd, o1, o2, o3, o4, o5, o6, o7, o8, o9, hl2, ha, hv, hb, hu,  h2, m_impl_IsValidAtom, m_impl_isZeroTerm, m_impl_isVariable, m_impl_isQuantifier, m_impl_isBinary, m_slices_ContainsFunc_impl_Formula_impl_Formula]; done)))); (try simp (disch := omega) only [go_sem, Nat.reduceAdd, Nat.reduceSub, Nat.reduceLT, Nat.reduceLeDiff, Nat.reduceEqDiff, Nat.reduceBEq, Nat.reduceBneDiff, Nat.reduceMul, ↓reduceIte, Int.reduceToNat, reduceCtorEq, Int.reduceNeg, Int.reduceAdd, o1, o2, o3, o4, o5, o6, o7, o8, o9, hl2, ha, hv, hb, hu,  h2, m_impl_IsValidAtom, m_impl_isZeroTerm, m_impl_isVariable, m_impl_isQuantifier, m_impl_isBinary, m_slices_ContainsFunc_impl_Formula_impl_Formula]))
set_option maxHeartbeats 1000000 in
theorem hasForm_3 (x : Fm) (hn : x.atom.nodes ≤ 1099511627776) (hl0 : x.parts.length ≤ 1099511627776) (ho : x.op = 3) (h2 : E 51 [.arr (x.parts.map Fm.d), .fn 52 []] [] = some (.bool (x.parts.any fun y => !y.forms), [])) : E 34 [x.sv] [] = some (.bool x.forms, []) := by
  have hf : x.form = (x.parts.length == 0 && x.atom.atom && dec (x.var = ⟨#[]⟩)) := by unfold Fm.form; rcases ho with ho <;> simp [ho]
  rcases ho with ho
  all_goals
    have o1 : dec (x.op = 1) = false := dec_f (by omega)
    have o2 : dec (x.op = 2) = false := dec_f (by omega)
    have o3 : dec (x.op = 3) = true := dec_t ho
    have o4 : dec (x.op = 4) = false := dec_f (by omega)
    have o5 : dec (x.op = 5) = false := dec_f (by omega)
    have o6 : dec (x.op = 6) = false := dec_f (by omega)
    have o7 : dec (x.op = 7) = false := dec_f (by omega)
    have o8 : dec (x.op = 8) = false := dec_f (by omega)
    have o9 : dec (x.op = 9) = false := dec_f (by omega)
    have ha := isValidAtom_E x.atom (by omega)
    have hv := isVariable_E x.var
    have hb := isBinary_E x.op
    have hu := isQuantifier_E x.op
    rw [o5, o6, o7] at hb
    rw [o8, o9] at hu
    rw [Fm.forms_eq, hf, ← Fm.any_not]
    by_cases hl : x.parts.length = 0
    · have hl2 : dec ((x.parts.length : Int) = 0) = true := dec_t (by omega)
      rw [hl, beq_self_eq_true, Bool.true_and]
      cases hw : dec (x.var = ⟨#[]⟩) with
      | false =>
        try rw [hw] at hv
        rw [Bool.and_false, Bool.false_and]
        refine E_walk k_impl_hasForm m_impl_hasForm (of_decide_eq_true rfl) ?_
        simp (disch := omega) only [c_impl_hasForm, go_sem, Nat.reduceAdd, Nat.reduceSub, Nat.reduceLT, Nat.reduceLeDiff, Nat.reduceEqDiff, Nat.reduceBEq, Nat.reduceBneDiff, Nat.reduceMul, ↓reduceIte, Int.reduceToNat, reduceCtorEq, Int.reduceNeg, Int.reduceAdd, o1, o2, o3, o4, o5, o6, o7, o8, o9, hl2, ha, hv, hb, hu, hw, h2, m_impl_IsValidAtom, m_impl_isZeroTerm, m_impl_isVariable, m_impl_isQuantifier, m_impl_isBinary, m_slices_ContainsFunc_impl_Formula_impl_Formula]
        repeat ((first | (refine go_condT ?_ ?_; (focus (simp (disch := omega) only [go_sem, Nat.reduceAdd, Nat.reduceSub, Nat.reduceLT, Nat.reduceLeDiff, Nat.reduceEqDiff, Nat.reduceBEq, Nat.reduceBneDiff, Nat.reduceMul, ↓reduceIte, Int.reduceToNat, reduceCtorEq, Int.reduceNeg, Int.reduceAdd, o1, o2, o3, o4, o5, o6, o7, o8, o9, hl2, ha, hv, hb, hu, hw, h2, m_impl_IsValidAtom, m_impl_isZeroTerm, m_impl_isVariable, m_impl_isQuantifier, m_impl_isBinary, m_slices_ContainsFunc_impl_Formula_impl_Formula]; done))) | (refine go_condF ?_ ?_; (focus (simp (disch := omega) only [go_sem, Nat.reduceAdd, Nat.reduceSub, Nat.reduceLT, Nat.reduceLeDiff, Nat.reduceEqDiff, Nat.reduceBEq, Nat.reduceBneDiff, Nat.reduceMul, ↓reduceIte, Int.reduceToNat, reduceCtorEq, Int.reduceNeg, Int.reduceAdd, o1, o2, o3, o4, o5, o6, o7, o8, o9, hl2, ha, hv, hb, hu, hw, h2, m_impl_IsValidAtom, m_impl_isZeroTerm, m_impl_isVariable, m_impl_isQuantifier, m_impl_isBinary, m_slices_ContainsFunc_impl_Formula_impl_Formula]; done)))); (try simp (disch := omega) only [go_sem, Nat.reduceAdd, Nat.reduceSub, Nat.reduceLT, Nat.reduceLeDiff, Nat.reduceEqDiff, Nat.reduceBEq, Nat.reduceBneDiff, Nat.reduceMul, ↓reduceIte, Int.reduceToNat, reduceCtorEq, Int.reduceNeg, Int.reduceAdd, o1, o2, o3, o4, o5, o6, o7, o8, o9, hl2, ha, hv, hb, hu, hw, h2, m_impl_IsValidAtom, m_impl_isZeroTerm, m_impl_isVariable, m_impl_isQuantifier, m_impl_isBinary, m_slices_ContainsFunc_impl_Formula_impl_Formula]))
      | true =>
        try rw [hw] at hv
        rw [Bool.and_true]
        cases hq : x.atom.atom with
        | true =>
          rw [hq] at ha
          rw [Bool.true_and]
          refine E_walk k_impl_hasForm m_impl_hasForm (of_decide_eq_true rfl) ?_
          simp (disch := omega) only [c_impl_hasForm, go_sem, Nat.reduceAdd, Nat.reduceSub, Nat.reduceLT, Nat.reduceLeDiff, Nat.reduceEqDiff, Nat.reduceBEq, Nat.reduceBneDiff, Nat.reduceMul, ↓reduceIte, Int.reduceToNat, reduceCtorEq, Int.reduceNeg, Int.reduceAdd, o1, o2, o3, o4, o5, o6, o7, o8, o9, hl2, ha, hv, hb, hu, hw, h2, m_impl_IsValidAtom, m_impl_isZeroTerm, m_impl_isVariable, m_impl_isQuantifier, m_impl_isBinary, m_slices_ContainsFunc_impl_Formula_impl_Formula]
          repeat ((first | (refine go_condT ?_ ?_; (focus (simp (disch := omega) only [go_sem, Nat.reduceAdd, Nat.reduceSub, Nat.reduceLT, Nat.reduceLeDiff, Nat.reduceEqDiff, Nat.reduceBEq, Nat.reduceBneDiff, Nat.reduceMul, ↓reduceIte, Int.reduceToNat, reduceCtorEq, Int.reduceNeg, Int.reduceAdd, o1, o2, o3, o4, o5, o6, o7, o8, o9, hl2, ha, hv, hb, hu, hw, h2, m_impl_IsValidAtom, m_impl_isZeroTerm, m_impl_isVariable, m_impl_isQuantifier, m_impl_isBinary, m_slices_ContainsFunc_impl_Formula_impl_Formula]; done))) | (refine go_condF ?_ ?_; (focus (simp (disch := omega) only [go_sem, Nat.reduceAdd, Nat.reduceSub, Nat.reduceLT, Nat.reduceLeDiff, Nat.reduceEqDiff, Nat.reduceBEq, Nat.reduceBneDiff, Nat.reduceMul, ↓reduceIte, Int.reduceToNat, reduceCtorEq, Int.reduceNeg, Int.reduceAdd, o1, o2, o3, o4, o5, o6, o7, o8, o9, hl2, ha, hv, hb, hu, hw, h2, m_impl_IsValidAtom, m_impl_isZeroTerm, m_impl_isVariable, m_impl_isQuantifier, m_impl_isBinary, m_slices_ContainsFunc_impl_Formula_impl_Formula]; done)))); (try simp (disch := omega) only [go_sem, Nat.reduceAdd, Nat.reduceSub, Nat.reduceLT, Nat.reduceLeDiff, Nat.reduceEqDiff, Nat.reduceBEq, Nat.reduceBneDiff, Nat.reduceMul, ↓reduceIte, Int.reduceToNat, reduceCtorEq, Int.reduceNeg, Int.reduceAdd, o1, o2, o3, o4, o5, o6, o7, o8, o9, hl2, ha, hv, hb, hu, hw, h2, m_impl_IsValidAtom, m_impl_isZeroTerm, m_impl_isVariable, m_impl_isQuantifier, m_impl_isBinary, m_slices_ContainsFunc_impl_Formula_impl_Formula]))
        | false =>
          rw [hq] at ha
          rw [Bool.false_and]
          refine E_walk k_impl_hasForm m_impl_hasForm (of_decide_eq_true rfl) ?_
          simp (disch := omega) only [c_impl_hasForm, go_sem, Nat.reduceAdd, Nat.reduceSub, Nat.reduceLT, Nat.reduceLeDiff, Nat.reduceEqDiff, Nat.reduceBEq, Nat.reduceBneDiff, Nat.reduceMul, ↓reduceIte, Int.reduceToNat, reduceCtorEq, Int.reduceNeg, Int.reduceAdd, o1, o2, o3, o4, o5, o6, o7, o8, o9, hl2, ha, hv, hb, hu, hw, h2, m_impl_IsValidAtom, m_impl_isZeroTerm, m_impl_isVariable, m_impl_isQuantifier, m_impl_isBinary, m_slices_ContainsFunc_impl_Formula_impl_Formula]
          repeat ((first | (refine go_condT ?_ ?_; (focus (simp (disch := omega) only [go_sem, Nat.reduceAdd, Nat.reduceSub, Nat.reduceLT, Nat.reduceLeDiff, Nat.reduceEqDiff, Nat.reduceBEq, Nat.reduceBneDiff, Nat.reduceMul, ↓reduceIte, Int.reduceToNat, reduceCtorEq, Int.reduceNeg, Int.reduceAdd, o1, o2, o3, o4, o5, o6, o7, o8, o9, hl2, ha, hv, hb, hu, hw, h2, m_impl_IsValidAtom, m_impl_isZeroTerm, m_impl_isVariable, m_impl_isQuantifier, m_impl_isBinary, m_slices_ContainsFunc_impl_Formula_impl_Formula]; done))) | (refine go_condF ?_ ?_; (focus (simp (disch := omega) only [go_sem, Nat.reduceAdd, Nat.reduceSub, Nat.reduceLT, Nat.reduceLeDiff, Nat.reduceEqDiff, Nat.reduceBEq, Nat.reduceBneDiff, Nat.reduceMul, ↓reduceIte, Int.reduceToNat, reduceCtorEq, Int.reduceNeg, Int.reduceAdd, o1, o2, o3, o4, o5, o6, o7, o8, o9, hl2, ha, hv, hb, hu, hw, h2, m_impl_IsValidAtom, m_impl_isZeroTerm, m_impl_isVariable, m_impl_isQuantifier, m_impl_isBinary, m_slices_ContainsFunc_impl_Formula_impl_Formula]; done)))); (try simp (disch := omega) only [go_sem, Nat.reduceAdd, Nat.reduceSub, Nat.reduceLT, Nat.reduceLeDiff, Nat.reduceEqDiff, Nat.reduceBEq, Nat.reduceBneDiff, Nat.reduceMul, ↓reduceIte, Int.reduceToNat, reduceCtorEq, Int.reduceNeg, Int.reduceAdd, o1, o2, o3, o4, o5, o6, o7, o8, o9, hl2, ha, hv, hb, hu, hw, h2, m_impl_IsValidAtom, m_impl_isZeroTerm, m_impl_isVariable, m_impl_isQuantifier, m_impl_isBinary, m_slices_ContainsFunc_impl_Formula_impl_Formula]))
    · have hl2 : dec ((x.parts.length : Int) = 0) = false := dec_f (by omega)
      have hl3 : (x.parts.length == 0) = false := by simpa using hl
      rw [hl3, Bool.false_and, Bool.false_and, Bool.false_and]
      refine E_walk k_impl_hasForm m_impl_hasForm (of_decide_eq_true rfl) ?_
      simp (disch := omega) only [c_impl_hasForm, go_sem, Nat.reduceAdd, Nat.reduceSub, Nat.reduceLT, Nat.reduceLeDiff, Nat.reduceEqDiff, Nat.reduceBEq, Nat.reduceBneDiff, Nat.reduceMul, ↓reduceIte, Int.reduceToNat, reduceCtorEq, Int.reduceNeg, Int.reduceAdd, o1, o2, o3, o4, o5, o6, o7, o8, o9, hl2, ha, hv, hb, hu,  h2, m_impl_IsValidAtom, m_impl_isZeroTerm, m_impl_isVariable, m_impl_isQuantifier, m_impl_isBinary, m_slices_ContainsFunc_impl_Formula_impl_Formula]
      repeat ((first | (refine go_condT ?_ ?_; (focus (simp (disch := omega) only [go_sem, Nat.reduceAdd, Nat.reduceSub, Nat.reduceLT, Nat.reduceLeDiff, Nat.reduceEqDiff, Nat.reduceBEq, Nat.reduceBneDiff, Nat.reduceMul, ↓reduceIte, Int.reduceToNat, reduceCtorEq, Int.reduceNeg, Int.reduceAdd, o1, o2, o3, o4, o5, o6, o7, o8, o9, hl2, ha, hv, hb, hu,  h2, m_impl_IsValidAtom, m_impl_isZeroTerm, m_impl_isVariable, m_impl_isQuantifier, m_impl_isBinary, m_slices_ContainsFunc_impl_Formula_impl_Formula]; done))) | (refine go_condF ?_ ?_; (focus (simp (disch := omega) only [go_sem, Nat.reduceAdd, Nat.reduceSub, Nat.reduceLT, Nat.reduceLeDiff, Nat.reduceEqDiff, Nat.reduceBEq, Nat.reduceBneDiff, Nat.reduceMul, ↓reduceIte, Int.reduceToNat, reduceCtorEq, Int.reduceNeg, Int.reduceAdd, o1, o2, o3, o4, o5, o6, o7, o8, o9, hl2, ha, hv, hb, hu,  h2, m_impl_IsValidAtom, m_impl_isZeroTerm, m_impl_isVariable, m_impl_isQuantifier, m_impl_isBinary, m_slices_ContainsFunc_impl_Formula_impl_Formula]; done)))); (try simp (disch := omega) only [go_sem, Nat.reduceAdd, Nat.reduceSub, Nat.reduceLT, Nat.reduceLeDiff, Nat.reduceEqDiff, Nat.reduceBEq, Nat.reduceBneDiff, Nat.reduceMul, ↓reduceIte, Int.reduceToNat, reduceCtorEq, Int.reduceNeg, Int.reduceAdd, o1, o2, o3, o4, o5, o6, o7, o8, o9, hl2, ha, hv, hb, hu,  h2, m_impl_IsValidAtom, m_impl_isZeroTerm, m_impl_isVariable, m_impl_isQuantifier, m_impl_isBinary, m_slices_ContainsFunc_impl_Formula_impl_Formula]))
set_option maxHeartbeats 1000000 in
theorem hasForm_4 (x : Fm) (hn : x.atom.nodes ≤ 1099511627776) (hl0 : x.parts.length ≤ 1099511627776) (ho : x.op = 4) (h2 : E 51 [.arr (x.parts.map Fm.d), .fn 52 []] [] = some (.bool (x.parts.any fun y => !y.forms), [])) : E 34 [x.sv] [] = some (.bool x.forms, []) := by
  have hf : x.form = (x.parts.length == 1 && x.atom.isZ && dec (x.var = ⟨#[]⟩)) := by unfold Fm.form; rcases ho with ho <;> simp [ho]
  rcases ho with ho
  all_goals
    have o1 : dec (x.op = 1) = false := dec_f (by omega)
    have o2 : dec (x.op = 2) = false := dec_f (by omega)
    have o3 : dec (x.op = 3) = false := dec_f (by omega)
    have o4 : dec (x.op = 4) = true := dec_t ho
    have o5 : dec (x.op = 5) = false := dec_f (by omega)
    have o6 : dec (x.op = 6) = false := dec_f (by omega)
    have o7 : dec (x.op = 7) = false := dec_f (by omega)
    have o8 : dec (x.op = 8) = false := dec_f (by omega)
    have o9 : dec (x.op = 9) = false := dec_f (by omega)
    have ha := isZeroTerm_E x.atom
    have hv := isVariable_E x.var
    have hb := isBinary_E x.op
    have hu := isQuantifier_E x.op
    rw [o5, o6, o7] at hb
    rw [o8, o9] at hu
    rw [Fm.forms_eq, hf, ← Fm.any_not]
    by_cases hl : x.parts.length = 1
    · have hl2 : dec ((x.parts.length : Int) = 1) = true := dec_t (by omega)
      rw [hl, beq_self_eq_true, Bool.true_and]
      cases hw : dec (x.var = ⟨#[]⟩) with
      | false =>
        try rw [hw] at hv
        rw [Bool.and_false, Bool.false_and]
        refine E_walk k_impl_hasForm m_impl_hasForm (of_decide_eq_true rfl) ?_
        simp (disch := omega) only [c_impl_hasForm, go_sem, Nat.reduceAdd, Nat.reduceSub, Nat.reduceLT, Nat.reduceLeDiff, Nat.reduceEqDiff, Nat.reduceBEq, Nat.reduceBneDiff, Nat.reduceMul, ↓reduceIte, Int.reduceToNat, reduceCtorEq, Int.reduceNeg, Int.reduceAdd, o1, o2, o3, o4, o5, o6, o7, o8, o9, hl2, ha, hv, hb, hu, hw, h2, m_impl_IsValidAtom, m_impl_isZeroTerm, m_impl_isVariable, m_impl_isQuantifier, m_impl_isBinary, m_slices_ContainsFunc_impl_Formula_impl_Formula]
        repeat ((first | (refine go_condT ?_ ?_; (focus (simp (disch := omega) only [go_sem, Nat.reduceAdd, Nat.reduceSub, Nat.reduceLT, Nat.reduceLeDiff, Nat.reduceEqDiff, Nat.reduceBEq, Nat.reduceBneDiff, Nat.reduceMul, ↓reduceIte, Int.reduceToNat, reduceCtorEq, Int.reduceNeg, Int.reduceAdd, o1, o2, o3, o4, o5, o6, o7, o8, o9, hl2, ha, hv, hb, hu, hw, h2, m_impl_IsValidAtom, m_impl_isZeroTerm, m_impl_isVariable, m_impl_isQuantifier, m_impl_isBinary, m_slices_ContainsFunc_impl_Formula_impl_Formula]; done))) | (refine go_condF ?_ ?_; (focus (simp (disch := omega) only [go_sem, Nat.reduceAdd, Nat.reduceSub, Nat.reduceLT, Nat.reduceLeDiff, Nat.reduceEqDiff, Nat.reduceBEq, Nat.reduceBneDiff, Nat.reduceMul, ↓reduceIte, Int.reduceToNat, reduceCtorEq, Int.reduceNeg, Int.reduceAdd, o1, o2, o3, o4, o5, o6, o7, o8, o9, hl2, ha, hv, hb, hu, hw, h2, m_impl_IsValidAtom, m_impl_isZeroTerm, m_impl_isVariable, m_impl_isQuantifier, m_impl_isBinary, m_slices_ContainsFunc_impl_Formula_impl_Formula]; done)))); (try simp (disch := omega) only [go_sem, Nat.reduceAdd, Nat.reduceSub, Nat.reduceLT, Nat.reduceLeDiff, Nat.reduceEqDiff, Nat.reduceBEq, Nat.reduceBneDiff, Nat.reduceMul, ↓reduceIte, Int.reduceToNat, reduceCtorEq, Int.reduceNeg, Int.reduceAdd, o1, o2, o3, o4, o5, o6, o7, o8, o9, hl2, ha, hv, hb, hu, hw, h2, m_impl_IsValidAtom, m_impl_isZeroTerm, m_impl_isVariable, m_impl_isQuantifier, m_impl_isBinary, m_slices_ContainsFunc_impl_Formula_impl_Formula]))
      | true =>
        try rw [hw] at hv
        rw [Bool.and_true]
        cases hq : x.atom.isZ with
        | true =>
          rw [hq] at ha
          rw [Bool.true_and]
          refine E_walk k_impl_hasForm m_impl_hasForm (of_decide_eq_true rfl) ?_
          simp (disch := omega) only [c_impl_hasForm, go_sem, Nat.reduceAdd, Nat.reduceSub, Nat.reduceLT, Nat.reduceLeDiff, Nat.reduceEqDiff, Nat.reduceBEq, Nat.reduceBneDiff, Nat.reduceMul, ↓reduceIte, Int.reduceToNat, reduceCtorEq, Int.reduceNeg, Int.reduceAdd, o1, o2, o3, o4, o5, o6, o7, o8, o9, hl2, ha, hv, hb, hu, hw, h2, m_impl_IsValidAtom, m_impl_isZeroTerm, m_impl_isVariable, m_impl_isQuantifier, m_impl_isBinary, m_slices_ContainsFunc_impl_Formula_impl_Formula]
          repeat ((first | (refine go_condT ?_ ?_; (focus (simp (disch := omega) only [go_sem, Nat.reduceAdd, Nat.reduceSub, Nat.reduceLT, Nat.reduceLeDiff, Nat.reduceEqDiff, Nat.reduceBEq, Nat.reduceBneDiff, Nat.reduceMul, ↓reduceIte, Int.reduceToNat, reduceCtorEq, Int.reduceNeg, Int.reduceAdd, o1, o2, o3, o4, o5, o6, o7, o8, o9, hl2, ha, hv, hb, hu, hw, h2, m_impl_IsValidAtom, m_impl_isZeroTerm, m_impl_isVariable, m_impl_isQuantifier, m_impl_isBinary, m_slices_ContainsFunc_impl_Formula_impl_Formula]; done))) | (refine go_condF ?_ ?_; (focus (simp (disch := omega) only [go_sem, Nat.reduceAdd, Nat.reduceSub, Nat.reduceLT, Nat.reduceLeDiff, Nat.reduceEqDiff, Nat.reduceBEq, Nat.reduceBneDiff, Nat.reduceMul, ↓reduceIte, Int.reduceToNat, reduceCtorEq, Int.reduceNeg, Int.reduceAdd, o1, o2, o3, o4, o5, o6, o7, o8, o9, hl2, ha, hv, hb, hu, hw, h2, m_impl_IsValidAtom, m_impl_isZeroTerm, m_impl_isVariable, m_impl_isQuantifier, m_impl_isBinary, m_slices_ContainsFunc_impl_Formula_impl_Formula]; done)))); (try simp (disch := omega) only [go_sem, Nat.reduceAdd, Nat.reduceSub, Nat.reduceLT, Nat.reduceLeDiff, Nat.reduceEqDiff, Nat.reduceBEq, Nat.reduceBneDiff, Nat.reduceMul, ↓reduceIte, Int.reduceToNat, reduceCtorEq, Int.reduceNeg, Int.reduceAdd, o1, o2, o3, o4, o5, o6, o7, o8, o9, hl2, ha, hv, hb, hu, hw, h2, m_impl_IsValidAtom, m_impl_isZeroTerm, m_impl_isVariable, m_impl_isQuantifier, m_impl_isBinary, m_slices_ContainsFunc_impl_Formula_impl_Formula]))
        | false =>
          rw [hq] at ha
          rw [Bool.false_and]
          refine E_walk k_impl_hasForm m_impl_hasForm (of_decide_eq_true rfl) ?_
          simp (disch := omega) only [c_impl_hasForm, go_sem, Nat.reduceAdd, Nat.reduceSub, Nat.reduceLT, Nat.reduceLeDiff, Nat.reduceEqDiff, Nat.reduceBEq, Nat.reduceBneDiff, Nat.reduceMul, ↓reduceIte, Int.reduceToNat, reduceCtorEq, Int.reduceNeg, Int.reduceAdd, o1, o2, o3, o4, o5, o6, o7, o8, o9, hl2, ha, hv, hb, hu, hw, h2, m_impl_IsValidAtom, m_impl_isZeroTerm, m_impl_isVariable, m_impl_isQuantifier, m_impl_isBinary, m_slices_ContainsFunc_impl_Formula_impl_Formula]
          repeat ((first | (refine go_condT ?_ ?_; (focus (simp (disch := omega) only [go_sem, Nat.reduceAdd, Nat.reduceSub, Nat.reduceLT, Nat.reduceLeDiff, Nat.reduceEqDiff, Nat.reduceBEq, Nat.reduceBneDiff, Nat.reduceMul, ↓reduceIte, Int.reduceToNat, reduceCtorEq, Int.reduceNeg, Int.reduceAdd, o1, o2, o3, o4, o5, o6, o7, o8, o9, hl2, ha, hv, hb, hu, hw, h2, m_impl_IsValidAtom, m_impl_isZeroTerm, m_impl_isVariable, m_impl_isQuantifier, m_impl_isBinary, m_slices_ContainsFunc_impl_Formula_impl_Formula]; done))) | (refine go_condF ?_ ?_; (focus (simp (disch := omega) only [go_sem, Nat.reduceAdd, Nat.reduceSub, Nat.reduceLT, Nat.reduceLeDiff, Nat.reduceEqDiff, Nat.reduceBEq, Nat.reduceBneDiff, Nat.reduceMul, ↓reduceIte, Int.reduceToNat, reduceCtorEq, Int.reduceNeg, Int.reduceAdd, o1, o2, o3, o4, o5, o6, o7, o8, o9, hl2, ha, hv, hb, hu, hw, h2, m_impl_IsValidAtom, m_impl_isZeroTerm, m_impl_isVariable, m_impl_isQuantifier, m_impl_isBinary, m_slices_ContainsFunc_impl_Formula_impl_Formula]; done)))); (try simp (disch := omega) only [go_sem, Nat.reduceAdd, Nat.reduceSub, Nat.reduceLT, Nat.reduceLeDiff, Nat.reduceEqDiff, Nat.reduceBEq, Nat.reduceBneDiff, Nat.reduceMul, ↓reduceIte, Int.reduceToNat, reduceCtorEq, Int.reduceNeg, Int.reduceAdd, o1, o2, o3, o4, o5, o6, o7, o8, o9, hl2, ha, hv, hb, hu, hw, h2, m_impl_IsValidAtom, m_impl_isZeroTerm, m_impl_isVariable, m_impl_isQuantifier, m_impl_isBinary, m_slices_ContainsFunc_impl_Formula_impl_Formula]))
    · have hl2 : dec ((x.parts.length : Int) = 1) = false := dec_f (by omega)
      have hl3 : (x.parts.length == 1) = false := by simpa using hl
      rw [hl3, Bool.false_and, Bool.false_and, Bool.false_and]
      refine E_walk k_impl_hasForm m_impl_hasForm (of_decide_eq_true rfl) ?_
      simp (disch := omega) only [c_impl_hasForm, go_sem, Nat.reduceAdd, Nat.reduceSub, Nat.reduceLT, Nat.reduceLeDiff, Nat.reduceEqDiff, Nat.reduceBEq, Nat.reduceBneDiff, Nat.reduceMul, ↓reduceIte, Int.reduceToNat, reduceCtorEq, Int.reduceNeg, Int.reduceAdd, o1, o2, o3, o4, o5, o6, o7, o8, o9, hl2, ha, hv, hb, hu,  h2, m_impl_IsValidAtom, m_impl_isZeroTerm, m_impl_isVariable, m_impl_isQuantifier, m_impl_isBinary, m_slices_ContainsFunc_impl_Formula_impl_Formula]
      repeat ((first | (refine go_condT ?_ ?_; (focus (simp (disch := omega) only [go_sem, Nat.reduceAdd, Nat.reduceSub, Nat.reduceLT, Nat.reduceLeDiff, Nat.reduceEqDiff, Nat.reduceBEq, Nat.reduceBneDiff, Nat.reduceMul, ↓reduceIte, Int.reduceToNat, reduceCtorEq, Int.reduceNeg, Int.reduceAdd, o1, o2, o3, o4, o5, o6, o7, o8, o9, hl2, ha, hv, hb, hu,  h2, m_impl_IsValidAtom, m_impl_isZeroTerm, m_impl_isVariable, m_impl_isQuantifier, m_impl_isBinary, m_slices_ContainsFunc_impl_Formula_impl_Formula]; done))) | (refine go_condF ?_ ?_; (focus (simp (disch := omega) only [go_sem, Nat.reduceAdd, Nat.reduceSub, Nat.reduceLT, Nat.reduceLeDiff, Nat.reduceEqDiff, Nat.reduceBEq, Nat.reduceBneDiff, Nat.reduceMul, ↓reduceIte, Int.reduceToNat, reduceCtorEq, Int.reduceNeg, Int.reduceAdd, o1, o2, o3, o4, o5, o6, o7, o8, o9, hl2, ha, hv, hb, hu,  h2, m_impl_IsValidAtom, m_impl_isZeroTerm, m_impl_isVariable, m_impl_isQuantifier, m_impl_isBinary, m_slices_ContainsFunc_impl_Formula_impl_Formula]; done)))); (try simp (disch := omega) only [go_sem, Nat.reduceAdd, Nat.reduceSub, Nat.reduceLT, Nat.reduceLeDiff, Nat.reduceEqDiff, Nat.reduceBEq, Nat.reduceBneDiff, Nat.reduceMul, ↓reduceIte, Int.reduceToNat, reduceCtorEq, Int.reduceNeg, Int.reduceAdd, o1, o2, o3, o4, o5, o6, o7, o8, o9, hl2, ha, hv, hb, hu,  h2, m_impl_IsValidAtom, m_impl_isZeroTerm, m_impl_isVariable, m_impl_isQuantifier, m_impl_isBinary, m_slices_ContainsFunc_impl_Formula_impl_Formula]))
set_option maxHeartbeats 1000000 in
theorem hasForm_5 (x : Fm) (hn : x.atom.nodes ≤ 1099511627776) (hl0 : x.parts.length ≤ 1099511627776) (ho : x.op = 5 ∨ x.op = 6 ∨ x.op = 7) (h2 : E 51 [.arr (x.parts.map Fm.d), .fn 52 []] [] = some (.bool (x.parts.any fun y => !y.forms), [])) : E 34 [x.sv] [] = some (.bool x.forms, []) := by
  have hf : x.form = (x.parts.length == 2 && x.atom.isZ && dec (x.var = ⟨#[]⟩)) := by unfold Fm.form; rcases ho with ho | ho | ho <;> simp [ho]
  rcases ho with ho | ho | ho
  all_goals
    have o1 : dec (x.op = 1) = false := dec_f (by omega)
    have o2 : dec (x.op = 2) = false := dec_f (by omega)
    have o3 : dec (x.op = 3) = false := dec_f (by omega)
    have o4 : dec (x.op = 4) = false := dec_f (by omega)
    first
      | (have o5 : dec (x.op = 5) = true := dec_t ho)
      | (have o5 : dec (x.op = 5) = false := dec_f (by omega))
    first
      | (have o6 : dec (x.op = 6) = true := dec_t ho)
      | (have o6 : dec (x.op = 6) = false := dec_f (by omega))
    first
      | (have o7 : dec (x.op = 7) = true := dec_t ho)
      | (have o7 : dec (x.op = 7) = false := dec_f (by omega))
    have o8 : dec (x.op = 8) = false := dec_f (by omega)
    have o9 : dec (x.op = 9) = false := dec_f (by omega)
    have ha := isZeroTerm_E x.atom
    have hv := isVariable_E x.var
    have hb := isBinary_E x.op
    have hu := isQuantifier_E x.op
    rw [o5, o6, o7] at hb
    rw [o8, o9] at hu
    rw [Fm.forms_eq, hf, ← Fm.any_not]
    by_cases hl : x.parts.length = 2
    · have hl2 : dec ((x.parts.length : Int) = 2) = true := dec_t (by omega)
      rw [hl, beq_self_eq_true, Bool.true_and]
      cases hw : dec (x.var = ⟨#[]⟩) with
      | false =>
        try rw [hw] at hv
        rw [Bool.and_false, Bool.false_and]
        refine E_walk k_impl_hasForm m_impl_hasForm (of_decide_eq_true rfl) ?_
        simp (disch := omega) only [c_impl_hasForm, go_sem, Nat.reduceAdd, Nat.reduceSub, Nat.reduceLT, Nat.reduceLeDiff, Nat.reduceEqDiff, Nat.reduceBEq, Nat.reduceBneDiff, Nat.reduceMul, ↓reduceIte, Int.reduceToNat, reduceCtorEq, Int.reduceNeg, Int.reduceAdd, o1, o2, o3, o4, o5, o6, o7, o8, o9, hl2, ha, hv, hb, hu, hw, h2, m_impl_IsValidAtom, m_impl_isZeroTerm, m_impl_isVariable, m_impl_isQuantifier, m_impl_isBinary, m_slices_ContainsFunc_impl_Formula_impl_Formula]
        repeat ((first | (refine go_condT ?_ ?_; (focus (simp (disch := omega) only [go_sem, Nat.reduceAdd, Nat.reduceSub, Nat.reduceLT, Nat.reduceLeDiff, Nat.reduceEqDiff, Nat.reduceBEq, Nat.reduceBneDiff, Nat.reduceMul, ↓reduceIte, Int.reduceToNat, reduceCtorEq, Int.reduceNeg, Int.reduceAdd, o1, o2, o3, o4, o5, o6, o7, o8, o9, hl2, ha, hv, hb, hu, hw, h2, m_impl_IsValidAtom, m_impl_isZeroTerm, m_impl_isVariable, m_impl_isQuantifier, m_impl_isBinary, m_slices_ContainsFunc_impl_Formula_impl_Formula]; done))) | (refine go_condF ?_ ?_; (focus (simp (disch := omega) only [go_sem, Nat.reduceAdd, Nat.reduceSub, Nat.reduceLT, Nat.reduceLeDiff, Nat.reduceEqDiff, Nat.reduceBEq, Nat.reduceBneDiff, Nat.reduceMul, ↓reduceIte, Int.reduceToNat, reduceCtorEq, Int.reduceNeg, Int.reduceAdd, o1, o2, o3, o4, o5, o6, o7, o8, o9, hl2, ha, hv, hb, hu, hw, h2, m_impl_IsValidAtom, m_impl_isZeroTerm, m_impl_isVariable, m_impl_isQuantifier, m_impl_isBinary, m_slices_ContainsFunc_impl_Formula_impl_Formula]; done)))); (try simp (disch := omega) only [go_sem, Nat.reduceAdd, Nat.reduceSub, Nat.reduceLT, Nat.reduceLeDiff, Nat.reduceEqDiff, Nat.reduceBEq, Nat.reduceBneDiff, Nat.reduceMul, ↓reduceIte, Int.reduceToNat, reduceCtorEq, Int.reduceNeg, Int.reduceAdd, o1, o2, o3, o4, o5, o6, o7, o8, o9, hl2, ha, hv, hb, hu, hw, h2, m_impl_IsValidAtom, m_impl_isZeroTerm, m_impl_isVariable, m_impl_isQuantifier, m_impl_isBinary, m_slices_ContainsFunc_impl_Formula_impl_Formula]))
      | true =>
        try rw [hw] at hv
        rw [Bool.and_true]
        cases hq : x.atom.isZ with
        | true =>
          rw [hq] at ha
          rw [Bool.true_and]
          refine E_walk k_impl_hasForm m_impl_hasForm (of_decide_eq_true rfl) ?_
          simp (disch := omega) only [c_impl_hasForm, go_sem, Nat.reduceAdd, Nat.reduceSub, Nat.reduceLT, Nat.reduceLeDiff, Nat.reduceEqDiff, Nat.reduceBEq, Nat.reduceBneDiff, Nat.reduceMul, ↓reduceIte, Int.reduceToNat, reduceCtorEq, Int.reduceNeg, Int.reduceAdd, o1, o2, o3, o4, o5, o6, o7, o8, o9, hl2, ha, hv, hb, hu, hw, h2, m_impl_IsValidAtom, m_impl_isZeroTerm, m_impl_isVariable, m_impl_isQuantifier, m_impl_isBinary, m_slices_ContainsFunc_impl_Formula_impl_Formula]
          repeat ((first | (refine go_condT ?_ ?_; (focus (simp (disch := omega) only [go_sem, Nat.reduceAdd, Nat.reduceSub, Nat.reduceLT, Nat.reduceLeDiff, Nat.reduceEqDiff, Nat.reduceBEq, Nat.reduceBneDiff, Nat.reduceMul, ↓reduceIte, Int.reduceToNat, reduceCtorEq, Int.reduceNeg, Int.reduceAdd, o1, o2, o3, o4, o5, o6, o7, o8, o9, hl2, ha, hv, hb, hu, hw, h2, m_impl_IsValidAtom, m_impl_isZeroTerm, m_impl_isVariable, m_impl_isQuantifier, m_impl_isBinary, m_slices_ContainsFunc_impl_Formula_impl_Formula]; done))) | (refine go_condF ?_ ?_; (focus (simp (disch := omega) only [go_sem, Nat.reduceAdd, Nat.reduceSub, Nat.reduceLT, Nat.reduceLeDiff, Nat.reduceEqDiff, Nat.reduceBEq, Nat.reduceBneDiff, Nat.reduceMul, ↓reduceIte, Int.reduceToNat, reduceCtorEq, Int.reduceNeg, Int.reduceAdd, o1, o2, o3, o4, o5, o6, o7, o8, o9, hl2, ha, hv, hb, hu, hw, h2, m_impl_IsValidAtom, m_impl_isZeroTerm, m_impl_isVariable, m_impl_isQuantifier, m_impl_isBinary, m_slices_ContainsFunc_impl_Formula_impl_Formula]; done)))); (try simp (disch := omega) only [go_sem, Nat.reduceAdd, Nat.reduceSub, Nat.reduceLT, Nat.reduceLeDiff, Nat.reduceEqDiff, Nat.reduceBEq, Nat.reduceBneDiff, Nat.reduceMul, ↓reduceIte, Int.reduceToNat, reduceCtorEq, Int.reduceNeg, Int.reduceAdd, o1, o2, o3, o4, o5, o6, o7, o8, o9, hl2, ha, hv, hb, hu, hw, h2, m_impl_IsValidAtom, m_impl_isZeroTerm, m_impl_isVariable, m_impl_isQuantifier, m_impl_isBinary, m_slices_ContainsFunc_impl_Formula_impl_Formula]))
        | false =>
          rw [hq] at ha
          rw [Bool.false_and]
          refine E_walk k_impl_hasForm m_impl_hasForm (of_decide_eq_true rfl) ?_
          simp (disch := omega) only [c_impl_hasForm, go_sem, Nat.reduceAdd, Nat.reduceSub, Nat.reduceLT, Nat.reduceLeDiff, Nat.reduceEqDiff, Nat.reduceBEq, Nat.reduceBneDiff, Nat.reduceMul, ↓reduceIte, Int.reduceToNat, reduceCtorEq, Int.reduceNeg, Int.reduceAdd, o1, o2, o3, o4, o5, o6, o7, o8, o9, hl2, ha, hv, hb, hu, hw, h2, m_impl_IsValidAtom, m_impl_isZeroTerm, m_impl_isVariable, m_impl_isQuantifier, m_impl_isBinary, m_slices_ContainsFunc_impl_Formula_impl_Formula]
          repeat ((first | (refine go_condT ?_ ?_; (focus (simp (disch := omega) only [go_sem, Nat.reduceAdd, Nat.reduceSub, Nat.reduceLT, Nat.reduceLeDiff, Nat.reduceEqDiff, Nat.reduceBEq, Nat.reduceBneDiff, Nat.reduceMul, ↓reduceIte, Int.reduceToNat, reduceCtorEq, Int.reduceNeg, Int.reduceAdd, o1, o2, o3, o4, o5, o6, o7, o8, o9, hl2, ha, hv, hb, hu, hw, h2, m_impl_IsValidAtom, m_impl_isZeroTerm, m_impl_isVariable, m_impl_isQuantifier, m_impl_isBinary, m_slices_ContainsFunc_impl_Formula_impl_Formula]; done))) | (refine go_condF ?_ ?_; (focus (simp (disch := omega) only [go_sem, Nat.reduceAdd, Nat.reduceSub, Nat.reduceLT, Nat.reduceLeDiff, Nat.reduceEqDiff, Nat.reduceBEq, Nat.reduceBneDiff, Nat.reduceMul, ↓reduceIte, Int.reduceToNat, reduceCtorEq, Int.reduceNeg, Int.reduceAdd, o1, o2, o3, o4, o5, o6, o7, o8, o9, hl2, ha, hv, hb, hu, hw, h2, m_impl_IsValidAtom, m_impl_isZeroTerm, m_impl_isVariable, m_impl_isQuantifier, m_impl_isBinary, m_slices_ContainsFunc_impl_Formula_impl_Formula]; done)))); (try simp (disch := omega) only [go_sem, Nat.reduceAdd, Nat.reduceSub, Nat.reduceLT, Nat.reduceLeDiff, Nat.reduceEqDiff, Nat.reduceBEq, Nat.reduceBneDiff, Nat.reduceMul, ↓reduceIte, Int.reduceToNat, reduceCtorEq, Int.reduceNeg, Int.reduceAdd, o1, o2, o3, o4, o5, o6, o7, o8, o9, hl2, ha, hv, hb, hu, hw, h2, m_impl_IsValidAtom, m_impl_isZeroTerm, m_impl_isVariable, m_impl_isQuantifier, m_impl_isBinary, m_slices_ContainsFunc_impl_Formula_impl_Formula]))
    · have hl2 : dec ((x.parts.length : Int) = 2) = false := dec_f (by omega)
      have hl3 : (x.parts.length == 2) = false := by simpa using hl
      rw [hl3, Bool.false_and, Bool.false_and, Bool.false_and]
      refine E_walk k_impl_hasForm m_impl_hasForm (of_decide_eq_true rfl) ?_
      simp (disch := omega) only [c_impl_hasForm, go_sem, Nat.reduceAdd, Nat.reduceSub, Nat.reduceLT, Nat.reduceLeDiff, Nat.reduceEqDiff, Nat.reduceBEq, Nat.reduceBneDiff, Nat.reduceMul, ↓reduceIte, Int.reduceToNat, reduceCtorEq, Int.reduceNeg, Int.reduceAdd, o1, o2, o3, o4, o5, o6, o7, o8, o9, hl2, ha, hv, hb, hu,  h2, m_impl_IsValidAtom, m_impl_isZeroTerm, m_impl_isVariable, m_impl_isQuantifier, m_impl_isBinary, m_slices_ContainsFunc_impl_Formula_impl_Formula]
      repeat ((first | (refine go_condT ?_ ?_; (focus (simp (disch := omega) only [go_sem, Nat.reduceAdd, Nat.reduceSub, Nat.reduceLT, Nat.reduceLeDiff, Nat.reduceEqDiff, Nat.reduceBEq, Nat.reduceBneDiff, Nat.reduceMul, ↓reduceIte, Int.reduceToNat, reduceCtorEq, Int.reduceNeg, Int.reduceAdd, o1, o2, o3, o4, o5, o6, o7, o8, o9, hl2, ha, hv, hb, hu,  h2, m_impl_IsValidAtom, m_impl_isZeroTerm, m_impl_isVariable, m_impl_isQuantifier, m_impl_isBinary, m_slices_ContainsFunc_impl_Formula_impl_Formula]; done))) | (refine go_condF ?_ ?_; (focus (simp (disch := omega) only [go_sem, Nat.reduceAdd, Nat.reduceSub, Nat.reduceLT, Nat.reduceLeDiff, Nat.reduceEqDiff, Nat.reduceBEq, Nat.reduceBneDiff, Nat.reduceMul, ↓reduceIte, Int.reduceToNat, reduceCtorEq, Int.reduceNeg, Int.reduceAdd, o1, o2, o3, o4, o5, o6, o7, o8, o9, hl2, ha, hv, hb, hu,  h2, m_impl_IsValidAtom, m_impl_isZeroTerm, m_impl_isVariable, m_impl_isQuantifier, m_impl_isBinary, m_slices_ContainsFunc_impl_Formula_impl_Formula]; done)))); (try simp (disch := omega) only [go_sem, Nat.reduceAdd, Nat.reduceSub, Nat.reduceLT, Nat.reduceLeDiff, Nat.reduceEqDiff, Nat.reduceBEq, Nat.reduceBneDiff, Nat.reduceMul, ↓reduceIte, Int.reduceToNat, reduceCtorEq, Int.reduceNeg, Int.reduceAdd, o1, o2, o3, o4, o5, o6, o7, o8, o9, hl2, ha, hv, hb, hu,  h2, m_impl_IsValidAtom, m_impl_isZeroTerm, m_impl_isVariable, m_impl_isQuantifier, m_impl_isBinary, m_slices_ContainsFunc_impl_Formula_impl_Formula]))
set_option maxHeartbeats 1000000 in
theorem hasForm_8 (x : Fm) (hn : x.atom.nodes ≤ 1099511627776) (hl0 : x.parts.length ≤ 1099511627776) (ho : x.op = 8 ∨ x.op = 9) (h2 : E 51 [.arr (x.parts.map Fm.d), .fn 52 []] [] = some (.bool (x.parts.any fun y => !y.forms), [])) : E 34 [x.sv] [] = some (.bool x.forms, []) := by
  have hf : x.form = (x.parts.length == 1 && x.atom.isZ && varB x.var) := by unfold Fm.form; rcases ho with ho | ho <;> simp [ho]
  rcases ho with ho | ho
  all_goals
    have o1 : dec (x.op = 1) = false := dec_f (by omega)
    have o2 : dec (x.op = 2) = false := dec_f (by omega)
    have o3 : dec (x.op = 3) = false := dec_f (by omega)
    have o4 : dec (x.op = 4) = false := dec_f (by omega)
    have o5 : dec (x.op = 5) = false := dec_f (by omega)
    have o6 : dec (x.op = 6) = false := dec_f (by omega)
    have o7 : dec (x.op = 7) = false := dec_f (by omega)
    first
      | (have o8 : dec (x.op = 8) = true := dec_t ho)
      | (have o8 : dec (x.op = 8) = false := dec_f (by omega))
    first
      | (have o9 : dec (x.op = 9) = true := dec_t ho)
      | (have o9 : dec (x.op = 9) = false := dec_f (by omega))
    have ha := isZeroTerm_E x.atom
    have hv := isVariable_E x.var
    have hb := isBinary_E x.op
    have hu := isQuantifier_E x.op
    rw [o5, o6, o7] at hb
    rw [o8, o9] at hu
    rw [Fm.forms_eq, hf, ← Fm.any_not]
    by_cases hl : x.parts.length = 1
    · have hl2 : dec ((x.parts.length : Int) = 1) = true := dec_t (by omega)
      rw [hl, beq_self_eq_true, Bool.true_and]
      cases hw : varB x.var with
      | false =>
        try rw [hw] at hv
        rw [Bool.and_false, Bool.false_and]
        refine E_walk k_impl_hasForm m_impl_hasForm (of_decide_eq_true rfl) ?_
        simp (disch := omega) only [c_impl_hasForm, go_sem, Nat.reduceAdd, Nat.reduceSub, Nat.reduceLT, Nat.reduceLeDiff, Nat.reduceEqDiff, Nat.reduceBEq, Nat.reduceBneDiff, Nat.reduceMul, ↓reduceIte, Int.reduceToNat, reduceCtorEq, Int.reduceNeg, Int.reduceAdd, o1, o2, o3, o4, o5, o6, o7, o8, o9, hl2, ha, hv, hb, hu,  h2, m_impl_IsValidAtom, m_impl_isZeroTerm, m_impl_isVariable, m_impl_isQuantifier, m_impl_isBinary, m_slices_ContainsFunc_impl_Formula_impl_Formula]
        repeat ((first | (refine go_condT ?_ ?_; (focus (simp (disch := omega) only [go_sem, Nat.reduceAdd, Nat.reduceSub, Nat.reduceLT, Nat.reduceLeDiff, Nat.reduceEqDiff, Nat.reduceBEq, Nat.reduceBneDiff, Nat.reduceMul, ↓reduceIte, Int.reduceToNat, reduceCtorEq, Int.reduceNeg, Int.reduceAdd, o1, o2, o3, o4, o5, o6, o7, o8, o9, hl2, ha, hv, hb, hu,  h2, m_impl_IsValidAtom, m_impl_isZeroTerm, m_impl_isVariable, m_impl_isQuantifier, m_impl_isBinary, m_slices_ContainsFunc_impl_Formula_impl_Formula]; done))) | (refine go_condF ?_ ?_; (focus (simp (disch := omega) only [go_sem, Nat.reduceAdd, Nat.reduceSub, Nat.reduceLT, Nat.reduceLeDiff, Nat.reduceEqDiff, Nat.reduceBEq, Nat.reduceBneDiff, Nat.reduceMul, ↓reduceIte, Int.reduceToNat, reduceCtorEq, Int.reduceNeg, Int.reduceAdd, o1, o2, o3, o4, o5, o6, o7, o8, o9, hl2, ha, hv, hb, hu,  h2, m_impl_IsValidAtom, m_impl_isZeroTerm, m_impl_isVariable, m_impl_isQuantifier, m_impl_isBinary, m_slices_ContainsFunc_impl_Formula_impl_Formula]; done)))); (try simp (disch := omega) only [go_sem, Nat.reduceAdd, Nat.reduceSub, Nat.reduceLT, Nat.reduceLeDiff, Nat.reduceEqDiff, Nat.reduceBEq, Nat.reduceBneDiff, Nat.reduceMul, ↓reduceIte, Int.reduceToNat, reduceCtorEq, Int.reduceNeg, Int.reduceAdd, o1, o2, o3, o4, o5, o6, o7, o8, o9, hl2, ha, hv, hb, hu,  h2, m_impl_IsValidAtom, m_impl_isZeroTerm, m_impl_isVariable, m_impl_isQuantifier, m_impl_isBinary, m_slices_ContainsFunc_impl_Formula_impl_Formula]))
      | true =>
        try rw [hw] at hv
        rw [Bool.and_true]
        cases hq : x.atom.isZ with
        | true =>
          rw [hq] at ha
          rw [Bool.true_and]
          refine E_walk k_impl_hasForm m_impl_hasForm (of_decide_eq_true rfl) ?_
          simp (disch := omega) only [c_impl_hasForm, go_sem, Nat.reduceAdd, Nat.reduceSub, Nat.reduceLT, Nat.reduceLeDiff, Nat.reduceEqDiff, Nat.reduceBEq, Nat.reduceBneDiff, Nat.reduceMul, ↓reduceIte, Int.reduceToNat, reduceCtorEq, Int.reduceNeg, Int.reduceAdd, o1, o2, o3, o4, o5, o6, o7, o8, o9, hl2, ha, hv, hb, hu,  h2, m_impl_IsValidAtom, m_impl_isZeroTerm, m_impl_isVariable, m_impl_isQuantifier, m_impl_isBinary, m_slices_ContainsFunc_impl_Formula_impl_Formula]
          repeat ((first | (refine go_condT ?_ ?_; (focus (simp (disch := omega) only [go_sem, Nat.reduceAdd, Nat.reduceSub, Nat.reduceLT, Nat.reduceLeDiff, Nat.reduceEqDiff, Nat.reduceBEq, Nat.reduceBneDiff, Nat.reduceMul, ↓reduceIte, Int.reduceToNat, reduceCtorEq, Int.reduceNeg, Int.reduceAdd, o1, o2, o3, o4, o5, o6, o7, o8, o9, hl2, ha, hv, hb, hu,  h2, m_impl_IsValidAtom, m_impl_isZeroTerm, m_impl_isVariable, m_impl_isQuantifier, m_impl_isBinary, m_slices_ContainsFunc_impl_Formula_impl_Formula]; done))) | (refine go_condF ?_ ?_; (focus (simp (disch := omega) only [go_sem, Nat.reduceAdd, Nat.reduceSub, Nat.reduceLT, Nat.reduceLeDiff, Nat.reduceEqDiff, Nat.reduceBEq, Nat.reduceBneDiff, Nat.reduceMul, ↓reduceIte, Int.reduceToNat, reduceCtorEq, Int.reduceNeg, Int.reduceAdd, o1, o2, o3, o4, o5, o6, o7, o8, o9, hl2, ha, hv, hb, hu,  h2, m_impl_IsValidAtom, m_impl_isZeroTerm, m_impl_isVariable, m_impl_isQuantifier, m_impl_isBinary, m_slices_ContainsFunc_impl_Formula_impl_Formula]; done)))); (try simp (disch := omega) only [go_sem, Nat.reduceAdd, Nat.reduceSub, Nat.reduceLT, Nat.reduceLeDiff, Nat.reduceEqDiff, Nat.reduceBEq, Nat.reduceBneDiff, Nat.reduceMul, ↓reduceIte, Int.reduceToNat, reduceCtorEq, Int.reduceNeg, Int.reduceAdd, o1, o2, o3, o4, o5, o6, o7, o8, o9, hl2, ha, hv, hb, hu,  h2, m_impl_IsValidAtom, m_impl_isZeroTerm, m_impl_isVariable, m_impl_isQuantifier, m_impl_isBinary, m_slices_ContainsFunc_impl_Formula_impl_Formula]))
        | false =>
          rw [hq] at ha
          rw [Bool.false_and]
          refine E_walk k_impl_hasForm m_impl_hasForm (of_decide_eq_true rfl) ?_
          simp (disch := omega) only [c_impl_hasForm, go_sem, Nat.reduceAdd, Nat.reduceSub, Nat.reduceLT, Nat.reduceLeDiff, Nat.reduceEqDiff, Nat.reduceBEq, Nat.reduceBneDiff, Nat.reduceMul, ↓reduceIte, Int.reduceToNat, reduceCtorEq, Int.reduceNeg, Int.reduceAdd, o1, o2, o3, o4, o5, o6, o7, o8, o9, hl2, ha, hv, hb, hu,  h2, m_impl_IsValidAtom, m_impl_isZeroTerm, m_impl_isVariable, m_impl_isQuantifier, m_impl_isBinary, m_slices_ContainsFunc_impl_Formula_impl_Formula]
          repeat ((first | (refine go_condT ?_ ?_; (focus (simp (disch := omega) only [go_sem, Nat.reduceAdd, Nat.reduceSub, Nat.reduceLT, Nat.reduceLeDiff, Nat.reduceEqDiff, Nat.reduceBEq, Nat.reduceBneDiff, Nat.reduceMul, ↓reduceIte, Int.reduceToNat, reduceCtorEq, Int.reduceNeg, Int.reduceAdd, o1, o2, o3, o4, o5, o6, o7, o8, o9, hl2, ha, hv, hb, hu,  h2, m_impl_IsValidAtom, m_impl_isZeroTerm, m_impl_isVariable, m_impl_isQuantifier, m_impl_isBinary, m_slices_ContainsFunc_impl_Formula_impl_Formula]; done))) | (refine go_condF ?_ ?_; (focus (simp (disch := omega) only [go_sem, Nat.reduceAdd, Nat.reduceSub, Nat.reduceLT, Nat.reduceLeDiff, Nat.reduceEqDiff, Nat.reduceBEq, Nat.reduceBneDiff, Nat.reduceMul, ↓reduceIte, Int.reduceToNat, reduceCtorEq, Int.reduceNeg, Int.reduceAdd, o1, o2, o3, o4, o5, o6, o7, o8, o9, hl2, ha, hv, hb, hu,  h2, m_impl_IsValidAtom, m_impl_isZeroTerm, m_impl_isVariable, m_impl_isQuantifier, m_impl_isBinary, m_slices_ContainsFunc_impl_Formula_impl_Formula]; done)))); (try simp (disch := omega) only [go_sem, Nat.reduceAdd, Nat.reduceSub, Nat.reduceLT, Nat.reduceLeDiff, Nat.reduceEqDiff, Nat.reduceBEq, Nat.reduceBneDiff, Nat.reduceMul, ↓reduceIte, Int.reduceToNat, reduceCtorEq, Int.reduceNeg, Int.reduceAdd, o1, o2, o3, o4, o5, o6, o7, o8, o9, hl2, ha, hv, hb, hu,  h2, m_impl_IsValidAtom, m_impl_isZeroTerm, m_impl_isVariable, m_impl_isQuantifier, m_impl_isBinary, m_slices_ContainsFunc_impl_Formula_impl_Formula]))
    · have hl2 : dec ((x.parts.length : Int) = 1) = false := dec_f (by omega)
      have hl3 : (x.parts.length == 1) = false := by simpa using hl
      rw [hl3, Bool.false_and, Bool.false_and, Bool.false_and]
      refine E_walk k_impl_hasForm m_impl_hasForm (of_decide_eq_true rfl) ?_
      simp (disch := omega) only [c_impl_hasForm, go_sem, Nat.reduceAdd, Nat.reduceSub, Nat.reduceLT, Nat.reduceLeDiff, Nat.reduceEqDiff, Nat.reduceBEq, Nat.reduceBneDiff, Nat.reduceMul, ↓reduceIte, Int.reduceToNat, reduceCtorEq, Int.reduceNeg, Int.reduceAdd, o1, o2, o3, o4, o5, o6, o7, o8, o9, hl2, ha, hv, hb, hu,  h2, m_impl_IsValidAtom, m_impl_isZeroTerm, m_impl_isVariable, m_impl_isQuantifier, m_impl_isBinary, m_slices_ContainsFunc_impl_Formula_impl_Formula]
      repeat ((first | (refine go_condT ?_ ?_; (focus (simp (disch := omega) only [go_sem, Nat.reduceAdd, Nat.reduceSub, Nat.reduceLT, Nat.reduceLeDiff, Nat.reduceEqDiff, Nat.reduceBEq, Nat.reduceBneDiff, Nat.reduceMul, ↓reduceIte, Int.reduceToNat, reduceCtorEq, Int.reduceNeg, Int.reduceAdd, o1, o2, o3, o4, o5, o6, o7, o8, o9, hl2, ha, hv, hb, hu,  h2, m_impl_IsValidAtom, m_impl_isZeroTerm, m_impl_isVariable, m_impl_isQuantifier, m_impl_isBinary, m_slices_ContainsFunc_impl_Formula_impl_Formula]; done))) | (refine go_condF ?_ ?_; (focus (simp (disch := omega) only [go_sem, Nat.reduceAdd, Nat.reduceSub, Nat.reduceLT, Nat.reduceLeDiff, Nat.reduceEqDiff, Nat.reduceBEq, Nat.reduceBneDiff, Nat.reduceMul, ↓reduceIte, Int.reduceToNat, reduceCtorEq, Int.reduceNeg, Int.reduceAdd, o1, o2, o3, o4, o5, o6, o7, o8, o9, hl2, ha, hv, hb, hu,  h2, m_impl_IsValidAtom, m_impl_isZeroTerm, m_impl_isVariable, m_impl_isQuantifier, m_impl_isBinary, m_slices_ContainsFunc_impl_Formula_impl_Formula]; done)))); (try simp (disch := omega) only [go_sem, Nat.reduceAdd, Nat.reduceSub, Nat.reduceLT, Nat.reduceLeDiff, Nat.reduceEqDiff, Nat.reduceBEq, Nat.reduceBneDiff, Nat.reduceMul, ↓reduceIte, Int.reduceToNat, reduceCtorEq, Int.reduceNeg, Int.reduceAdd, o1, o2, o3, o4, o5, o6, o7, o8, o9, hl2, ha, hv, hb, hu,  h2, m_impl_IsValidAtom, m_impl_isZeroTerm, m_impl_isVariable, m_impl_isQuantifier, m_impl_isBinary, m_slices_ContainsFunc_impl_Formula_impl_Formula]))
theorem hasForm_of (x : Fm) (ht : x.tame) (hn : x.nodes ≤ 1099511627776) (ih : ∀ y ∈ x.parts, E 34 [y.sv] [] = some (.bool y.forms, [])) : E 34 [x.sv] [] = some (.bool x.forms, []) := by
  have hl := Fm.length_le x.parts
  have hx := Fm.nodes_eq x
  have ha := Fm.tame_at ht
  have h1 : ∀ y ∈ x.parts, E 52 [y.sv] [] = some (.bool (!y.forms), []) := fun y hy => by
    have h := ih y hy
    refine E_walk k_impl_hasForm_1 m_impl_hasForm_1 (of_decide_eq_true rfl) ?_
    simp (disch := omega) only [c_impl_hasForm_1, go_sem, go_cond, Nat.reduceAdd, Nat.reduceSub, Nat.reduceLT, Nat.reduceLeDiff, Nat.reduceEqDiff, Nat.reduceBEq, Nat.reduceBneDiff, Nat.reduceMul, ↓reduceIte, Int.reduceToNat, reduceCtorEq, Int.reduceNeg, Int.reduceAdd, h, m_impl_hasForm]
  have h2 := containsFunc_forms 52 (fun y => !y.forms) x.parts (by omega) g_impl_hasForm_1 (by rw [m_impl_hasForm_1]) h1
  rcases op_cases x.op with h | h | h | h | h | h | h | h | h | h
  · exact hasForm_1 x ha (by omega) (.inl h) h2
  · exact hasForm_1 x ha (by omega) (.inr h) h2
  · exact hasForm_3 x ha (by omega) h h2
  · exact hasForm_4 x ha (by omega) h h2
  · exact hasForm_5 x ha (by omega) (.inl h) h2
  · exact hasForm_5 x ha (by omega) (.inr (.inl h)) h2
  · exact hasForm_5 x ha (by omega) (.inr (.inr h)) h2
  · exact hasForm_8 x ha (by omega) (.inl h) h2
  · exact hasForm_8 x ha (by omega) (.inr h) h2
  · obtain ⟨k1, k2, k3, k4, k5, k6, k7, k8, k9⟩ := h
    have hf : x.form = false := by unfold Fm.form; simp [k1, k2, k3, k4, k5, k6, k7, k8, k9]
    have o1 := dec_f k1
    have o2 := dec_f k2
    have o3 := dec_f k3
    have o4 := dec_f k4
    have o5 := dec_f k5
    have o6 := dec_f k6
    have o7 := dec_f k7
    have o8 := dec_f k8
    have o9 := dec_f k9
    have hb := isBinary_E x.op
    have hu := isQuantifier_E x.op
    rw [o5, o6, o7] at hb
    rw [o8, o9] at hu
    rw [Fm.forms_eq, hf, Bool.false_and]
    refine E_walk k_impl_hasForm m_impl_hasForm (of_decide_eq_true rfl) ?_
    simp (disch := omega) only [c_impl_hasForm, go_sem, Nat.reduceAdd, Nat.reduceSub, Nat.reduceLT, Nat.reduceLeDiff, Nat.reduceEqDiff, Nat.reduceBEq, Nat.reduceBneDiff, Nat.reduceMul, ↓reduceIte, Int.reduceToNat, reduceCtorEq, Int.reduceNeg, Int.reduceAdd, o1, o2, o3, o4, o5, o6, o7, o8, o9, hb, hu, m_impl_isQuantifier, m_impl_isBinary]
    repeat ((first | (refine go_condT ?_ ?_; (focus (simp (disch := omega) only [go_sem, Nat.reduceAdd, Nat.reduceSub, Nat.reduceLT, Nat.reduceLeDiff, Nat.reduceEqDiff, Nat.reduceBEq, Nat.reduceBneDiff, Nat.reduceMul, ↓reduceIte, Int.reduceToNat, reduceCtorEq, Int.reduceNeg, Int.reduceAdd, o1, o2, o3, o4, o5, o6, o7, o8, o9, hb, hu, m_impl_isQuantifier, m_impl_isBinary]; done))) | (refine go_condF ?_ ?_; (focus (simp (disch := omega) only [go_sem, Nat.reduceAdd, Nat.reduceSub, Nat.reduceLT, Nat.reduceLeDiff, Nat.reduceEqDiff, Nat.reduceBEq, Nat.reduceBneDiff, Nat.reduceMul, ↓reduceIte, Int.reduceToNat, reduceCtorEq, Int.reduceNeg, Int.reduceAdd, o1, o2, o3, o4, o5, o6, o7, o8, o9, hb, hu, m_impl_isQuantifier, m_impl_isBinary]; done)))); (try simp (disch := omega) only [go_sem, Nat.reduceAdd, Nat.reduceSub, Nat.reduceLT, Nat.reduceLeDiff, Nat.reduceEqDiff, Nat.reduceBEq, Nat.reduceBneDiff, Nat.reduceMul, ↓reduceIte, Int.reduceToNat, reduceCtorEq, Int.reduceNeg, Int.reduceAdd, o1, o2, o3, o4, o5, o6, o7, o8, o9, hb, hu, m_impl_isQuantifier, m_impl_isBinary]))
theorem hasForm_E (x : Fm) (ht : x.tame) (hn : x.nodes ≤ 1099511627776) : E 34 [x.sv] [] = some (.bool x.forms, []) :=
  hasForm_of x ht hn fun y hy => hasForm_E y (Fm.tame_part ht hy) (by have := Fm.nodes_mem hy; have := Fm.nodes_eq x; omega)
termination_by SizeOf.sizeOf x
decreasing_by exact Fm.lt_of_mem hy
theorem isValidFormula_E (x : Fm) (ht : x.tame) (hn : x.nodes ≤ 1099511627776) : E 17 [x.sv] [] = some (.bool x.valid, []) := by
  have h1 := sizeF_E x hn
  have h2 := hasForm_E x ht hn
  have h3 := Fm.cap_spec x
  unfold Fm.valid
  rcases Nat.lt_or_ge 40 x.nodes with h5 | h5
  · rw [decide_eq_false (by omega), Bool.false_and]
    have d : dec (x.cap ≤ 40) = false := dec_f (by omega)
    refine E_walk k_impl_IsValidFormula m_impl_IsValidFormula (of_decide_eq_true rfl) ?_
    simp (disch := omega) only [c_impl_IsValidFormula, go_sem, go_cond, Nat.reduceAdd, Nat.reduceSub, Nat.reduceLT, Nat.reduceLeDiff, Nat.reduceEqDiff, Nat.reduceBEq, Nat.reduceBneDiff, Nat.reduceMul, ↓reduceIte, Int.reduceToNat, reduceCtorEq, Int.reduceNeg, Int.reduceAdd, h1, h2, d, m_impl_sizeOf, m_impl_hasForm]
  · rw [decide_eq_true h5, Bool.true_and]
    have d : dec (x.cap ≤ 40) = true := dec_t (by omega)
    refine E_walk k_impl_IsValidFormula m_impl_IsValidFormula (of_decide_eq_true rfl) ?_
    simp (disch := omega) only [c_impl_IsValidFormula, go_sem, go_cond, Nat.reduceAdd, Nat.reduceSub, Nat.reduceLT, Nat.reduceLeDiff, Nat.reduceEqDiff, Nat.reduceBEq, Nat.reduceBneDiff, Nat.reduceMul, ↓reduceIte, Int.reduceToNat, reduceCtorEq, Int.reduceNeg, Int.reduceAdd, h1, h2, d, m_impl_sizeOf, m_impl_hasForm]
theorem l8Good_E (x : Fm) (ht : x.tame) (hn : x.nodes ≤ 1099511627776) : E 13 [x.sv] [] = some (.bool x.valid, []) := by
  have h1 := manyF_E x 40 (by omega) (by omega) hn
  have h2 := l8Forms_E x ht hn
  have h3 := Fm.many_spec x 40
  unfold Fm.valid
  rcases Nat.lt_or_ge 40 x.nodes with h5 | h5
  · rw [decide_eq_false (by omega), Bool.false_and]
    have d : dec ((x.many 40) ≤ 40) = false := dec_f (by omega)
    refine E_walk k_spec_l8Good m_spec_l8Good (of_decide_eq_true rfl) ?_
    simp (disch := omega) only [c_spec_l8Good, go_sem, go_cond, Nat.reduceAdd, Nat.reduceSub, Nat.reduceLT, Nat.reduceLeDiff, Nat.reduceEqDiff, Nat.reduceBEq, Nat.reduceBneDiff, Nat.reduceMul, ↓reduceIte, Int.reduceToNat, reduceCtorEq, Int.reduceNeg, Int.reduceAdd, h1, h2, d, m_spec_l8Many, m_spec_l8Forms]
  · rw [decide_eq_true h5, Bool.true_and]
    have d : dec ((x.many 40) ≤ 40) = true := dec_t (by omega)
    refine E_walk k_spec_l8Good m_spec_l8Good (of_decide_eq_true rfl) ?_
    simp (disch := omega) only [c_spec_l8Good, go_sem, go_cond, Nat.reduceAdd, Nat.reduceSub, Nat.reduceLT, Nat.reduceLeDiff, Nat.reduceEqDiff, Nat.reduceBEq, Nat.reduceBneDiff, Nat.reduceMul, ↓reduceIte, Int.reduceToNat, reduceCtorEq, Int.reduceNeg, Int.reduceAdd, h1, h2, d, m_spec_l8Many, m_spec_l8Forms]
end Go.Proofs.Ytjgnhifkcgpmjaa

set_option maxRecDepth 100000
set_option linter.unusedSimpArgs false
set_option linter.unusedVariables false
namespace Go.Proofs.Ytjgnhifkcgpmjaa
open Go.RowKit

def c_impl_copyTerms : SC := (.seq (.reg [⟨(some 2), none, (.mv (.c .nil))⟩]) (.seq (.seq (.reg [⟨(some 6), none, (.mv (.t 0))⟩, ⟨(some 7), none, (.len false (.t 6))⟩, ⟨(some 8), none, (.bin .eql false (.t 7) (.c (.int .i64 0)))⟩]) (.cond (.t 8) (.seq (.reg [⟨(some 2), none, (.mv (.c .nil))⟩]) .ret) .skip)) (.seq (.reg [⟨(some 9), none, (.mv (.t 0))⟩, ⟨(some 10), none, (.len false (.t 9))⟩, ⟨(some 11), none, (.mkslice 31 2 40 [(.str ⟨#[]⟩), .nil] (.t 10))⟩, ⟨(some 3), none, (.mv (.t 11))⟩]) (.seq (.seq (.reg [⟨(some 12), none, (.mv (.t 0))⟩, ⟨(some 13), none, (.len false (.t 12))⟩, ⟨(some 14), none, (.mv (.c (.int .i64 0)))⟩]) (.block 0 (.loop [0, 0, 0, 1, 0, 0, 0, 0, 0, 0, 0, 0, 1, 1, 1, 0, 0, 0, 0, 0, 0, 0, 0, 0, 0, 0] (.seq (.reg [⟨(some 15), none, (.bin .lss false (.t 14) (.t 13))⟩]) (.seq (.cond (.t 15) .skip (.exit 0)) (.seq (.block 1 (.seq (.reg [⟨(some 16), none, (.mv (.t 14))⟩, ⟨(some 17), none, (.iaddr 2 (.t 12) (.t 14))⟩, ⟨(some 18), none, (.load true 2 (.t 17))⟩, ⟨(some 5), none, (.alloc 31 [(.str ⟨#[]⟩), .nil])⟩, ⟨(some 4), none, (.mv (.t 16))⟩, ⟨none, none, (.store 2 (.t 5) (.t 18))⟩]) (.reg [⟨(some 19), none, (.mv (.t 3))⟩, ⟨(some 20), none, (.mv (.t 4))⟩, ⟨(some 21), none, (.load true 2 (.t 5))⟩, ⟨(some 22), none, (.call 53 [(.t 21)])⟩, ⟨(some 23), none, (.iaddr 2 (.t 19) (.t 20))⟩, ⟨none, none, (.store 2 (.t 23) (.t 22))⟩]))) (.reg [⟨(some 24), none, (.bin .add false (.t 14) (.c (.int .i64 1)))⟩, ⟨(some 14), none, (.mv (.t 24))⟩]))))))) (.seq (.reg [⟨(some 25), none, (.mv (.t 3))⟩, ⟨(some 2), none, (.mv (.t 25))⟩]) .ret)))))
theorem k_impl_copyTerms : codeOf Try.prog 67 = some ⟨26, c_impl_copyTerms, [(.tmp 2)]⟩ := by kernel_rfl
theorem m_impl_copyTerms : modes 67 = ⟨[], .own [some (31, 2)], none, false⟩ := by unfold modes; rfl

def c_impl_copyTerm : SC := (.seq (.reg [⟨(some 1), none, (.boxv 31 2 (.t 0))⟩, ⟨(some 2), none, (.alloc 31 [(.str ⟨#[]⟩), .nil])⟩]) (.seq (.dreg [[], [0], [], [2], [3, 2], [1, 0, 4, 3, 2], [5, 1, 0, 4, 3, 2]] [⟨(some 3), none, (.faddr 0 (.t 1))⟩, ⟨(some 4), none, (.load false 1 (.t 3))⟩, ⟨(some 5), none, (.faddr 1 (.t 1))⟩, ⟨(some 6), none, (.load false 1 (.t 5))⟩, ⟨(some 7), none, (.call 67 [(.t 6)])⟩, ⟨(some 8), none, (.build [(.str ⟨#[]⟩), .nil] [(0, (1, (.t 4))), (1, (1, (.t 7)))])⟩, ⟨none, none, (.store 2 (.t 2) (.t 8))⟩]) .ret))
theorem k_impl_copyTerm : codeOf Try.prog 53 = some ⟨9, c_impl_copyTerm, [(.cell 2 true 2)]⟩ := by kernel_rfl
theorem m_impl_copyTerm : modes 53 = ⟨[], .asis, none, false⟩ := by unfold modes; rfl

def c_spec_l2Own : SC := (.seq (.reg [⟨(some 1), none, (.boxv 31 2 (.t 0))⟩, ⟨(some 2), none, (.alloc 31 [(.str ⟨#[]⟩), .nil])⟩]) (.seq (.reg [⟨(some 5), none, (.faddr 0 (.t 1))⟩, ⟨(some 6), none, (.load false 1 (.t 5))⟩, ⟨(some 7), none, (.build [(.str ⟨#[]⟩), .nil] [(0, (1, (.t 6)))])⟩, ⟨(some 3), none, (.alloc 31 [(.str ⟨#[]⟩), .nil])⟩, ⟨none, none, (.store 2 (.t 3) (.t 7))⟩]) (.seq (.seq (.reg [⟨(some 4), none, (.mv (.c (.int .i64 0)))⟩]) (.block 0 (.loop [0, 1, 1, 1, 1, 0, 0, 0, 0, 0, 0, 0, 0, 0, 0, 0, 0, 0, 0, 0, 0, 0, 0, 0, 0, 0, 0] (.seq (.seq (.reg [⟨(some 8), none, (.mv (.t 4))⟩, ⟨(some 9), none, (.faddr 1 (.t 1))⟩, ⟨(some 10), none, (.load false 1 (.t 9))⟩, ⟨(some 11), none, (.len false (.t 10))⟩, ⟨(some 12), none, (.bin .lss false (.t 8) (.t 11))⟩]) (.cond (.t 12) .skip (.exit 0))) (.seq (.block 1 (.dreg [[], [0], [], [2], [], [3, 2, 4], [5, 3, 2, 4], [6, 5, 3, 2, 4], [7, 6, 5, 3, 2, 4], [1, 0, 8, 7, 6, 5, 3, 2, 4], [0, 1, 2, 3, 4, 5, 6, 7, 8, 9], [10, 0, 1, 2, 3, 4, 5, 6, 7, 8, 9]] [⟨(some 15), none, (.faddr 1 (.t 3))⟩, ⟨(some 16), none, (.load false 1 (.t 15))⟩, ⟨(some 17), none, (.faddr 1 (.t 1))⟩, ⟨(some 18), none, (.load false 1 (.t 17))⟩, ⟨(some 19), none, (.mv (.t 4))⟩, ⟨(some 20), none, (.iaddr 2 (.t 18) (.t 19))⟩, ⟨(some 21), none, (.load true 2 (.t 20))⟩, ⟨(some 22), none, (.call 45 [(.t 21)])⟩, ⟨(some 23), none, (.mkrow 31 2 [(.str ⟨#[]⟩), .nil] 1 [(0, (.t 22))])⟩, ⟨(some 24), none, (.append 31 2 40 [(.str ⟨#[]⟩), .nil] (.t 16) (.t 23))⟩, ⟨(some 25), none, (.faddr 1 (.t 3))⟩, ⟨none, none, (.store 1 (.t 25) (.t 24))⟩])) (.reg [⟨(some 13), none, (.mv (.t 4))⟩, ⟨(some 14), none, (.bin .add false (.t 13) (.c (.int .i64 1)))⟩, ⟨(some 4), none, (.mv (.t 14))⟩])))))) (.seq (.reg [⟨(some 26), none, (.load true 2 (.t 3))⟩, ⟨none, none, (.store 2 (.t 2) (.t 26))⟩]) .ret))))
theorem k_spec_l2Own : codeOf Try.prog 45 = some ⟨27, c_spec_l2Own, [(.cell 2 true 2)]⟩ := by kernel_rfl
theorem m_spec_l2Own : modes 45 = ⟨[], .frz, none, false⟩ := by unfold modes; rfl

set_option maxHeartbeats 1000000 in
theorem copyTerms_of (xs : List Tm) (hl : xs.length ≤ 1099511627776) (h : ∀ x ∈ xs, E 53 [x.sv] [] = some (x.osv, x.obs)) : E 67 [.arr (xs.map Tm.d)] [] = some (.ref 0, [.row 31 2 (xs.map Tm.o)]) := by
  cases xs with
  | nil =>
    refine E_walk k_impl_copyTerms m_impl_copyTerms (of_decide_eq_true rfl) ?_
    simp (disch := omega) only [c_impl_copyTerms, go_sem, go_cond, Nat.reduceAdd, Nat.reduceSub, Nat.reduceLT, Nat.reduceLeDiff, Nat.reduceEqDiff, Nat.reduceBEq, Nat.reduceBneDiff, Nat.reduceMul, ↓reduceIte, Int.reduceToNat, reduceCtorEq, Int.reduceNeg, Int.reduceAdd]
  | cons x0 xs0 =>
  generalize hxs : x0 :: xs0 = xs at *
  have hpos : 0 < xs.length := by rw [← hxs]; simp
  refine E_walk k_impl_copyTerms m_impl_copyTerms (of_decide_eq_true rfl) ?_
  simp (disch := omega) only [c_impl_copyTerms, go_sem, go_cond, Nat.reduceAdd, Nat.reduceSub, Nat.reduceLT, Nat.reduceLeDiff, Nat.reduceEqDiff, Nat.reduceBEq, Nat.reduceBneDiff, Nat.reduceMul, ↓reduceIte, Int.reduceToNat, reduceCtorEq, Int.reduceNeg, Int.reduceAdd]
  refine go_loop (α := Int) (fun a => ⟨slots 26 0 [(3, .ref 0), (12, .arr (xs.map Tm.d)), (13, .int .i64 xs.length), (14, .int .i64 a)], [.row 31 2 (fillR Tm.o [.str ⟨#[]⟩, .ow []] xs a.toNat)]⟩) (fun a => ∃ k : Nat, a = k ∧ k ≤ (xs).length) (fun a => (xs).length - (a).toNat) 0 ⟨0, rfl, Nat.zero_le _⟩ (by simp (disch := omega) only [go_sem, go_cond, Nat.reduceAdd, Nat.reduceSub, Nat.reduceLT, Nat.reduceLeDiff, Nat.reduceEqDiff, Nat.reduceBEq, Nat.reduceBneDiff, Nat.reduceMul, ↓reduceIte, Int.reduceToNat, reduceCtorEq, Int.reduceNeg, Int.reduceAdd, fillR_zero, Int.toNat_zero]) ?_
  rintro i ⟨k, hi, hk⟩
  have hni : i.toNat = k := by omega
  have hni1 : (i + 1).toNat = k + 1 := by omega
  rcases Nat.lt_or_ge k (xs).length with hlt | hge
  · have hg := get_at Tm.d hlt
    rw [Tm.d_eq] at hg
    have hz := fillR_get Tm.o [.str ⟨#[]⟩, .ow []] hlt
    have hc := h xs[k] (List.getElem_mem hlt)
    have hs := fillR_set Tm.o [.str ⟨#[]⟩, .ow []] hlt
    rw [Tm.o_eq] at hs
    simp (disch := omega) only [go_sem, go_cond, Nat.reduceAdd, Nat.reduceSub, Nat.reduceLT, Nat.reduceLeDiff, Nat.reduceEqDiff, Nat.reduceBEq, Nat.reduceBneDiff, Nat.reduceMul, ↓reduceIte, Int.reduceToNat, reduceCtorEq, Int.reduceNeg, Int.reduceAdd, hni, hg, hc, hz, fillR_len, m_impl_copyTerm, Tm.osv, Tm.obs]
    refine ⟨i + 1, ⟨k + 1, by omega, hlt⟩, by omega, ?_⟩
    simp (disch := omega) only [go_sem, go_cond, Nat.reduceAdd, Nat.reduceSub, Nat.reduceLT, Nat.reduceLeDiff, Nat.reduceEqDiff, Nat.reduceBEq, Nat.reduceBneDiff, Nat.reduceMul, ↓reduceIte, Int.reduceToNat, reduceCtorEq, Int.reduceNeg, Int.reduceAdd, hni1, hs]
  · obtain rfl : k = xs.length := by omega
    simp (disch := omega) only [go_sem, go_cond, Nat.reduceAdd, Nat.reduceSub, Nat.reduceLT, Nat.reduceLeDiff, Nat.reduceEqDiff, Nat.reduceBEq, Nat.reduceBneDiff, Nat.reduceMul, ↓reduceIte, Int.reduceToNat, reduceCtorEq, Int.reduceNeg, Int.reduceAdd, hni, fillR_end]
set_option maxHeartbeats 1000000 in
theorem copyTerm_of (x : Tm) (h : E 67 [.arr (x.args.map Tm.d)] [] = some (.ref 0, [.row 31 2 (x.args.map Tm.o)])) : E 53 [x.sv] [] = some (x.osv, x.obs) := by
  refine E_walk k_impl_copyTerm m_impl_copyTerm (of_decide_eq_true rfl) ?_
  simp (disch := omega) only [c_impl_copyTerm, go_sem, go_cond, Nat.reduceAdd, Nat.reduceSub, Nat.reduceLT, Nat.reduceLeDiff, Nat.reduceEqDiff, Nat.reduceBEq, Nat.reduceBneDiff, Nat.reduceMul, ↓reduceIte, Int.reduceToNat, reduceCtorEq, Int.reduceNeg, Int.reduceAdd, h, m_impl_copyTerms]
theorem copyTerm_E (x : Tm) (hn : x.nodes ≤ 1099511627776) : E 53 [x.sv] [] = some (x.osv, x.obs) :=
  copyTerm_of x (copyTerms_of x.args (by have := Tm.nodes_eq x; have := Tm.length_le x.args; omega) fun y hy => copyTerm_E y (by have := Tm.nodes_mem hy; have := Tm.nodes_eq x; omega))
termination_by SizeOf.sizeOf x
decreasing_by exact Tm.lt_of_mem hy
end Go.Proofs.Ytjgnhifkcgpmjaa

set_option maxRecDepth 100000
set_option linter.unusedSimpArgs false
set_option linter.unusedVariables false
namespace Go.Proofs.Ytjgnhifkcgpmjaa
open Go.RowKit

/-- A run ends so that Q is true of its answer. -/
def finQ (res : RM) (n0 : Nat) (rs : List RX) (Q : SV × List Ob → Prop) (x : X) (st : St) : Prop := ∃ out, finK res n0 rs out x st ∧ Q out
theorem exq {α : Type} {a : α} {Q : α → Prop} : (∃ out, some a = some out ∧ Q out) = Q a := propext ⟨fun ⟨o, h, q⟩ => by obtain rfl := Option.some.inj h; exact q, fun q => ⟨a, rfl, q⟩⟩
theorem finQ_r {res : RM} {n0 : Nat} {rs : List RX} {Q : SV × List Ob → Prop} {sl : List SV} {ob : List Ob} : finQ res n0 rs Q .ret ⟨sl, ob⟩ = ∃ out, resF1 res n0 ob (resV ⟨sl, ob⟩ rs) = some out ∧ Q out := rfl
theorem finQ_n {res : RM} {n0 : Nat} {rs : List RX} {Q : SV × List Ob → Prop} {sl : List SV} {ob : List Ob} : finQ res n0 rs Q .normal ⟨sl, ob⟩ = ∃ out, resF1 res n0 ob (resV ⟨sl, ob⟩ rs) = some out ∧ Q out := rfl
theorem E_walkQ {f : FuncId} {fc : FC} {hand : List Bool} {res : RM} {tr : Bool} {xs : List SV} {ob : List Ob} {Q : SV × List Ob → Prop} (hc : codeOf Try.prog f = some fc) (hr : modes f = ⟨hand, res, none, tr⟩) (hn : xs.length ≤ fc.nt) (h : go ob.length fc.sc ⟨xs ++ anys (fc.nt - xs.length), entry tr ob⟩ (finQ res ob.length fc.rs Q)) : ∃ out, E f xs ob = some out ∧ Q out := by
  obtain ⟨x, st', h1, out, h2, h3⟩ := h
  exact ⟨out, E_walk hc hr hn ⟨x, st', h1, h2⟩, h3⟩
attribute [go_sem] finQ_r finQ_n exq
/-- A term whose arguments are shared, as an element of a row of one's own. -/
def Tm.osh (x : Tm) : List OT := [.str x.name, .sh (x.args.map Tm.d)]
theorem Tm.osh_eq (x : Tm) : x.osh = [.str x.name, .sh (x.args.map Tm.d)] := rfl
theorem Tm.osh_full : ∀ xs : List Tm, OT.fullss (xs.map Tm.osh) = true
  | [] => rfl
  | x :: xs => by rw [List.map_cons, Tm.osh_eq]; simp [OT.fullss, OT.fulls, OT.full, Tm.osh_full xs]
theorem Tm.osh_er : ∀ xs : List Tm, OT.erss (xs.map Tm.osh) = xs.map Tm.d
  | [] => rfl
  | x :: xs => by rw [List.map_cons, List.map_cons, Tm.osh_eq, Tm.d_eq]; simp [OT.erss, OT.ers, OT.er, Tm.osh_er xs]
theorem map_snoc {α β : Type} (f : α → β) {xs : List α} {k : Nat} (h : k < xs.length) : (xs.take k).map f ++ [f xs[k]] = (xs.take (k + 1)).map f := by
  rw [List.take_succ_eq_append_getElem h, List.map_append]; rfl
end Go.Proofs.Ytjgnhifkcgpmjaa

set_option maxRecDepth 100000
set_option linter.unusedSimpArgs false
set_option linter.unusedVariables false
namespace Go.Proofs.Ytjgnhifkcgpmjaa
open Go.RowKit

set_option maxHeartbeats 2000000 in
theorem l2Own_of (x : Tm) (hn : x.nodes ≤ 1099511627776) (ih : ∀ y ∈ x.args, E 45 [y.sv] [] = some (y.sv, [])) : E 45 [x.sv] [] = some (x.sv, []) := by
  have hl := Tm.length_le x.args
  have hne := Tm.nodes_eq x
  have h10 : ((1 : Int) = 0) = False := by simp
  have hfu := Tm.osh_full x.args
  have her := Tm.osh_er x.args
  refine E_walk k_spec_l2Own m_spec_l2Own (of_decide_eq_true rfl) ?_
  simp (disch := omega) only [c_spec_l2Own, go_sem, go_cond, Nat.reduceAdd, Nat.reduceSub, Nat.reduceLT, Nat.reduceLeDiff, Nat.reduceEqDiff, Nat.reduceBEq, Nat.reduceBneDiff, Nat.reduceMul, ↓reduceIte, Int.reduceToNat, reduceCtorEq, Int.reduceNeg, Int.reduceAdd]
  refine go_loop (α := Int) (fun a => ⟨slots 27 0 [(1, .ptr 0 0), (2, .ptr 1 0), (3, .ptr 2 0), (4, .int .i64 a)], (if a = 0 then [.box 31 [.str x.name, .arr (x.args.map Tm.d)], .box 31 [.str ⟨#[]⟩, .nil], .box 31 [.str x.name, .nil]] else [.box 31 [.str x.name, .arr (x.args.map Tm.d)], .box 31 [.str ⟨#[]⟩, .nil], .box 31 [.str x.name, .ref 3], .row 31 2 ((x.args.take a.toNat).map Tm.osh)])⟩) (fun a => ∃ k : Nat, a = k ∧ k ≤ (x.args).length) (fun a => (x.args).length - (a).toNat) 0 ⟨0, rfl, Nat.zero_le _⟩ (by simp (disch := omega) only [go_sem, go_cond, Nat.reduceAdd, Nat.reduceSub, Nat.reduceLT, Nat.reduceLeDiff, Nat.reduceEqDiff, Nat.reduceBEq, Nat.reduceBneDiff, Nat.reduceMul, ↓reduceIte, Int.reduceToNat, reduceCtorEq, Int.reduceNeg, Int.reduceAdd, eq_self, if_true]) ?_
  rintro i ⟨k, hi, hk⟩
  have hni : i.toNat = k := by omega
  have hni1 : (i + 1).toNat = k + 1 := by omega
  rcases Nat.lt_or_ge k (x.args).length with hlt | hge
  · have hg := get_at Tm.d hlt
    rw [Tm.d_eq] at hg
    have hc := ih x.args[k] (List.getElem_mem hlt)
    have hs := map_snoc Tm.osh hlt
    rw [Tm.osh_eq] at hs
    rcases Nat.eq_zero_or_pos k with h0 | h0
    · subst h0
      obtain rfl : i = 0 := hi
      rw [List.take_zero, List.map_nil, List.nil_append] at hs
      simp (disch := omega) only [go_sem, go_cond, Nat.reduceAdd, Nat.reduceSub, Nat.reduceLT, Nat.reduceLeDiff, Nat.reduceEqDiff, Nat.reduceBEq, Nat.reduceBneDiff, Nat.reduceMul, ↓reduceIte, Int.reduceToNat, reduceCtorEq, Int.reduceNeg, Int.reduceAdd, hni, hg, hc, m_spec_l2Own, eq_self, if_true]
      refine ⟨1, ⟨1, rfl, hlt⟩, by omega, ?_⟩
      simp (disch := omega) only [go_sem, go_cond, Nat.reduceAdd, Nat.reduceSub, Nat.reduceLT, Nat.reduceLeDiff, Nat.reduceEqDiff, Nat.reduceBEq, Nat.reduceBneDiff, Nat.reduceMul, ↓reduceIte, Int.reduceToNat, reduceCtorEq, Int.reduceNeg, Int.reduceAdd, h10, if_false, hs]
    · have hi0 : (i = 0) = False := by simp; omega
      have hi1 : (i + 1 = 0) = False := by simp; omega
      have htl : (x.args.take k).length = k := by rw [List.length_take]; omega
      simp (disch := omega) only [go_sem, go_cond, Nat.reduceAdd, Nat.reduceSub, Nat.reduceLT, Nat.reduceLeDiff, Nat.reduceEqDiff, Nat.reduceBEq, Nat.reduceBneDiff, Nat.reduceMul, ↓reduceIte, Int.reduceToNat, reduceCtorEq, Int.reduceNeg, Int.reduceAdd, hni, hg, hc, m_spec_l2Own, hi0, if_false, htl]
      refine ⟨i + 1, ⟨k + 1, by omega, hlt⟩, by omega, ?_⟩
      simp (disch := omega) only [go_sem, go_cond, Nat.reduceAdd, Nat.reduceSub, Nat.reduceLT, Nat.reduceLeDiff, Nat.reduceEqDiff, Nat.reduceBEq, Nat.reduceBneDiff, Nat.reduceMul, ↓reduceIte, Int.reduceToNat, reduceCtorEq, Int.reduceNeg, Int.reduceAdd, hni1, hi1, if_false, hs]
  · obtain rfl : k = x.args.length := by omega
    have ht : x.args.take x.args.length = x.args := List.take_length
    rcases Nat.eq_zero_or_pos x.args.length with h0 | h0
    · have hx : x.args = [] := List.eq_nil_of_length_eq_zero h0
      obtain rfl : i = 0 := by omega
      simp (disch := omega) only [go_sem, go_cond, Nat.reduceAdd, Nat.reduceSub, Nat.reduceLT, Nat.reduceLeDiff, Nat.reduceEqDiff, Nat.reduceBEq, Nat.reduceBneDiff, Nat.reduceMul, ↓reduceIte, Int.reduceToNat, reduceCtorEq, Int.reduceNeg, Int.reduceAdd, hni, hx, eq_self, if_true, List.map_nil, List.length_nil]
    · have hi0 : (i = 0) = False := by simp; omega
      simp (disch := omega) only [go_sem, go_cond, Nat.reduceAdd, Nat.reduceSub, Nat.reduceLT, Nat.reduceLeDiff, Nat.reduceEqDiff, Nat.reduceBEq, Nat.reduceBneDiff, Nat.reduceMul, ↓reduceIte, Int.reduceToNat, reduceCtorEq, Int.reduceNeg, Int.reduceAdd, hni, hi0, if_false, ht, hfu, her]
theorem l2Own_E (x : Tm) (hn : x.nodes ≤ 1099511627776) : E 45 [x.sv] [] = some (x.sv, []) :=
  l2Own_of x hn fun y hy => l2Own_E y (by have := Tm.nodes_mem hy; have := Tm.nodes_eq x; omega)
termination_by SizeOf.sizeOf x
decreasing_by exact Tm.lt_of_mem hy
end Go.Proofs.Ytjgnhifkcgpmjaa

set_option maxRecDepth 100000
set_option linter.unusedSimpArgs false
set_option linter.unusedVariables false
namespace Go.Proofs.Ytjgnhifkcgpmjaa
open Go.RowKit

def Fm.osh (x : Fm) : List OT := [.int x.op, .str x.atom.name, .sh (x.atom.args.map Tm.d), .str x.var, .sh (x.parts.map Fm.d)]
theorem Fm.osh_eq (x : Fm) : x.osh = [.int x.op, .str x.atom.name, .sh (x.atom.args.map Tm.d), .str x.var, .sh (x.parts.map Fm.d)] := rfl
theorem Fm.osh_full : ∀ xs : List Fm, OT.fullss (xs.map Fm.osh) = true
  | [] => rfl
  | x :: xs => by simp only [List.map_cons, OT.fullss, Fm.osh, OT.fulls, OT.full, Fm.osh_full xs, Bool.and_self]
theorem Fm.osh_er : ∀ xs : List Fm, OT.erss (xs.map Fm.osh) = xs.map Fm.d
  | [] => rfl
  | x :: xs => by simp only [List.map_cons, OT.erss, Fm.osh, OT.ers, OT.er, Fm.osh_er xs, Fm.d_eq]
theorem Fm.eta (x : Fm) : Fm.mk x.op x.atom x.var x.parts = x := by
  obtain ⟨a, b, c, d⟩ := x
  rfl
def c_impl_mapParts : SC := (.seq (.reg [⟨(some 2), none, (.boxv 34 5 (.t 0))⟩, ⟨(some 4), none, (.alloc 34 [(.int .i64 0), (.str ⟨#[]⟩), .nil, (.str ⟨#[]⟩), .nil])⟩]) (.seq (.dreg [[], [0], [], [2], [3, 2], [], [5], [1, 0, 4, 3, 2, 6, 5], [], [8, 7, 1, 0, 4, 3, 2, 6, 5]] [⟨(some 8), none, (.faddr 0 (.t 2))⟩, ⟨(some 9), none, (.load false 1 (.t 8))⟩, ⟨(some 10), none, (.faddr 1 (.t 2))⟩, ⟨(some 11), none, (.load true 2 (.t 10))⟩, ⟨(some 12), none, (.call 53 [(.t 11)])⟩, ⟨(some 13), none, (.faddr 3 (.t 2))⟩, ⟨(some 14), none, (.load false 1 (.t 13))⟩, ⟨(some 15), none, (.build [(.int .i64 0), (.str ⟨#[]⟩), .nil, (.str ⟨#[]⟩), .nil] [(0, (1, (.t 9))), (1, (2, (.t 12))), (3, (1, (.t 14)))])⟩, ⟨(some 5), none, (.alloc 34 [(.int .i64 0), (.str ⟨#[]⟩), .nil, (.str ⟨#[]⟩), .nil])⟩, ⟨none, none, (.store 5 (.t 5) (.t 15))⟩]) (.seq (.seq (.reg [⟨(some 16), none, (.faddr 4 (.t 2))⟩, ⟨(some 17), none, (.load false 1 (.t 16))⟩, ⟨(some 18), none, (.len false (.t 17))⟩, ⟨(some 19), none, (.mv (.c (.int .i64 0)))⟩]) (.block 0 (.loop [0, 1, 0, 0, 1, 1, 0, 0, 0, 0, 0, 0, 0, 0, 0, 0, 0, 1, 1, 1, 0, 0, 0, 0, 0, 0, 0, 0, 0, 0, 0, 0, 0] (.seq (.reg [⟨(some 20), none, (.bin .lss false (.t 19) (.t 18))⟩]) (.seq (.cond (.t 20) .skip (.exit 0)) (.seq (.block 1 (.seq (.reg [⟨(some 21), none, (.iaddr 5 (.t 17) (.t 19))⟩, ⟨(some 22), none, (.load true 5 (.t 21))⟩, ⟨(some 7), none, (.alloc 34 [(.int .i64 0), (.str ⟨#[]⟩), .nil, (.str ⟨#[]⟩), .nil])⟩, ⟨none, none, (.store 5 (.t 7) (.t 22))⟩]) (.dreg [[], [0], [], [], [2, 3], [4, 2, 3], [1, 0, 5, 4, 2, 3], [0, 1, 2, 3, 4, 5, 6], [7, 0, 1, 2, 3, 4, 5, 6]] [⟨(some 23), none, (.faddr 4 (.t 5))⟩, ⟨(some 24), none, (.load false 1 (.t 23))⟩, ⟨(some 25), none, (.mv (.t 1))⟩, ⟨(some 26), none, (.load true 5 (.t 7))⟩, ⟨(some 27), none, (.callv (.t 25) [(.t 26)])⟩, ⟨(some 28), none, (.mkrow 34 5 [(.int .i64 0), (.str ⟨#[]⟩), .nil, (.str ⟨#[]⟩), .nil] 1 [(0, (.t 27))])⟩, ⟨(some 29), none, (.append 34 5 88 [(.int .i64 0), (.str ⟨#[]⟩), .nil, (.str ⟨#[]⟩), .nil] (.t 24) (.t 28))⟩, ⟨(some 30), none, (.faddr 4 (.t 5))⟩, ⟨none, none, (.store 1 (.t 30) (.t 29))⟩]))) (.reg [⟨(some 31), none, (.bin .add false (.t 19) (.c (.int .i64 1)))⟩, ⟨(some 19), none, (.mv (.t 31))⟩]))))))) (.seq (.reg [⟨(some 32), none, (.load true 5 (.t 5))⟩, ⟨none, none, (.store 5 (.t 4) (.t 32))⟩]) .ret))))
theorem k_impl_mapParts : codeOf Try.prog 38 = some ⟨33, c_impl_mapParts, [(.cell 4 true 5)]⟩ := by kernel_rfl
theorem m_impl_mapParts : modes 38 = ⟨[], .own [none, none, some (31, 2), none, some (34, 5)], none, false⟩ := by unfold modes; rfl

def c_impl_copyFormula : SC := (.seq (.reg [⟨(some 1), none, (.boxv 34 5 (.t 0))⟩, ⟨(some 2), none, (.alloc 34 [(.int .i64 0), (.str ⟨#[]⟩), .nil, (.str ⟨#[]⟩), .nil])⟩]) (.seq (.reg [⟨(some 3), none, (.load true 5 (.t 1))⟩, ⟨(some 4), none, (.call 38 [(.t 3), (.c (.fn 35 []))])⟩, ⟨none, none, (.store 5 (.t 2) (.t 4))⟩]) .ret))
theorem k_impl_copyFormula : codeOf Try.prog 35 = some ⟨5, c_impl_copyFormula, [(.cell 2 true 5)]⟩ := by kernel_rfl
theorem m_impl_copyFormula : modes 35 = ⟨[], .own [none, none, some (31, 2), none, some (34, 5)], none, false⟩ := by unfold modes; rfl

theorem g_impl_copyFormula : goFn Try.prog 35 = true := by kernel_rfl

def c_spec_l8Own : SC := (.seq (.reg [⟨(some 1), none, (.boxv 34 5 (.t 0))⟩, ⟨(some 2), none, (.alloc 34 [(.int .i64 0), (.str ⟨#[]⟩), .nil, (.str ⟨#[]⟩), .nil])⟩]) (.seq (.dreg [[], [0], [], [2], [3, 2], [], [5], [1, 0, 4, 3, 2, 6, 5], [], [8, 7, 1, 0, 4, 3, 2, 6, 5]] [⟨(some 5), none, (.faddr 0 (.t 1))⟩, ⟨(some 6), none, (.load false 1 (.t 5))⟩, ⟨(some 7), none, (.faddr 1 (.t 1))⟩, ⟨(some 8), none, (.load true 2 (.t 7))⟩, ⟨(some 9), none, (.call 45 [(.t 8)])⟩, ⟨(some 10), none, (.faddr 3 (.t 1))⟩, ⟨(some 11), none, (.load false 1 (.t 10))⟩, ⟨(some 12), none, (.build [(.int .i64 0), (.str ⟨#[]⟩), .nil, (.str ⟨#[]⟩), .nil] [(0, (1, (.t 6))), (1, (2, (.t 9))), (3, (1, (.t 11)))])⟩, ⟨(some 3), none, (.alloc 34 [(.int .i64 0), (.str ⟨#[]⟩), .nil, (.str ⟨#[]⟩), .nil])⟩, ⟨none, none, (.store 5 (.t 3) (.t 12))⟩]) (.seq (.seq (.reg [⟨(some 4), none, (.mv (.c (.int .i64 0)))⟩]) (.block 0 (.loop [0, 1, 1, 1, 1, 0, 0, 0, 0, 0, 0, 0, 0, 0, 0, 0, 0, 0, 0, 0, 0, 0, 0, 0, 0, 0, 0, 0, 0, 0, 0, 0] (.seq (.seq (.reg [⟨(some 13), none, (.mv (.t 4))⟩, ⟨(some 14), none, (.faddr 4 (.t 1))⟩, ⟨(some 15), none, (.load false 1 (.t 14))⟩, ⟨(some 16), none, (.len false (.t 15))⟩, ⟨(some 17), none, (.bin .lss false (.t 13) (.t 16))⟩]) (.cond (.t 17) .skip (.exit 0))) (.seq (.block 1 (.dreg [[], [0], [], [2], [], [3, 2, 4], [5, 3, 2, 4], [6, 5, 3, 2, 4], [7, 6, 5, 3, 2, 4], [1, 0, 8, 7, 6, 5, 3, 2, 4], [0, 1, 2, 3, 4, 5, 6, 7, 8, 9], [10, 0, 1, 2, 3, 4, 5, 6, 7, 8, 9]] [⟨(some 20), none, (.faddr 4 (.t 3))⟩, ⟨(some 21), none, (.load false 1 (.t 20))⟩, ⟨(some 22), none, (.faddr 4 (.t 1))⟩, ⟨(some 23), none, (.load false 1 (.t 22))⟩, ⟨(some 24), none, (.mv (.t 4))⟩, ⟨(some 25), none, (.iaddr 5 (.t 23) (.t 24))⟩, ⟨(some 26), none, (.load true 5 (.t 25))⟩, ⟨(some 27), none, (.call 29 [(.t 26)])⟩, ⟨(some 28), none, (.mkrow 34 5 [(.int .i64 0), (.str ⟨#[]⟩), .nil, (.str ⟨#[]⟩), .nil] 1 [(0, (.t 27))])⟩, ⟨(some 29), none, (.append 34 5 88 [(.int .i64 0), (.str ⟨#[]⟩), .nil, (.str ⟨#[]⟩), .nil] (.t 21) (.t 28))⟩, ⟨(some 30), none, (.faddr 4 (.t 3))⟩, ⟨none, none, (.store 1 (.t 30) (.t 29))⟩])) (.reg [⟨(some 18), none, (.mv (.t 4))⟩, ⟨(some 19), none, (.bin .add false (.t 18) (.c (.int .i64 1)))⟩, ⟨(some 4), none, (.mv (.t 19))⟩])))))) (.seq (.reg [⟨(some 31), none, (.load true 5 (.t 3))⟩, ⟨none, none, (.store 5 (.t 2) (.t 31))⟩]) .ret))))
theorem k_spec_l8Own : codeOf Try.prog 29 = some ⟨32, c_spec_l8Own, [(.cell 2 true 5)]⟩ := by kernel_rfl
theorem m_spec_l8Own : modes 29 = ⟨[], .frz, none, false⟩ := by unfold modes; rfl

set_option maxHeartbeats 4000000 in
theorem mapParts_of (fid : Nat) (g : Fm → Fm) (x : Fm) (hl : x.parts.length ≤ 1099511627776) (hat : x.atom.nodes ≤ 1099511627776) (hg : goFn Try.prog fid = true) (hm : (modes fid).hand = []) (hr : ∀ r, lateF (modes fid).res r = r) (hE : ∀ y ∈ x.parts, E fid [y.sv] [] = some ((g y).osv, (g y).obs)) : E 38 [x.sv, .fn fid []] [] = some ((Fm.mk x.op x.atom x.var (x.parts.map g)).osv, (Fm.mk x.op x.atom x.var (x.parts.map g)).obs) := by
  have hct := copyTerm_E x.atom hat
  have h10 : ((1 : Int) = 0) = False := by simp
  have hmm : ∀ ys : List Fm, (ys.map g).map Fm.o = ys.map fun y => Fm.o (g y) := fun ys => by rw [List.map_map]; rfl
  show _ = some (SV.agg [.int .i64 x.op, .str x.atom.name, .ref 0, .str x.var, .ref 1], [Ob.row 31 2 (x.atom.args.map Tm.o), .row 34 5 ((x.parts.map g).map Fm.o)])
  rw [hmm]
  refine E_walk k_impl_mapParts m_impl_mapParts (of_decide_eq_true rfl) ?_
  simp (disch := omega) only [c_impl_mapParts, go_sem, go_cond, Nat.reduceAdd, Nat.reduceSub, Nat.reduceLT, Nat.reduceLeDiff, Nat.reduceEqDiff, Nat.reduceBEq, Nat.reduceBneDiff, Nat.reduceMul, ↓reduceIte, Int.reduceToNat, reduceCtorEq, Int.reduceNeg, Int.reduceAdd, hct, m_impl_copyTerm, Tm.osv, Tm.obs]
  refine go_loop (α := Int) (fun a => ⟨slots 33 0 [(1, .fn fid []), (4, .ptr 0 0), (5, .ptr 1 0), (17, .arr (x.parts.map Fm.d)), (18, .int .i64 x.parts.length), (19, .int .i64 a)], (if a = 0 then [.box 34 [.int .i64 0, .str ⟨#[]⟩, .nil, .str ⟨#[]⟩, .nil], .box 34 [.int .i64 x.op, .str x.atom.name, .ref 2, .str x.var, .nil], .row 31 2 (x.atom.args.map Tm.o)] else [.box 34 [.int .i64 0, .str ⟨#[]⟩, .nil, .str ⟨#[]⟩, .nil], .box 34 [.int .i64 x.op, .str x.atom.name, .ref 2, .str x.var, .ref 3], .row 31 2 (x.atom.args.map Tm.o), .row 34 5 ((x.parts.take a.toNat).map fun y => Fm.o (g y))])⟩) (fun a => ∃ k : Nat, a = k ∧ k ≤ (x.parts).length) (fun a => (x.parts).length - (a).toNat) 0 ⟨0, rfl, Nat.zero_le _⟩ (by simp (disch := omega) only [go_sem, go_cond, Nat.reduceAdd, Nat.reduceSub, Nat.reduceLT, Nat.reduceLeDiff, Nat.reduceEqDiff, Nat.reduceBEq, Nat.reduceBneDiff, Nat.reduceMul, ↓reduceIte, Int.reduceToNat, reduceCtorEq, Int.reduceNeg, Int.reduceAdd, eq_self, if_true]) ?_
  rintro i ⟨k, hi, hk⟩
  have hni : i.toNat = k := by omega
  have hni1 : (i + 1).toNat = k + 1 := by omega
  rcases Nat.lt_or_ge k (x.parts).length with hlt | hge
  · have hgt := get_at Fm.d hlt
    rw [Fm.d_eq] at hgt
    have hc := hE x.parts[k] (List.getElem_mem hlt)
    have hs := map_snoc (fun y => Fm.o (g y)) hlt
    rw [Fm.o_eq] at hs
    rcases Nat.eq_zero_or_pos k with h0 | h0
    · subst h0
      obtain rfl : i = 0 := hi
      rw [List.take_zero, List.map_nil, List.nil_append] at hs
      simp (disch := omega) only [go_sem, go_cond, Nat.reduceAdd, Nat.reduceSub, Nat.reduceLT, Nat.reduceLeDiff, Nat.reduceEqDiff, Nat.reduceBEq, Nat.reduceBneDiff, Nat.reduceMul, ↓reduceIte, Int.reduceToNat, reduceCtorEq, Int.reduceNeg, Int.reduceAdd, hni, hgt, hc, hg, hm, hr, Fm.osv, Fm.obs, eq_self, if_true]
      refine ⟨1, ⟨1, rfl, hlt⟩, by omega, ?_⟩
      simp (disch := omega) only [go_sem, go_cond, Nat.reduceAdd, Nat.reduceSub, Nat.reduceLT, Nat.reduceLeDiff, Nat.reduceEqDiff, Nat.reduceBEq, Nat.reduceBneDiff, Nat.reduceMul, ↓reduceIte, Int.reduceToNat, reduceCtorEq, Int.reduceNeg, Int.reduceAdd, h10, if_false, hs]
    · have hi0 : (i = 0) = False := by simp; omega
      have hi1 : (i + 1 = 0) = False := by simp; omega
      have htl : (x.parts.take k).length = k := by rw [List.length_take]; omega
      simp (disch := omega) only [go_sem, go_cond, Nat.reduceAdd, Nat.reduceSub, Nat.reduceLT, Nat.reduceLeDiff, Nat.reduceEqDiff, Nat.reduceBEq, Nat.reduceBneDiff, Nat.reduceMul, ↓reduceIte, Int.reduceToNat, reduceCtorEq, Int.reduceNeg, Int.reduceAdd, hni, hgt, hc, hg, hm, hr, Fm.osv, Fm.obs, hi0, if_false, htl]
      refine ⟨i + 1, ⟨k + 1, by omega, hlt⟩, by omega, ?_⟩
      simp (disch := omega) only [go_sem, go_cond, Nat.reduceAdd, Nat.reduceSub, Nat.reduceLT, Nat.reduceLeDiff, Nat.reduceEqDiff, Nat.reduceBEq, Nat.reduceBneDiff, Nat.reduceMul, ↓reduceIte, Int.reduceToNat, reduceCtorEq, Int.reduceNeg, Int.reduceAdd, hni1, hi1, if_false, hs]
  · obtain rfl : k = x.parts.length := by omega
    have ht : x.parts.take x.parts.length = x.parts := List.take_length
    rcases Nat.eq_zero_or_pos x.parts.length with h0 | h0
    · have hx : x.parts = [] := List.eq_nil_of_length_eq_zero h0
      obtain rfl : i = 0 := by omega
      simp (disch := omega) only [go_sem, go_cond, Nat.reduceAdd, Nat.reduceSub, Nat.reduceLT, Nat.reduceLeDiff, Nat.reduceEqDiff, Nat.reduceBEq, Nat.reduceBneDiff, Nat.reduceMul, ↓reduceIte, Int.reduceToNat, reduceCtorEq, Int.reduceNeg, Int.reduceAdd, hni, hx, eq_self, if_true, List.map_nil, List.length_nil]
    · have hi0 : (i = 0) = False := by simp; omega
      simp (disch := omega) only [go_sem, go_cond, Nat.reduceAdd, Nat.reduceSub, Nat.reduceLT, Nat.reduceLeDiff, Nat.reduceEqDiff, Nat.reduceBEq, Nat.reduceBneDiff, Nat.reduceMul, ↓reduceIte, Int.reduceToNat, reduceCtorEq, Int.reduceNeg, Int.reduceAdd, hni, hi0, if_false, ht]
theorem copyFormula_of (x : Fm) (ht : x.tame) (hn : x.nodes ≤ 1099511627776) (ih : ∀ y ∈ x.parts, E 35 [y.sv] [] = some (y.osv, y.obs)) : E 35 [x.sv] [] = some (x.osv, x.obs) := by
  have hx := Fm.nodes_eq x
  have hl := Fm.length_le x.parts
  have hat := Fm.tame_at ht
  have h := mapParts_of 35 (fun y => y) x (by omega) (by omega) g_impl_copyFormula (by rw [m_impl_copyFormula]) (fun r => by rw [m_impl_copyFormula]; rfl) ih
  rw [List.map_id', Fm.eta] at h
  refine E_walk k_impl_copyFormula m_impl_copyFormula (of_decide_eq_true rfl) ?_
  simp (disch := omega) only [c_impl_copyFormula, go_sem, go_cond, Nat.reduceAdd, Nat.reduceSub, Nat.reduceLT, Nat.reduceLeDiff, Nat.reduceEqDiff, Nat.reduceBEq, Nat.reduceBneDiff, Nat.reduceMul, ↓reduceIte, Int.reduceToNat, reduceCtorEq, Int.reduceNeg, Int.reduceAdd, h, m_impl_mapParts, Fm.osv, Fm.obs]
theorem copyFormula_E (x : Fm) (ht : x.tame) (hn : x.nodes ≤ 1099511627776) : E 35 [x.sv] [] = some (x.osv, x.obs) :=
  copyFormula_of x ht hn fun y hy => copyFormula_E y (Fm.tame_part ht hy) (by have := Fm.nodes_mem hy; have := Fm.nodes_eq x; omega)
termination_by SizeOf.sizeOf x
decreasing_by exact Fm.lt_of_mem hy
set_option maxHeartbeats 4000000 in
theorem l8Own_of (x : Fm) (ht : x.tame) (hn : x.nodes ≤ 1099511627776) (ih : ∀ y ∈ x.parts, E 29 [y.sv] [] = some (y.sv, [])) : E 29 [x.sv] [] = some (x.sv, []) := by
  have hx0 := Fm.nodes_eq x
  have hl := Fm.length_le x.parts
  have hat := Fm.tame_at ht
  have hct := l2Own_E x.atom (by omega)
  have h10 : ((1 : Int) = 0) = False := by simp
  have hfu := Fm.osh_full x.parts
  have her := Fm.osh_er x.parts
  refine E_walk k_spec_l8Own m_spec_l8Own (of_decide_eq_true rfl) ?_
  simp (disch := omega) only [c_spec_l8Own, go_sem, go_cond, Nat.reduceAdd, Nat.reduceSub, Nat.reduceLT, Nat.reduceLeDiff, Nat.reduceEqDiff, Nat.reduceBEq, Nat.reduceBneDiff, Nat.reduceMul, ↓reduceIte, Int.reduceToNat, reduceCtorEq, Int.reduceNeg, Int.reduceAdd, hct, m_spec_l2Own]
  refine go_loop (α := Int) (fun a => ⟨slots 32 0 [(1, .ptr 0 0), (2, .ptr 1 0), (3, .ptr 2 0), (4, .int .i64 a)], (if a = 0 then [.box 34 [.int .i64 x.op, .str x.atom.name, .arr (x.atom.args.map Tm.d), .str x.var, .arr (x.parts.map Fm.d)], .box 34 [.int .i64 0, .str ⟨#[]⟩, .nil, .str ⟨#[]⟩, .nil], .box 34 [.int .i64 x.op, .str x.atom.name, .arr (x.atom.args.map Tm.d), .str x.var, .nil]] else [.box 34 [.int .i64 x.op, .str x.atom.name, .arr (x.atom.args.map Tm.d), .str x.var, .arr (x.parts.map Fm.d)], .box 34 [.int .i64 0, .str ⟨#[]⟩, .nil, .str ⟨#[]⟩, .nil], .box 34 [.int .i64 x.op, .str x.atom.name, .arr (x.atom.args.map Tm.d), .str x.var, .ref 3], .row 34 5 ((x.parts.take a.toNat).map Fm.osh)])⟩) (fun a => ∃ k : Nat, a = k ∧ k ≤ (x.parts).length) (fun a => (x.parts).length - (a).toNat) 0 ⟨0, rfl, Nat.zero_le _⟩ (by simp (disch := omega) only [go_sem, go_cond, Nat.reduceAdd, Nat.reduceSub, Nat.reduceLT, Nat.reduceLeDiff, Nat.reduceEqDiff, Nat.reduceBEq, Nat.reduceBneDiff, Nat.reduceMul, ↓reduceIte, Int.reduceToNat, reduceCtorEq, Int.reduceNeg, Int.reduceAdd, eq_self, if_true]) ?_
  rintro i ⟨k, hi, hk⟩
  have hni : i.toNat = k := by omega
  have hni1 : (i + 1).toNat = k + 1 := by omega
  rcases Nat.lt_or_ge k (x.parts).length with hlt | hge
  · have hg := get_at Fm.d hlt
    rw [Fm.d_eq] at hg
    have hc := ih x.parts[k] (List.getElem_mem hlt)
    have hs := map_snoc Fm.osh hlt
    rw [Fm.osh_eq] at hs
    rcases Nat.eq_zero_or_pos k with h0 | h0
    · subst h0
      obtain rfl : i = 0 := hi
      rw [List.take_zero, List.map_nil, List.nil_append] at hs
      simp (disch := omega) only [go_sem, go_cond, Nat.reduceAdd, Nat.reduceSub, Nat.reduceLT, Nat.reduceLeDiff, Nat.reduceEqDiff, Nat.reduceBEq, Nat.reduceBneDiff, Nat.reduceMul, ↓reduceIte, Int.reduceToNat, reduceCtorEq, Int.reduceNeg, Int.reduceAdd, hni, hg, hc, m_spec_l8Own, eq_self, if_true]
      refine ⟨1, ⟨1, rfl, hlt⟩, by omega, ?_⟩
      simp (disch := omega) only [go_sem, go_cond, Nat.reduceAdd, Nat.reduceSub, Nat.reduceLT, Nat.reduceLeDiff, Nat.reduceEqDiff, Nat.reduceBEq, Nat.reduceBneDiff, Nat.reduceMul, ↓reduceIte, Int.reduceToNat, reduceCtorEq, Int.reduceNeg, Int.reduceAdd, h10, if_false, hs]
    · have hi0 : (i = 0) = False := by simp; omega
      have hi1 : (i + 1 = 0) = False := by simp; omega
      have htl : (x.parts.take k).length = k := by rw [List.length_take]; omega
      simp (disch := omega) only [go_sem, go_cond, Nat.reduceAdd, Nat.reduceSub, Nat.reduceLT, Nat.reduceLeDiff, Nat.reduceEqDiff, Nat.reduceBEq, Nat.reduceBneDiff, Nat.reduceMul, ↓reduceIte, Int.reduceToNat, reduceCtorEq, Int.reduceNeg, Int.reduceAdd, hni, hg, hc, m_spec_l8Own, hi0, if_false, htl]
      refine ⟨i + 1, ⟨k + 1, by omega, hlt⟩, by omega, ?_⟩
      simp (disch := omega) only [go_sem, go_cond, Nat.reduceAdd, Nat.reduceSub, Nat.reduceLT, Nat.reduceLeDiff, Nat.reduceEqDiff, Nat.reduceBEq, Nat.reduceBneDiff, Nat.reduceMul, ↓reduceIte, Int.reduceToNat, reduceCtorEq, Int.reduceNeg, Int.reduceAdd, hni1, hi1, if_false, hs]
  · obtain rfl : k = x.parts.length := by omega
    have ht2 : x.parts.take x.parts.length = x.parts := List.take_length
    rcases Nat.eq_zero_or_pos x.parts.length with h0 | h0
    · have hx : x.parts = [] := List.eq_nil_of_length_eq_zero h0
      obtain rfl : i = 0 := by omega
      simp (disch := omega) only [go_sem, go_cond, Nat.reduceAdd, Nat.reduceSub, Nat.reduceLT, Nat.reduceLeDiff, Nat.reduceEqDiff, Nat.reduceBEq, Nat.reduceBneDiff, Nat.reduceMul, ↓reduceIte, Int.reduceToNat, reduceCtorEq, Int.reduceNeg, Int.reduceAdd, hni, hx, eq_self, if_true, List.map_nil, List.length_nil]
    · have hi0 : (i = 0) = False := by simp; omega
      simp (disch := omega) only [go_sem, go_cond, Nat.reduceAdd, Nat.reduceSub, Nat.reduceLT, Nat.reduceLeDiff, Nat.reduceEqDiff, Nat.reduceBEq, Nat.reduceBneDiff, Nat.reduceMul, ↓reduceIte, Int.reduceToNat, reduceCtorEq, Int.reduceNeg, Int.reduceAdd, hni, hi0, if_false, ht2, hfu, her]
theorem l8Own_E (x : Fm) (ht : x.tame) (hn : x.nodes ≤ 1099511627776) : E 29 [x.sv] [] = some (x.sv, []) :=
  l8Own_of x ht hn fun y hy => l8Own_E y (Fm.tame_part ht hy) (by have := Fm.nodes_mem hy; have := Fm.nodes_eq x; omega)
termination_by SizeOf.sizeOf x
decreasing_by exact Fm.lt_of_mem hy
end Go.Proofs.Ytjgnhifkcgpmjaa

set_option maxRecDepth 100000
set_option linter.unusedSimpArgs false
set_option linter.unusedVariables false
namespace Go.Proofs.Ytjgnhifkcgpmjaa
open Go.RowKit

/-- Whether an operator is a quantifier. -/
noncomputable def qB (op : Int) : Bool := dec (op = 8) || dec (op = 9)
theorem Fm.mk_op (a : Int) (b : Tm) (c : ByteArray) (d : List Fm) : (Fm.mk a b c d).op = a ∧ (Fm.mk a b c d).atom = b ∧ (Fm.mk a b c d).var = c ∧ (Fm.mk a b c d).parts = d := ⟨rfl, rfl, rfl, rfl⟩
theorem Tm.isZ_eq {x : Tm} (h : x.isZ = true) : x = .mk ⟨#[]⟩ [] := by
  obtain ⟨n, a⟩ := x
  unfold Tm.isZ at h
  rw [Bool.and_eq_true] at h
  have h1 : n = ⟨#[]⟩ := dec_iff.1 h.1
  have h3 : (a.length == 0) = true := h.2
  have h2 : a = [] := List.eq_nil_of_length_eq_zero (by simpa using h3)
  rw [h1, h2]
theorem Tm.atom_nodes {x : Tm} (h : x.atom = true) : x.nodes ≤ 30 := by
  have key : x.small = true := by
    unfold Tm.atom at h
    split at h
    · rw [Bool.and_eq_true, Bool.and_eq_true] at h; exact h.1.2
    · rw [Bool.and_eq_true] at h
      have h2 := h.2
      unfold Tm.valid at h2
      rw [Bool.and_eq_true] at h2; exact h2.1
  unfold Tm.small at key
  rw [Bool.and_eq_true, decide_eq_true_eq] at key
  exact key.1
/-- What the form says of a formula. -/
theorem Fm.form_atom {x : Fm} (h : x.form = true) (ho : x.op = 3) : x.parts = [] ∧ x.atom.atom = true ∧ x.var = ⟨#[]⟩ := by
  unfold Fm.form at h
  simp only [ho] at h
  simp at h
  exact ⟨h.1.1, h.1.2, dec_iff.1 h.2⟩
theorem Fm.form_other {x : Fm} (h : x.form = true) (ho : ¬ x.op = 3) : x.atom = .mk ⟨#[]⟩ [] := by
  unfold Fm.form at h
  split at h
  · rw [Bool.and_eq_true, Bool.and_eq_true] at h; exact Tm.isZ_eq h.1.2
  · try rw [if_neg ho] at h
    split at h
    · rw [Bool.and_eq_true, Bool.and_eq_true] at h; exact Tm.isZ_eq h.1.2
    · split at h
      · rw [Bool.and_eq_true, Bool.and_eq_true] at h; exact Tm.isZ_eq h.1.2
      · split at h
        · rw [Bool.and_eq_true, Bool.and_eq_true] at h; exact Tm.isZ_eq h.1.2
        · cases h
theorem Fm.form_quant {x : Fm} (h : x.form = true) (ho : qB x.op = true) : varB x.var = true ∧ ∃ p, x.parts = [p] := by
  unfold qB at ho
  rw [Bool.or_eq_true, dec_iff, dec_iff] at ho
  unfold Fm.form at h
  rw [if_neg (by omega), if_neg (by omega), if_neg (by omega), if_neg (by omega), if_pos (by omega), Bool.and_eq_true, Bool.and_eq_true] at h
  refine ⟨h.2, ?_⟩
  have hl : x.parts.length = 1 := by simpa using h.1.1
  match hq : x.parts, hl with
  | [p], _ => exact ⟨p, rfl⟩
theorem Fm.forms_part {x y : Fm} (h : x.forms = true) (hy : y ∈ x.parts) : y.forms = true := by
  rw [Fm.forms_eq, Bool.and_eq_true, Fm.formS_all, List.all_eq_true] at h
  exact h.2 y hy
theorem Fm.forms_form {x : Fm} (h : x.forms = true) : x.form = true := by
  rw [Fm.forms_eq, Bool.and_eq_true] at h
  exact h.1
theorem Fm.atom_le {x : Fm} (h : x.form = true) : x.atom.nodes ≤ 30 := by
  by_cases ho : x.op = 3
  · exact Tm.atom_nodes (Fm.form_atom h ho).2.1
  · rw [Fm.form_other h ho, Tm.nodes_eq]
    simp [Tm.args, Tm.nodeS]
theorem Fm.forms_tame (x : Fm) (h : x.forms = true) : x.tame := by
  have key : ∀ xs : List Fm, (∀ y ∈ xs, y.tame) → Fm.tameS xs := by
    intro xs
    induction xs with
    | nil => intro _; rw [Fm.tameS]; trivial
    | cons y ys ih => intro hh; rw [Fm.tameS]; exact ⟨hh y (by simp), ih fun z hz => hh z (by simp [hz])⟩
  have h1 := Fm.atom_le (Fm.forms_form h)
  rw [Fm.tame_eq]
  exact ⟨by omega, key _ fun y hy => Fm.forms_tame y (Fm.forms_part h hy)⟩
termination_by SizeOf.sizeOf x
decreasing_by exact Fm.lt_of_mem hy
end Go.Proofs.Ytjgnhifkcgpmjaa

set_option maxRecDepth 100000
set_option linter.unusedSimpArgs false
set_option linter.unusedVariables false
namespace Go.Proofs.Ytjgnhifkcgpmjaa
open Go.RowKit

def Fm.notF (x : Fm) : Fm := .mk 4 Tm.zero ⟨#[]⟩ [x]
def Fm.pairF (op : Int) (x y : Fm) : Fm := .mk op Tm.zero ⟨#[]⟩ [x, y]
noncomputable def turn (op : Int) : Int := bif dec (op = 1) then 2 else bif dec (op = 2) then 1 else bif dec (op = 5) then 6 else bif dec (op = 6) then 5 else bif dec (op = 8) then 9 else bif dec (op = 9) then 8 else 0
noncomputable def Fm.nnfC (op : Int) (atom : Tm) (var : ByteArray) (parts : List Fm) (b : Bool) (ys zs : List Fm) : Fm :=
  bif dec (op = 3) then (bif b then .mk op atom var parts else Fm.notF (.mk op atom var parts))
  else bif dec (op = 4) then zs.headD Fm.zero
  else bif dec (op = 7) then Fm.pairF (bif b then 6 else 5) (zs.headD Fm.zero) ((ys.drop 1).headD Fm.zero)
  else .mk (bif b then op else turn op) atom var ys
mutual
noncomputable def Fm.nnf : Fm → Bool → Fm
  | .mk op atom var parts, b => Fm.nnfC op atom var parts b (Fm.nnfS parts b) (Fm.nnfS parts (!b))
noncomputable def Fm.nnfS : List Fm → Bool → List Fm
  | [], _ => []
  | x :: xs, b => Fm.nnf x b :: Fm.nnfS xs b
end
theorem Fm.nnfS_map (b : Bool) : ∀ xs : List Fm, Fm.nnfS xs b = xs.map fun y => y.nnf b
  | [] => by rw [Fm.nnfS]; rfl
  | x :: xs => by rw [Fm.nnfS, Fm.nnfS_map b xs]; rfl
theorem Fm.nnf_eq (x : Fm) (b : Bool) : x.nnf b = Fm.nnfC x.op x.atom x.var x.parts b (x.parts.map fun y => y.nnf b) (x.parts.map fun y => y.nnf (!b)) := by
  obtain ⟨op, atom, var, parts⟩ := x
  rw [Fm.nnf, Fm.nnfS_map, Fm.nnfS_map]; rfl
/-- What the form says of a formula that is neither atom nor quantified. -/
theorem Fm.form_none {x : Fm} (h : x.form = true) (ho : x.op = 1 ∨ x.op = 2) : x = .mk x.op Tm.zero ⟨#[]⟩ [] := by
  have ha := Fm.form_other h (by omega)
  unfold Fm.form at h
  rw [if_pos ho, Bool.and_eq_true, Bool.and_eq_true] at h
  have hl : x.parts.length = 0 := by simpa using h.1.1
  have hp : x.parts = [] := List.eq_nil_of_length_eq_zero hl
  have hv : x.var = ⟨#[]⟩ := dec_iff.1 h.2
  obtain ⟨op, atom, var, parts⟩ := x
  change atom = _ at ha
  change parts = _ at hp
  change var = _ at hv
  subst ha hp hv; rfl
theorem Fm.form_not {x : Fm} (h : x.form = true) (ho : x.op = 4) : ∃ p, x = .mk 4 Tm.zero ⟨#[]⟩ [p] := by
  have ha := Fm.form_other h (by omega)
  unfold Fm.form at h
  rw [if_neg (by omega), if_neg (by omega), if_pos ho, Bool.and_eq_true, Bool.and_eq_true] at h
  have hl : x.parts.length = 1 := by simpa using h.1.1
  have hv : x.var = ⟨#[]⟩ := dec_iff.1 h.2
  obtain ⟨op, atom, var, parts⟩ := x
  change atom = _ at ha
  change parts.length = _ at hl
  change var = _ at hv
  change op = _ at ho
  subst ha hv ho
  match parts, hl with
  | [p], _ => exact ⟨p, rfl⟩
theorem Fm.form_two {x : Fm} (h : x.form = true) (ho : x.op = 5 ∨ x.op = 6 ∨ x.op = 7) : ∃ p q, x = .mk x.op Tm.zero ⟨#[]⟩ [p, q] := by
  have ha := Fm.form_other h (by omega)
  unfold Fm.form at h
  rw [if_neg (by omega), if_neg (by omega), if_neg (by omega), if_pos ho, Bool.and_eq_true, Bool.and_eq_true] at h
  have hl : x.parts.length = 2 := by simpa using h.1.1
  have hv : x.var = ⟨#[]⟩ := dec_iff.1 h.2
  obtain ⟨op, atom, var, parts⟩ := x
  change atom = _ at ha
  change parts.length = _ at hl
  change var = _ at hv
  subst ha hv
  match parts, hl with
  | [p, q], _ => exact ⟨p, q, rfl⟩
theorem Fm.form_q {x : Fm} (h : x.form = true) (ho : x.op = 8 ∨ x.op = 9) : ∃ p, x = .mk x.op Tm.zero x.var [p] := by
  have ha := Fm.form_other h (by omega)
  obtain ⟨_, p, hp⟩ := Fm.form_quant h (by unfold qB; rw [Bool.or_eq_true, dec_iff, dec_iff]; exact ho)
  obtain ⟨op, atom, var, parts⟩ := x
  change atom = _ at ha
  change parts = _ at hp
  subst ha hp
  exact ⟨p, rfl⟩
theorem Fm.form_ops {x : Fm} (h : x.form = true) : x.op = 1 ∨ x.op = 2 ∨ x.op = 3 ∨ x.op = 4 ∨ x.op = 5 ∨ x.op = 6 ∨ x.op = 7 ∨ x.op = 8 ∨ x.op = 9 := by
  rcases op_cases x.op with h1 | h1 | h1 | h1 | h1 | h1 | h1 | h1 | h1 | h1 <;> try omega
  unfold Fm.form at h
  rw [if_neg (by omega), if_neg (by omega), if_neg (by omega), if_neg (by omega), if_neg (by omega)] at h
  cases h
theorem Tm.zero_nodes : Tm.zero.nodes = 1 := by rw [Tm.nodes_eq]; show 1 + Tm.nodeS [] = 1; rw [Tm.nodeS]
theorem Fm.tame_mk {op : Int} {t : Tm} {v : ByteArray} {ps : List Fm} : (Fm.mk op t v ps).tame = (t.nodes ≤ 1099511627776 ∧ Fm.tameS ps) := Fm.tame_eq _
theorem Fm.nodes_mk {op : Int} {t : Tm} {v : ByteArray} {ps : List Fm} : (Fm.mk op t v ps).nodes = 1 + Fm.nodeS ps := Fm.nodes_eq _
/-- The negation normal form is small. -/
theorem Fm.nnf_small (x : Fm) (h : x.forms = true) (b : Bool) : (x.nnf b).tame ∧ (x.nnf b).nodes ≤ 2 * x.nodes := by
  have ih : ∀ y ∈ x.parts, ∀ b, (y.nnf b).tame ∧ (y.nnf b).nodes ≤ 2 * y.nodes := fun y hy b => Fm.nnf_small y (Fm.forms_part h hy) b
  have ht := Fm.forms_tame x h
  have hf := Fm.forms_form h
  have hz := Tm.zero_nodes
  rw [Fm.nnf_eq]
  unfold Fm.nnfC
  rcases Fm.form_ops hf with h1 | h1 | h1 | h1 | h1 | h1 | h1 | h1 | h1
  · rw [dec_f (p := x.op = 3) (by omega), dec_f (p := x.op = 4) (by omega), dec_f (p := x.op = 7) (by omega)]
    have e := Fm.form_none hf (by omega)
    have hp : x.parts = [] := by rw [e]; rfl
    have ha : x.atom = Tm.zero := by rw [e]; rfl
    have hx := Fm.nodes_pos x
    simp only [cond_false, hp, ha, List.map_nil, Fm.tame_mk, Fm.nodes_mk, Fm.tameS, Fm.nodeS, hz]
    exact ⟨⟨by omega, trivial⟩, by omega⟩
  · rw [dec_f (p := x.op = 3) (by omega), dec_f (p := x.op = 4) (by omega), dec_f (p := x.op = 7) (by omega)]
    have e := Fm.form_none hf (by omega)
    have hp : x.parts = [] := by rw [e]; rfl
    have ha : x.atom = Tm.zero := by rw [e]; rfl
    have hx := Fm.nodes_pos x
    simp only [cond_false, hp, ha, List.map_nil, Fm.tame_mk, Fm.nodes_mk, Fm.tameS, Fm.nodeS, hz]
    exact ⟨⟨by omega, trivial⟩, by omega⟩
  · rw [dec_t h1]
    have hx : Fm.mk x.op x.atom x.var x.parts = x := by obtain ⟨_, _, _, _⟩ := x; rfl
    have hn := Fm.nodes_pos x
    cases b with
    | true => simp only [cond_true, hx]; exact ⟨ht, by omega⟩
    | false =>
      simp only [cond_true, cond_false, hx, Fm.notF, Fm.tame_mk, Fm.nodes_mk, Fm.tameS, Fm.nodeS, hz]
      exact ⟨⟨by omega, ht, trivial⟩, by omega⟩
  · rw [dec_f (p := x.op = 3) (by omega), dec_t h1]
    obtain ⟨p, e⟩ := Fm.form_not hf h1
    have hp : x.parts = [p] := by rw [e]; rfl
    have hi := ih p (by rw [hp]; simp) (!b)
    have hn := Fm.nodes_eq x
    rw [hp, Fm.nodeS, Fm.nodeS] at hn
    simp only [cond_true, cond_false, hp, List.map_cons, List.headD_cons]
    exact ⟨hi.1, by omega⟩
  · rw [dec_f (p := x.op = 3) (by omega), dec_f (p := x.op = 4) (by omega), dec_f (p := x.op = 7) (by omega)]
    obtain ⟨p, q, e⟩ := Fm.form_two hf (by omega)
    have hp : x.parts = [p, q] := by rw [e]; rfl
    have ha : x.atom = Tm.zero := by rw [e]; rfl
    have hi := ih p (by rw [hp]; simp) b
    have hj := ih q (by rw [hp]; simp) b
    have hn := Fm.nodes_eq x
    rw [hp, Fm.nodeS, Fm.nodeS, Fm.nodeS] at hn
    simp only [cond_true, cond_false, hp, ha, List.map_cons, List.map_nil, Fm.tame_mk, Fm.nodes_mk, Fm.tameS, Fm.nodeS, hz]
    exact ⟨⟨by omega, hi.1, hj.1, trivial⟩, by omega⟩
  · rw [dec_f (p := x.op = 3) (by omega), dec_f (p := x.op = 4) (by omega), dec_f (p := x.op = 7) (by omega)]
    obtain ⟨p, q, e⟩ := Fm.form_two hf (by omega)
    have hp : x.parts = [p, q] := by rw [e]; rfl
    have ha : x.atom = Tm.zero := by rw [e]; rfl
    have hi := ih p (by rw [hp]; simp) b
    have hj := ih q (by rw [hp]; simp) b
    have hn := Fm.nodes_eq x
    rw [hp, Fm.nodeS, Fm.nodeS, Fm.nodeS] at hn
    simp only [cond_true, cond_false, hp, ha, List.map_cons, List.map_nil, Fm.tame_mk, Fm.nodes_mk, Fm.tameS, Fm.nodeS, hz]
    exact ⟨⟨by omega, hi.1, hj.1, trivial⟩, by omega⟩
  · rw [dec_f (p := x.op = 3) (by omega), dec_f (p := x.op = 4) (by omega), dec_t h1]
    obtain ⟨p, q, e⟩ := Fm.form_two hf (by omega)
    have hp : x.parts = [p, q] := by rw [e]; rfl
    have hi := ih p (by rw [hp]; simp) (!b)
    have hj := ih q (by rw [hp]; simp) b
    have hn := Fm.nodes_eq x
    rw [hp, Fm.nodeS, Fm.nodeS, Fm.nodeS] at hn
    simp only [cond_true, cond_false, hp, List.map_cons, List.map_nil, List.headD_cons, List.drop_succ_cons, List.drop_zero, Fm.pairF, Fm.tame_mk, Fm.nodes_mk, Fm.tameS, Fm.nodeS, hz]
    exact ⟨⟨by omega, hi.1, hj.1, trivial⟩, by omega⟩
  all_goals
    rw [dec_f (p := x.op = 3) (by omega), dec_f (p := x.op = 4) (by omega), dec_f (p := x.op = 7) (by omega)]
    obtain ⟨p, e⟩ := Fm.form_q hf (by omega)
    have hp : x.parts = [p] := by rw [e]; rfl
    have ha : x.atom = Tm.zero := by rw [e]; rfl
    have hi := ih p (by rw [hp]; simp) b
    have hn := Fm.nodes_eq x
    rw [hp, Fm.nodeS, Fm.nodeS] at hn
    simp only [cond_true, cond_false, hp, ha, List.map_cons, List.map_nil, Fm.tame_mk, Fm.nodes_mk, Fm.tameS, Fm.nodeS, hz]
    exact ⟨⟨by omega, hi.1, trivial⟩, by omega⟩
termination_by SizeOf.sizeOf x
decreasing_by exact Fm.lt_of_mem hy
noncomputable def nnfOk (x : Fm) : Bool := x.valid && (x.nnf true).valid
noncomputable def nnfTo (x : Fm) : Fm := bif nnfOk x then x.nnf true else Fm.zero
end Go.Proofs.Ytjgnhifkcgpmjaa

set_option maxRecDepth 100000
set_option linter.unusedSimpArgs false
set_option linter.unusedVariables false
namespace Go.Proofs.Ytjgnhifkcgpmjaa
open Go.RowKit

def c_impl_ifFormula : SC := (.seq (.reg [⟨(some 1), none, (.boxv 34 5 (.t 0))⟩, ⟨(some 2), none, (.alloc 34 [(.int .i64 0), (.str ⟨#[]⟩), .nil, (.str ⟨#[]⟩), .nil])⟩, ⟨(some 3), none, (.mv (.c (.bool false)))⟩]) (.seq (.seq (.reg [⟨(some 4), none, (.load true 5 (.t 1))⟩, ⟨(some 5), none, (.call 17 [(.t 4)])⟩, ⟨(some 6), none, (.un .not (.t 5))⟩]) (.cond (.t 6) (.seq (.reg [⟨(some 7), none, (.build [(.int .i64 0), (.str ⟨#[]⟩), .nil, (.str ⟨#[]⟩), .nil] [])⟩, ⟨none, none, (.store 5 (.t 2) (.t 7))⟩, ⟨(some 3), none, (.mv (.c (.bool false)))⟩]) .ret) .skip)) (.seq (.reg [⟨(some 8), none, (.load true 5 (.t 1))⟩, ⟨none, none, (.store 5 (.t 2) (.t 8))⟩, ⟨(some 3), none, (.mv (.c (.bool true)))⟩]) .ret)))
theorem k_impl_ifFormula : codeOf Try.prog 18 = some ⟨9, c_impl_ifFormula, [(.cell 2 true 5), (.tmp 3)]⟩ := by kernel_rfl
theorem m_impl_ifFormula : modes 18 = ⟨[true], .own [none, none, some (31, 2), none, some (34, 5), none], none, false⟩ := by unfold modes; rfl

theorem ifFormula_yes (y : Fm) (hy : y.tame) (hn : y.nodes ≤ 1099511627776) (hv : y.valid = true) : E 18 [y.osv] y.obs = some (.tup [y.osv, .bool true], y.obs) := by
  have h := isValidFormula_E y hy hn
  rw [hv] at h
  refine E_walk k_impl_ifFormula m_impl_ifFormula (of_decide_eq_true rfl) ?_
  simp (disch := omega) only [c_impl_ifFormula, go_sem, go_cond, Nat.reduceAdd, Nat.reduceSub, Nat.reduceLT, Nat.reduceLeDiff, Nat.reduceEqDiff, Nat.reduceBEq, Nat.reduceBneDiff, Nat.reduceMul, ↓reduceIte, Int.reduceToNat, reduceCtorEq, Int.reduceNeg, Int.reduceAdd, h, m_impl_IsValidFormula, Fm.osv, Fm.obs, Tm.erss, Tm.noss, Fm.erss, Fm.noss]
theorem ifFormula_no (y : Fm) (hy : y.tame) (hn : y.nodes ≤ 1099511627776) (hv : y.valid = false) : E 18 [y.osv] y.obs = some (.tup [.agg [.int .i64 0, .str ⟨#[]⟩, .ref 2, .str ⟨#[]⟩, .ref 3], .bool false], [.row 31 2 (y.atom.args.map Tm.o), .row 34 5 (y.parts.map Fm.o), .row 31 2 [], .row 34 5 []]) := by
  have h := isValidFormula_E y hy hn
  rw [hv] at h
  refine E_walk k_impl_ifFormula m_impl_ifFormula (of_decide_eq_true rfl) ?_
  simp (disch := omega) only [c_impl_ifFormula, go_sem, go_cond, Nat.reduceAdd, Nat.reduceSub, Nat.reduceLT, Nat.reduceLeDiff, Nat.reduceEqDiff, Nat.reduceBEq, Nat.reduceBneDiff, Nat.reduceMul, ↓reduceIte, Int.reduceToNat, reduceCtorEq, Int.reduceNeg, Int.reduceAdd, h, m_impl_IsValidFormula, Fm.osv, Fm.obs, Tm.erss, Tm.noss, Fm.erss, Fm.noss]
end Go.Proofs.Ytjgnhifkcgpmjaa

set_option maxRecDepth 100000
set_option linter.unusedSimpArgs false
set_option linter.unusedVariables false
namespace Go.Proofs.Ytjgnhifkcgpmjaa
open Go.RowKit

def c_impl_not : SC := (.seq (.reg [⟨(some 1), none, (.boxv 34 5 (.t 0))⟩, ⟨(some 2), none, (.alloc 34 [(.int .i64 0), (.str ⟨#[]⟩), .nil, (.str ⟨#[]⟩), .nil])⟩]) (.seq (.reg [⟨(some 3), none, (.load true 5 (.t 1))⟩, ⟨(some 4), none, (.mkrow 34 5 [(.int .i64 0), (.str ⟨#[]⟩), .nil, (.str ⟨#[]⟩), .nil] 1 [(0, (.t 3))])⟩, ⟨(some 5), none, (.build [(.int .i64 0), (.str ⟨#[]⟩), .nil, (.str ⟨#[]⟩), .nil] [(0, (1, (.c (.int .i64 4)))), (4, (1, (.t 4)))])⟩, ⟨none, none, (.store 5 (.t 2) (.t 5))⟩]) .ret))
theorem k_impl_not : codeOf Try.prog 36 = some ⟨6, c_impl_not, [(.cell 2 true 5)]⟩ := by kernel_rfl
theorem m_impl_not : modes 36 = ⟨[true], .own [none, none, some (31, 2), none, some (34, 5)], none, false⟩ := by unfold modes; rfl

def c_impl_binary : SC := (.seq (.reg [⟨(some 4), none, (.boxv 34 5 (.t 1))⟩, ⟨(some 5), none, (.boxv 34 5 (.t 2))⟩, ⟨(some 6), none, (.alloc 34 [(.int .i64 0), (.str ⟨#[]⟩), .nil, (.str ⟨#[]⟩), .nil])⟩]) (.seq (.reg [⟨(some 7), none, (.mv (.t 0))⟩, ⟨(some 8), none, (.load true 5 (.t 4))⟩, ⟨(some 9), none, (.load true 5 (.t 5))⟩, ⟨(some 10), none, (.mkrow 34 5 [(.int .i64 0), (.str ⟨#[]⟩), .nil, (.str ⟨#[]⟩), .nil] 2 [(0, (.t 8)), (1, (.t 9))])⟩, ⟨(some 11), none, (.build [(.int .i64 0), (.str ⟨#[]⟩), .nil, (.str ⟨#[]⟩), .nil] [(0, (1, (.t 7))), (4, (1, (.t 10)))])⟩, ⟨none, none, (.store 5 (.t 6) (.t 11))⟩]) .ret))
theorem k_impl_binary : codeOf Try.prog 37 = some ⟨12, c_impl_binary, [(.cell 6 true 5)]⟩ := by kernel_rfl
theorem m_impl_binary : modes 37 = ⟨[false, true, true], .own [none, none, some (31, 2), none, some (34, 5)], none, false⟩ := by unfold modes; rfl

def c_impl_nnf : SC := (.seq (.reg [⟨(some 2), none, (.boxv 34 5 (.t 0))⟩, ⟨(some 3), none, (.boxv 4 1 (.t 1))⟩, ⟨(some 4), none, (.alloc 34 [(.int .i64 0), (.str ⟨#[]⟩), .nil, (.str ⟨#[]⟩), .nil])⟩]) (.seq (.reg [⟨(some 8), none, (.mkmap false none)⟩, ⟨none, none, (.mset false (.t 8) (.c (.int .i64 1)) (.c (.int .i64 2)))⟩, ⟨none, none, (.mset false (.t 8) (.c (.int .i64 2)) (.c (.int .i64 1)))⟩, ⟨none, none, (.mset false (.t 8) (.c (.int .i64 5)) (.c (.int .i64 6)))⟩, ⟨none, none, (.mset false (.t 8) (.c (.int .i64 6)) (.c (.int .i64 5)))⟩, ⟨none, none, (.mset false (.t 8) (.c (.int .i64 8)) (.c (.int .i64 9)))⟩, ⟨none, none, (.mset false (.t 8) (.c (.int .i64 9)) (.c (.int .i64 8)))⟩, ⟨(some 9), none, (.mv (.t 8))⟩, ⟨(some 5), none, (.mv (.t 9))⟩]) (.seq (.seq (.reg [⟨(some 10), none, (.faddr 0 (.t 2))⟩, ⟨(some 11), none, (.load false 1 (.t 10))⟩]) (.block 0 (.seq (.reg [⟨(some 13), none, (.bin .eql false (.t 11) (.c (.int .i64 3)))⟩, ⟨(some 12), none, (.mv (.t 13))⟩]) (.cond (.t 12) (.seq (.seq (.reg [⟨(some 14), none, (.load false 1 (.t 3))⟩]) (.cond (.t 14) (.seq (.reg [⟨(some 15), none, (.load true 5 (.t 2))⟩, ⟨(some 16), none, (.call 35 [(.t 15)])⟩, ⟨none, none, (.store 5 (.t 4) (.t 16))⟩]) .ret) .skip)) (.seq (.reg [⟨(some 17), none, (.load true 5 (.t 2))⟩, ⟨(some 18), none, (.call 35 [(.t 17)])⟩, ⟨(some 19), none, (.call 36 [(.t 18)])⟩, ⟨none, none, (.store 5 (.t 4) (.t 19))⟩]) .ret)) (.seq (.reg [⟨(some 21), none, (.bin .eql false (.t 11) (.c (.int .i64 4)))⟩, ⟨(some 20), none, (.mv (.t 21))⟩]) (.cond (.t 20) (.seq (.dreg [[], [0], [1, 0], [2, 1, 0], [], [4], [3, 2, 1, 0, 5, 4], [6, 3, 2, 1, 0, 5, 4]] [⟨(some 22), none, (.faddr 4 (.t 2))⟩, ⟨(some 23), none, (.load false 1 (.t 22))⟩, ⟨(some 24), none, (.iaddr 5 (.t 23) (.c (.int .i64 0)))⟩, ⟨(some 25), none, (.load true 5 (.t 24))⟩, ⟨(some 26), none, (.load false 1 (.t 3))⟩, ⟨(some 27), none, (.un .not (.t 26))⟩, ⟨(some 28), none, (.call 19 [(.t 25), (.t 27)])⟩, ⟨none, none, (.store 5 (.t 4) (.t 28))⟩]) .ret) (.seq (.reg [⟨(some 30), none, (.bin .eql false (.t 11) (.c (.int .i64 7)))⟩, ⟨(some 29), none, (.mv (.t 30))⟩]) (.cond (.t 29) (.seq (.reg [⟨(some 6), none, (.mv (.c (.int .i64 6)))⟩]) (.seq (.seq (.reg [⟨(some 31), none, (.load false 1 (.t 3))⟩, ⟨(some 32), none, (.un .not (.t 31))⟩]) (.cond (.t 32) (.reg [⟨(some 6), none, (.mv (.c (.int .i64 5)))⟩]) .skip)) (.seq (.dreg [[], [], [1], [2, 1], [3, 2, 1], [], [5], [4, 3, 2, 1, 6, 5], [], [8], [9, 8], [10, 9, 8], [], [11, 10, 9, 8, 12, 7, 4, 3, 2, 1, 6, 5], [0, 7, 4, 3, 2, 1, 6, 5, 13, 11, 10, 9, 8, 12], [14, 0, 7, 4, 3, 2, 1, 6, 5, 13, 11, 10, 9, 8, 12]] [⟨(some 33), none, (.mv (.t 6))⟩, ⟨(some 34), none, (.faddr 4 (.t 2))⟩, ⟨(some 35), none, (.load false 1 (.t 34))⟩, ⟨(some 36), none, (.iaddr 5 (.t 35) (.c (.int .i64 0)))⟩, ⟨(some 37), none, (.load true 5 (.t 36))⟩, ⟨(some 38), none, (.load false 1 (.t 3))⟩, ⟨(some 39), none, (.un .not (.t 38))⟩, ⟨(some 40), none, (.call 19 [(.t 37), (.t 39)])⟩, ⟨(some 41), none, (.faddr 4 (.t 2))⟩, ⟨(some 42), none, (.load false 1 (.t 41))⟩, ⟨(some 43), none, (.iaddr 5 (.t 42) (.c (.int .i64 1)))⟩, ⟨(some 44), none, (.load true 5 (.t 43))⟩, ⟨(some 45), none, (.load false 1 (.t 3))⟩, ⟨(some 46), none, (.call 19 [(.t 44), (.t 45)])⟩, ⟨(some 47), none, (.call 37 [(.t 33), (.t 40), (.t 46)])⟩, ⟨none, none, (.store 5 (.t 4) (.t 47))⟩]) .ret))) .skip)))))))) (.seq (.reg [⟨(some 48), none, (.load true 5 (.t 2))⟩, ⟨(some 49), none, (.mkfn 39 [(.t 3)])⟩, ⟨(some 50), none, (.call 38 [(.t 48), (.t 49)])⟩, ⟨(some 7), none, (.alloc 34 [(.int .i64 0), (.str ⟨#[]⟩), .nil, (.str ⟨#[]⟩), .nil])⟩, ⟨none, none, (.store 5 (.t 7) (.t 50))⟩]) (.seq (.seq (.reg [⟨(some 51), none, (.load false 1 (.t 3))⟩, ⟨(some 52), none, (.un .not (.t 51))⟩]) (.cond (.t 52) (.reg [⟨(some 53), none, (.mv (.t 5))⟩, ⟨(some 54), none, (.faddr 0 (.t 2))⟩, ⟨(some 55), none, (.load false 1 (.t 54))⟩, ⟨(some 56), none, (.mget false false false [(.int .i64 0)] (.t 53) (.t 55))⟩, ⟨(some 57), none, (.faddr 0 (.t 7))⟩, ⟨none, none, (.store 1 (.t 57) (.t 56))⟩]) .skip)) (.seq (.reg [⟨(some 58), none, (.load true 5 (.t 7))⟩, ⟨none, none, (.store 5 (.t 4) (.t 58))⟩]) .ret))))))
theorem k_impl_nnf : codeOf Try.prog 19 = some ⟨59, c_impl_nnf, [(.cell 4 true 5)]⟩ := by kernel_rfl
theorem m_impl_nnf : modes 19 = ⟨[], .own [none, none, some (31, 2), none, some (34, 5)], none, false⟩ := by unfold modes; rfl

def c_impl_nnf_1 : SC := (.seq (.reg [⟨(some 2), none, (.boxv 34 5 (.t 0))⟩, ⟨(some 3), none, (.alloc 34 [(.int .i64 0), (.str ⟨#[]⟩), .nil, (.str ⟨#[]⟩), .nil])⟩]) (.seq (.reg [⟨(some 4), none, (.load true 5 (.t 2))⟩, ⟨(some 5), none, (.load false 1 (.t 1))⟩, ⟨(some 6), none, (.call 19 [(.t 4), (.t 5)])⟩, ⟨none, none, (.store 5 (.t 3) (.t 6))⟩]) .ret))
theorem k_impl_nnf_1 : codeOf Try.prog 39 = some ⟨7, c_impl_nnf_1, [(.cell 3 true 5)]⟩ := by kernel_rfl
theorem m_impl_nnf_1 : modes 39 = ⟨[], .asis, none, false⟩ := by unfold modes; rfl

theorem g_impl_nnf_1 : goFn Try.prog 39 = true := by kernel_rfl

def c_impl_NegationNormalForm : SC := (.seq (.reg [⟨(some 1), none, (.boxv 34 5 (.t 0))⟩, ⟨(some 2), none, (.alloc 34 [(.int .i64 0), (.str ⟨#[]⟩), .nil, (.str ⟨#[]⟩), .nil])⟩, ⟨(some 3), none, (.mv (.c (.bool false)))⟩]) (.seq (.seq (.reg [⟨(some 4), none, (.load true 5 (.t 1))⟩, ⟨(some 5), none, (.call 17 [(.t 4)])⟩, ⟨(some 6), none, (.un .not (.t 5))⟩]) (.cond (.t 6) (.seq (.reg [⟨(some 7), none, (.build [(.int .i64 0), (.str ⟨#[]⟩), .nil, (.str ⟨#[]⟩), .nil] [])⟩, ⟨none, none, (.store 5 (.t 2) (.t 7))⟩, ⟨(some 3), none, (.mv (.c (.bool false)))⟩]) .ret) .skip)) (.seq (.reg [⟨(some 8), none, (.load true 5 (.t 1))⟩, ⟨(some 9), none, (.call 19 [(.t 8), (.c (.bool true))])⟩, ⟨(some 10), none, (.call 18 [(.t 9)])⟩, ⟨(some 11), none, (.ext (.t 10) 0)⟩, ⟨(some 12), none, (.ext (.t 10) 1)⟩, ⟨none, none, (.store 5 (.t 2) (.t 11))⟩, ⟨(some 3), none, (.mv (.t 12))⟩]) .ret)))
theorem k_impl_NegationNormalForm : codeOf Try.prog 7 = some ⟨13, c_impl_NegationNormalForm, [(.cell 2 true 5), (.tmp 3)]⟩ := by kernel_rfl
theorem m_impl_NegationNormalForm : modes 7 = ⟨[], .own [none, none, some (31, 2), none, some (34, 5), none], none, false⟩ := by unfold modes; rfl

set_option maxHeartbeats 8000000 in
theorem mapPartsB_of (fid : Nat) (b : Bool) (g : Fm → Fm) (x : Fm) (hl : x.parts.length ≤ 1099511627776) (hat : x.atom.nodes ≤ 1099511627776) (hg : goFn Try.prog fid = true) (hm : (modes fid).hand = []) (hr : ∀ r, lateF (modes fid).res r = r)
    (hE : ∀ y ∈ x.parts, E fid [y.sv, .ptr 0 0] [.box 4 [.bool b]] = some (.agg [.int .i64 (g y).op, .str (g y).atom.name, .ref 1, .str (g y).var, .ref 2], [.box 4 [.bool b], .row 31 2 ((g y).atom.args.map Tm.o), .row 34 5 ((g y).parts.map Fm.o)])) :
    E 38 [x.sv, .fn fid [.ptr 0 0]] [.box 4 [.bool b]] = some (.agg [.int .i64 x.op, .str x.atom.name, .ref 1, .str x.var, .ref 2], [.box 4 [.bool b], .row 31 2 (x.atom.args.map Tm.o), .row 34 5 ((x.parts.map g).map Fm.o)]) := by
  have hct := copyTerm_E x.atom hat
  have h10 : ((1 : Int) = 0) = False := by simp
  have hmm : ∀ ys : List Fm, (ys.map g).map Fm.o = ys.map fun y => Fm.o (g y) := fun ys => by rw [List.map_map]; rfl
  rw [hmm]
  refine E_walk k_impl_mapParts m_impl_mapParts (of_decide_eq_true rfl) ?_
  simp (disch := omega) only [c_impl_mapParts, go_sem, go_cond, Nat.reduceAdd, Nat.reduceSub, Nat.reduceLT, Nat.reduceLeDiff, Nat.reduceEqDiff, Nat.reduceBEq, Nat.reduceBneDiff, Nat.reduceMul, ↓reduceIte, Int.reduceToNat, reduceCtorEq, Int.reduceNeg, Int.reduceAdd, hct, m_impl_copyTerm, Tm.osv, Tm.obs]
  refine go_loop (α := Int) (fun a => ⟨slots 33 0 [(1, .fn fid [.ptr 0 0]), (4, .ptr 1 0), (5, .ptr 2 0), (17, .arr (x.parts.map Fm.d)), (18, .int .i64 x.parts.length), (19, .int .i64 a)], (if a = 0 then [.box 4 [.bool b], .box 34 [.int .i64 0, .str ⟨#[]⟩, .nil, .str ⟨#[]⟩, .nil], .box 34 [.int .i64 x.op, .str x.atom.name, .ref 3, .str x.var, .nil], .row 31 2 (x.atom.args.map Tm.o)] else [.box 4 [.bool b], .box 34 [.int .i64 0, .str ⟨#[]⟩, .nil, .str ⟨#[]⟩, .nil], .box 34 [.int .i64 x.op, .str x.atom.name, .ref 3, .str x.var, .ref 4], .row 31 2 (x.atom.args.map Tm.o), .row 34 5 ((x.parts.take a.toNat).map fun y => Fm.o (g y))])⟩) (fun a => ∃ k : Nat, a = k ∧ k ≤ (x.parts).length) (fun a => (x.parts).length - (a).toNat) 0 ⟨0, rfl, Nat.zero_le _⟩ (by simp (disch := omega) only [go_sem, go_cond, Nat.reduceAdd, Nat.reduceSub, Nat.reduceLT, Nat.reduceLeDiff, Nat.reduceEqDiff, Nat.reduceBEq, Nat.reduceBneDiff, Nat.reduceMul, ↓reduceIte, Int.reduceToNat, reduceCtorEq, Int.reduceNeg, Int.reduceAdd, eq_self, if_true]) ?_
  rintro i ⟨k, hi, hk⟩
  have hni : i.toNat = k := by omega
  have hni1 : (i + 1).toNat = k + 1 := by omega
  rcases Nat.lt_or_ge k (x.parts).length with hlt | hge
  · have hgt := get_at Fm.d hlt
    rw [Fm.d_eq] at hgt
    have hc := hE x.parts[k] (List.getElem_mem hlt)
    have hs := map_snoc (fun y => Fm.o (g y)) hlt
    rw [Fm.o_eq] at hs
    rcases Nat.eq_zero_or_pos k with h0 | h0
    · subst h0
      obtain rfl : i = 0 := hi
      rw [List.take_zero, List.map_nil, List.nil_append] at hs
      simp (disch := omega) only [go_sem, go_cond, Nat.reduceAdd, Nat.reduceSub, Nat.reduceLT, Nat.reduceLeDiff, Nat.reduceEqDiff, Nat.reduceBEq, Nat.reduceBneDiff, Nat.reduceMul, ↓reduceIte, Int.reduceToNat, reduceCtorEq, Int.reduceNeg, Int.reduceAdd, hni, hgt, hc, hg, hm, hr, eq_self, if_true]
      refine ⟨1, ⟨1, rfl, hlt⟩, by omega, ?_⟩
      simp (disch := omega) only [go_sem, go_cond, Nat.reduceAdd, Nat.reduceSub, Nat.reduceLT, Nat.reduceLeDiff, Nat.reduceEqDiff, Nat.reduceBEq, Nat.reduceBneDiff, Nat.reduceMul, ↓reduceIte, Int.reduceToNat, reduceCtorEq, Int.reduceNeg, Int.reduceAdd, h10, if_false, hs]
    · have hi0 : (i = 0) = False := by simp; omega
      have hi1 : (i + 1 = 0) = False := by simp; omega
      have htl : (x.parts.take k).length = k := by rw [List.length_take]; omega
      simp (disch := omega) only [go_sem, go_cond, Nat.reduceAdd, Nat.reduceSub, Nat.reduceLT, Nat.reduceLeDiff, Nat.reduceEqDiff, Nat.reduceBEq, Nat.reduceBneDiff, Nat.reduceMul, ↓reduceIte, Int.reduceToNat, reduceCtorEq, Int.reduceNeg, Int.reduceAdd, hni, hgt, hc, hg, hm, hr, hi0, if_false, htl]
      refine ⟨i + 1, ⟨k + 1, by omega, hlt⟩, by omega, ?_⟩
      simp (disch := omega) only [go_sem, go_cond, Nat.reduceAdd, Nat.reduceSub, Nat.reduceLT, Nat.reduceLeDiff, Nat.reduceEqDiff, Nat.reduceBEq, Nat.reduceBneDiff, Nat.reduceMul, ↓reduceIte, Int.reduceToNat, reduceCtorEq, Int.reduceNeg, Int.reduceAdd, hni1, hi1, if_false, hs]
  · obtain rfl : k = x.parts.length := by omega
    have ht : x.parts.take x.parts.length = x.parts := List.take_length
    rcases Nat.eq_zero_or_pos x.parts.length with h0 | h0
    · have hx : x.parts = [] := List.eq_nil_of_length_eq_zero h0
      obtain rfl : i = 0 := by omega
      simp (disch := omega) only [go_sem, go_cond, Nat.reduceAdd, Nat.reduceSub, Nat.reduceLT, Nat.reduceLeDiff, Nat.reduceEqDiff, Nat.reduceBEq, Nat.reduceBneDiff, Nat.reduceMul, ↓reduceIte, Int.reduceToNat, reduceCtorEq, Int.reduceNeg, Int.reduceAdd, hni, hx, eq_self, if_true, List.map_nil, List.length_nil]
    · have hi0 : (i = 0) = False := by simp; omega
      simp (disch := omega) only [go_sem, go_cond, Nat.reduceAdd, Nat.reduceSub, Nat.reduceLT, Nat.reduceLeDiff, Nat.reduceEqDiff, Nat.reduceBEq, Nat.reduceBneDiff, Nat.reduceMul, ↓reduceIte, Int.reduceToNat, reduceCtorEq, Int.reduceNeg, Int.reduceAdd, hni, hi0, if_false, ht]
theorem not_E (y : Fm) : E 36 [.agg [.int .i64 y.op, .str y.atom.name, .ref 0, .str y.var, .ref 1]] [.row 31 2 (y.atom.args.map Tm.o), .row 34 5 (y.parts.map Fm.o)] = some (.agg [.int .i64 4, .str ⟨#[]⟩, .ref 2, .str ⟨#[]⟩, .ref 3], [.gone, .gone, .row 31 2 [], .row 34 5 [Fm.o y]]) := by
  have ho := Fm.o_eq y
  rw [ho]
  refine E_walk k_impl_not m_impl_not (of_decide_eq_true rfl) ?_
  simp (disch := omega) only [c_impl_not, go_sem, go_cond, Nat.reduceAdd, Nat.reduceSub, Nat.reduceLT, Nat.reduceLeDiff, Nat.reduceEqDiff, Nat.reduceBEq, Nat.reduceBneDiff, Nat.reduceMul, ↓reduceIte, Int.reduceToNat, reduceCtorEq, Int.reduceNeg, Int.reduceAdd, Fm.osv, Fm.obs]
theorem binary_E (op : Int) (y z : Fm) : E 37 [.int .i64 op, .agg [.int .i64 y.op, .str y.atom.name, .ref 0, .str y.var, .ref 1], .agg [.int .i64 z.op, .str z.atom.name, .ref 2, .str z.var, .ref 3]] [.row 31 2 (y.atom.args.map Tm.o), .row 34 5 (y.parts.map Fm.o), .row 31 2 (z.atom.args.map Tm.o), .row 34 5 (z.parts.map Fm.o)] = some (.agg [.int .i64 op, .str ⟨#[]⟩, .ref 4, .str ⟨#[]⟩, .ref 5], [.gone, .gone, .gone, .gone, .row 31 2 [], .row 34 5 [Fm.o y, Fm.o z]]) := by
  have ho := Fm.o_eq y
  have ho2 := Fm.o_eq z
  rw [ho, ho2]
  refine E_walk k_impl_binary m_impl_binary (of_decide_eq_true rfl) ?_
  simp (disch := omega) only [c_impl_binary, go_sem, go_cond, Nat.reduceAdd, Nat.reduceSub, Nat.reduceLT, Nat.reduceLeDiff, Nat.reduceEqDiff, Nat.reduceBEq, Nat.reduceBneDiff, Nat.reduceMul, ↓reduceIte, Int.reduceToNat, reduceCtorEq, Int.reduceNeg, Int.reduceAdd, Fm.osv, Fm.obs]
abbrev NnC (b : Bool) (x : Fm) : Prop := E 19 [x.sv, .bool b] [] = some ((x.nnf b).osv, (x.nnf b).obs)
theorem nnf1_E (b : Bool) (x : Fm) (h : NnC b x) : E 39 [x.sv, .ptr 0 0] [.box 4 [.bool b]] = some (.agg [.int .i64 (x.nnf b).op, .str (x.nnf b).atom.name, .ref 1, .str (x.nnf b).var, .ref 2], [.box 4 [.bool b], .row 31 2 ((x.nnf b).atom.args.map Tm.o), .row 34 5 ((x.nnf b).parts.map Fm.o)]) := by
  unfold NnC at h
  generalize x.nnf b = y at *
  refine E_walk k_impl_nnf_1 m_impl_nnf_1 (of_decide_eq_true rfl) ?_
  simp (disch := omega) only [c_impl_nnf_1, go_sem, go_cond, Nat.reduceAdd, Nat.reduceSub, Nat.reduceLT, Nat.reduceLeDiff, Nat.reduceEqDiff, Nat.reduceBEq, Nat.reduceBneDiff, Nat.reduceMul, ↓reduceIte, Int.reduceToNat, reduceCtorEq, Int.reduceNeg, Int.reduceAdd, h, m_impl_copyFormula, m_impl_not, m_impl_binary, m_impl_nnf, m_impl_nnf_1, m_impl_mapParts, Fm.osv, Fm.obs]
set_option maxHeartbeats 8000000 in
theorem nnf_of (x : Fm) (hx : x.forms = true) (hsz : x.nodes ≤ 40) (b : Bool) (ih : ∀ y ∈ x.parts, ∀ b, NnC b y) : NnC b x := by
  have hf := Fm.forms_form hx
  have hta := Fm.forms_tame x hx
  have hat := Fm.atom_le hf
  have hnd := Fm.nodes_eq x
  have hpl := Fm.length_le x.parts
  have hcp := copyFormula_E x hta (by omega)
  have hnt := not_E x
  have hN := Fm.nnf_eq x b
  unfold Fm.nnfC at hN
  unfold NnC
  have hmp := mapPartsB_of 39 b (fun y => y.nnf b) x (by omega) (by omega) g_impl_nnf_1 (by rw [m_impl_nnf_1]) (fun r => by rw [m_impl_nnf_1]; rfl) (fun y hy => nnf1_E b y (ih y hy b))
  have hn1 : (Fm.notF x).osv = .agg [.int .i64 4, .str ⟨#[]⟩, .ref 0, .str ⟨#[]⟩, .ref 1] := rfl
  have hn2 : (Fm.notF x).obs = [.row 31 2 [], .row 34 5 [Fm.o x]] := rfl
  have hp1 : ∀ op y z, (Fm.pairF op y z).osv = .agg [.int .i64 op, .str ⟨#[]⟩, .ref 0, .str ⟨#[]⟩, .ref 1] := fun _ _ _ => rfl
  have hp2 : ∀ op y z, (Fm.pairF op y z).obs = [.row 31 2 [], .row 34 5 [Fm.o y, Fm.o z]] := fun _ _ _ => rfl
  have hk1 : ∀ op ys, (Fm.mk op x.atom x.var ys).osv = .agg [.int .i64 op, .str x.atom.name, .ref 0, .str x.var, .ref 1] := fun _ _ => rfl
  have hk2 : ∀ op ys, (Fm.mk op x.atom x.var ys).obs = [.row 31 2 (x.atom.args.map Tm.o), .row 34 5 (ys.map Fm.o)] := fun _ _ => rfl
  have hs3 : ∀ (h : x.op = 3), Fm.mk x.op x.atom x.var x.parts = x := fun _ => by obtain ⟨_, _, _, _⟩ := x; rfl
  rcases Fm.form_ops hf with h1 | h1 | h1 | h1 | h1 | h1 | h1 | h1 | h1
  case inr.inr.inl =>
    rw [dec_t h1, hs3 h1, cond_true] at hN
    rw [hN]
    cases b with
    | true =>
      rw [cond_true]
      refine E_walk k_impl_nnf m_impl_nnf (of_decide_eq_true rfl) ?_
      simp (disch := omega) only [c_impl_nnf, go_sem, go_cond, Nat.reduceAdd, Nat.reduceSub, Nat.reduceLT, Nat.reduceLeDiff, Nat.reduceEqDiff, Nat.reduceBEq, Nat.reduceBneDiff, Nat.reduceMul, ↓reduceIte, Int.reduceToNat, reduceCtorEq, Int.reduceNeg, Int.reduceAdd, hcp, hnt, m_impl_copyFormula, m_impl_not, m_impl_binary, m_impl_nnf, m_impl_nnf_1, m_impl_mapParts, Fm.osv, Fm.obs]
    | false =>
      rw [cond_false, hn1, hn2]
      refine E_walk k_impl_nnf m_impl_nnf (of_decide_eq_true rfl) ?_
      simp (disch := omega) only [c_impl_nnf, go_sem, go_cond, Nat.reduceAdd, Nat.reduceSub, Nat.reduceLT, Nat.reduceLeDiff, Nat.reduceEqDiff, Nat.reduceBEq, Nat.reduceBneDiff, Nat.reduceMul, ↓reduceIte, Int.reduceToNat, reduceCtorEq, Int.reduceNeg, Int.reduceAdd, hcp, hnt, m_impl_copyFormula, m_impl_not, m_impl_binary, m_impl_nnf, m_impl_nnf_1, m_impl_mapParts, Fm.osv, Fm.obs]
  case inr.inr.inr.inl =>
    rw [dec_f (p := x.op = 3) (by omega), dec_t h1, cond_false, cond_true] at hN
    obtain ⟨p, e⟩ := Fm.form_not hf h1
    have hp : x.parts = [p] := by rw [e]; rfl
    rw [hp, List.map_cons, List.headD_cons] at hN
    have hg0 : (x.parts.map Fm.d)[0]? = some (Fm.d p) := by rw [hp]; rfl
    rw [Fm.d_eq] at hg0
    have hi := ih p (by rw [hp]; simp) (!b)
    unfold NnC at hi
    rw [hN]
    refine E_walk k_impl_nnf m_impl_nnf (of_decide_eq_true rfl) ?_
    simp (disch := omega) only [c_impl_nnf, go_sem, go_cond, Nat.reduceAdd, Nat.reduceSub, Nat.reduceLT, Nat.reduceLeDiff, Nat.reduceEqDiff, Nat.reduceBEq, Nat.reduceBneDiff, Nat.reduceMul, ↓reduceIte, Int.reduceToNat, reduceCtorEq, Int.reduceNeg, Int.reduceAdd, hg0, hi, m_impl_copyFormula, m_impl_not, m_impl_binary, m_impl_nnf, m_impl_nnf_1, m_impl_mapParts, Fm.osv, Fm.obs]
  case inr.inr.inr.inr.inr.inr.inl =>
    rw [dec_f (p := x.op = 3) (by omega), dec_f (p := x.op = 4) (by omega), dec_t h1, cond_false, cond_false, cond_true] at hN
    obtain ⟨p, q, e⟩ := Fm.form_two hf (by omega)
    have hp : x.parts = [p, q] := by rw [e]; rfl
    rw [hp, List.map_cons, List.headD_cons, List.map_cons, List.map_cons, List.map_nil, List.drop_succ_cons, List.drop_zero, List.headD_cons] at hN
    have hg0 : (x.parts.map Fm.d)[0]? = some (Fm.d p) := by rw [hp]; rfl
    rw [Fm.d_eq] at hg0
    have hg1 : (x.parts.map Fm.d)[1]? = some (Fm.d q) := by rw [hp]; rfl
    rw [Fm.d_eq] at hg1
    have hi := ih p (by rw [hp]; simp) (!b)
    have hj := ih q (by rw [hp]; simp) b
    unfold NnC at hi hj
    rw [hN]
    clear hmp hcp hnt
    cases b with
    | true =>
      have hb := binary_E 6 (p.nnf false) (q.nnf true)
      rw [cond_true, Bool.not_true, hp1, hp2]
      rw [Bool.not_true] at hi
      generalize p.nnf false = y at *
      generalize q.nnf true = z at *
      refine E_walk k_impl_nnf m_impl_nnf (of_decide_eq_true rfl) ?_
      simp (disch := omega) only [c_impl_nnf, go_sem, go_cond, Nat.reduceAdd, Nat.reduceSub, Nat.reduceLT, Nat.reduceLeDiff, Nat.reduceEqDiff, Nat.reduceBEq, Nat.reduceBneDiff, Nat.reduceMul, ↓reduceIte, Int.reduceToNat, reduceCtorEq, Int.reduceNeg, Int.reduceAdd, hg0, hg1, hi, hj, hb, m_impl_copyFormula, m_impl_not, m_impl_binary, m_impl_nnf, m_impl_nnf_1, m_impl_mapParts, Fm.osv, Fm.obs]
    | false =>
      have hb := binary_E 5 (p.nnf true) (q.nnf false)
      rw [cond_false, Bool.not_false, hp1, hp2]
      rw [Bool.not_false] at hi
      generalize p.nnf true = y at *
      generalize q.nnf false = z at *
      refine E_walk k_impl_nnf m_impl_nnf (of_decide_eq_true rfl) ?_
      simp (disch := omega) only [c_impl_nnf, go_sem, go_cond, Nat.reduceAdd, Nat.reduceSub, Nat.reduceLT, Nat.reduceLeDiff, Nat.reduceEqDiff, Nat.reduceBEq, Nat.reduceBneDiff, Nat.reduceMul, ↓reduceIte, Int.reduceToNat, reduceCtorEq, Int.reduceNeg, Int.reduceAdd, hg0, hg1, hi, hj, hb, m_impl_copyFormula, m_impl_not, m_impl_binary, m_impl_nnf, m_impl_nnf_1, m_impl_mapParts, Fm.osv, Fm.obs]
  all_goals
    rw [dec_f (p := x.op = 3) (by omega), dec_f (p := x.op = 4) (by omega), dec_f (p := x.op = 7) (by omega), cond_false, cond_false, cond_false] at hN
    rw [hN, hk1, hk2]
    cases b with
    | true =>
      rw [cond_true]
      refine E_walk k_impl_nnf m_impl_nnf (of_decide_eq_true rfl) ?_
      simp (disch := omega) only [c_impl_nnf, go_sem, go_cond, Nat.reduceAdd, Nat.reduceSub, Nat.reduceLT, Nat.reduceLeDiff, Nat.reduceEqDiff, Nat.reduceBEq, Nat.reduceBneDiff, Nat.reduceMul, ↓reduceIte, Int.reduceToNat, reduceCtorEq, Int.reduceNeg, Int.reduceAdd, hmp, m_impl_copyFormula, m_impl_not, m_impl_binary, m_impl_nnf, m_impl_nnf_1, m_impl_mapParts, Fm.osv, Fm.obs]
    | false =>
      rw [cond_false]
      unfold turn
      refine E_walk k_impl_nnf m_impl_nnf (of_decide_eq_true rfl) ?_
      simp (disch := omega) only [c_impl_nnf, go_sem, go_cond, Nat.reduceAdd, Nat.reduceSub, Nat.reduceLT, Nat.reduceLeDiff, Nat.reduceEqDiff, Nat.reduceBEq, Nat.reduceBneDiff, Nat.reduceMul, ↓reduceIte, Int.reduceToNat, reduceCtorEq, Int.reduceNeg, Int.reduceAdd, hmp, m_impl_copyFormula, m_impl_not, m_impl_binary, m_impl_nnf, m_impl_nnf_1, m_impl_mapParts, Fm.osv, Fm.obs]
theorem nnf_E (x : Fm) (hx : x.forms = true) (hsz : x.nodes ≤ 40) (b : Bool) : NnC b x :=
  nnf_of x hx hsz b fun y hy b => nnf_E y (Fm.forms_part hx hy) (by have := Fm.nodes_mem hy; have := Fm.nodes_eq x; omega) b
termination_by SizeOf.sizeOf x
decreasing_by exact Fm.lt_of_mem hy
set_option maxHeartbeats 4000000 in
theorem negationNormalForm_E (x : Fm) (hta : x.tame) (hn : x.nodes ≤ 1099511627776) : E 7 [x.sv] [] = some (.tup [(nnfTo x).osv, .bool (nnfOk x)], (nnfTo x).obs) := by
  have h1 := isValidFormula_E x hta hn
  have hz1 : Fm.zero.osv = .agg [.int .i64 0, .str ⟨#[]⟩, .ref 0, .str ⟨#[]⟩, .ref 1] := rfl
  have hz2 : Fm.zero.obs = [.row 31 2 [], .row 34 5 []] := rfl
  unfold nnfTo nnfOk
  cases hv : x.valid with
  | false =>
    rw [hv] at h1
    rw [Bool.false_and, cond_false, hz1, hz2]
    refine E_walk k_impl_NegationNormalForm m_impl_NegationNormalForm (of_decide_eq_true rfl) ?_
    simp (disch := omega) only [c_impl_NegationNormalForm, go_sem, go_cond, Nat.reduceAdd, Nat.reduceSub, Nat.reduceLT, Nat.reduceLeDiff, Nat.reduceEqDiff, Nat.reduceBEq, Nat.reduceBneDiff, Nat.reduceMul, ↓reduceIte, Int.reduceToNat, reduceCtorEq, Int.reduceNeg, Int.reduceAdd, h1, m_impl_IsValidFormula, m_impl_nnf, m_impl_ifFormula, Fm.osv, Fm.obs]
  | true =>
    rw [hv] at h1
    rw [Bool.true_and]
    have hva := hv
    unfold Fm.valid at hva
    rw [Bool.and_eq_true, decide_eq_true_eq] at hva
    obtain ⟨hva1, hva2⟩ := hva
    have hs := nnf_E x hva2 hva1 true
    obtain ⟨hp1, hp2⟩ := Fm.nnf_small x hva2 true
    unfold NnC at hs
    generalize x.nnf true = y at *
    cases hq : y.valid with
    | true =>
      have hi := ifFormula_yes y hp1 (by omega) hq
      rw [cond_true]
      refine E_walk k_impl_NegationNormalForm m_impl_NegationNormalForm (of_decide_eq_true rfl) ?_
      simp (disch := omega) only [c_impl_NegationNormalForm, go_sem, go_cond, Nat.reduceAdd, Nat.reduceSub, Nat.reduceLT, Nat.reduceLeDiff, Nat.reduceEqDiff, Nat.reduceBEq, Nat.reduceBneDiff, Nat.reduceMul, ↓reduceIte, Int.reduceToNat, reduceCtorEq, Int.reduceNeg, Int.reduceAdd, h1, hs, hi, m_impl_IsValidFormula, m_impl_nnf, m_impl_ifFormula, Fm.osv, Fm.obs]
    | false =>
      have hi := ifFormula_no y hp1 (by omega) hq
      rw [cond_false, hz1, hz2]
      refine E_walk k_impl_NegationNormalForm m_impl_NegationNormalForm (of_decide_eq_true rfl) ?_
      simp (disch := omega) only [c_impl_NegationNormalForm, go_sem, go_cond, Nat.reduceAdd, Nat.reduceSub, Nat.reduceLT, Nat.reduceLeDiff, Nat.reduceEqDiff, Nat.reduceBEq, Nat.reduceBneDiff, Nat.reduceMul, ↓reduceIte, Int.reduceToNat, reduceCtorEq, Int.reduceNeg, Int.reduceAdd, h1, hs, hi, m_impl_IsValidFormula, m_impl_nnf, m_impl_ifFormula, Fm.osv, Fm.obs]
end Go.Proofs.Ytjgnhifkcgpmjaa

set_option maxRecDepth 100000
set_option linter.unusedSimpArgs false
set_option linter.unusedVariables false
namespace Go.Proofs.Ytjgnhifkcgpmjaa
open Go.RowKit

def c_spec_l9Not : SC := (.seq (.reg [⟨(some 1), none, (.boxv 34 5 (.t 0))⟩, ⟨(some 2), none, (.alloc 34 [(.int .i64 0), (.str ⟨#[]⟩), .nil, (.str ⟨#[]⟩), .nil])⟩]) (.seq (.reg [⟨(some 3), none, (.load true 5 (.t 1))⟩, ⟨(some 4), none, (.mkrow 34 5 [(.int .i64 0), (.str ⟨#[]⟩), .nil, (.str ⟨#[]⟩), .nil] 1 [(0, (.t 3))])⟩, ⟨(some 5), none, (.build [(.int .i64 0), (.str ⟨#[]⟩), .nil, (.str ⟨#[]⟩), .nil] [(0, (1, (.c (.int .i64 4)))), (4, (1, (.t 4)))])⟩, ⟨none, none, (.store 5 (.t 2) (.t 5))⟩]) .ret))
theorem k_spec_l9Not : codeOf Try.prog 30 = some ⟨6, c_spec_l9Not, [(.cell 2 true 5)]⟩ := by kernel_rfl
theorem m_spec_l9Not : modes 30 = ⟨[], .frz, none, false⟩ := by unfold modes; rfl

def c_spec_l9Pair : SC := (.seq (.reg [⟨(some 4), none, (.boxv 34 5 (.t 1))⟩, ⟨(some 5), none, (.boxv 34 5 (.t 2))⟩, ⟨(some 6), none, (.alloc 34 [(.int .i64 0), (.str ⟨#[]⟩), .nil, (.str ⟨#[]⟩), .nil])⟩]) (.seq (.reg [⟨(some 7), none, (.mv (.t 0))⟩, ⟨(some 8), none, (.load true 5 (.t 4))⟩, ⟨(some 9), none, (.load true 5 (.t 5))⟩, ⟨(some 10), none, (.mkrow 34 5 [(.int .i64 0), (.str ⟨#[]⟩), .nil, (.str ⟨#[]⟩), .nil] 2 [(0, (.t 8)), (1, (.t 9))])⟩, ⟨(some 11), none, (.build [(.int .i64 0), (.str ⟨#[]⟩), .nil, (.str ⟨#[]⟩), .nil] [(0, (1, (.t 7))), (4, (1, (.t 10)))])⟩, ⟨none, none, (.store 5 (.t 6) (.t 11))⟩]) .ret))
theorem k_spec_l9Pair : codeOf Try.prog 31 = some ⟨12, c_spec_l9Pair, [(.cell 6 true 5)]⟩ := by kernel_rfl
theorem m_spec_l9Pair : modes 31 = ⟨[], .frz, none, false⟩ := by unfold modes; rfl

def c_spec_l9Nnf : SC := (.seq (.reg [⟨(some 2), none, (.boxv 34 5 (.t 0))⟩, ⟨(some 4), none, (.alloc 34 [(.int .i64 0), (.str ⟨#[]⟩), .nil, (.str ⟨#[]⟩), .nil])⟩]) (.seq (.seq (.reg [⟨(some 7), none, (.faddr 0 (.t 2))⟩, ⟨(some 8), none, (.load false 1 (.t 7))⟩]) (.block 0 (.seq (.seq (.reg [⟨(some 10), none, (.bin .eql false (.t 8) (.c (.int .i64 1)))⟩, ⟨(some 9), none, (.mv (.t 10))⟩]) (.cond (.t 9) .skip (.reg [⟨(some 11), none, (.bin .eql false (.t 8) (.c (.int .i64 2)))⟩, ⟨(some 9), none, (.mv (.t 11))⟩]))) (.cond (.t 9) (.seq (.seq (.reg [⟨(some 12), none, (.faddr 0 (.t 2))⟩, ⟨(some 13), none, (.load false 1 (.t 12))⟩, ⟨(some 14), none, (.bin .eql false (.t 13) (.c (.int .i64 1)))⟩, ⟨(some 15), none, (.mv (.t 1))⟩, ⟨(some 16), none, (.bin .eql true (.t 14) (.t 15))⟩]) (.cond (.t 16) (.seq (.reg [⟨(some 17), none, (.build [(.int .i64 0), (.str ⟨#[]⟩), .nil, (.str ⟨#[]⟩), .nil] [(0, (1, (.c (.int .i64 1))))])⟩, ⟨none, none, (.store 5 (.t 4) (.t 17))⟩]) .ret) .skip)) (.seq (.reg [⟨(some 18), none, (.build [(.int .i64 0), (.str ⟨#[]⟩), .nil, (.str ⟨#[]⟩), .nil] [(0, (1, (.c (.int .i64 2))))])⟩, ⟨none, none, (.store 5 (.t 4) (.t 18))⟩]) .ret)) (.seq (.reg [⟨(some 20), none, (.bin .eql false (.t 8) (.c (.int .i64 3)))⟩, ⟨(some 19), none, (.mv (.t 20))⟩]) (.cond (.t 19) (.seq (.seq (.reg [⟨(some 21), none, (.mv (.t 1))⟩]) (.cond (.t 21) (.seq (.reg [⟨(some 22), none, (.load true 5 (.t 2))⟩, ⟨(some 23), none, (.call 29 [(.t 22)])⟩, ⟨none, none, (.store 5 (.t 4) (.t 23))⟩]) .ret) .skip)) (.seq (.reg [⟨(some 24), none, (.load true 5 (.t 2))⟩, ⟨(some 25), none, (.call 29 [(.t 24)])⟩, ⟨(some 26), none, (.call 30 [(.t 25)])⟩, ⟨none, none, (.store 5 (.t 4) (.t 26))⟩]) .ret)) (.seq (.reg [⟨(some 28), none, (.bin .eql false (.t 8) (.c (.int .i64 4)))⟩, ⟨(some 27), none, (.mv (.t 28))⟩]) (.cond (.t 27) (.seq (.reg [⟨(some 29), none, (.faddr 4 (.t 2))⟩, ⟨(some 30), none, (.load false 1 (.t 29))⟩, ⟨(some 31), none, (.iaddr 5 (.t 30) (.c (.int .i64 0)))⟩, ⟨(some 32), none, (.load true 5 (.t 31))⟩, ⟨(some 33), none, (.mv (.t 1))⟩, ⟨(some 34), none, (.un .not (.t 33))⟩, ⟨(some 35), none, (.call 14 [(.t 32), (.t 34)])⟩, ⟨none, none, (.store 5 (.t 4) (.t 35))⟩]) .ret) (.seq (.reg [⟨(some 37), none, (.bin .eql false (.t 8) (.c (.int .i64 7)))⟩, ⟨(some 36), none, (.mv (.t 37))⟩]) (.cond (.t 36) (.seq (.seq (.reg [⟨(some 38), none, (.mv (.t 1))⟩]) (.cond (.t 38) (.seq (.dreg [[], [0], [1, 0], [2, 1, 0], [3, 2, 1, 0], [], [5], [6, 5], [7, 6, 5], [8, 7, 6, 5, 4, 3, 2, 1, 0], [4, 3, 2, 1, 0, 9, 8, 7, 6, 5], [10, 4, 3, 2, 1, 0, 9, 8, 7, 6, 5]] [⟨(some 39), none, (.faddr 4 (.t 2))⟩, ⟨(some 40), none, (.load false 1 (.t 39))⟩, ⟨(some 41), none, (.iaddr 5 (.t 40) (.c (.int .i64 0)))⟩, ⟨(some 42), none, (.load true 5 (.t 41))⟩, ⟨(some 43), none, (.call 14 [(.t 42), (.c (.bool false))])⟩, ⟨(some 44), none, (.faddr 4 (.t 2))⟩, ⟨(some 45), none, (.load false 1 (.t 44))⟩, ⟨(some 46), none, (.iaddr 5 (.t 45) (.c (.int .i64 1)))⟩, ⟨(some 47), none, (.load true 5 (.t 46))⟩, ⟨(some 48), none, (.call 14 [(.t 47), (.c (.bool true))])⟩, ⟨(some 49), none, (.call 31 [(.c (.int .i64 6)), (.t 43), (.t 48)])⟩, ⟨none, none, (.store 5 (.t 4) (.t 49))⟩]) .ret) .skip)) (.seq (.dreg [[], [0], [1, 0], [2, 1, 0], [3, 2, 1, 0], [], [5], [6, 5], [7, 6, 5], [8, 7, 6, 5, 4, 3, 2, 1, 0], [4, 3, 2, 1, 0, 9, 8, 7, 6, 5], [10, 4, 3, 2, 1, 0, 9, 8, 7, 6, 5]] [⟨(some 50), none, (.faddr 4 (.t 2))⟩, ⟨(some 51), none, (.load false 1 (.t 50))⟩, ⟨(some 52), none, (.iaddr 5 (.t 51) (.c (.int .i64 0)))⟩, ⟨(some 53), none, (.load true 5 (.t 52))⟩, ⟨(some 54), none, (.call 14 [(.t 53), (.c (.bool true))])⟩, ⟨(some 55), none, (.faddr 4 (.t 2))⟩, ⟨(some 56), none, (.load false 1 (.t 55))⟩, ⟨(some 57), none, (.iaddr 5 (.t 56) (.c (.int .i64 1)))⟩, ⟨(some 58), none, (.load true 5 (.t 57))⟩, ⟨(some 59), none, (.call 14 [(.t 58), (.c (.bool false))])⟩, ⟨(some 60), none, (.call 31 [(.c (.int .i64 5)), (.t 54), (.t 59)])⟩, ⟨none, none, (.store 5 (.t 4) (.t 60))⟩]) .ret)) (.seq (.seq (.reg [⟨(some 62), none, (.bin .eql false (.t 8) (.c (.int .i64 5)))⟩, ⟨(some 61), none, (.mv (.t 62))⟩]) (.cond (.t 61) .skip (.reg [⟨(some 63), none, (.bin .eql false (.t 8) (.c (.int .i64 6)))⟩, ⟨(some 61), none, (.mv (.t 63))⟩]))) (.cond (.t 61) (.seq (.reg [⟨(some 64), none, (.faddr 0 (.t 2))⟩, ⟨(some 65), none, (.load false 1 (.t 64))⟩, ⟨(some 5), none, (.mv (.t 65))⟩]) (.seq (.seq (.reg [⟨(some 66), none, (.mv (.t 1))⟩, ⟨(some 67), none, (.un .not (.t 66))⟩]) (.cond (.t 67) (.reg [⟨(some 68), none, (.faddr 0 (.t 2))⟩, ⟨(some 69), none, (.load false 1 (.t 68))⟩, ⟨(some 70), none, (.bin .sub false (.c (.int .i64 11)) (.t 69))⟩, ⟨(some 5), none, (.mv (.t 70))⟩]) .skip)) (.seq (.dreg [[], [], [1], [2, 1], [3, 2, 1], [], [4, 3, 2, 1, 5], [], [7], [8, 7], [9, 8, 7], [], [10, 9, 8, 7, 11, 6, 4, 3, 2, 1, 5], [0, 6, 4, 3, 2, 1, 5, 12, 10, 9, 8, 7, 11], [13, 0, 6, 4, 3, 2, 1, 5, 12, 10, 9, 8, 7, 11]] [⟨(some 71), none, (.mv (.t 5))⟩, ⟨(some 72), none, (.faddr 4 (.t 2))⟩, ⟨(some 73), none, (.load false 1 (.t 72))⟩, ⟨(some 74), none, (.iaddr 5 (.t 73) (.c (.int .i64 0)))⟩, ⟨(some 75), none, (.load true 5 (.t 74))⟩, ⟨(some 76), none, (.mv (.t 1))⟩, ⟨(some 77), none, (.call 14 [(.t 75), (.t 76)])⟩, ⟨(some 78), none, (.faddr 4 (.t 2))⟩, ⟨(some 79), none, (.load false 1 (.t 78))⟩, ⟨(some 80), none, (.iaddr 5 (.t 79) (.c (.int .i64 1)))⟩, ⟨(some 81), none, (.load true 5 (.t 80))⟩, ⟨(some 82), none, (.mv (.t 1))⟩, ⟨(some 83), none, (.call 14 [(.t 81), (.t 82)])⟩, ⟨(some 84), none, (.call 31 [(.t 71), (.t 77), (.t 83)])⟩, ⟨none, none, (.store 5 (.t 4) (.t 84))⟩]) .ret))) .skip)))))))))))) (.seq (.reg [⟨(some 85), none, (.faddr 0 (.t 2))⟩, ⟨(some 86), none, (.load false 1 (.t 85))⟩, ⟨(some 6), none, (.mv (.t 86))⟩]) (.seq (.seq (.reg [⟨(some 87), none, (.mv (.t 1))⟩, ⟨(some 88), none, (.un .not (.t 87))⟩]) (.cond (.t 88) (.reg [⟨(some 89), none, (.faddr 0 (.t 2))⟩, ⟨(some 90), none, (.load false 1 (.t 89))⟩, ⟨(some 91), none, (.bin .sub false (.c (.int .i64 17)) (.t 90))⟩, ⟨(some 6), none, (.mv (.t 91))⟩]) .skip)) (.seq (.dreg [[], [], [1], [], [3], [4, 3], [5, 4, 3], [], [6, 5, 4, 3, 7], [8, 6, 5, 4, 3, 7], [0, 2, 1, 9, 8, 6, 5, 4, 3, 7], [10, 0, 2, 1, 9, 8, 6, 5, 4, 3, 7]] [⟨(some 92), none, (.mv (.t 6))⟩, ⟨(some 93), none, (.faddr 3 (.t 2))⟩, ⟨(some 94), none, (.load false 1 (.t 93))⟩, ⟨(some 95), none, (.faddr 4 (.t 2))⟩, ⟨(some 96), none, (.load false 1 (.t 95))⟩, ⟨(some 97), none, (.iaddr 5 (.t 96) (.c (.int .i64 0)))⟩, ⟨(some 98), none, (.load true 5 (.t 97))⟩, ⟨(some 99), none, (.mv (.t 1))⟩, ⟨(some 100), none, (.call 14 [(.t 98), (.t 99)])⟩, ⟨(some 101), none, (.mkrow 34 5 [(.int .i64 0), (.str ⟨#[]⟩), .nil, (.str ⟨#[]⟩), .nil] 1 [(0, (.t 100))])⟩, ⟨(some 102), none, (.build [(.int .i64 0), (.str ⟨#[]⟩), .nil, (.str ⟨#[]⟩), .nil] [(0, (1, (.t 92))), (3, (1, (.t 94))), (4, (1, (.t 101)))])⟩, ⟨none, none, (.store 5 (.t 4) (.t 102))⟩]) .ret)))))
theorem k_spec_l9Nnf : codeOf Try.prog 14 = some ⟨103, c_spec_l9Nnf, [(.cell 4 true 5)]⟩ := by kernel_rfl
theorem m_spec_l9Nnf : modes 14 = ⟨[], .frz, none, false⟩ := by unfold modes; rfl

def c_spec_NegationNormalForm : SC := (.seq (.reg [⟨(some 1), none, (.boxv 34 5 (.t 0))⟩, ⟨(some 2), none, (.alloc 34 [(.int .i64 0), (.str ⟨#[]⟩), .nil, (.str ⟨#[]⟩), .nil])⟩, ⟨(some 3), none, (.mv (.c (.bool false)))⟩]) (.seq (.seq (.reg [⟨(some 5), none, (.load true 5 (.t 1))⟩, ⟨(some 6), none, (.call 13 [(.t 5)])⟩, ⟨(some 7), none, (.un .not (.t 6))⟩]) (.cond (.t 7) (.seq (.reg [⟨(some 8), none, (.build [(.int .i64 0), (.str ⟨#[]⟩), .nil, (.str ⟨#[]⟩), .nil] [])⟩, ⟨none, none, (.store 5 (.t 2) (.t 8))⟩, ⟨(some 3), none, (.mv (.c (.bool false)))⟩]) .ret) .skip)) (.seq (.reg [⟨(some 9), none, (.load true 5 (.t 1))⟩, ⟨(some 10), none, (.call 14 [(.t 9), (.c (.bool true))])⟩, ⟨(some 4), none, (.alloc 34 [(.int .i64 0), (.str ⟨#[]⟩), .nil, (.str ⟨#[]⟩), .nil])⟩, ⟨none, none, (.store 5 (.t 4) (.t 10))⟩]) (.seq (.seq (.reg [⟨(some 11), none, (.load true 5 (.t 4))⟩, ⟨(some 12), none, (.call 13 [(.t 11)])⟩, ⟨(some 13), none, (.un .not (.t 12))⟩]) (.cond (.t 13) (.seq (.reg [⟨(some 14), none, (.build [(.int .i64 0), (.str ⟨#[]⟩), .nil, (.str ⟨#[]⟩), .nil] [])⟩, ⟨none, none, (.store 5 (.t 2) (.t 14))⟩, ⟨(some 3), none, (.mv (.c (.bool false)))⟩]) .ret) .skip)) (.seq (.reg [⟨(some 15), none, (.load true 5 (.t 4))⟩, ⟨none, none, (.store 5 (.t 2) (.t 15))⟩, ⟨(some 3), none, (.mv (.c (.bool true)))⟩]) .ret)))))
theorem k_spec_NegationNormalForm : codeOf Try.prog 5 = some ⟨16, c_spec_NegationNormalForm, [(.cell 2 true 5), (.tmp 3)]⟩ := by kernel_rfl
theorem m_spec_NegationNormalForm : modes 5 = ⟨[], .frz, none, false⟩ := by unfold modes; rfl

theorem l9Not_E (y : Fm) : E 30 [y.sv] [] = some ((Fm.notF y).sv, []) := by
  have ho := Fm.d_eq y
  have h1 : (Fm.notF y).sv = .agg [.int .i64 4, .str ⟨#[]⟩, .arr [], .str ⟨#[]⟩, .arr [Fm.d y]] := rfl
  rw [h1, ho]
  refine E_walk k_spec_l9Not m_spec_l9Not (of_decide_eq_true rfl) ?_
  simp (disch := omega) only [c_spec_l9Not, go_sem, go_cond, Nat.reduceAdd, Nat.reduceSub, Nat.reduceLT, Nat.reduceLeDiff, Nat.reduceEqDiff, Nat.reduceBEq, Nat.reduceBneDiff, Nat.reduceMul, ↓reduceIte, Int.reduceToNat, reduceCtorEq, Int.reduceNeg, Int.reduceAdd]
theorem l9Pair_E (op : Int) (y z : Fm) : E 31 [.int .i64 op, y.sv, z.sv] [] = some ((Fm.pairF op y z).sv, []) := by
  have ho := Fm.d_eq y
  have ho2 := Fm.d_eq z
  have h1 : (Fm.pairF op y z).sv = .agg [.int .i64 op, .str ⟨#[]⟩, .arr [], .str ⟨#[]⟩, .arr [Fm.d y, Fm.d z]] := rfl
  rw [h1, ho, ho2]
  refine E_walk k_spec_l9Pair m_spec_l9Pair (of_decide_eq_true rfl) ?_
  simp (disch := omega) only [c_spec_l9Pair, go_sem, go_cond, Nat.reduceAdd, Nat.reduceSub, Nat.reduceLT, Nat.reduceLeDiff, Nat.reduceEqDiff, Nat.reduceBEq, Nat.reduceBneDiff, Nat.reduceMul, ↓reduceIte, Int.reduceToNat, reduceCtorEq, Int.reduceNeg, Int.reduceAdd]
abbrev SnC (b : Bool) (x : Fm) : Prop := E 14 [x.sv, .bool b] [] = some ((x.nnf b).sv, [])
set_option maxHeartbeats 8000000 in
theorem l9Nnf_of (x : Fm) (hx : x.forms = true) (hsz : x.nodes ≤ 40) (b : Bool) (ih : ∀ y ∈ x.parts, ∀ b, SnC b y) : SnC b x := by
  have hf := Fm.forms_form hx
  have hta := Fm.forms_tame x hx
  have hcp := l8Own_E x hta (by omega)
  have hnt := l9Not_E x
  have hN := Fm.nnf_eq x b
  unfold Fm.nnfC at hN
  unfold SnC
  have hs3 : ∀ (h : x.op = 3), Fm.mk x.op x.atom x.var x.parts = x := fun _ => by obtain ⟨_, _, _, _⟩ := x; rfl
  rcases Fm.form_ops hf with h1 | h1 | h1 | h1 | h1 | h1 | h1 | h1 | h1
  case inr.inr.inl =>
    rw [dec_t h1, hs3 h1, cond_true] at hN
    rw [hN]
    cases b with
    | true =>
      rw [cond_true]
      refine E_walk k_spec_l9Nnf m_spec_l9Nnf (of_decide_eq_true rfl) ?_
      simp (disch := omega) only [c_spec_l9Nnf, go_sem, Nat.reduceAdd, Nat.reduceSub, Nat.reduceLT, Nat.reduceLeDiff, Nat.reduceEqDiff, Nat.reduceBEq, Nat.reduceBneDiff, Nat.reduceMul, ↓reduceIte, Int.reduceToNat, reduceCtorEq, Int.reduceNeg, Int.reduceAdd, hcp, hnt, m_spec_l8Own, m_spec_l9Not, m_spec_l9Pair, m_spec_l9Nnf]
      repeat ((first | (refine go_condT ?_ ?_; (focus (simp (disch := omega) only [go_sem, Nat.reduceAdd, Nat.reduceSub, Nat.reduceLT, Nat.reduceLeDiff, Nat.reduceEqDiff, Nat.reduceBEq, Nat.reduceBneDiff, Nat.reduceMul, ↓reduceIte, Int.reduceToNat, reduceCtorEq, Int.reduceNeg, Int.reduceAdd, hcp, hnt, m_spec_l8Own, m_spec_l9Not, m_spec_l9Pair, m_spec_l9Nnf]; done))) | (refine go_condF ?_ ?_; (focus (simp (disch := omega) only [go_sem, Nat.reduceAdd, Nat.reduceSub, Nat.reduceLT, Nat.reduceLeDiff, Nat.reduceEqDiff, Nat.reduceBEq, Nat.reduceBneDiff, Nat.reduceMul, ↓reduceIte, Int.reduceToNat, reduceCtorEq, Int.reduceNeg, Int.reduceAdd, hcp, hnt, m_spec_l8Own, m_spec_l9Not, m_spec_l9Pair, m_spec_l9Nnf]; done)))); (try simp (disch := omega) only [go_sem, Nat.reduceAdd, Nat.reduceSub, Nat.reduceLT, Nat.reduceLeDiff, Nat.reduceEqDiff, Nat.reduceBEq, Nat.reduceBneDiff, Nat.reduceMul, ↓reduceIte, Int.reduceToNat, reduceCtorEq, Int.reduceNeg, Int.reduceAdd, hcp, hnt, m_spec_l8Own, m_spec_l9Not, m_spec_l9Pair, m_spec_l9Nnf]))
    | false =>
      rw [cond_false]
      refine E_walk k_spec_l9Nnf m_spec_l9Nnf (of_decide_eq_true rfl) ?_
      simp (disch := omega) only [c_spec_l9Nnf, go_sem, Nat.reduceAdd, Nat.reduceSub, Nat.reduceLT, Nat.reduceLeDiff, Nat.reduceEqDiff, Nat.reduceBEq, Nat.reduceBneDiff, Nat.reduceMul, ↓reduceIte, Int.reduceToNat, reduceCtorEq, Int.reduceNeg, Int.reduceAdd, hcp, hnt, m_spec_l8Own, m_spec_l9Not, m_spec_l9Pair, m_spec_l9Nnf]
      repeat ((first | (refine go_condT ?_ ?_; (focus (simp (disch := omega) only [go_sem, Nat.reduceAdd, Nat.reduceSub, Nat.reduceLT, Nat.reduceLeDiff, Nat.reduceEqDiff, Nat.reduceBEq, Nat.reduceBneDiff, Nat.reduceMul, ↓reduceIte, Int.reduceToNat, reduceCtorEq, Int.reduceNeg, Int.reduceAdd, hcp, hnt, m_spec_l8Own, m_spec_l9Not, m_spec_l9Pair, m_spec_l9Nnf]; done))) | (refine go_condF ?_ ?_; (focus (simp (disch := omega) only [go_sem, Nat.reduceAdd, Nat.reduceSub, Nat.reduceLT, Nat.reduceLeDiff, Nat.reduceEqDiff, Nat.reduceBEq, Nat.reduceBneDiff, Nat.reduceMul, ↓reduceIte, Int.reduceToNat, reduceCtorEq, Int.reduceNeg, Int.reduceAdd, hcp, hnt, m_spec_l8Own, m_spec_l9Not, m_spec_l9Pair, m_spec_l9Nnf]; done)))); (try simp (disch := omega) only [go_sem, Nat.reduceAdd, Nat.reduceSub, Nat.reduceLT, Nat.reduceLeDiff, Nat.reduceEqDiff, Nat.reduceBEq, Nat.reduceBneDiff, Nat.reduceMul, ↓reduceIte, Int.reduceToNat, reduceCtorEq, Int.reduceNeg, Int.reduceAdd, hcp, hnt, m_spec_l8Own, m_spec_l9Not, m_spec_l9Pair, m_spec_l9Nnf]))
  case inr.inr.inr.inl =>
    rw [dec_f (p := x.op = 3) (by omega), dec_t h1, cond_false, cond_true] at hN
    obtain ⟨p, e⟩ := Fm.form_not hf h1
    have hp : x.parts = [p] := by rw [e]; rfl
    rw [hp, List.map_cons, List.headD_cons] at hN
    have hg0 : (x.parts.map Fm.d)[0]? = some (Fm.d p) := by rw [hp]; rfl
    rw [Fm.d_eq] at hg0
    have hi := ih p (by rw [hp]; simp) (!b)
    unfold SnC at hi
    rw [hN]
    refine E_walk k_spec_l9Nnf m_spec_l9Nnf (of_decide_eq_true rfl) ?_
    simp (disch := omega) only [c_spec_l9Nnf, go_sem, Nat.reduceAdd, Nat.reduceSub, Nat.reduceLT, Nat.reduceLeDiff, Nat.reduceEqDiff, Nat.reduceBEq, Nat.reduceBneDiff, Nat.reduceMul, ↓reduceIte, Int.reduceToNat, reduceCtorEq, Int.reduceNeg, Int.reduceAdd, hg0, hi, m_spec_l8Own, m_spec_l9Not, m_spec_l9Pair, m_spec_l9Nnf]
    repeat ((first | (refine go_condT ?_ ?_; (focus (simp (disch := omega) only [go_sem, Nat.reduceAdd, Nat.reduceSub, Nat.reduceLT, Nat.reduceLeDiff, Nat.reduceEqDiff, Nat.reduceBEq, Nat.reduceBneDiff, Nat.reduceMul, ↓reduceIte, Int.reduceToNat, reduceCtorEq, Int.reduceNeg, Int.reduceAdd, hg0, hi, m_spec_l8Own, m_spec_l9Not, m_spec_l9Pair, m_spec_l9Nnf]; done))) | (refine go_condF ?_ ?_; (focus (simp (disch := omega) only [go_sem, Nat.reduceAdd, Nat.reduceSub, Nat.reduceLT, Nat.reduceLeDiff, Nat.reduceEqDiff, Nat.reduceBEq, Nat.reduceBneDiff, Nat.reduceMul, ↓reduceIte, Int.reduceToNat, reduceCtorEq, Int.reduceNeg, Int.reduceAdd, hg0, hi, m_spec_l8Own, m_spec_l9Not, m_spec_l9Pair, m_spec_l9Nnf]; done)))); (try simp (disch := omega) only [go_sem, Nat.reduceAdd, Nat.reduceSub, Nat.reduceLT, Nat.reduceLeDiff, Nat.reduceEqDiff, Nat.reduceBEq, Nat.reduceBneDiff, Nat.reduceMul, ↓reduceIte, Int.reduceToNat, reduceCtorEq, Int.reduceNeg, Int.reduceAdd, hg0, hi, m_spec_l8Own, m_spec_l9Not, m_spec_l9Pair, m_spec_l9Nnf]))
  case inr.inr.inr.inr.inr.inr.inl =>
    rw [dec_f (p := x.op = 3) (by omega), dec_f (p := x.op = 4) (by omega), dec_t h1, cond_false, cond_false, cond_true] at hN
    obtain ⟨p, q, e⟩ := Fm.form_two hf (by omega)
    have hp : x.parts = [p, q] := by rw [e]; rfl
    rw [hp, List.map_cons, List.headD_cons, List.map_cons, List.map_cons, List.map_nil, List.drop_succ_cons, List.drop_zero, List.headD_cons] at hN
    have hg0 : (x.parts.map Fm.d)[0]? = some (Fm.d p) := by rw [hp]; rfl
    rw [Fm.d_eq] at hg0
    have hg1 : (x.parts.map Fm.d)[1]? = some (Fm.d q) := by rw [hp]; rfl
    rw [Fm.d_eq] at hg1
    have hi := ih p (by rw [hp]; simp) (!b)
    have hj := ih q (by rw [hp]; simp) b
    unfold SnC at hi hj
    rw [hN]
    clear hcp hnt
    cases b with
    | true =>
      have hb := l9Pair_E 6 (p.nnf false) (q.nnf true)
      rw [cond_true, Bool.not_true]
      rw [Bool.not_true] at hi
      generalize p.nnf false = y at *
      generalize q.nnf true = z at *
      refine E_walk k_spec_l9Nnf m_spec_l9Nnf (of_decide_eq_true rfl) ?_
      simp (disch := omega) only [c_spec_l9Nnf, go_sem, Nat.reduceAdd, Nat.reduceSub, Nat.reduceLT, Nat.reduceLeDiff, Nat.reduceEqDiff, Nat.reduceBEq, Nat.reduceBneDiff, Nat.reduceMul, ↓reduceIte, Int.reduceToNat, reduceCtorEq, Int.reduceNeg, Int.reduceAdd, hg0, hg1, hi, hj, hb, m_spec_l8Own, m_spec_l9Not, m_spec_l9Pair, m_spec_l9Nnf]
      repeat ((first | (refine go_condT ?_ ?_; (focus (simp (disch := omega) only [go_sem, Nat.reduceAdd, Nat.reduceSub, Nat.reduceLT, Nat.reduceLeDiff, Nat.reduceEqDiff, Nat.reduceBEq, Nat.reduceBneDiff, Nat.reduceMul, ↓reduceIte, Int.reduceToNat, reduceCtorEq, Int.reduceNeg, Int.reduceAdd, hg0, hg1, hi, hj, hb, m_spec_l8Own, m_spec_l9Not, m_spec_l9Pair, m_spec_l9Nnf]; done))) | (refine go_condF ?_ ?_; (focus (simp (disch := omega) only [go_sem, Nat.reduceAdd, Nat.reduceSub, Nat.reduceLT, Nat.reduceLeDiff, Nat.reduceEqDiff, Nat.reduceBEq, Nat.reduceBneDiff, Nat.reduceMul, ↓reduceIte, Int.reduceToNat, reduceCtorEq, Int.reduceNeg, Int.reduceAdd, hg0, hg1, hi, hj, hb, m_spec_l8Own, m_spec_l9Not, m_spec_l9Pair, m_spec_l9Nnf]; done)))); (try simp (disch := omega) only [go_sem, Nat.reduceAdd, Nat.reduceSub, Nat.reduceLT, Nat.reduceLeDiff, Nat.reduceEqDiff, Nat.reduceBEq, Nat.reduceBneDiff, Nat.reduceMul, ↓reduceIte, Int.reduceToNat, reduceCtorEq, Int.reduceNeg, Int.reduceAdd, hg0, hg1, hi, hj, hb, m_spec_l8Own, m_spec_l9Not, m_spec_l9Pair, m_spec_l9Nnf]))
    | false =>
      have hb := l9Pair_E 5 (p.nnf true) (q.nnf false)
      rw [cond_false, Bool.not_false]
      rw [Bool.not_false] at hi
      generalize p.nnf true = y at *
      generalize q.nnf false = z at *
      refine E_walk k_spec_l9Nnf m_spec_l9Nnf (of_decide_eq_true rfl) ?_
      simp (disch := omega) only [c_spec_l9Nnf, go_sem, Nat.reduceAdd, Nat.reduceSub, Nat.reduceLT, Nat.reduceLeDiff, Nat.reduceEqDiff, Nat.reduceBEq, Nat.reduceBneDiff, Nat.reduceMul, ↓reduceIte, Int.reduceToNat, reduceCtorEq, Int.reduceNeg, Int.reduceAdd, hg0, hg1, hi, hj, hb, m_spec_l8Own, m_spec_l9Not, m_spec_l9Pair, m_spec_l9Nnf]
      repeat ((first | (refine go_condT ?_ ?_; (focus (simp (disch := omega) only [go_sem, Nat.reduceAdd, Nat.reduceSub, Nat.reduceLT, Nat.reduceLeDiff, Nat.reduceEqDiff, Nat.reduceBEq, Nat.reduceBneDiff, Nat.reduceMul, ↓reduceIte, Int.reduceToNat, reduceCtorEq, Int.reduceNeg, Int.reduceAdd, hg0, hg1, hi, hj, hb, m_spec_l8Own, m_spec_l9Not, m_spec_l9Pair, m_spec_l9Nnf]; done))) | (refine go_condF ?_ ?_; (focus (simp (disch := omega) only [go_sem, Nat.reduceAdd, Nat.reduceSub, Nat.reduceLT, Nat.reduceLeDiff, Nat.reduceEqDiff, Nat.reduceBEq, Nat.reduceBneDiff, Nat.reduceMul, ↓reduceIte, Int.reduceToNat, reduceCtorEq, Int.reduceNeg, Int.reduceAdd, hg0, hg1, hi, hj, hb, m_spec_l8Own, m_spec_l9Not, m_spec_l9Pair, m_spec_l9Nnf]; done)))); (try simp (disch := omega) only [go_sem, Nat.reduceAdd, Nat.reduceSub, Nat.reduceLT, Nat.reduceLeDiff, Nat.reduceEqDiff, Nat.reduceBEq, Nat.reduceBneDiff, Nat.reduceMul, ↓reduceIte, Int.reduceToNat, reduceCtorEq, Int.reduceNeg, Int.reduceAdd, hg0, hg1, hi, hj, hb, m_spec_l8Own, m_spec_l9Not, m_spec_l9Pair, m_spec_l9Nnf]))
  case inl =>
    rw [dec_f (p := x.op = 3) (by omega), dec_f (p := x.op = 4) (by omega), dec_f (p := x.op = 7) (by omega), cond_false, cond_false, cond_false] at hN
    have e := Fm.form_none hf (.inl h1)
    have hp : x.parts = [] := by rw [e]; rfl
    have ha : x.atom = Tm.zero := by rw [e]; rfl
    have hv : x.var = ⟨#[]⟩ := by rw [e]; rfl
    rw [hp, ha, hv, List.map_nil] at hN
    rw [hN]
    have hb1 : (true == false) = false := rfl
    have hb2 : (false == true) = false := rfl
    have hz : ∀ k : Int, (Fm.mk k Tm.zero ⟨#[]⟩ []).sv = .agg [.int .i64 k, .str ⟨#[]⟩, .arr [], .str ⟨#[]⟩, .arr []] := fun _ => rfl
    cases b with
    | true =>
      rw [cond_true, hz, h1]
      refine E_walk k_spec_l9Nnf m_spec_l9Nnf (of_decide_eq_true rfl) ?_
      simp (disch := omega) only [c_spec_l9Nnf, go_sem, Nat.reduceAdd, Nat.reduceSub, Nat.reduceLT, Nat.reduceLeDiff, Nat.reduceEqDiff, Nat.reduceBEq, Nat.reduceBneDiff, Nat.reduceMul, ↓reduceIte, Int.reduceToNat, reduceCtorEq, Int.reduceNeg, Int.reduceAdd, hb1, hb2, m_spec_l8Own, m_spec_l9Not, m_spec_l9Pair, m_spec_l9Nnf]
      repeat ((first | (refine go_condT ?_ ?_; (focus (simp (disch := omega) only [go_sem, Nat.reduceAdd, Nat.reduceSub, Nat.reduceLT, Nat.reduceLeDiff, Nat.reduceEqDiff, Nat.reduceBEq, Nat.reduceBneDiff, Nat.reduceMul, ↓reduceIte, Int.reduceToNat, reduceCtorEq, Int.reduceNeg, Int.reduceAdd, hb1, hb2, m_spec_l8Own, m_spec_l9Not, m_spec_l9Pair, m_spec_l9Nnf]; done))) | (refine go_condF ?_ ?_; (focus (simp (disch := omega) only [go_sem, Nat.reduceAdd, Nat.reduceSub, Nat.reduceLT, Nat.reduceLeDiff, Nat.reduceEqDiff, Nat.reduceBEq, Nat.reduceBneDiff, Nat.reduceMul, ↓reduceIte, Int.reduceToNat, reduceCtorEq, Int.reduceNeg, Int.reduceAdd, hb1, hb2, m_spec_l8Own, m_spec_l9Not, m_spec_l9Pair, m_spec_l9Nnf]; done)))); (try simp (disch := omega) only [go_sem, Nat.reduceAdd, Nat.reduceSub, Nat.reduceLT, Nat.reduceLeDiff, Nat.reduceEqDiff, Nat.reduceBEq, Nat.reduceBneDiff, Nat.reduceMul, ↓reduceIte, Int.reduceToNat, reduceCtorEq, Int.reduceNeg, Int.reduceAdd, hb1, hb2, m_spec_l8Own, m_spec_l9Not, m_spec_l9Pair, m_spec_l9Nnf]))
    | false =>
      rw [cond_false, turn, dec_t h1, cond_true, hz]
      refine E_walk k_spec_l9Nnf m_spec_l9Nnf (of_decide_eq_true rfl) ?_
      simp (disch := omega) only [c_spec_l9Nnf, go_sem, Nat.reduceAdd, Nat.reduceSub, Nat.reduceLT, Nat.reduceLeDiff, Nat.reduceEqDiff, Nat.reduceBEq, Nat.reduceBneDiff, Nat.reduceMul, ↓reduceIte, Int.reduceToNat, reduceCtorEq, Int.reduceNeg, Int.reduceAdd, hb1, hb2, m_spec_l8Own, m_spec_l9Not, m_spec_l9Pair, m_spec_l9Nnf]
      repeat ((first | (refine go_condT ?_ ?_; (focus (simp (disch := omega) only [go_sem, Nat.reduceAdd, Nat.reduceSub, Nat.reduceLT, Nat.reduceLeDiff, Nat.reduceEqDiff, Nat.reduceBEq, Nat.reduceBneDiff, Nat.reduceMul, ↓reduceIte, Int.reduceToNat, reduceCtorEq, Int.reduceNeg, Int.reduceAdd, hb1, hb2, m_spec_l8Own, m_spec_l9Not, m_spec_l9Pair, m_spec_l9Nnf]; done))) | (refine go_condF ?_ ?_; (focus (simp (disch := omega) only [go_sem, Nat.reduceAdd, Nat.reduceSub, Nat.reduceLT, Nat.reduceLeDiff, Nat.reduceEqDiff, Nat.reduceBEq, Nat.reduceBneDiff, Nat.reduceMul, ↓reduceIte, Int.reduceToNat, reduceCtorEq, Int.reduceNeg, Int.reduceAdd, hb1, hb2, m_spec_l8Own, m_spec_l9Not, m_spec_l9Pair, m_spec_l9Nnf]; done)))); (try simp (disch := omega) only [go_sem, Nat.reduceAdd, Nat.reduceSub, Nat.reduceLT, Nat.reduceLeDiff, Nat.reduceEqDiff, Nat.reduceBEq, Nat.reduceBneDiff, Nat.reduceMul, ↓reduceIte, Int.reduceToNat, reduceCtorEq, Int.reduceNeg, Int.reduceAdd, hb1, hb2, m_spec_l8Own, m_spec_l9Not, m_spec_l9Pair, m_spec_l9Nnf]))
  case inr.inl =>
    rw [dec_f (p := x.op = 3) (by omega), dec_f (p := x.op = 4) (by omega), dec_f (p := x.op = 7) (by omega), cond_false, cond_false, cond_false] at hN
    have e := Fm.form_none hf (.inr h1)
    have hp : x.parts = [] := by rw [e]; rfl
    have ha : x.atom = Tm.zero := by rw [e]; rfl
    have hv : x.var = ⟨#[]⟩ := by rw [e]; rfl
    rw [hp, ha, hv, List.map_nil] at hN
    rw [hN]
    have hb1 : (true == false) = false := rfl
    have hb2 : (false == true) = false := rfl
    have hz : ∀ k : Int, (Fm.mk k Tm.zero ⟨#[]⟩ []).sv = .agg [.int .i64 k, .str ⟨#[]⟩, .arr [], .str ⟨#[]⟩, .arr []] := fun _ => rfl
    cases b with
    | true =>
      rw [cond_true, hz, h1]
      refine E_walk k_spec_l9Nnf m_spec_l9Nnf (of_decide_eq_true rfl) ?_
      simp (disch := omega) only [c_spec_l9Nnf, go_sem, Nat.reduceAdd, Nat.reduceSub, Nat.reduceLT, Nat.reduceLeDiff, Nat.reduceEqDiff, Nat.reduceBEq, Nat.reduceBneDiff, Nat.reduceMul, ↓reduceIte, Int.reduceToNat, reduceCtorEq, Int.reduceNeg, Int.reduceAdd, hb1, hb2, m_spec_l8Own, m_spec_l9Not, m_spec_l9Pair, m_spec_l9Nnf]
      repeat ((first | (refine go_condT ?_ ?_; (focus (simp (disch := omega) only [go_sem, Nat.reduceAdd, Nat.reduceSub, Nat.reduceLT, Nat.reduceLeDiff, Nat.reduceEqDiff, Nat.reduceBEq, Nat.reduceBneDiff, Nat.reduceMul, ↓reduceIte, Int.reduceToNat, reduceCtorEq, Int.reduceNeg, Int.reduceAdd, hb1, hb2, m_spec_l8Own, m_spec_l9Not, m_spec_l9Pair, m_spec_l9Nnf]; done))) | (refine go_condF ?_ ?_; (focus (simp (disch := omega) only [go_sem, Nat.reduceAdd, Nat.reduceSub, Nat.reduceLT, Nat.reduceLeDiff, Nat.reduceEqDiff, Nat.reduceBEq, Nat.reduceBneDiff, Nat.reduceMul, ↓reduceIte, Int.reduceToNat, reduceCtorEq, Int.reduceNeg, Int.reduceAdd, hb1, hb2, m_spec_l8Own, m_spec_l9Not, m_spec_l9Pair, m_spec_l9Nnf]; done)))); (try simp (disch := omega) only [go_sem, Nat.reduceAdd, Nat.reduceSub, Nat.reduceLT, Nat.reduceLeDiff, Nat.reduceEqDiff, Nat.reduceBEq, Nat.reduceBneDiff, Nat.reduceMul, ↓reduceIte, Int.reduceToNat, reduceCtorEq, Int.reduceNeg, Int.reduceAdd, hb1, hb2, m_spec_l8Own, m_spec_l9Not, m_spec_l9Pair, m_spec_l9Nnf]))
    | false =>
      rw [cond_false, turn, dec_f (p := x.op = 1) (by omega), dec_t h1, cond_true, cond_false, hz]
      refine E_walk k_spec_l9Nnf m_spec_l9Nnf (of_decide_eq_true rfl) ?_
      simp (disch := omega) only [c_spec_l9Nnf, go_sem, Nat.reduceAdd, Nat.reduceSub, Nat.reduceLT, Nat.reduceLeDiff, Nat.reduceEqDiff, Nat.reduceBEq, Nat.reduceBneDiff, Nat.reduceMul, ↓reduceIte, Int.reduceToNat, reduceCtorEq, Int.reduceNeg, Int.reduceAdd, hb1, hb2, m_spec_l8Own, m_spec_l9Not, m_spec_l9Pair, m_spec_l9Nnf]
      repeat ((first | (refine go_condT ?_ ?_; (focus (simp (disch := omega) only [go_sem, Nat.reduceAdd, Nat.reduceSub, Nat.reduceLT, Nat.reduceLeDiff, Nat.reduceEqDiff, Nat.reduceBEq, Nat.reduceBneDiff, Nat.reduceMul, ↓reduceIte, Int.reduceToNat, reduceCtorEq, Int.reduceNeg, Int.reduceAdd, hb1, hb2, m_spec_l8Own, m_spec_l9Not, m_spec_l9Pair, m_spec_l9Nnf]; done))) | (refine go_condF ?_ ?_; (focus (simp (disch := omega) only [go_sem, Nat.reduceAdd, Nat.reduceSub, Nat.reduceLT, Nat.reduceLeDiff, Nat.reduceEqDiff, Nat.reduceBEq, Nat.reduceBneDiff, Nat.reduceMul, ↓reduceIte, Int.reduceToNat, reduceCtorEq, Int.reduceNeg, Int.reduceAdd, hb1, hb2, m_spec_l8Own, m_spec_l9Not, m_spec_l9Pair, m_spec_l9Nnf]; done)))); (try simp (disch := omega) only [go_sem, Nat.reduceAdd, Nat.reduceSub, Nat.reduceLT, Nat.reduceLeDiff, Nat.reduceEqDiff, Nat.reduceBEq, Nat.reduceBneDiff, Nat.reduceMul, ↓reduceIte, Int.reduceToNat, reduceCtorEq, Int.reduceNeg, Int.reduceAdd, hb1, hb2, m_spec_l8Own, m_spec_l9Not, m_spec_l9Pair, m_spec_l9Nnf]))
  case inr.inr.inr.inr.inl =>
    rw [dec_f (p := x.op = 3) (by omega), dec_f (p := x.op = 4) (by omega), dec_f (p := x.op = 7) (by omega), cond_false, cond_false, cond_false] at hN
    obtain ⟨p, q, e⟩ := Fm.form_two hf (by omega)
    have hp : x.parts = [p, q] := by rw [e]; rfl
    have ha : x.atom = Tm.zero := by rw [e]; rfl
    have hv : x.var = ⟨#[]⟩ := by rw [e]; rfl
    have hg0 : (x.parts.map Fm.d)[0]? = some (Fm.d p) := by rw [hp]; rfl
    rw [Fm.d_eq] at hg0
    have hg1 : (x.parts.map Fm.d)[1]? = some (Fm.d q) := by rw [hp]; rfl
    rw [Fm.d_eq] at hg1
    have hi := ih p (by rw [hp]; simp) b
    have hj := ih q (by rw [hp]; simp) b
    unfold SnC at hi hj
    have hT : (bif b then x.op else turn x.op) = bif b then x.op else 11 - x.op := by
      unfold turn
      cases b
      · rw [dec_f (p := x.op = 1) (by omega), dec_f (p := x.op = 2) (by omega), dec_t h1]; simp only [cond_true, cond_false]; omega
      · rfl
    rw [hT, hp, ha, hv, List.map_cons, List.map_cons, List.map_nil] at hN
    have hN : x.nnf b = Fm.pairF (bif b then x.op else 11 - x.op) (p.nnf b) (q.nnf b) := hN
    rw [hN]
    clear hcp hnt
    have hb := l9Pair_E (bif b then x.op else 11 - x.op) (p.nnf b) (q.nnf b)
    generalize p.nnf b = y at *
    generalize q.nnf b = z at *
    cases b with
    | true =>
      simp only [cond_true] at hb ⊢
      refine E_walk k_spec_l9Nnf m_spec_l9Nnf (of_decide_eq_true rfl) ?_
      simp (disch := omega) only [c_spec_l9Nnf, go_sem, Nat.reduceAdd, Nat.reduceSub, Nat.reduceLT, Nat.reduceLeDiff, Nat.reduceEqDiff, Nat.reduceBEq, Nat.reduceBneDiff, Nat.reduceMul, ↓reduceIte, Int.reduceToNat, reduceCtorEq, Int.reduceNeg, Int.reduceAdd, hg0, hg1, hi, hj, hb, m_spec_l8Own, m_spec_l9Not, m_spec_l9Pair, m_spec_l9Nnf]
      repeat ((first | (refine go_condT ?_ ?_; (focus (simp (disch := omega) only [go_sem, Nat.reduceAdd, Nat.reduceSub, Nat.reduceLT, Nat.reduceLeDiff, Nat.reduceEqDiff, Nat.reduceBEq, Nat.reduceBneDiff, Nat.reduceMul, ↓reduceIte, Int.reduceToNat, reduceCtorEq, Int.reduceNeg, Int.reduceAdd, hg0, hg1, hi, hj, hb, m_spec_l8Own, m_spec_l9Not, m_spec_l9Pair, m_spec_l9Nnf]; done))) | (refine go_condF ?_ ?_; (focus (simp (disch := omega) only [go_sem, Nat.reduceAdd, Nat.reduceSub, Nat.reduceLT, Nat.reduceLeDiff, Nat.reduceEqDiff, Nat.reduceBEq, Nat.reduceBneDiff, Nat.reduceMul, ↓reduceIte, Int.reduceToNat, reduceCtorEq, Int.reduceNeg, Int.reduceAdd, hg0, hg1, hi, hj, hb, m_spec_l8Own, m_spec_l9Not, m_spec_l9Pair, m_spec_l9Nnf]; done)))); (try simp (disch := omega) only [go_sem, Nat.reduceAdd, Nat.reduceSub, Nat.reduceLT, Nat.reduceLeDiff, Nat.reduceEqDiff, Nat.reduceBEq, Nat.reduceBneDiff, Nat.reduceMul, ↓reduceIte, Int.reduceToNat, reduceCtorEq, Int.reduceNeg, Int.reduceAdd, hg0, hg1, hi, hj, hb, m_spec_l8Own, m_spec_l9Not, m_spec_l9Pair, m_spec_l9Nnf]))
    | false =>
      simp only [cond_false] at hb ⊢
      refine E_walk k_spec_l9Nnf m_spec_l9Nnf (of_decide_eq_true rfl) ?_
      simp (disch := omega) only [c_spec_l9Nnf, go_sem, Nat.reduceAdd, Nat.reduceSub, Nat.reduceLT, Nat.reduceLeDiff, Nat.reduceEqDiff, Nat.reduceBEq, Nat.reduceBneDiff, Nat.reduceMul, ↓reduceIte, Int.reduceToNat, reduceCtorEq, Int.reduceNeg, Int.reduceAdd, hg0, hg1, hi, hj, hb, m_spec_l8Own, m_spec_l9Not, m_spec_l9Pair, m_spec_l9Nnf]
      repeat ((first | (refine go_condT ?_ ?_; (focus (simp (disch := omega) only [go_sem, Nat.reduceAdd, Nat.reduceSub, Nat.reduceLT, Nat.reduceLeDiff, Nat.reduceEqDiff, Nat.reduceBEq, Nat.reduceBneDiff, Nat.reduceMul, ↓reduceIte, Int.reduceToNat, reduceCtorEq, Int.reduceNeg, Int.reduceAdd, hg0, hg1, hi, hj, hb, m_spec_l8Own, m_spec_l9Not, m_spec_l9Pair, m_spec_l9Nnf]; done))) | (refine go_condF ?_ ?_; (focus (simp (disch := omega) only [go_sem, Nat.reduceAdd, Nat.reduceSub, Nat.reduceLT, Nat.reduceLeDiff, Nat.reduceEqDiff, Nat.reduceBEq, Nat.reduceBneDiff, Nat.reduceMul, ↓reduceIte, Int.reduceToNat, reduceCtorEq, Int.reduceNeg, Int.reduceAdd, hg0, hg1, hi, hj, hb, m_spec_l8Own, m_spec_l9Not, m_spec_l9Pair, m_spec_l9Nnf]; done)))); (try simp (disch := omega) only [go_sem, Nat.reduceAdd, Nat.reduceSub, Nat.reduceLT, Nat.reduceLeDiff, Nat.reduceEqDiff, Nat.reduceBEq, Nat.reduceBneDiff, Nat.reduceMul, ↓reduceIte, Int.reduceToNat, reduceCtorEq, Int.reduceNeg, Int.reduceAdd, hg0, hg1, hi, hj, hb, m_spec_l8Own, m_spec_l9Not, m_spec_l9Pair, m_spec_l9Nnf]))
  case inr.inr.inr.inr.inr.inl =>
    rw [dec_f (p := x.op = 3) (by omega), dec_f (p := x.op = 4) (by omega), dec_f (p := x.op = 7) (by omega), cond_false, cond_false, cond_false] at hN
    obtain ⟨p, q, e⟩ := Fm.form_two hf (by omega)
    have hp : x.parts = [p, q] := by rw [e]; rfl
    have ha : x.atom = Tm.zero := by rw [e]; rfl
    have hv : x.var = ⟨#[]⟩ := by rw [e]; rfl
    have hg0 : (x.parts.map Fm.d)[0]? = some (Fm.d p) := by rw [hp]; rfl
    rw [Fm.d_eq] at hg0
    have hg1 : (x.parts.map Fm.d)[1]? = some (Fm.d q) := by rw [hp]; rfl
    rw [Fm.d_eq] at hg1
    have hi := ih p (by rw [hp]; simp) b
    have hj := ih q (by rw [hp]; simp) b
    unfold SnC at hi hj
    have hT : (bif b then x.op else turn x.op) = bif b then x.op else 11 - x.op := by
      unfold turn
      cases b
      · rw [dec_f (p := x.op = 1) (by omega), dec_f (p := x.op = 2) (by omega), dec_f (p := x.op = 5) (by omega), dec_t h1]; simp only [cond_true, cond_false]; omega
      · rfl
    rw [hT, hp, ha, hv, List.map_cons, List.map_cons, List.map_nil] at hN
    have hN : x.nnf b = Fm.pairF (bif b then x.op else 11 - x.op) (p.nnf b) (q.nnf b) := hN
    rw [hN]
    clear hcp hnt
    have hb := l9Pair_E (bif b then x.op else 11 - x.op) (p.nnf b) (q.nnf b)
    generalize p.nnf b = y at *
    generalize q.nnf b = z at *
    cases b with
    | true =>
      simp only [cond_true] at hb ⊢
      refine E_walk k_spec_l9Nnf m_spec_l9Nnf (of_decide_eq_true rfl) ?_
      simp (disch := omega) only [c_spec_l9Nnf, go_sem, Nat.reduceAdd, Nat.reduceSub, Nat.reduceLT, Nat.reduceLeDiff, Nat.reduceEqDiff, Nat.reduceBEq, Nat.reduceBneDiff, Nat.reduceMul, ↓reduceIte, Int.reduceToNat, reduceCtorEq, Int.reduceNeg, Int.reduceAdd, hg0, hg1, hi, hj, hb, m_spec_l8Own, m_spec_l9Not, m_spec_l9Pair, m_spec_l9Nnf]
      repeat ((first | (refine go_condT ?_ ?_; (focus (simp (disch := omega) only [go_sem, Nat.reduceAdd, Nat.reduceSub, Nat.reduceLT, Nat.reduceLeDiff, Nat.reduceEqDiff, Nat.reduceBEq, Nat.reduceBneDiff, Nat.reduceMul, ↓reduceIte, Int.reduceToNat, reduceCtorEq, Int.reduceNeg, Int.reduceAdd, hg0, hg1, hi, hj, hb, m_spec_l8Own, m_spec_l9Not, m_spec_l9Pair, m_spec_l9Nnf]; done))) | (refine go_condF ?_ ?_; (focus (simp (disch := omega) only [go_sem, Nat.reduceAdd, Nat.reduceSub, Nat.reduceLT, Nat.reduceLeDiff, Nat.reduceEqDiff, Nat.reduceBEq, Nat.reduceBneDiff, Nat.reduceMul, ↓reduceIte, Int.reduceToNat, reduceCtorEq, Int.reduceNeg, Int.reduceAdd, hg0, hg1, hi, hj, hb, m_spec_l8Own, m_spec_l9Not, m_spec_l9Pair, m_spec_l9Nnf]; done)))); (try simp (disch := omega) only [go_sem, Nat.reduceAdd, Nat.reduceSub, Nat.reduceLT, Nat.reduceLeDiff, Nat.reduceEqDiff, Nat.reduceBEq, Nat.reduceBneDiff, Nat.reduceMul, ↓reduceIte, Int.reduceToNat, reduceCtorEq, Int.reduceNeg, Int.reduceAdd, hg0, hg1, hi, hj, hb, m_spec_l8Own, m_spec_l9Not, m_spec_l9Pair, m_spec_l9Nnf]))
    | false =>
      simp only [cond_false] at hb ⊢
      refine E_walk k_spec_l9Nnf m_spec_l9Nnf (of_decide_eq_true rfl) ?_
      simp (disch := omega) only [c_spec_l9Nnf, go_sem, Nat.reduceAdd, Nat.reduceSub, Nat.reduceLT, Nat.reduceLeDiff, Nat.reduceEqDiff, Nat.reduceBEq, Nat.reduceBneDiff, Nat.reduceMul, ↓reduceIte, Int.reduceToNat, reduceCtorEq, Int.reduceNeg, Int.reduceAdd, hg0, hg1, hi, hj, hb, m_spec_l8Own, m_spec_l9Not, m_spec_l9Pair, m_spec_l9Nnf]
      repeat ((first | (refine go_condT ?_ ?_; (focus (simp (disch := omega) only [go_sem, Nat.reduceAdd, Nat.reduceSub, Nat.reduceLT, Nat.reduceLeDiff, Nat.reduceEqDiff, Nat.reduceBEq, Nat.reduceBneDiff, Nat.reduceMul, ↓reduceIte, Int.reduceToNat, reduceCtorEq, Int.reduceNeg, Int.reduceAdd, hg0, hg1, hi, hj, hb, m_spec_l8Own, m_spec_l9Not, m_spec_l9Pair, m_spec_l9Nnf]; done))) | (refine go_condF ?_ ?_; (focus (simp (disch := omega) only [go_sem, Nat.reduceAdd, Nat.reduceSub, Nat.reduceLT, Nat.reduceLeDiff, Nat.reduceEqDiff, Nat.reduceBEq, Nat.reduceBneDiff, Nat.reduceMul, ↓reduceIte, Int.reduceToNat, reduceCtorEq, Int.reduceNeg, Int.reduceAdd, hg0, hg1, hi, hj, hb, m_spec_l8Own, m_spec_l9Not, m_spec_l9Pair, m_spec_l9Nnf]; done)))); (try simp (disch := omega) only [go_sem, Nat.reduceAdd, Nat.reduceSub, Nat.reduceLT, Nat.reduceLeDiff, Nat.reduceEqDiff, Nat.reduceBEq, Nat.reduceBneDiff, Nat.reduceMul, ↓reduceIte, Int.reduceToNat, reduceCtorEq, Int.reduceNeg, Int.reduceAdd, hg0, hg1, hi, hj, hb, m_spec_l8Own, m_spec_l9Not, m_spec_l9Pair, m_spec_l9Nnf]))
  case inr.inr.inr.inr.inr.inr.inr.inl =>
    rw [dec_f (p := x.op = 3) (by omega), dec_f (p := x.op = 4) (by omega), dec_f (p := x.op = 7) (by omega), cond_false, cond_false, cond_false] at hN
    obtain ⟨p, e⟩ := Fm.form_q hf (by omega)
    have hp : x.parts = [p] := by rw [e]; rfl
    have ha : x.atom = Tm.zero := by rw [e]; rfl
    have hg0 : (x.parts.map Fm.d)[0]? = some (Fm.d p) := by rw [hp]; rfl
    rw [Fm.d_eq] at hg0
    have hi := ih p (by rw [hp]; simp) b
    unfold SnC at hi
    have hT : (bif b then x.op else turn x.op) = bif b then x.op else 17 - x.op := by
      unfold turn
      cases b
      · rw [dec_f (p := x.op = 1) (by omega), dec_f (p := x.op = 2) (by omega), dec_f (p := x.op = 5) (by omega), dec_f (p := x.op = 6) (by omega), dec_t h1]; simp only [cond_true, cond_false]; omega
      · rfl
    rw [hT, hp, ha, List.map_cons, List.map_nil] at hN
    rw [hN]
    clear hcp hnt
    generalize p.nnf b = y at *
    have ho := Fm.d_eq y
    have hb1 : (true == false) = false := rfl
    have hb2 : (false == true) = false := rfl
    have hz : ∀ k : Int, (Fm.mk k Tm.zero x.var [y]).sv = .agg [.int .i64 k, .str ⟨#[]⟩, .arr [], .str x.var, .arr [Fm.d y]] := fun _ => rfl
    cases b with
    | true =>
      rw [cond_true, hz, ho]
      refine E_walk k_spec_l9Nnf m_spec_l9Nnf (of_decide_eq_true rfl) ?_
      simp (disch := omega) only [c_spec_l9Nnf, go_sem, Nat.reduceAdd, Nat.reduceSub, Nat.reduceLT, Nat.reduceLeDiff, Nat.reduceEqDiff, Nat.reduceBEq, Nat.reduceBneDiff, Nat.reduceMul, ↓reduceIte, Int.reduceToNat, reduceCtorEq, Int.reduceNeg, Int.reduceAdd, hg0, hi, m_spec_l8Own, m_spec_l9Not, m_spec_l9Pair, m_spec_l9Nnf]
      repeat ((first | (refine go_condT ?_ ?_; (focus (simp (disch := omega) only [go_sem, Nat.reduceAdd, Nat.reduceSub, Nat.reduceLT, Nat.reduceLeDiff, Nat.reduceEqDiff, Nat.reduceBEq, Nat.reduceBneDiff, Nat.reduceMul, ↓reduceIte, Int.reduceToNat, reduceCtorEq, Int.reduceNeg, Int.reduceAdd, hg0, hi, m_spec_l8Own, m_spec_l9Not, m_spec_l9Pair, m_spec_l9Nnf]; done))) | (refine go_condF ?_ ?_; (focus (simp (disch := omega) only [go_sem, Nat.reduceAdd, Nat.reduceSub, Nat.reduceLT, Nat.reduceLeDiff, Nat.reduceEqDiff, Nat.reduceBEq, Nat.reduceBneDiff, Nat.reduceMul, ↓reduceIte, Int.reduceToNat, reduceCtorEq, Int.reduceNeg, Int.reduceAdd, hg0, hi, m_spec_l8Own, m_spec_l9Not, m_spec_l9Pair, m_spec_l9Nnf]; done)))); (try simp (disch := omega) only [go_sem, Nat.reduceAdd, Nat.reduceSub, Nat.reduceLT, Nat.reduceLeDiff, Nat.reduceEqDiff, Nat.reduceBEq, Nat.reduceBneDiff, Nat.reduceMul, ↓reduceIte, Int.reduceToNat, reduceCtorEq, Int.reduceNeg, Int.reduceAdd, hg0, hi, m_spec_l8Own, m_spec_l9Not, m_spec_l9Pair, m_spec_l9Nnf]))
    | false =>
      rw [cond_false, hz, ho]
      refine E_walk k_spec_l9Nnf m_spec_l9Nnf (of_decide_eq_true rfl) ?_
      simp (disch := omega) only [c_spec_l9Nnf, go_sem, Nat.reduceAdd, Nat.reduceSub, Nat.reduceLT, Nat.reduceLeDiff, Nat.reduceEqDiff, Nat.reduceBEq, Nat.reduceBneDiff, Nat.reduceMul, ↓reduceIte, Int.reduceToNat, reduceCtorEq, Int.reduceNeg, Int.reduceAdd, hg0, hi, m_spec_l8Own, m_spec_l9Not, m_spec_l9Pair, m_spec_l9Nnf]
      repeat ((first | (refine go_condT ?_ ?_; (focus (simp (disch := omega) only [go_sem, Nat.reduceAdd, Nat.reduceSub, Nat.reduceLT, Nat.reduceLeDiff, Nat.reduceEqDiff, Nat.reduceBEq, Nat.reduceBneDiff, Nat.reduceMul, ↓reduceIte, Int.reduceToNat, reduceCtorEq, Int.reduceNeg, Int.reduceAdd, hg0, hi, m_spec_l8Own, m_spec_l9Not, m_spec_l9Pair, m_spec_l9Nnf]; done))) | (refine go_condF ?_ ?_; (focus (simp (disch := omega) only [go_sem, Nat.reduceAdd, Nat.reduceSub, Nat.reduceLT, Nat.reduceLeDiff, Nat.reduceEqDiff, Nat.reduceBEq, Nat.reduceBneDiff, Nat.reduceMul, ↓reduceIte, Int.reduceToNat, reduceCtorEq, Int.reduceNeg, Int.reduceAdd, hg0, hi, m_spec_l8Own, m_spec_l9Not, m_spec_l9Pair, m_spec_l9Nnf]; done)))); (try simp (disch := omega) only [go_sem, Nat.reduceAdd, Nat.reduceSub, Nat.reduceLT, Nat.reduceLeDiff, Nat.reduceEqDiff, Nat.reduceBEq, Nat.reduceBneDiff, Nat.reduceMul, ↓reduceIte, Int.reduceToNat, reduceCtorEq, Int.reduceNeg, Int.reduceAdd, hg0, hi, m_spec_l8Own, m_spec_l9Not, m_spec_l9Pair, m_spec_l9Nnf]))
  case inr.inr.inr.inr.inr.inr.inr.inr =>
    rw [dec_f (p := x.op = 3) (by omega), dec_f (p := x.op = 4) (by omega), dec_f (p := x.op = 7) (by omega), cond_false, cond_false, cond_false] at hN
    obtain ⟨p, e⟩ := Fm.form_q hf (by omega)
    have hp : x.parts = [p] := by rw [e]; rfl
    have ha : x.atom = Tm.zero := by rw [e]; rfl
    have hg0 : (x.parts.map Fm.d)[0]? = some (Fm.d p) := by rw [hp]; rfl
    rw [Fm.d_eq] at hg0
    have hi := ih p (by rw [hp]; simp) b
    unfold SnC at hi
    have hT : (bif b then x.op else turn x.op) = bif b then x.op else 17 - x.op := by
      unfold turn
      cases b
      · rw [dec_f (p := x.op = 1) (by omega), dec_f (p := x.op = 2) (by omega), dec_f (p := x.op = 5) (by omega), dec_f (p := x.op = 6) (by omega), dec_f (p := x.op = 8) (by omega), dec_t h1]; simp only [cond_true, cond_false]; omega
      · rfl
    rw [hT, hp, ha, List.map_cons, List.map_nil] at hN
    rw [hN]
    clear hcp hnt
    generalize p.nnf b = y at *
    have ho := Fm.d_eq y
    have hb1 : (true == false) = false := rfl
    have hb2 : (false == true) = false := rfl
    have hz : ∀ k : Int, (Fm.mk k Tm.zero x.var [y]).sv = .agg [.int .i64 k, .str ⟨#[]⟩, .arr [], .str x.var, .arr [Fm.d y]] := fun _ => rfl
    cases b with
    | true =>
      rw [cond_true, hz, ho]
      refine E_walk k_spec_l9Nnf m_spec_l9Nnf (of_decide_eq_true rfl) ?_
      simp (disch := omega) only [c_spec_l9Nnf, go_sem, Nat.reduceAdd, Nat.reduceSub, Nat.reduceLT, Nat.reduceLeDiff, Nat.reduceEqDiff, Nat.reduceBEq, Nat.reduceBneDiff, Nat.reduceMul, ↓reduceIte, Int.reduceToNat, reduceCtorEq, Int.reduceNeg, Int.reduceAdd, hg0, hi, m_spec_l8Own, m_spec_l9Not, m_spec_l9Pair, m_spec_l9Nnf]
      repeat ((first | (refine go_condT ?_ ?_; (focus (simp (disch := omega) only [go_sem, Nat.reduceAdd, Nat.reduceSub, Nat.reduceLT, Nat.reduceLeDiff, Nat.reduceEqDiff, Nat.reduceBEq, Nat.reduceBneDiff, Nat.reduceMul, ↓reduceIte, Int.reduceToNat, reduceCtorEq, Int.reduceNeg, Int.reduceAdd, hg0, hi, m_spec_l8Own, m_spec_l9Not, m_spec_l9Pair, m_spec_l9Nnf]; done))) | (refine go_condF ?_ ?_; (focus (simp (disch := omega) only [go_sem, Nat.reduceAdd, Nat.reduceSub, Nat.reduceLT, Nat.reduceLeDiff, Nat.reduceEqDiff, Nat.reduceBEq, Nat.reduceBneDiff, Nat.reduceMul, ↓reduceIte, Int.reduceToNat, reduceCtorEq, Int.reduceNeg, Int.reduceAdd, hg0, hi, m_spec_l8Own, m_spec_l9Not, m_spec_l9Pair, m_spec_l9Nnf]; done)))); (try simp (disch := omega) only [go_sem, Nat.reduceAdd, Nat.reduceSub, Nat.reduceLT, Nat.reduceLeDiff, Nat.reduceEqDiff, Nat.reduceBEq, Nat.reduceBneDiff, Nat.reduceMul, ↓reduceIte, Int.reduceToNat, reduceCtorEq, Int.reduceNeg, Int.reduceAdd, hg0, hi, m_spec_l8Own, m_spec_l9Not, m_spec_l9Pair, m_spec_l9Nnf]))
    | false =>
      rw [cond_false, hz, ho]
      refine E_walk k_spec_l9Nnf m_spec_l9Nnf (of_decide_eq_true rfl) ?_
      simp (disch := omega) only [c_spec_l9Nnf, go_sem, Nat.reduceAdd, Nat.reduceSub, Nat.reduceLT, Nat.reduceLeDiff, Nat.reduceEqDiff, Nat.reduceBEq, Nat.reduceBneDiff, Nat.reduceMul, ↓reduceIte, Int.reduceToNat, reduceCtorEq, Int.reduceNeg, Int.reduceAdd, hg0, hi, m_spec_l8Own, m_spec_l9Not, m_spec_l9Pair, m_spec_l9Nnf]
      repeat ((first | (refine go_condT ?_ ?_; (focus (simp (disch := omega) only [go_sem, Nat.reduceAdd, Nat.reduceSub, Nat.reduceLT, Nat.reduceLeDiff, Nat.reduceEqDiff, Nat.reduceBEq, Nat.reduceBneDiff, Nat.reduceMul, ↓reduceIte, Int.reduceToNat, reduceCtorEq, Int.reduceNeg, Int.reduceAdd, hg0, hi, m_spec_l8Own, m_spec_l9Not, m_spec_l9Pair, m_spec_l9Nnf]; done))) | (refine go_condF ?_ ?_; (focus (simp (disch := omega) only [go_sem, Nat.reduceAdd, Nat.reduceSub, Nat.reduceLT, Nat.reduceLeDiff, Nat.reduceEqDiff, Nat.reduceBEq, Nat.reduceBneDiff, Nat.reduceMul, ↓reduceIte, Int.reduceToNat, reduceCtorEq, Int.reduceNeg, Int.reduceAdd, hg0, hi, m_spec_l8Own, m_spec_l9Not, m_spec_l9Pair, m_spec_l9Nnf]; done)))); (try simp (disch := omega) only [go_sem, Nat.reduceAdd, Nat.reduceSub, Nat.reduceLT, Nat.reduceLeDiff, Nat.reduceEqDiff, Nat.reduceBEq, Nat.reduceBneDiff, Nat.reduceMul, ↓reduceIte, Int.reduceToNat, reduceCtorEq, Int.reduceNeg, Int.reduceAdd, hg0, hi, m_spec_l8Own, m_spec_l9Not, m_spec_l9Pair, m_spec_l9Nnf]))
theorem l9Nnf_E (x : Fm) (hx : x.forms = true) (hsz : x.nodes ≤ 40) (b : Bool) : SnC b x :=
  l9Nnf_of x hx hsz b fun y hy b => l9Nnf_E y (Fm.forms_part hx hy) (by have := Fm.nodes_mem hy; have := Fm.nodes_eq x; omega) b
termination_by SizeOf.sizeOf x
decreasing_by exact Fm.lt_of_mem hy
set_option maxHeartbeats 4000000 in
theorem l9NegationNormalForm_E (x : Fm) (hta : x.tame) (hn : x.nodes ≤ 1099511627776) : E 5 [x.sv] [] = some (.tup [(nnfTo x).sv, .bool (nnfOk x)], []) := by
  have h1 := l8Good_E x hta hn
  have hz1 : Fm.zero.sv = .agg [.int .i64 0, .str ⟨#[]⟩, .arr [], .str ⟨#[]⟩, .arr []] := rfl
  unfold nnfTo nnfOk
  cases hv : x.valid with
  | false =>
    rw [hv] at h1
    rw [Bool.false_and, cond_false, hz1]
    refine E_walk k_spec_NegationNormalForm m_spec_NegationNormalForm (of_decide_eq_true rfl) ?_
    simp (disch := omega) only [c_spec_NegationNormalForm, go_sem, go_cond, Nat.reduceAdd, Nat.reduceSub, Nat.reduceLT, Nat.reduceLeDiff, Nat.reduceEqDiff, Nat.reduceBEq, Nat.reduceBneDiff, Nat.reduceMul, ↓reduceIte, Int.reduceToNat, reduceCtorEq, Int.reduceNeg, Int.reduceAdd, h1, m_spec_l8Good, m_spec_l9Nnf]
  | true =>
    rw [hv] at h1
    rw [Bool.true_and]
    have hva := hv
    unfold Fm.valid at hva
    rw [Bool.and_eq_true, decide_eq_true_eq] at hva
    obtain ⟨hva1, hva2⟩ := hva
    have hs := l9Nnf_E x hva2 hva1 true
    obtain ⟨hp1, hp2⟩ := Fm.nnf_small x hva2 true
    unfold SnC at hs
    generalize x.nnf true = y at *
    have h2 := l8Good_E y hp1 (by omega)
    cases hq : y.valid with
    | true =>
      rw [hq] at h2
      rw [cond_true]
      refine E_walk k_spec_NegationNormalForm m_spec_NegationNormalForm (of_decide_eq_true rfl) ?_
      simp (disch := omega) only [c_spec_NegationNormalForm, go_sem, go_cond, Nat.reduceAdd, Nat.reduceSub, Nat.reduceLT, Nat.reduceLeDiff, Nat.reduceEqDiff, Nat.reduceBEq, Nat.reduceBneDiff, Nat.reduceMul, ↓reduceIte, Int.reduceToNat, reduceCtorEq, Int.reduceNeg, Int.reduceAdd, h1, hs, h2, m_spec_l8Good, m_spec_l9Nnf]
    | false =>
      rw [hq] at h2
      rw [cond_false, hz1]
      refine E_walk k_spec_NegationNormalForm m_spec_NegationNormalForm (of_decide_eq_true rfl) ?_
      simp (disch := omega) only [c_spec_NegationNormalForm, go_sem, go_cond, Nat.reduceAdd, Nat.reduceSub, Nat.reduceLT, Nat.reduceLeDiff, Nat.reduceEqDiff, Nat.reduceBEq, Nat.reduceBneDiff, Nat.reduceMul, ↓reduceIte, Int.reduceToNat, reduceCtorEq, Int.reduceNeg, Int.reduceAdd, h1, hs, h2, m_spec_l8Good, m_spec_l9Nnf]
end Go.Proofs.Ytjgnhifkcgpmjaa

set_option maxRecDepth 100000
set_option linter.unusedSimpArgs false
set_option linter.unusedVariables false
namespace Go.Proofs.Ytjgnhifkcgpmjaa
open Go.RowKit

theorem Tm.atom_args {x : Tm} (h : x.atom = true) : (varB x.name = true → x.args = []) ∧ ∀ y ∈ x.args, y.names = true := by
  unfold Tm.atom at h
  cases he : x.eqn with
  | true =>
    rw [he, if_pos rfl, Bool.and_eq_true, Bool.and_eq_true] at h
    have h2 := h.2
    rw [Tm.nameS_all, List.all_eq_true] at h2
    refine ⟨fun hv => ?_, h2⟩
    have hn := dec_iff.1 he
    have hnv0 : varB ⟨#[61]⟩ = false := by kernel_rfl
    rw [hn, hnv0] at hv
    cases hv
  | false =>
    rw [he, if_neg (by simp), Bool.and_eq_true] at h
    have hnm : x.names = true := by have h3 := h.2; unfold Tm.valid at h3; rw [Bool.and_eq_true] at h3; exact h3.2
    exact ⟨fun hv => Tm.names_var hnm hv, fun y hy => Tm.names_arg hnm hy⟩
end Go.Proofs.Ytjgnhifkcgpmjaa

set_option maxRecDepth 100000
set_option linter.unusedSimpArgs false
set_option linter.unusedVariables false
namespace Go.Proofs.Ytjgnhifkcgpmjaa
open Go.RowKit

theorem Fm.bulk_tame (x : Fm) (h : x.bulk ≤ 1048576) : x.tame ∧ x.nodes ≤ 1 + x.bulk := by
  have hb := Fm.bulk_eq x
  have ha := Tm.nodes_bulk x.atom
  have key : ∀ xs : List Fm, (∀ y ∈ xs, y.bulk ≤ 1048576 → y.tame ∧ y.nodes ≤ 1 + y.bulk) → Fm.sumB xs ≤ 1048576 → Fm.tameS xs ∧ Fm.nodeS xs ≤ xs.length + Fm.sumB xs := by
    intro xs
    induction xs with
    | nil => intro _ _; rw [Fm.tameS, Fm.nodeS]; exact ⟨trivial, by simp⟩
    | cons y ys ih =>
      intro hh hs
      rw [Fm.sumB] at hs
      have h1 := hh y (by simp) (by omega)
      have h2 := ih (fun z hz => hh z (by simp [hz])) (by omega)
      rw [Fm.tameS, Fm.nodeS, Fm.sumB, List.length_cons]
      exact ⟨⟨h1.1, h2.1⟩, by omega⟩
  have hk := key x.parts (fun y hy hby => Fm.bulk_tame y hby) (by omega)
  rw [Fm.tame_eq, Fm.nodes_eq]
  exact ⟨⟨by omega, hk.1⟩, by omega⟩
termination_by SizeOf.sizeOf x
decreasing_by exact Fm.lt_of_mem hy
theorem Tm.atom_bulk {x : Tm} (h : x.atom = true) : x.bulk ≤ 300 := by
  have hn := Tm.atom_nodes h
  have h1 := Tm.sumB_nodes x.args fun y hy => Tm.names_bulk y ((Tm.atom_args h).2 y hy)
  have h2 : x.name.size ≤ 6 := by
    unfold Tm.atom at h
    split at h
    · rename_i he
      unfold Tm.eqn at he
      rw [dec_iff.1 he]; decide
    · rw [Bool.and_eq_true] at h; exact symB_size h.1
  rw [Tm.nodes_eq] at hn
  rw [Tm.bulk_eq]
  omega
theorem Fm.forms_bulk (x : Fm) (h : x.forms = true) : x.bulk + 1 ≤ 320 * x.nodes := by
  have hf := Fm.forms_form h
  have key : ∀ xs : List Fm, (∀ y ∈ xs, y.bulk + 1 ≤ 320 * y.nodes) → xs.length + Fm.sumB xs ≤ 320 * Fm.nodeS xs := by
    intro xs
    induction xs with
    | nil => intro _; simp [Fm.sumB]
    | cons y ys ih =>
      intro hh
      have h1 := hh y (by simp)
      have h2 := ih fun z hz => hh z (by simp [hz])
      rw [Fm.nodeS, Fm.sumB, List.length_cons]; omega
  have hk := key x.parts fun y hy => Fm.forms_bulk y (Fm.forms_part h hy)
  have ha : x.atom.bulk ≤ 300 := by
    by_cases ho : x.op = 3
    · exact Tm.atom_bulk (Fm.form_atom hf ho).2.1
    · rw [Fm.form_other hf ho, Tm.bulk_eq]
      show 0 + _ ≤ _
      simp [Tm.args, Tm.sumB]
  have hv : x.var.size ≤ 6 := by
    by_cases hq : qB x.op = true
    · exact varB_size (Fm.form_quant hf hq).1
    · have hq2 : qB x.op = false := by simpa using hq
      have e : x.var = ⟨#[]⟩ := by
        unfold qB at hq2
        rw [Bool.or_eq_false_iff] at hq2
        have o8 := dec_not.1 hq2.1
        have o9 := dec_not.1 hq2.2
        unfold Fm.form at hf
        split at hf
        · rw [Bool.and_eq_true] at hf; exact dec_iff.1 hf.2
        · split at hf
          · rw [Bool.and_eq_true] at hf; exact dec_iff.1 hf.2
          · split at hf
            · rw [Bool.and_eq_true] at hf; exact dec_iff.1 hf.2
            · split at hf
              · rw [Bool.and_eq_true] at hf; exact dec_iff.1 hf.2
              · rw [if_neg (by omega)] at hf; cases hf
      rw [e]
      decide
  rw [Fm.bulk_eq, Fm.nodes_eq]
  omega
termination_by SizeOf.sizeOf x
decreasing_by exact Fm.lt_of_mem hy
end Go.Proofs.Ytjgnhifkcgpmjaa
