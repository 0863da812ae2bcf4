/-
  This text holds, one behind the other: This text tells what the comparison of literals and the validity of clauses answer in both packages. No condition.
  This text tells what the validity of substitutions answers in both packages, and the place of a binding. No condition.
  This text tells what copies of terms answer in both packages. No condition.
  This text tells what the reference's copies of terms answer. No condition.
  This text tells what the search for a binding answers. No condition.
  This text holds the plain laws of applying a substitution to a term. No condition.
  This text tells what applying a substitution answers in both packages. No condition.
  This text tells what ApplySubstitution answers in both packages. No condition.
  This text tells what the laws' marks answer. No condition.
  This text tells what the laws read of the marks. No condition.
  This text tells what the laws' marks of a record answer. No condition.
  This text tells what the laws' measuring functions answer. No condition.
-/
import Derived.Test.YtifpfjbpfekkmaaK12c
set_option maxRecDepth 100000
set_option linter.unusedSimpArgs false
set_option linter.unusedVariables false
namespace Go.Proofs.Ytifpfjbpfekkmaa
open Go.RowKit

def flagZ (b : Bool) : Int := if b then 1 else 0
noncomputable def Lt.cmp (x y : Lt) : Int := orZ (x.atom.cmp y.atom) (cmpI (flagZ x.pos) (flagZ y.pos))
noncomputable def ltAt (xs : List Lt) (k : Nat) : Bool := match xs[k]? with
  | none => true
  | some x => x.atom.atom && (match k with
    | 0 => true
    | j + 1 => match xs[j]? with
      | none => true
      | some y => decide (y.cmp x < 0))
noncomputable def ltTo (xs : List Lt) : Nat → Bool
  | 0 => true
  | k + 1 => ltTo xs k && ltAt xs k
theorem ltTo_mono {xs : List Lt} {k n : Nat} (h : ltTo xs k = false) (hn : k ≤ n) : ltTo xs n = false := by
  induction n with
  | zero => obtain rfl : k = 0 := by omega
            exact h
  | succ n ih =>
    rcases Nat.lt_or_ge n k with h1 | h1
    · obtain rfl : k = n + 1 := by omega
      exact h
    · rw [ltTo, ih h1]; rfl
theorem ltAt_zero {xs : List Lt} (h : 0 < xs.length) : ltAt xs 0 = xs[0].atom.atom := by
  unfold ltAt
  rw [List.getElem?_eq_getElem h]
  simp
theorem ltAt_succ {xs : List Lt} {j : Nat} (h : j + 1 < xs.length) : ltAt xs (j + 1) = (xs[j + 1].atom.atom && decide (xs[j].cmp xs[j + 1] < 0)) := by
  unfold ltAt
  rw [List.getElem?_eq_getElem h]
  simp only [List.getElem?_eq_getElem (show j < xs.length by omega)]
theorem ltTo_atom {xs : List Lt} {k j : Nat} (h : ltTo xs k = true) (hj : j < k) (hl : j < xs.length) : xs[j].atom.atom = true := by
  induction k with
  | zero => omega
  | succ k ih =>
    rw [ltTo, Bool.and_eq_true] at h
    rcases Nat.lt_or_ge j k with h1 | h1
    · exact ih h.1 h1
    · obtain rfl : j = k := by omega
      cases j with
      | zero => rw [← ltAt_zero hl]; exact h.2
      | succ j =>
        have := h.2
        rw [ltAt_succ hl, Bool.and_eq_true] at this
        exact this.1
noncomputable def Cl.ok (x : Cl) : Bool := decide (x.lits.length ≤ 8) && ltTo x.lits x.lits.length
theorem Cl.not_ok {x : Cl} {k : Nat} (h : ltTo x.lits k = true) (h' : ltAt x.lits k = false) (hk : k < x.lits.length) : x.ok = false := by
  have : ltTo x.lits x.lits.length = false := ltTo_mono (k := k + 1) (by rw [ltTo, h, h']; rfl) (by omega)
  unfold Cl.ok
  rw [this, Bool.and_false]
def Cl.tame (x : Cl) : Prop := x.lits.length ≤ 1099511627776 ∧ ∀ y ∈ x.lits, y.atom.nodes ≤ 1099511627776
theorem Cl.tame_at {x : Cl} (h : x.tame) {k : Nat} (hk : k < x.lits.length) : x.lits[k].atom.nodes ≤ 1099511627776 := h.2 _ (List.getElem_mem hk)


def c_impl_flag : SC := (.seq (.reg [⟨(some 2), none, (.mv (.c (.int .i64 0)))⟩]) (.seq (.seq (.reg [⟨(some 3), none, (.mv (.t 0))⟩]) (.cond (.t 3) (.seq (.reg [⟨(some 2), none, (.mv (.c (.int .i64 1)))⟩]) .ret) .skip)) (.seq (.reg [⟨(some 2), none, (.mv (.c (.int .i64 0)))⟩]) .ret)))
theorem k_impl_flag : codeOf Try.prog 219 = some ⟨4, c_impl_flag, [(.tmp 2)]⟩ := by kernel_rfl
theorem m_impl_flag : modes 219 = ⟨[], .asis, none, false⟩ := by unfold modes; rfl

def c_impl_compareLiterals : SC := (.seq (.reg [⟨(some 2), none, (.boxv 78 3 (.t 0))⟩, ⟨(some 3), none, (.boxv 78 3 (.t 1))⟩, ⟨(some 4), none, (.mv (.c (.int .i64 0)))⟩]) (.seq (.dreg [[], [0], [], [2], [1, 0, 3, 2], [], [5], [6, 5, 4, 1, 0, 3, 2], [], [8], [9, 8, 7, 6, 5, 4, 1, 0, 3, 2], [7, 6, 5, 4, 1, 0, 3, 2, 10, 9, 8], [4, 1, 0, 3, 2, 11, 7, 6, 5, 10, 9, 8], [12, 4, 1, 0, 3, 2, 11, 7, 6, 5, 10, 9, 8], [13, 12, 4, 1, 0, 3, 2, 11, 7, 6, 5, 10, 9, 8]] [⟨(some 5), none, (.faddr 1 (.t 2))⟩, ⟨(some 6), none, (.load true 2 (.t 5))⟩, ⟨(some 7), none, (.faddr 1 (.t 3))⟩, ⟨(some 8), none, (.load true 2 (.t 7))⟩, ⟨(some 9), none, (.call 217 [(.t 6), (.t 8)])⟩, ⟨(some 10), none, (.faddr 0 (.t 2))⟩, ⟨(some 11), none, (.load false 1 (.t 10))⟩, ⟨(some 12), none, (.call 219 [(.t 11)])⟩, ⟨(some 13), none, (.faddr 0 (.t 3))⟩, ⟨(some 14), none, (.load false 1 (.t 13))⟩, ⟨(some 15), none, (.call 219 [(.t 14)])⟩, ⟨(some 16), none, (.call 218 [(.t 12), (.t 15)])⟩, ⟨(some 17), none, (.mkrow 3 1 [(.int .i64 0)] 2 [(0, (.t 9)), (1, (.t 16))])⟩, ⟨(some 18), none, (.call 216 [(.t 17)])⟩, ⟨(some 4), none, (.mv (.t 18))⟩]) .ret))
theorem k_impl_compareLiterals : codeOf Try.prog 156 = some ⟨19, c_impl_compareLiterals, [(.tmp 4)]⟩ := by kernel_rfl
theorem m_impl_compareLiterals : modes 156 = ⟨[], .asis, none, false⟩ := by unfold modes; rfl

def c_spec_l7Literals : SC := (.seq (.reg [⟨(some 2), none, (.boxv 78 3 (.t 0))⟩, ⟨(some 3), none, (.boxv 78 3 (.t 1))⟩, ⟨(some 4), none, (.mv (.c (.int .i64 0)))⟩]) (.seq (.reg [⟨(some 6), none, (.faddr 1 (.t 2))⟩, ⟨(some 7), none, (.load true 2 (.t 6))⟩, ⟨(some 8), none, (.faddr 1 (.t 3))⟩, ⟨(some 9), none, (.load true 2 (.t 8))⟩, ⟨(some 10), none, (.call 215 [(.t 7), (.t 9)])⟩, ⟨(some 5), none, (.mv (.t 10))⟩]) (.seq (.block 0 (.seq (.reg [⟨(some 12), none, (.mv (.t 5))⟩, ⟨(some 13), none, (.bin .neq false (.t 12) (.c (.int .i64 0)))⟩, ⟨(some 11), none, (.mv (.t 13))⟩]) (.cond (.t 11) (.seq (.reg [⟨(some 14), none, (.mv (.t 5))⟩, ⟨(some 4), none, (.mv (.t 14))⟩]) .ret) (.seq (.reg [⟨(some 16), none, (.faddr 0 (.t 2))⟩, ⟨(some 17), none, (.load false 1 (.t 16))⟩, ⟨(some 18), none, (.un .not (.t 17))⟩, ⟨(some 19), none, (.mv (.t 18))⟩, ⟨(some 20), (some (19, true)), (.faddr 0 (.t 3))⟩, ⟨(some 21), (some (19, true)), (.load false 1 (.t 20))⟩, ⟨(some 22), none, (.pick (.t 19) (.t 21) (.c (.bool false)))⟩, ⟨(some 15), none, (.mv (.t 22))⟩]) (.cond (.t 15) (.seq (.reg [⟨(some 4), none, (.mv (.c (.int .i64 (-(0 + 1)))))⟩]) .ret) (.seq (.reg [⟨(some 24), none, (.faddr 0 (.t 2))⟩, ⟨(some 25), none, (.load false 1 (.t 24))⟩, ⟨(some 26), none, (.mv (.t 25))⟩, ⟨(some 27), (some (26, true)), (.faddr 0 (.t 3))⟩, ⟨(some 28), (some (26, true)), (.load false 1 (.t 27))⟩, ⟨(some 29), (some (26, true)), (.un .not (.t 28))⟩, ⟨(some 30), none, (.pick (.t 26) (.t 29) (.c (.bool false)))⟩, ⟨(some 23), none, (.mv (.t 30))⟩]) (.cond (.t 23) (.seq (.reg [⟨(some 4), none, (.mv (.c (.int .i64 1)))⟩]) .ret) .skip))))))) (.seq (.reg [⟨(some 4), none, (.mv (.c (.int .i64 0)))⟩]) .ret))))
theorem k_spec_l7Literals : codeOf Try.prog 154 = some ⟨31, c_spec_l7Literals, [(.tmp 4)]⟩ := by kernel_rfl
theorem m_spec_l7Literals : modes 154 = ⟨[], .asis, none, false⟩ := by unfold modes; rfl

def c_impl_IsValidLiteral : SC := (.seq (.reg [⟨(some 1), none, (.boxv 78 3 (.t 0))⟩, ⟨(some 2), none, (.mv (.c (.bool false)))⟩]) (.seq (.reg [⟨(some 3), none, (.faddr 1 (.t 1))⟩, ⟨(some 4), none, (.load true 2 (.t 3))⟩, ⟨(some 5), none, (.call 165 [(.t 4)])⟩, ⟨(some 2), none, (.mv (.t 5))⟩]) .ret))
theorem k_impl_IsValidLiteral : codeOf Try.prog 103 = some ⟨6, c_impl_IsValidLiteral, [(.tmp 2)]⟩ := by kernel_rfl
theorem m_impl_IsValidLiteral : modes 103 = ⟨[], .asis, none, false⟩ := by unfold modes; rfl

def c_impl_IsValidClause : SC := (.seq (.reg [⟨(some 1), none, (.boxv 47 1 (.t 0))⟩, ⟨(some 2), none, (.mv (.c (.bool false)))⟩]) (.seq (.seq (.reg [⟨(some 5), none, (.faddr 0 (.t 1))⟩, ⟨(some 6), none, (.load false 1 (.t 5))⟩, ⟨(some 7), none, (.len false (.t 6))⟩, ⟨(some 8), none, (.mv (.c (.int .i64 0)))⟩]) (.block 0 (.loop [0, 1, 0, 0, 0, 0, 1, 1, 1, 0, 0, 0, 0, 0, 0, 0, 0, 0, 0, 0, 0, 0, 0, 0, 0, 0, 0, 0, 0, 0, 0, 0, 0, 0, 0, 0] (.seq (.reg [⟨(some 9), none, (.bin .lss false (.t 8) (.t 7))⟩]) (.seq (.cond (.t 9) .skip (.exit 0)) (.seq (.block 1 (.seq (.reg [⟨(some 10), none, (.mv (.t 8))⟩, ⟨(some 11), none, (.iaddr 3 (.t 6) (.t 8))⟩, ⟨(some 12), none, (.load true 3 (.t 11))⟩, ⟨(some 4), none, (.alloc 78 [(.bool false), (.str ⟨#[]⟩), .nil])⟩, ⟨(some 3), none, (.mv (.t 10))⟩, ⟨none, none, (.store 3 (.t 4) (.t 12))⟩]) (.seq (.dreg [[], [0], [1, 0], [2, 1, 0], [3, 2, 1, 0], [4, 3, 2, 1, 0], [5, 4, 3, 2, 1, 0], [6, 5, 4, 3, 2, 1, 0], [7, 6, 5, 4, 3, 2, 1, 0], [6, 5, 4, 3, 2, 1, 0], [9, 6, 5, 4, 3, 2, 1, 0], [8, 7, 6, 5, 4, 3, 2, 1, 0, 10, 9], [11, 8, 7, 6, 5, 4, 3, 2, 1, 0, 10, 9], [6, 5, 4, 3, 2, 1, 0], [12, 11, 8, 7, 6, 5, 4, 3, 2, 1, 0, 10, 9, 13], [14, 12, 11, 8, 7, 6, 5, 4, 3, 2, 1, 0, 10, 9, 13], [6, 5, 4, 3, 2, 1, 0, 15, 14, 12, 11, 8, 7, 10, 9, 13], [3, 2, 1, 0, 16, 6, 5, 4, 15, 14, 12, 11, 8, 7, 10, 9, 13]] [⟨(some 13), none, (.load true 3 (.t 4))⟩, ⟨(some 14), none, (.call 103 [(.t 13)])⟩, ⟨(some 15), none, (.un .not (.t 14))⟩, ⟨(some 16), none, (.mv (.t 15))⟩, ⟨(some 17), (some (16, false)), (.mv (.t 3))⟩, ⟨(some 18), (some (16, false)), (.bin .gtr false (.t 17) (.c (.int .i64 0)))⟩, ⟨(some 19), (some (16, false)), (.mv (.t 18))⟩, ⟨(some 20), (some (19, true)), (.faddr 0 (.t 1))⟩, ⟨(some 21), (some (19, true)), (.load false 1 (.t 20))⟩, ⟨(some 22), (some (19, true)), (.mv (.t 3))⟩, ⟨(some 23), (some (19, true)), (.bin .sub false (.t 22) (.c (.int .i64 1)))⟩, ⟨(some 24), (some (19, true)), (.iaddr 3 (.t 21) (.t 23))⟩, ⟨(some 25), (some (19, true)), (.load true 3 (.t 24))⟩, ⟨(some 26), (some (19, true)), (.load true 3 (.t 4))⟩, ⟨(some 27), (some (19, true)), (.call 156 [(.t 25), (.t 26)])⟩, ⟨(some 28), (some (19, true)), (.bin .geq false (.t 27) (.c (.int .i64 0)))⟩, ⟨(some 29), (some (16, false)), (.pick (.t 19) (.t 28) (.c (.bool false)))⟩, ⟨(some 30), none, (.pick (.t 16) (.c (.bool true)) (.t 29))⟩]) (.cond (.t 30) (.seq (.reg [⟨(some 2), none, (.mv (.c (.bool false)))⟩]) .ret) .skip)))) (.reg [⟨(some 31), none, (.bin .add false (.t 8) (.c (.int .i64 1)))⟩, ⟨(some 8), none, (.mv (.t 31))⟩]))))))) (.seq (.reg [⟨(some 32), none, (.faddr 0 (.t 1))⟩, ⟨(some 33), none, (.load false 1 (.t 32))⟩, ⟨(some 34), none, (.len false (.t 33))⟩, ⟨(some 35), none, (.bin .leq false (.t 34) (.c (.int .i64 8)))⟩, ⟨(some 2), none, (.mv (.t 35))⟩]) .ret)))
theorem k_impl_IsValidClause : codeOf Try.prog 80 = some ⟨36, c_impl_IsValidClause, [(.tmp 2)]⟩ := by kernel_rfl
theorem m_impl_IsValidClause : modes 80 = ⟨[], .asis, none, false⟩ := by unfold modes; rfl

def c_spec_l7Good : SC := (.seq (.reg [⟨(some 1), none, (.boxv 47 1 (.t 0))⟩, ⟨(some 2), none, (.mv (.c (.bool false)))⟩]) (.seq (.seq (.reg [⟨(some 4), none, (.faddr 0 (.t 1))⟩, ⟨(some 5), none, (.load false 1 (.t 4))⟩, ⟨(some 6), none, (.len false (.t 5))⟩, ⟨(some 7), none, (.bin .gtr false (.t 6) (.c (.int .i64 8)))⟩]) (.cond (.t 7) (.seq (.reg [⟨(some 2), none, (.mv (.c (.bool false)))⟩]) .ret) .skip)) (.seq (.seq (.reg [⟨(some 3), none, (.mv (.c (.int .i64 0)))⟩]) (.block 0 (.loop [0, 1, 0, 1, 0, 0, 0, 0, 0, 0, 0, 0, 0, 0, 0, 0, 0, 0, 0, 0, 0, 0, 0, 0, 0, 0, 0, 0, 0, 0, 0, 0, 0, 0, 0, 0, 0, 0, 0, 0, 0, 0] (.seq (.seq (.reg [⟨(some 8), none, (.mv (.t 3))⟩, ⟨(some 9), none, (.faddr 0 (.t 1))⟩, ⟨(some 10), none, (.load false 1 (.t 9))⟩, ⟨(some 11), none, (.len false (.t 10))⟩, ⟨(some 12), none, (.bin .lss false (.t 8) (.t 11))⟩]) (.cond (.t 12) .skip (.exit 0))) (.seq (.block 1 (.seq (.dreg [[], [0], [], [1, 0, 2], [3, 1, 0, 2], [4, 3, 1, 0, 2], [5, 4, 3, 1, 0, 2], [6, 5, 4, 3, 1, 0, 2], [7, 6, 5, 4, 3, 1, 0, 2], [8, 7, 6, 5, 4, 3, 1, 0, 2], [9, 8, 7, 6, 5, 4, 3, 1, 0, 2], [10, 9, 8, 7, 6, 5, 4, 3, 1, 0, 2], [11, 10, 9, 8, 7, 6, 5, 4, 3, 1, 0, 2], [12, 11, 10, 9, 8, 7, 6, 5, 4, 3, 1, 0, 2], [11, 10, 9, 8, 7, 6, 5, 4, 3, 1, 0, 2], [14, 11, 10, 9, 8, 7, 6, 5, 4, 3, 1, 0, 2], [13, 12, 11, 10, 9, 8, 7, 6, 5, 4, 3, 1, 0, 2, 15, 14], [16, 13, 12, 11, 10, 9, 8, 7, 6, 5, 4, 3, 1, 0, 2, 15, 14], [11, 10, 9, 8, 7, 6, 5, 4, 3, 1, 0, 2], [18, 11, 10, 9, 8, 7, 6, 5, 4, 3, 1, 0, 2], [11, 10, 9, 8, 7, 6, 5, 4, 3, 1, 0, 2], [19, 18, 11, 10, 9, 8, 7, 6, 5, 4, 3, 1, 0, 2, 20], [21, 19, 18, 11, 10, 9, 8, 7, 6, 5, 4, 3, 1, 0, 2, 20], [17, 16, 13, 12, 11, 10, 9, 8, 7, 6, 5, 4, 3, 1, 0, 2, 15, 14, 22, 21, 19, 18, 20], [23, 17, 16, 13, 12, 11, 10, 9, 8, 7, 6, 5, 4, 3, 1, 0, 2, 15, 14, 22, 21, 19, 18, 20], [11, 10, 9, 8, 7, 6, 5, 4, 3, 1, 0, 2, 24, 23, 17, 16, 13, 12, 15, 14, 22, 21, 19, 18, 20], [8, 7, 6, 5, 4, 3, 1, 0, 2, 25, 11, 10, 9, 24, 23, 17, 16, 13, 12, 15, 14, 22, 21, 19, 18, 20]] [⟨(some 15), none, (.faddr 0 (.t 1))⟩, ⟨(some 16), none, (.load false 1 (.t 15))⟩, ⟨(some 17), none, (.mv (.t 3))⟩, ⟨(some 18), none, (.iaddr 3 (.t 16) (.t 17))⟩, ⟨(some 19), none, (.faddr 1 (.t 18))⟩, ⟨(some 20), none, (.load true 2 (.t 19))⟩, ⟨(some 21), none, (.call 153 [(.t 20)])⟩, ⟨(some 22), none, (.un .not (.t 21))⟩, ⟨(some 23), none, (.mv (.t 22))⟩, ⟨(some 24), (some (23, false)), (.mv (.t 3))⟩, ⟨(some 25), (some (23, false)), (.bin .gtr false (.t 24) (.c (.int .i64 0)))⟩, ⟨(some 26), (some (23, false)), (.mv (.t 25))⟩, ⟨(some 27), (some (26, true)), (.faddr 0 (.t 1))⟩, ⟨(some 28), (some (26, true)), (.load false 1 (.t 27))⟩, ⟨(some 29), (some (26, true)), (.mv (.t 3))⟩, ⟨(some 30), (some (26, true)), (.bin .sub false (.t 29) (.c (.int .i64 1)))⟩, ⟨(some 31), (some (26, true)), (.iaddr 3 (.t 28) (.t 30))⟩, ⟨(some 32), (some (26, true)), (.load true 3 (.t 31))⟩, ⟨(some 33), (some (26, true)), (.faddr 0 (.t 1))⟩, ⟨(some 34), (some (26, true)), (.load false 1 (.t 33))⟩, ⟨(some 35), (some (26, true)), (.mv (.t 3))⟩, ⟨(some 36), (some (26, true)), (.iaddr 3 (.t 34) (.t 35))⟩, ⟨(some 37), (some (26, true)), (.load true 3 (.t 36))⟩, ⟨(some 38), (some (26, true)), (.call 154 [(.t 32), (.t 37)])⟩, ⟨(some 39), (some (26, true)), (.bin .geq false (.t 38) (.c (.int .i64 0)))⟩, ⟨(some 40), (some (23, false)), (.pick (.t 26) (.t 39) (.c (.bool false)))⟩, ⟨(some 41), none, (.pick (.t 23) (.c (.bool true)) (.t 40))⟩]) (.cond (.t 41) (.seq (.reg [⟨(some 2), none, (.mv (.c (.bool false)))⟩]) .ret) .skip))) (.reg [⟨(some 13), none, (.mv (.t 3))⟩, ⟨(some 14), none, (.bin .add false (.t 13) (.c (.int .i64 1)))⟩, ⟨(some 3), none, (.mv (.t 14))⟩])))))) (.seq (.reg [⟨(some 2), none, (.mv (.c (.bool true)))⟩]) .ret))))
theorem k_spec_l7Good : codeOf Try.prog 77 = some ⟨42, c_spec_l7Good, [(.tmp 2)]⟩ := by kernel_rfl
theorem m_spec_l7Good : modes 77 = ⟨[], .asis, none, false⟩ := by unfold modes; rfl

theorem flag_E (b : Bool) : E 219 [.bool b] [] = some (.int .i64 (flagZ b), []) := by
  cases b
  · refine E_walk k_impl_flag m_impl_flag (of_decide_eq_true rfl) ?_
    simp (disch := omega) only [c_impl_flag, go_sem, Nat.reduceAdd, Nat.reduceSub, Nat.reduceLT, Nat.reduceLeDiff, Nat.reduceEqDiff, Nat.reduceBEq, Nat.reduceBneDiff, Nat.reduceMul, ↓reduceIte, Int.reduceToNat, reduceCtorEq, Int.reduceNeg, Int.reduceAdd]
    rfl
  · refine E_walk k_impl_flag m_impl_flag (of_decide_eq_true rfl) ?_
    simp (disch := omega) only [c_impl_flag, go_sem, Nat.reduceAdd, Nat.reduceSub, Nat.reduceLT, Nat.reduceLeDiff, Nat.reduceEqDiff, Nat.reduceBEq, Nat.reduceBneDiff, Nat.reduceMul, ↓reduceIte, Int.reduceToNat, reduceCtorEq, Int.reduceNeg, Int.reduceAdd]
    rfl
theorem compareLiterals_E (x y : Lt) (hx : x.atom.cok = true) (hy : y.atom.cok = true) (hnx : x.atom.nodes ≤ 1099511627776) (hny : y.atom.nodes ≤ 1099511627776) : E 156 [x.sv, y.sv] [] = some (.int .i64 (x.cmp y), []) := by
  have h1 := compareTerms_E x.atom y.atom hx hy hnx hny
  have h2 := flag_E x.pos
  have h3 := flag_E y.pos
  have h4 := compareI_E (flagZ x.pos) (flagZ y.pos)
  have h5 := or2_E (x.atom.cmp y.atom) (cmpI (flagZ x.pos) (flagZ y.pos))
  unfold Lt.cmp
  refine E_walk k_impl_compareLiterals m_impl_compareLiterals (of_decide_eq_true rfl) ?_
  simp (disch := omega) only [c_impl_compareLiterals, go_sem, Nat.reduceAdd, Nat.reduceSub, Nat.reduceLT, Nat.reduceLeDiff, Nat.reduceEqDiff, Nat.reduceBEq, Nat.reduceBneDiff, Nat.reduceMul, ↓reduceIte, Int.reduceToNat, reduceCtorEq, Int.reduceNeg, Int.reduceAdd, h1, h2, h3, h4, h5, m_impl_compareTerms, m_impl_flag, m_cmp_Compare_int, m_cmp_Or_int]
theorem l7Literals_E (x y : Lt) (hx : x.atom.cok = true) (hy : y.atom.cok = true) (hnx : x.atom.nodes ≤ 1099511627776) (hny : y.atom.nodes ≤ 1099511627776) : E 154 [x.sv, y.sv] [] = some (.int .i64 (x.cmp y), []) := by
  have h1 := l2Compare_E x.atom y.atom hx hy hnx hny
  unfold Lt.cmp
  by_cases h0 : x.atom.cmp y.atom = 0
  · rw [h0] at h1 ⊢
    cases hp : x.pos <;> cases hq : y.pos
    all_goals
      simp only [flagZ, cmpI, orZ, if_true, if_false, Bool.false_eq_true]
      refine E_walk k_spec_l7Literals m_spec_l7Literals (of_decide_eq_true rfl) ?_
      simp (disch := omega) only [c_spec_l7Literals, go_sem, Nat.reduceAdd, Nat.reduceSub, Nat.reduceLT, Nat.reduceLeDiff, Nat.reduceEqDiff, Nat.reduceBEq, Nat.reduceBneDiff, Nat.reduceMul, ↓reduceIte, Int.reduceToNat, reduceCtorEq, Int.reduceNeg, Int.reduceAdd, h1, hp, hq, m_spec_l2Compare]
  · rw [orZ, if_neg h0]
    refine E_walk k_spec_l7Literals m_spec_l7Literals (of_decide_eq_true rfl) ?_
    simp (disch := omega) only [c_spec_l7Literals, go_sem, Nat.reduceAdd, Nat.reduceSub, Nat.reduceLT, Nat.reduceLeDiff, Nat.reduceEqDiff, Nat.reduceBEq, Nat.reduceBneDiff, Nat.reduceMul, ↓reduceIte, Int.reduceToNat, reduceCtorEq, Int.reduceNeg, Int.reduceAdd, h1, h0, m_spec_l2Compare]
theorem isValidLiteral_E (x : Lt) (hn : x.atom.nodes ≤ 1099511627776) : E 103 [x.sv] [] = some (.bool x.atom.atom, []) := by
  have h := isValidAtom_E x.atom hn
  refine E_walk k_impl_IsValidLiteral m_impl_IsValidLiteral (of_decide_eq_true rfl) ?_
  simp (disch := omega) only [c_impl_IsValidLiteral, go_sem, Nat.reduceAdd, Nat.reduceSub, Nat.reduceLT, Nat.reduceLeDiff, Nat.reduceEqDiff, Nat.reduceBEq, Nat.reduceBneDiff, Nat.reduceMul, ↓reduceIte, Int.reduceToNat, reduceCtorEq, Int.reduceNeg, Int.reduceAdd, h, m_impl_IsValidAtom]
set_option maxHeartbeats 2000000 in
theorem isValidClause_E (x : Cl) (hn : x.tame) : E 80 [x.sv] [] = some (.bool x.ok, []) := by
  have hl := hn.1
  refine E_walk k_impl_IsValidClause m_impl_IsValidClause (of_decide_eq_true rfl) ?_
  simp (disch := omega) only [c_impl_IsValidClause, go_sem, Nat.reduceAdd, Nat.reduceSub, Nat.reduceLT, Nat.reduceLeDiff, Nat.reduceEqDiff, Nat.reduceBEq, Nat.reduceBneDiff, Nat.reduceMul, ↓reduceIte, Int.reduceToNat, reduceCtorEq, Int.reduceNeg, Int.reduceAdd]
  refine go_loop (α := Int) (fun a => ⟨slots 36 0 [(1, .ptr 0 0), (6, .arr (x.lits.map Lt.d)), (7, .int .i64 x.lits.length), (8, .int .i64 a)], [.box 47 [.arr (x.lits.map Lt.d)]]⟩) (fun a => ∃ k : Nat, a = k ∧ k ≤ (x.lits).length ∧ ltTo x.lits k = true) (fun a => (x.lits).length - (a).toNat) 0 ⟨0, rfl, Nat.zero_le _, by rw [ltTo]⟩ (by simp (disch := omega) only [go_sem, Nat.reduceAdd, Nat.reduceSub, Nat.reduceLT, Nat.reduceLeDiff, Nat.reduceEqDiff, Nat.reduceBEq, Nat.reduceBneDiff, Nat.reduceMul, ↓reduceIte, Int.reduceToNat, reduceCtorEq, Int.reduceNeg, Int.reduceAdd]) ?_
  rintro i ⟨k, hi, hk, hR⟩
  have hni : i.toNat = k := by omega
  have hni1 : (i + 1).toNat = k + 1 := by omega
  rcases Nat.lt_or_ge k (x.lits).length with hlt | hge
  · have hg := get_at Lt.d hlt
    rw [Lt.d_eq] at hg
    have hv := isValidLiteral_E x.lits[k] (Cl.tame_at hn hlt)
    cases ha : x.lits[k].atom.atom <;> rw [ha] at hv
    · have e : x.ok = false := Cl.not_ok hR (by cases k with | zero => rw [ltAt_zero hlt, ha] | succ j => rw [ltAt_succ hlt, ha, Bool.false_and]) hlt
      rw [e]
      simp (disch := omega) only [go_sem, Nat.reduceAdd, Nat.reduceSub, Nat.reduceLT, Nat.reduceLeDiff, Nat.reduceEqDiff, Nat.reduceBEq, Nat.reduceBneDiff, Nat.reduceMul, ↓reduceIte, Int.reduceToNat, reduceCtorEq, Int.reduceNeg, Int.reduceAdd, hni, hg, hv, m_impl_IsValidLiteral, m_impl_compareLiterals]
    · cases k with
      | zero =>
        obtain rfl : i = 0 := hi
        simp (disch := omega) only [go_sem, Nat.reduceAdd, Nat.reduceSub, Nat.reduceLT, Nat.reduceLeDiff, Nat.reduceEqDiff, Nat.reduceBEq, Nat.reduceBneDiff, Nat.reduceMul, ↓reduceIte, Int.reduceToNat, reduceCtorEq, Int.reduceNeg, Int.reduceAdd, hni, hg, hv, m_impl_IsValidLiteral, m_impl_compareLiterals]
        exact ⟨1, ⟨1, rfl, hlt, by rw [ltTo, hR, ltAt_zero hlt, ha]; rfl⟩, by omega, by first | trivial | rfl⟩
      | succ j =>
        have hj : j < x.lits.length := by omega
        have hg2 := get_at Lt.d hj
        rw [Lt.d_eq] at hg2
        have hni2 : (i - 1).toNat = j := by omega
        have hc := compareLiterals_E x.lits[j] x.lits[j + 1] (Tm.atom_cok (ltTo_atom hR (by omega) (by omega))) (Tm.atom_cok ha) (Cl.tame_at hn hj) (Cl.tame_at hn hlt)
        rcases Int.lt_or_le (x.lits[j].cmp x.lits[j + 1]) 0 with hq | hq
        · simp (disch := omega) only [go_sem, Nat.reduceAdd, Nat.reduceSub, Nat.reduceLT, Nat.reduceLeDiff, Nat.reduceEqDiff, Nat.reduceBEq, Nat.reduceBneDiff, Nat.reduceMul, ↓reduceIte, Int.reduceToNat, reduceCtorEq, Int.reduceNeg, Int.reduceAdd, hni, hg, hv, m_impl_IsValidLiteral, m_impl_compareLiterals, hni2, hg2, hc]
          exact ⟨i + 1, ⟨j + 1 + 1, by omega, hlt, by rw [ltTo, hR, ltAt_succ hlt, ha, decide_eq_true hq]; rfl⟩, by omega, by first | trivial | rfl⟩
        · have e : x.ok = false := Cl.not_ok hR (by rw [ltAt_succ hlt, ha, decide_eq_false (by omega)]; rfl) hlt
          rw [e]
          simp (disch := omega) only [go_sem, Nat.reduceAdd, Nat.reduceSub, Nat.reduceLT, Nat.reduceLeDiff, Nat.reduceEqDiff, Nat.reduceBEq, Nat.reduceBneDiff, Nat.reduceMul, ↓reduceIte, Int.reduceToNat, reduceCtorEq, Int.reduceNeg, Int.reduceAdd, hni, hg, hv, m_impl_IsValidLiteral, m_impl_compareLiterals, hni2, hg2, hc]
  · obtain rfl : k = x.lits.length := by omega
    simp (disch := omega) only [go_sem, Nat.reduceAdd, Nat.reduceSub, Nat.reduceLT, Nat.reduceLeDiff, Nat.reduceEqDiff, Nat.reduceBEq, Nat.reduceBneDiff, Nat.reduceMul, ↓reduceIte, Int.reduceToNat, reduceCtorEq, Int.reduceNeg, Int.reduceAdd, hni]
    unfold Cl.ok
    rw [hR, Bool.and_true, dec_of]
    exact decide_eq_decide.2 (by omega)
set_option maxHeartbeats 2000000 in
theorem l7Good_E (x : Cl) (hn : x.tame) : E 77 [x.sv] [] = some (.bool x.ok, []) := by
  have hl := hn.1
  rcases Nat.lt_or_ge 8 x.lits.length with h8 | h8
  · have e : x.ok = false := by unfold Cl.ok; rw [decide_eq_false (by omega), Bool.false_and]
    rw [e]
    refine E_walk k_spec_l7Good m_spec_l7Good (of_decide_eq_true rfl) ?_
    simp (disch := omega) only [c_spec_l7Good, go_sem, Nat.reduceAdd, Nat.reduceSub, Nat.reduceLT, Nat.reduceLeDiff, Nat.reduceEqDiff, Nat.reduceBEq, Nat.reduceBneDiff, Nat.reduceMul, ↓reduceIte, Int.reduceToNat, reduceCtorEq, Int.reduceNeg, Int.reduceAdd]
  refine E_walk k_spec_l7Good m_spec_l7Good (of_decide_eq_true rfl) ?_
  simp (disch := omega) only [c_spec_l7Good, go_sem, Nat.reduceAdd, Nat.reduceSub, Nat.reduceLT, Nat.reduceLeDiff, Nat.reduceEqDiff, Nat.reduceBEq, Nat.reduceBneDiff, Nat.reduceMul, ↓reduceIte, Int.reduceToNat, reduceCtorEq, Int.reduceNeg, Int.reduceAdd]
  refine go_loop (α := Int) (fun a => ⟨slots 42 0 [(1, .ptr 0 0), (3, .int .i64 a)], [.box 47 [.arr (x.lits.map Lt.d)]]⟩) (fun a => ∃ k : Nat, a = k ∧ k ≤ (x.lits).length ∧ ltTo x.lits k = true) (fun a => (x.lits).length - (a).toNat) 0 ⟨0, rfl, Nat.zero_le _, by rw [ltTo]⟩ (by simp (disch := omega) only [go_sem, Nat.reduceAdd, Nat.reduceSub, Nat.reduceLT, Nat.reduceLeDiff, Nat.reduceEqDiff, Nat.reduceBEq, Nat.reduceBneDiff, Nat.reduceMul, ↓reduceIte, Int.reduceToNat, reduceCtorEq, Int.reduceNeg, Int.reduceAdd]) ?_
  rintro i ⟨k, hi, hk, hR⟩
  have hni : i.toNat = k := by omega
  have hni1 : (i + 1).toNat = k + 1 := by omega
  rcases Nat.lt_or_ge k (x.lits).length with hlt | hge
  · have hg := get_at Lt.d hlt
    rw [Lt.d_eq] at hg
    have hv := l2Atom_E x.lits[k].atom (Cl.tame_at hn hlt)
    cases ha : x.lits[k].atom.atom <;> rw [ha] at hv
    · have e : x.ok = false := Cl.not_ok hR (by cases k with | zero => rw [ltAt_zero hlt, ha] | succ j => rw [ltAt_succ hlt, ha, Bool.false_and]) hlt
      rw [e]
      simp (disch := omega) only [go_sem, Nat.reduceAdd, Nat.reduceSub, Nat.reduceLT, Nat.reduceLeDiff, Nat.reduceEqDiff, Nat.reduceBEq, Nat.reduceBneDiff, Nat.reduceMul, ↓reduceIte, Int.reduceToNat, reduceCtorEq, Int.reduceNeg, Int.reduceAdd, hni, hg, hv, m_spec_l2Atom, m_spec_l7Literals]
    · cases k with
      | zero =>
        obtain rfl : i = 0 := hi
        simp (disch := omega) only [go_sem, Nat.reduceAdd, Nat.reduceSub, Nat.reduceLT, Nat.reduceLeDiff, Nat.reduceEqDiff, Nat.reduceBEq, Nat.reduceBneDiff, Nat.reduceMul, ↓reduceIte, Int.reduceToNat, reduceCtorEq, Int.reduceNeg, Int.reduceAdd, hni, hg, hv, m_spec_l2Atom, m_spec_l7Literals]
        exact ⟨1, ⟨1, rfl, hlt, by rw [ltTo, hR, ltAt_zero hlt, ha]; rfl⟩, by omega, by first | trivial | rfl⟩
      | succ j =>
        have hj : j < x.lits.length := by omega
        have hg2 := get_at Lt.d hj
        rw [Lt.d_eq] at hg2
        have hni2 : (i - 1).toNat = j := by omega
        have hc := l7Literals_E x.lits[j] x.lits[j + 1] (Tm.atom_cok (ltTo_atom hR (by omega) (by omega))) (Tm.atom_cok ha) (Cl.tame_at hn hj) (Cl.tame_at hn hlt)
        rcases Int.lt_or_le (x.lits[j].cmp x.lits[j + 1]) 0 with hq | hq
        · simp (disch := omega) only [go_sem, Nat.reduceAdd, Nat.reduceSub, Nat.reduceLT, Nat.reduceLeDiff, Nat.reduceEqDiff, Nat.reduceBEq, Nat.reduceBneDiff, Nat.reduceMul, ↓reduceIte, Int.reduceToNat, reduceCtorEq, Int.reduceNeg, Int.reduceAdd, hni, hg, hv, m_spec_l2Atom, m_spec_l7Literals, hni2, hg2, hc]
          exact ⟨i + 1, ⟨j + 1 + 1, by omega, hlt, by rw [ltTo, hR, ltAt_succ hlt, ha, decide_eq_true hq]; rfl⟩, by omega, by first | trivial | rfl⟩
        · have e : x.ok = false := Cl.not_ok hR (by rw [ltAt_succ hlt, ha, decide_eq_false (by omega)]; rfl) hlt
          rw [e]
          simp (disch := omega) only [go_sem, Nat.reduceAdd, Nat.reduceSub, Nat.reduceLT, Nat.reduceLeDiff, Nat.reduceEqDiff, Nat.reduceBEq, Nat.reduceBneDiff, Nat.reduceMul, ↓reduceIte, Int.reduceToNat, reduceCtorEq, Int.reduceNeg, Int.reduceAdd, hni, hg, hv, m_spec_l2Atom, m_spec_l7Literals, hni2, hg2, hc]
  · obtain rfl : k = x.lits.length := by omega
    simp (disch := omega) only [go_sem, Nat.reduceAdd, Nat.reduceSub, Nat.reduceLT, Nat.reduceLeDiff, Nat.reduceEqDiff, Nat.reduceBEq, Nat.reduceBneDiff, Nat.reduceMul, ↓reduceIte, Int.reduceToNat, reduceCtorEq, Int.reduceNeg, Int.reduceAdd, hni]
    unfold Cl.ok
    rw [hR, decide_eq_true h8]; rfl
end Go.Proofs.Ytifpfjbpfekkmaa

set_option maxRecDepth 100000
set_option linter.unusedSimpArgs false
set_option linter.unusedVariables false
namespace Go.Proofs.Ytifpfjbpfekkmaa
open Go.RowKit

theorem less_irrefl : ∀ x : List UInt8, Op.bytesLess x x = false
  | [] => rfl
  | a :: x => by simp [Op.bytesLess, less_irrefl x]
theorem less_asymm : ∀ x y : List UInt8, Op.bytesLess x y = true → Op.bytesLess y x = false
  | [], [], h => by simp [Op.bytesLess] at h
  | [], _ :: _, _ => rfl
  | _ :: _, [], h => by simp [Op.bytesLess] at h
  | a :: x, b :: y, h => by
    simp only [Op.bytesLess, Bool.or_eq_true, decide_eq_true_eq, Bool.and_eq_true, beq_iff_eq] at h
    simp only [Op.bytesLess, Bool.or_eq_false_iff, decide_eq_false_iff_not]
    rcases h with h | ⟨rfl, h⟩
    · have h2 : ¬ b < a := by intro h3; exact absurd (UInt8.lt_trans h h3) (UInt8.lt_irrefl _)
      have h3 : (b == a) = false := by
        rw [beq_eq_false_iff_ne]; rintro rfl; exact UInt8.lt_irrefl _ h
      exact ⟨h2, by rw [h3]; rfl⟩
    · exact ⟨UInt8.lt_irrefl _, by rw [less_asymm x y h]; simp⟩
theorem less_total : ∀ x y : List UInt8, Op.bytesLess x y = false → Op.bytesLess y x = false → x = y
  | [], [], _, _ => rfl
  | [], _ :: _, h, _ => by simp [Op.bytesLess] at h
  | _ :: _, [], _, h => by simp [Op.bytesLess] at h
  | a :: x, b :: y, h, k => by
    simp only [Op.bytesLess, Bool.or_eq_false_iff, decide_eq_false_iff_not] at h k
    have hab : a = b := by
      have h1 := h.1; have h2 := k.1
      rw [UInt8.lt_iff_toNat_lt] at h1 h2
      exact UInt8.toNat_inj.1 (by omega)
    subst hab
    have h1 : Op.bytesLess x y = false := by simpa using h.2
    have h2 : Op.bytesLess y x = false := by simpa using k.2
    rw [less_total x y h1 h2]

theorem strLt_asymm {a b : ByteArray} (h : strLt a b = true) : strLt b a = false := less_asymm _ _ h
theorem strLt_total {a b : ByteArray} (h : strLt a b = false) (h' : strLt b a = false) : a = b := bytes_ext (less_total _ _ h h')
theorem strLe_eq (a b : ByteArray) : (strLt a b || dec (a = b)) = !strLt b a := by
  cases h : strLt b a with
  | false =>
    cases h2 : strLt a b with
    | false => rw [dec_t (strLt_total h2 h)]; rfl
    | true => rfl
  | true =>
    rw [strLt_asymm h, dec_f (by rintro rfl; rw [strLt_self] at h; cases h)]
    rfl

noncomputable def bdOk (x : Bd) : Bool := varB x.var && (x.term.valid && !dec (x.term.name = x.var))
noncomputable def bdAt (xs : List Bd) (k : Nat) : Bool := match xs[k]? with
  | none => true
  | some x => bdOk x && (match k with
    | 0 => true
    | j + 1 => match xs[j]? with
      | none => true
      | some y => strLt y.var x.var)
noncomputable def bdTo (xs : List Bd) : Nat → Bool
  | 0 => true
  | k + 1 => bdTo xs k && bdAt xs k
theorem bdTo_mono {xs : List Bd} {k n : Nat} (h : bdTo xs k = false) (hn : k ≤ n) : bdTo xs n = false := by
  induction n with
  | zero => obtain rfl : k = 0 := by omega
            exact h
  | succ n ih =>
    rcases Nat.lt_or_ge n k with h1 | h1
    · obtain rfl : k = n + 1 := by omega
      exact h
    · rw [bdTo, ih h1]; rfl
theorem bdAt_zero {xs : List Bd} (h : 0 < xs.length) : bdAt xs 0 = bdOk xs[0] := by
  unfold bdAt
  rw [List.getElem?_eq_getElem h]
  simp
theorem bdAt_succ {xs : List Bd} {j : Nat} (h : j + 1 < xs.length) : bdAt xs (j + 1) = (bdOk xs[j + 1] && strLt xs[j].var xs[j + 1].var) := by
  unfold bdAt
  rw [List.getElem?_eq_getElem h]
  simp only [List.getElem?_eq_getElem (show j < xs.length by omega)]
theorem bdTo_at {xs : List Bd} {k j : Nat} (h : bdTo xs k = true) (hj : j < k) : bdAt xs j = true := by
  induction k with
  | zero => omega
  | succ k ih =>
    rw [bdTo, Bool.and_eq_true] at h
    rcases Nat.lt_or_ge j k with h1 | h1
    · exact ih h.1 h1
    · obtain rfl : j = k := by omega
      exact h.2
theorem bdAt_ok {xs : List Bd} {j : Nat} (hl : j < xs.length) (h : bdAt xs j = true) : bdOk xs[j] = true := by
  cases j with
  | zero => rw [← bdAt_zero hl]; exact h
  | succ j => rw [bdAt_succ hl, Bool.and_eq_true] at h; exact h.1
noncomputable def Sb.ok (x : Sb) : Bool := decide (x.binds.length ≤ 12) && bdTo x.binds x.binds.length
theorem Sb.not_ok {x : Sb} {k : Nat} (h : bdTo x.binds k = true) (h' : bdAt x.binds k = false) (hk : k < x.binds.length) : x.ok = false := by
  have : bdTo x.binds x.binds.length = false := bdTo_mono (k := k + 1) (by rw [bdTo, h, h']; rfl) (by omega)
  unfold Sb.ok
  rw [this, Bool.and_false]
def Sb.tame (x : Sb) : Prop := x.binds.length ≤ 1099511627776 ∧ ∀ y ∈ x.binds, y.term.nodes ≤ 1099511627776
theorem Sb.tame_at {x : Sb} (h : x.tame) {k : Nat} (hk : k < x.binds.length) : x.binds[k].term.nodes ≤ 1099511627776 := h.2 _ (List.getElem_mem hk)

def c_impl_IsValidSubstitution : SC := (.seq (.reg [⟨(some 1), none, (.boxv 63 1 (.t 0))⟩, ⟨(some 2), none, (.mv (.c (.bool false)))⟩]) (.seq (.seq (.reg [⟨(some 5), none, (.faddr 0 (.t 1))⟩, ⟨(some 6), none, (.load false 1 (.t 5))⟩, ⟨(some 7), none, (.len false (.t 6))⟩, ⟨(some 8), none, (.mv (.c (.int .i64 0)))⟩]) (.block 0 (.loop [0, 1, 0, 0, 0, 0, 1, 1, 1, 0, 0, 0, 0, 0, 0, 0, 0, 0, 0, 0, 0, 0, 0, 0, 0, 0, 0, 0, 0, 0, 0, 0, 0, 0, 0, 0, 0, 0, 0, 0, 0, 0, 0, 0, 0, 0, 0, 0, 0, 0, 0, 0] (.seq (.reg [⟨(some 9), none, (.bin .lss false (.t 8) (.t 7))⟩]) (.seq (.cond (.t 9) .skip (.exit 0)) (.seq (.block 1 (.seq (.reg [⟨(some 10), none, (.mv (.t 8))⟩, ⟨(some 11), none, (.iaddr 3 (.t 6) (.t 8))⟩, ⟨(some 12), none, (.load true 3 (.t 11))⟩, ⟨(some 4), none, (.alloc 167 [(.str ⟨#[]⟩), (.str ⟨#[]⟩), .nil])⟩, ⟨(some 3), none, (.mv (.t 10))⟩, ⟨none, none, (.store 3 (.t 4) (.t 12))⟩]) (.seq (.dreg [[], [0], [1, 0], [2, 1, 0], [3, 2, 1, 0], [4, 3, 2, 1, 0], [5, 4, 3, 2, 1, 0], [6, 5, 4, 3, 2, 1, 0], [7, 6, 5, 4, 3, 2, 1, 0], [8, 7, 6, 5, 4, 3, 2, 1, 0], [7, 6, 5, 4, 3, 2, 1, 0], [10, 7, 6, 5, 4, 3, 2, 1, 0], [7, 6, 5, 4, 3, 2, 1, 0], [12, 7, 6, 5, 4, 3, 2, 1, 0], [11, 10, 7, 6, 5, 4, 3, 2, 1, 0, 13, 12], [14, 11, 10, 7, 6, 5, 4, 3, 2, 1, 0, 13, 12], [15, 14, 11, 10, 7, 6, 5, 4, 3, 2, 1, 0, 13, 12], [9, 8, 7, 6, 5, 4, 3, 2, 1, 0, 16, 15, 14, 11, 10, 13, 12], [7, 6, 5, 4, 3, 2, 1, 0, 17, 9, 8, 16, 15, 14, 11, 10, 13, 12], [4, 3, 2, 1, 0, 18, 7, 6, 5, 17, 9, 8, 16, 15, 14, 11, 10, 13, 12], [19, 4, 3, 2, 1, 0, 18, 7, 6, 5, 17, 9, 8, 16, 15, 14, 11, 10, 13, 12], [20, 19, 4, 3, 2, 1, 0, 18, 7, 6, 5, 17, 9, 8, 16, 15, 14, 11, 10, 13, 12], [21, 20, 19, 4, 3, 2, 1, 0, 18, 7, 6, 5, 17, 9, 8, 16, 15, 14, 11, 10, 13, 12], [22, 21, 20, 19, 4, 3, 2, 1, 0, 18, 7, 6, 5, 17, 9, 8, 16, 15, 14, 11, 10, 13, 12], [23, 22, 21, 20, 19, 4, 3, 2, 1, 0, 18, 7, 6, 5, 17, 9, 8, 16, 15, 14, 11, 10, 13, 12], [20, 19, 4, 3, 2, 1, 0, 18, 7, 6, 5, 17, 9, 8, 16, 15, 14, 11, 10, 13, 12, 24, 23, 22, 21], [25, 20, 19, 4, 3, 2, 1, 0, 18, 7, 6, 5, 17, 9, 8, 16, 15, 14, 11, 10, 13, 12, 24, 23, 22, 21], [26, 25, 20, 19, 4, 3, 2, 1, 0, 18, 7, 6, 5, 17, 9, 8, 16, 15, 14, 11, 10, 13, 12, 24, 23, 22, 21], [27, 26, 25, 20, 19, 4, 3, 2, 1, 0, 18, 7, 6, 5, 17, 9, 8, 16, 15, 14, 11, 10, 13, 12, 24, 23, 22, 21], [28, 27, 26, 25, 20, 19, 4, 3, 2, 1, 0, 18, 7, 6, 5, 17, 9, 8, 16, 15, 14, 11, 10, 13, 12, 24, 23, 22, 21], [26, 25, 20, 19, 4, 3, 2, 1, 0, 18, 7, 6, 5, 17, 9, 8, 16, 15, 14, 11, 10, 13, 12, 24, 23, 22, 21], [30, 26, 25, 20, 19, 4, 3, 2, 1, 0, 18, 7, 6, 5, 17, 9, 8, 16, 15, 14, 11, 10, 13, 12, 24, 23, 22, 21], [29, 28, 27, 26, 25, 20, 19, 4, 3, 2, 1, 0, 18, 7, 6, 5, 17, 9, 8, 16, 15, 14, 11, 10, 13, 12, 24, 23, 22, 21, 31, 30], [26, 25, 20, 19, 4, 3, 2, 1, 0, 18, 7, 6, 5, 17, 9, 8, 16, 15, 14, 11, 10, 13, 12, 24, 23, 22, 21, 32, 29, 28, 27, 31, 30]] [⟨(some 13), none, (.faddr 0 (.t 4))⟩, ⟨(some 14), none, (.load false 1 (.t 13))⟩, ⟨(some 15), none, (.call 163 [(.t 14)])⟩, ⟨(some 16), none, (.un .not (.t 15))⟩, ⟨(some 17), none, (.mv (.t 16))⟩, ⟨(some 18), (some (17, false)), (.mv (.t 3))⟩, ⟨(some 19), (some (17, false)), (.bin .gtr false (.t 18) (.c (.int .i64 0)))⟩, ⟨(some 20), (some (17, false)), (.mv (.t 19))⟩, ⟨(some 21), (some (20, true)), (.faddr 0 (.t 4))⟩, ⟨(some 22), (some (20, true)), (.load false 1 (.t 21))⟩, ⟨(some 23), (some (20, true)), (.faddr 0 (.t 1))⟩, ⟨(some 24), (some (20, true)), (.load false 1 (.t 23))⟩, ⟨(some 25), (some (20, true)), (.mv (.t 3))⟩, ⟨(some 26), (some (20, true)), (.bin .sub false (.t 25) (.c (.int .i64 1)))⟩, ⟨(some 27), (some (20, true)), (.iaddr 3 (.t 24) (.t 26))⟩, ⟨(some 28), (some (20, true)), (.faddr 0 (.t 27))⟩, ⟨(some 29), (some (20, true)), (.load false 1 (.t 28))⟩, ⟨(some 30), (some (20, true)), (.bin .leq false (.t 22) (.t 29))⟩, ⟨(some 31), (some (17, false)), (.pick (.t 20) (.t 30) (.c (.bool false)))⟩, ⟨(some 32), none, (.pick (.t 17) (.c (.bool true)) (.t 31))⟩, ⟨(some 33), none, (.mv (.t 32))⟩, ⟨(some 34), (some (33, false)), (.faddr 1 (.t 4))⟩, ⟨(some 35), (some (33, false)), (.load true 2 (.t 34))⟩, ⟨(some 36), (some (33, false)), (.call 121 [(.t 35)])⟩, ⟨(some 37), (some (33, false)), (.un .not (.t 36))⟩, ⟨(some 38), none, (.pick (.t 33) (.c (.bool true)) (.t 37))⟩, ⟨(some 39), none, (.mv (.t 38))⟩, ⟨(some 40), (some (39, false)), (.faddr 1 (.t 4))⟩, ⟨(some 41), (some (39, false)), (.faddr 0 (.t 40))⟩, ⟨(some 42), (some (39, false)), (.load false 1 (.t 41))⟩, ⟨(some 43), (some (39, false)), (.faddr 0 (.t 4))⟩, ⟨(some 44), (some (39, false)), (.load false 1 (.t 43))⟩, ⟨(some 45), (some (39, false)), (.bin .eql false (.t 42) (.t 44))⟩, ⟨(some 46), none, (.pick (.t 39) (.c (.bool true)) (.t 45))⟩]) (.cond (.t 46) (.seq (.reg [⟨(some 2), none, (.mv (.c (.bool false)))⟩]) .ret) .skip)))) (.reg [⟨(some 47), none, (.bin .add false (.t 8) (.c (.int .i64 1)))⟩, ⟨(some 8), none, (.mv (.t 47))⟩]))))))) (.seq (.reg [⟨(some 48), none, (.faddr 0 (.t 1))⟩, ⟨(some 49), none, (.load false 1 (.t 48))⟩, ⟨(some 50), none, (.len false (.t 49))⟩, ⟨(some 51), none, (.bin .leq false (.t 50) (.c (.int .i64 12)))⟩, ⟨(some 2), none, (.mv (.t 51))⟩]) .ret)))
theorem k_impl_IsValidSubstitution : codeOf Try.prog 94 = some ⟨52, c_impl_IsValidSubstitution, [(.tmp 2)]⟩ := by kernel_rfl
theorem m_impl_IsValidSubstitution : modes 94 = ⟨[], .asis, none, false⟩ := by unfold modes; rfl

def c_spec_l4Good : SC := (.seq (.reg [⟨(some 1), none, (.boxv 63 1 (.t 0))⟩, ⟨(some 2), none, (.mv (.c (.bool false)))⟩]) (.seq (.seq (.reg [⟨(some 3), none, (.mv (.c (.int .i64 0)))⟩]) (.block 0 (.loop [0, 1, 0, 1, 0, 0, 0, 0, 0, 0, 0, 0, 0, 0, 0, 0, 0, 0, 0, 0, 0, 0, 0, 0, 0, 0, 0, 0, 0, 0, 0, 0, 0, 0, 0, 0, 0, 0, 0, 0, 0, 0, 0, 0, 0, 0, 0, 0, 0, 0, 0, 0, 0, 0, 0] (.seq (.seq (.reg [⟨(some 5), none, (.mv (.t 3))⟩, ⟨(some 6), none, (.faddr 0 (.t 1))⟩, ⟨(some 7), none, (.load false 1 (.t 6))⟩, ⟨(some 8), none, (.len false (.t 7))⟩, ⟨(some 9), none, (.bin .lss false (.t 5) (.t 8))⟩]) (.cond (.t 9) .skip (.exit 0))) (.seq (.block 1 (.seq (.reg [⟨(some 12), none, (.faddr 0 (.t 1))⟩, ⟨(some 13), none, (.load false 1 (.t 12))⟩, ⟨(some 14), none, (.mv (.t 3))⟩, ⟨(some 15), none, (.iaddr 3 (.t 13) (.t 14))⟩, ⟨(some 16), none, (.load true 3 (.t 15))⟩, ⟨(some 4), none, (.alloc 167 [(.str ⟨#[]⟩), (.str ⟨#[]⟩), .nil])⟩, ⟨none, none, (.store 3 (.t 4) (.t 16))⟩]) (.seq (.dreg [[], [0], [1, 0], [2, 1, 0], [3, 2, 1, 0], [4, 3, 2, 1, 0], [5, 4, 3, 2, 1, 0], [6, 5, 4, 3, 2, 1, 0], [7, 6, 5, 4, 3, 2, 1, 0], [4, 3, 2, 1, 0, 8, 7, 6, 5], [9, 4, 3, 2, 1, 0, 8, 7, 6, 5], [10, 9, 4, 3, 2, 1, 0, 8, 7, 6, 5], [11, 10, 9, 4, 3, 2, 1, 0, 8, 7, 6, 5], [12, 11, 10, 9, 4, 3, 2, 1, 0, 8, 7, 6, 5], [10, 9, 4, 3, 2, 1, 0, 8, 7, 6, 5], [14, 10, 9, 4, 3, 2, 1, 0, 8, 7, 6, 5], [13, 12, 11, 10, 9, 4, 3, 2, 1, 0, 8, 7, 6, 5, 15, 14], [10, 9, 4, 3, 2, 1, 0, 8, 7, 6, 5, 16, 13, 12, 11, 15, 14], [17, 10, 9, 4, 3, 2, 1, 0, 8, 7, 6, 5, 16, 13, 12, 11, 15, 14], [18, 17, 10, 9, 4, 3, 2, 1, 0, 8, 7, 6, 5, 16, 13, 12, 11, 15, 14], [19, 18, 17, 10, 9, 4, 3, 2, 1, 0, 8, 7, 6, 5, 16, 13, 12, 11, 15, 14], [20, 19, 18, 17, 10, 9, 4, 3, 2, 1, 0, 8, 7, 6, 5, 16, 13, 12, 11, 15, 14], [21, 20, 19, 18, 17, 10, 9, 4, 3, 2, 1, 0, 8, 7, 6, 5, 16, 13, 12, 11, 15, 14], [22, 21, 20, 19, 18, 17, 10, 9, 4, 3, 2, 1, 0, 8, 7, 6, 5, 16, 13, 12, 11, 15, 14], [21, 20, 19, 18, 17, 10, 9, 4, 3, 2, 1, 0, 8, 7, 6, 5, 16, 13, 12, 11, 15, 14], [24, 21, 20, 19, 18, 17, 10, 9, 4, 3, 2, 1, 0, 8, 7, 6, 5, 16, 13, 12, 11, 15, 14], [23, 22, 21, 20, 19, 18, 17, 10, 9, 4, 3, 2, 1, 0, 8, 7, 6, 5, 16, 13, 12, 11, 15, 14, 25, 24], [26, 23, 22, 21, 20, 19, 18, 17, 10, 9, 4, 3, 2, 1, 0, 8, 7, 6, 5, 16, 13, 12, 11, 15, 14, 25, 24], [27, 26, 23, 22, 21, 20, 19, 18, 17, 10, 9, 4, 3, 2, 1, 0, 8, 7, 6, 5, 16, 13, 12, 11, 15, 14, 25, 24], [21, 20, 19, 18, 17, 10, 9, 4, 3, 2, 1, 0, 8, 7, 6, 5, 16, 13, 12, 11, 15, 14], [29, 21, 20, 19, 18, 17, 10, 9, 4, 3, 2, 1, 0, 8, 7, 6, 5, 16, 13, 12, 11, 15, 14], [28, 27, 26, 23, 22, 21, 20, 19, 18, 17, 10, 9, 4, 3, 2, 1, 0, 8, 7, 6, 5, 16, 13, 12, 11, 15, 14, 25, 24, 30, 29], [21, 20, 19, 18, 17, 10, 9, 4, 3, 2, 1, 0, 8, 7, 6, 5, 16, 13, 12, 11, 15, 14, 31, 28, 27, 26, 23, 22, 25, 24, 30, 29], [18, 17, 10, 9, 4, 3, 2, 1, 0, 8, 7, 6, 5, 16, 13, 12, 11, 15, 14, 32, 21, 20, 19, 31, 28, 27, 26, 23, 22, 25, 24, 30, 29]] [⟨(some 17), none, (.faddr 0 (.t 4))⟩, ⟨(some 18), none, (.load false 1 (.t 17))⟩, ⟨(some 19), none, (.call 161 [(.t 18)])⟩, ⟨(some 20), none, (.un .not (.t 19))⟩, ⟨(some 21), none, (.mv (.t 20))⟩, ⟨(some 22), (some (21, false)), (.faddr 1 (.t 4))⟩, ⟨(some 23), (some (21, false)), (.load true 2 (.t 22))⟩, ⟨(some 24), (some (21, false)), (.call 117 [(.t 23)])⟩, ⟨(some 25), (some (21, false)), (.un .not (.t 24))⟩, ⟨(some 26), none, (.pick (.t 21) (.c (.bool true)) (.t 25))⟩, ⟨(some 27), none, (.mv (.t 26))⟩, ⟨(some 28), (some (27, false)), (.faddr 1 (.t 4))⟩, ⟨(some 29), (some (27, false)), (.faddr 0 (.t 28))⟩, ⟨(some 30), (some (27, false)), (.load false 1 (.t 29))⟩, ⟨(some 31), (some (27, false)), (.faddr 0 (.t 4))⟩, ⟨(some 32), (some (27, false)), (.load false 1 (.t 31))⟩, ⟨(some 33), (some (27, false)), (.bin .eql false (.t 30) (.t 32))⟩, ⟨(some 34), none, (.pick (.t 27) (.c (.bool true)) (.t 33))⟩, ⟨(some 35), none, (.mv (.t 34))⟩, ⟨(some 36), (some (35, false)), (.mv (.t 3))⟩, ⟨(some 37), (some (35, false)), (.bin .gtr false (.t 36) (.c (.int .i64 0)))⟩, ⟨(some 38), (some (35, false)), (.mv (.t 37))⟩, ⟨(some 39), (some (38, true)), (.faddr 0 (.t 1))⟩, ⟨(some 40), (some (38, true)), (.load false 1 (.t 39))⟩, ⟨(some 41), (some (38, true)), (.mv (.t 3))⟩, ⟨(some 42), (some (38, true)), (.bin .sub false (.t 41) (.c (.int .i64 1)))⟩, ⟨(some 43), (some (38, true)), (.iaddr 3 (.t 40) (.t 42))⟩, ⟨(some 44), (some (38, true)), (.faddr 0 (.t 43))⟩, ⟨(some 45), (some (38, true)), (.load false 1 (.t 44))⟩, ⟨(some 46), (some (38, true)), (.faddr 0 (.t 4))⟩, ⟨(some 47), (some (38, true)), (.load false 1 (.t 46))⟩, ⟨(some 48), (some (38, true)), (.bin .geq false (.t 45) (.t 47))⟩, ⟨(some 49), (some (35, false)), (.pick (.t 38) (.t 48) (.c (.bool false)))⟩, ⟨(some 50), none, (.pick (.t 35) (.c (.bool true)) (.t 49))⟩]) (.cond (.t 50) (.seq (.reg [⟨(some 2), none, (.mv (.c (.bool false)))⟩]) .ret) .skip)))) (.reg [⟨(some 10), none, (.mv (.t 3))⟩, ⟨(some 11), none, (.bin .add false (.t 10) (.c (.int .i64 1)))⟩, ⟨(some 3), none, (.mv (.t 11))⟩])))))) (.seq (.reg [⟨(some 51), none, (.faddr 0 (.t 1))⟩, ⟨(some 52), none, (.load false 1 (.t 51))⟩, ⟨(some 53), none, (.len false (.t 52))⟩, ⟨(some 54), none, (.bin .leq false (.t 53) (.c (.int .i64 12)))⟩, ⟨(some 2), none, (.mv (.t 54))⟩]) .ret)))
theorem k_spec_l4Good : codeOf Try.prog 91 = some ⟨55, c_spec_l4Good, [(.tmp 2)]⟩ := by kernel_rfl
theorem m_spec_l4Good : modes 91 = ⟨[], .asis, none, false⟩ := by unfold modes; rfl

def c_spec_l4Find : SC := (.seq (.reg [⟨(some 2), none, (.boxv 63 1 (.t 0))⟩, ⟨(some 4), none, (.mv (.c (.int .i64 0)))⟩]) (.seq (.seq (.reg [⟨(some 5), none, (.mv (.c (.int .i64 0)))⟩]) (.block 0 (.loop [0, 1, 1, 0, 0, 1, 0, 0, 0, 0, 0, 0, 0, 0, 0, 0, 0, 0, 0, 0, 0, 0] (.seq (.seq (.reg [⟨(some 6), none, (.mv (.t 5))⟩, ⟨(some 7), none, (.faddr 0 (.t 2))⟩, ⟨(some 8), none, (.load false 1 (.t 7))⟩, ⟨(some 9), none, (.len false (.t 8))⟩, ⟨(some 10), none, (.bin .lss false (.t 6) (.t 9))⟩]) (.cond (.t 10) .skip (.exit 0))) (.seq (.block 1 (.seq (.reg [⟨(some 13), none, (.faddr 0 (.t 2))⟩, ⟨(some 14), none, (.load false 1 (.t 13))⟩, ⟨(some 15), none, (.mv (.t 5))⟩, ⟨(some 16), none, (.iaddr 3 (.t 14) (.t 15))⟩, ⟨(some 17), none, (.faddr 0 (.t 16))⟩, ⟨(some 18), none, (.load false 1 (.t 17))⟩, ⟨(some 19), none, (.mv (.t 1))⟩, ⟨(some 20), none, (.bin .eql false (.t 18) (.t 19))⟩]) (.cond (.t 20) (.seq (.reg [⟨(some 21), none, (.mv (.t 5))⟩, ⟨(some 4), none, (.mv (.t 21))⟩]) .ret) .skip))) (.reg [⟨(some 11), none, (.mv (.t 5))⟩, ⟨(some 12), none, (.bin .add false (.t 11) (.c (.int .i64 1)))⟩, ⟨(some 5), none, (.mv (.t 12))⟩])))))) (.seq (.reg [⟨(some 4), none, (.mv (.c (.int .i64 (-(0 + 1)))))⟩]) .ret)))
theorem k_spec_l4Find : codeOf Try.prog 125 = some ⟨22, c_spec_l4Find, [(.tmp 4)]⟩ := by kernel_rfl
theorem m_spec_l4Find : modes 125 = ⟨[], .asis, none, false⟩ := by unfold modes; rfl

set_option maxHeartbeats 4000000 in
theorem isValidSubstitution_E (x : Sb) (hn : x.tame) : E 94 [x.sv] [] = some (.bool x.ok, []) := by
  have hl := hn.1
  refine E_walk k_impl_IsValidSubstitution m_impl_IsValidSubstitution (of_decide_eq_true rfl) ?_
  simp (disch := omega) only [c_impl_IsValidSubstitution, go_sem, Nat.reduceAdd, Nat.reduceSub, Nat.reduceLT, Nat.reduceLeDiff, Nat.reduceEqDiff, Nat.reduceBEq, Nat.reduceBneDiff, Nat.reduceMul, ↓reduceIte, Int.reduceToNat, reduceCtorEq, Int.reduceNeg, Int.reduceAdd]
  refine go_loop (α := Int) (fun a => ⟨slots 52 0 [(1, .ptr 0 0), (6, .arr (x.binds.map Bd.d)), (7, .int .i64 x.binds.length), (8, .int .i64 a)], [.box 63 [.arr (x.binds.map Bd.d)]]⟩) (fun a => ∃ k : Nat, a = k ∧ k ≤ (x.binds).length ∧ bdTo x.binds k = true) (fun a => (x.binds).length - (a).toNat) 0 ⟨0, rfl, Nat.zero_le _, by rw [bdTo]⟩ (by simp (disch := omega) only [go_sem, Nat.reduceAdd, Nat.reduceSub, Nat.reduceLT, Nat.reduceLeDiff, Nat.reduceEqDiff, Nat.reduceBEq, Nat.reduceBneDiff, Nat.reduceMul, ↓reduceIte, Int.reduceToNat, reduceCtorEq, Int.reduceNeg, Int.reduceAdd]) ?_
  rintro i ⟨k, hi, hk, hR⟩
  have hni : i.toNat = k := by omega
  have hni1 : (i + 1).toNat = k + 1 := by omega
  rcases Nat.lt_or_ge k (x.binds).length with hlt | hge
  · have hg := get_at Bd.d hlt
    rw [Bd.d_eq] at hg
    have hv := isValidTerm_E x.binds[k].term (Sb.tame_at hn hlt)
    cases k with
    | zero =>
      obtain rfl : i = 0 := hi
      cases hA : varB x.binds[0].var <;> cases hV : x.binds[0].term.valid <;> cases hD : dec (x.binds[0].term.name = x.binds[0].var)
      all_goals
        first
        | (have e : x.ok = false := Sb.not_ok hR (by rw [bdAt_zero hlt, bdOk, hA, hV, hD]; rfl) hlt
           rw [e]
           simp (disch := omega) only [go_sem, Nat.reduceAdd, Nat.reduceSub, Nat.reduceLT, Nat.reduceLeDiff, Nat.reduceEqDiff, Nat.reduceBEq, Nat.reduceBneDiff, Nat.reduceMul, ↓reduceIte, Int.reduceToNat, reduceCtorEq, Int.reduceNeg, Int.reduceAdd, hni, hg, hv, hA, hV, hD, m_impl_IsValidTerm, m_impl_isVariable, isVariable_E]
           done)
        | (simp (disch := omega) only [go_sem, Nat.reduceAdd, Nat.reduceSub, Nat.reduceLT, Nat.reduceLeDiff, Nat.reduceEqDiff, Nat.reduceBEq, Nat.reduceBneDiff, Nat.reduceMul, ↓reduceIte, Int.reduceToNat, reduceCtorEq, Int.reduceNeg, Int.reduceAdd, hni, hg, hv, hA, hV, hD, m_impl_IsValidTerm, m_impl_isVariable, isVariable_E]
           exact ⟨1, ⟨1, rfl, hlt, by rw [bdTo, hR, bdAt_zero hlt, bdOk, hA, hV, hD]; rfl⟩, by omega, by first | trivial | rfl⟩)
    | succ j =>
      have hj : j < x.binds.length := by omega
      have hg2 := get_at Bd.d hj
      rw [Bd.d_eq] at hg2
      have hni2 : (i - 1).toNat = j := by omega
      have hLe := strLe_eq x.binds[j + 1].var x.binds[j].var
      cases hS : strLt x.binds[j].var x.binds[j + 1].var <;> cases hA : varB x.binds[j + 1].var <;> cases hV : x.binds[j + 1].term.valid <;> cases hD : dec (x.binds[j + 1].term.name = x.binds[j + 1].var)
      all_goals
        first
        | (have e : x.ok = false := Sb.not_ok hR (by rw [bdAt_succ hlt, bdOk, hA, hV, hD, hS]; rfl) hlt
           rw [e]
           simp (disch := omega) only [go_sem, Nat.reduceAdd, Nat.reduceSub, Nat.reduceLT, Nat.reduceLeDiff, Nat.reduceEqDiff, Nat.reduceBEq, Nat.reduceBneDiff, Nat.reduceMul, ↓reduceIte, Int.reduceToNat, reduceCtorEq, Int.reduceNeg, Int.reduceAdd, hni, hg, hv, hA, hV, hD, m_impl_IsValidTerm, m_impl_isVariable, isVariable_E, hS, hni2, hg2, hLe]
           done)
        | (simp (disch := omega) only [go_sem, Nat.reduceAdd, Nat.reduceSub, Nat.reduceLT, Nat.reduceLeDiff, Nat.reduceEqDiff, Nat.reduceBEq, Nat.reduceBneDiff, Nat.reduceMul, ↓reduceIte, Int.reduceToNat, reduceCtorEq, Int.reduceNeg, Int.reduceAdd, hni, hg, hv, hA, hV, hD, m_impl_IsValidTerm, m_impl_isVariable, isVariable_E, hS, hni2, hg2, hLe]
           exact ⟨i + 1, ⟨j + 1 + 1, by omega, hlt, by rw [bdTo, hR, bdAt_succ hlt, bdOk, hA, hV, hD, hS]; rfl⟩, by omega, by first | trivial | rfl⟩)
  · obtain rfl : k = x.binds.length := by omega
    simp (disch := omega) only [go_sem, Nat.reduceAdd, Nat.reduceSub, Nat.reduceLT, Nat.reduceLeDiff, Nat.reduceEqDiff, Nat.reduceBEq, Nat.reduceBneDiff, Nat.reduceMul, ↓reduceIte, Int.reduceToNat, reduceCtorEq, Int.reduceNeg, Int.reduceAdd, hni]
    unfold Sb.ok
    rw [hR, Bool.and_true, dec_of]
    exact decide_eq_decide.2 (by omega)
set_option maxHeartbeats 4000000 in
theorem l4Good_E (x : Sb) (hn : x.tame) : E 91 [x.sv] [] = some (.bool x.ok, []) := by
  have hl := hn.1
  refine E_walk k_spec_l4Good m_spec_l4Good (of_decide_eq_true rfl) ?_
  simp (disch := omega) only [c_spec_l4Good, go_sem, Nat.reduceAdd, Nat.reduceSub, Nat.reduceLT, Nat.reduceLeDiff, Nat.reduceEqDiff, Nat.reduceBEq, Nat.reduceBneDiff, Nat.reduceMul, ↓reduceIte, Int.reduceToNat, reduceCtorEq, Int.reduceNeg, Int.reduceAdd]
  refine go_loop (α := Int) (fun a => ⟨slots 55 0 [(1, .ptr 0 0), (3, .int .i64 a)], [.box 63 [.arr (x.binds.map Bd.d)]]⟩) (fun a => ∃ k : Nat, a = k ∧ k ≤ (x.binds).length ∧ bdTo x.binds k = true) (fun a => (x.binds).length - (a).toNat) 0 ⟨0, rfl, Nat.zero_le _, by rw [bdTo]⟩ (by simp (disch := omega) only [go_sem, Nat.reduceAdd, Nat.reduceSub, Nat.reduceLT, Nat.reduceLeDiff, Nat.reduceEqDiff, Nat.reduceBEq, Nat.reduceBneDiff, Nat.reduceMul, ↓reduceIte, Int.reduceToNat, reduceCtorEq, Int.reduceNeg, Int.reduceAdd]) ?_
  rintro i ⟨k, hi, hk, hR⟩
  have hni : i.toNat = k := by omega
  have hni1 : (i + 1).toNat = k + 1 := by omega
  rcases Nat.lt_or_ge k (x.binds).length with hlt | hge
  · have hg := get_at Bd.d hlt
    rw [Bd.d_eq] at hg
    have hv := l2Good_E x.binds[k].term (Sb.tame_at hn hlt)
    cases k with
    | zero =>
      obtain rfl : i = 0 := hi
      cases hA : varB x.binds[0].var <;> cases hV : x.binds[0].term.valid <;> cases hD : dec (x.binds[0].term.name = x.binds[0].var)
      all_goals
        first
        | (have e : x.ok = false := Sb.not_ok hR (by rw [bdAt_zero hlt, bdOk, hA, hV, hD]; rfl) hlt
           rw [e]
           simp (disch := omega) only [go_sem, Nat.reduceAdd, Nat.reduceSub, Nat.reduceLT, Nat.reduceLeDiff, Nat.reduceEqDiff, Nat.reduceBEq, Nat.reduceBneDiff, Nat.reduceMul, ↓reduceIte, Int.reduceToNat, reduceCtorEq, Int.reduceNeg, Int.reduceAdd, hni, hg, hv, hA, hV, hD, m_spec_l2Good, m_spec_l2Var, l2Var_E]
           done)
        | (simp (disch := omega) only [go_sem, Nat.reduceAdd, Nat.reduceSub, Nat.reduceLT, Nat.reduceLeDiff, Nat.reduceEqDiff, Nat.reduceBEq, Nat.reduceBneDiff, Nat.reduceMul, ↓reduceIte, Int.reduceToNat, reduceCtorEq, Int.reduceNeg, Int.reduceAdd, hni, hg, hv, hA, hV, hD, m_spec_l2Good, m_spec_l2Var, l2Var_E]
           exact ⟨1, ⟨1, rfl, hlt, by rw [bdTo, hR, bdAt_zero hlt, bdOk, hA, hV, hD]; rfl⟩, by omega, by first | trivial | rfl⟩)
    | succ j =>
      have hj : j < x.binds.length := by omega
      have hg2 := get_at Bd.d hj
      rw [Bd.d_eq] at hg2
      have hni2 : (i - 1).toNat = j := by omega
      have hLe := strLe_eq x.binds[j + 1].var x.binds[j].var
      cases hS : strLt x.binds[j].var x.binds[j + 1].var <;> cases hA : varB x.binds[j + 1].var <;> cases hV : x.binds[j + 1].term.valid <;> cases hD : dec (x.binds[j + 1].term.name = x.binds[j + 1].var)
      all_goals
        first
        | (have e : x.ok = false := Sb.not_ok hR (by rw [bdAt_succ hlt, bdOk, hA, hV, hD, hS]; rfl) hlt
           rw [e]
           simp (disch := omega) only [go_sem, Nat.reduceAdd, Nat.reduceSub, Nat.reduceLT, Nat.reduceLeDiff, Nat.reduceEqDiff, Nat.reduceBEq, Nat.reduceBneDiff, Nat.reduceMul, ↓reduceIte, Int.reduceToNat, reduceCtorEq, Int.reduceNeg, Int.reduceAdd, hni, hg, hv, hA, hV, hD, m_spec_l2Good, m_spec_l2Var, l2Var_E, hS, hni2, hg2, hLe]
           done)
        | (simp (disch := omega) only [go_sem, Nat.reduceAdd, Nat.reduceSub, Nat.reduceLT, Nat.reduceLeDiff, Nat.reduceEqDiff, Nat.reduceBEq, Nat.reduceBneDiff, Nat.reduceMul, ↓reduceIte, Int.reduceToNat, reduceCtorEq, Int.reduceNeg, Int.reduceAdd, hni, hg, hv, hA, hV, hD, m_spec_l2Good, m_spec_l2Var, l2Var_E, hS, hni2, hg2, hLe]
           exact ⟨i + 1, ⟨j + 1 + 1, by omega, hlt, by rw [bdTo, hR, bdAt_succ hlt, bdOk, hA, hV, hD, hS]; rfl⟩, by omega, by first | trivial | rfl⟩)
  · obtain rfl : k = x.binds.length := by omega
    simp (disch := omega) only [go_sem, Nat.reduceAdd, Nat.reduceSub, Nat.reduceLT, Nat.reduceLeDiff, Nat.reduceEqDiff, Nat.reduceBEq, Nat.reduceBneDiff, Nat.reduceMul, ↓reduceIte, Int.reduceToNat, reduceCtorEq, Int.reduceNeg, Int.reduceAdd, hni]
    unfold Sb.ok
    rw [hR, Bool.and_true, dec_of]
    exact decide_eq_decide.2 (by omega)
set_option maxHeartbeats 2000000 in
theorem l4Find_E (x : Sb) (n : ByteArray) (hl : x.binds.length ≤ 1099511627776) : E 125 [x.sv, .str n] [] = some (.int .i64 (idxP (fun b => dec (b.var = n)) x.binds 0), []) := by
  refine E_walk k_spec_l4Find m_spec_l4Find (of_decide_eq_true rfl) ?_
  simp (disch := omega) only [c_spec_l4Find, go_sem, Nat.reduceAdd, Nat.reduceSub, Nat.reduceLT, Nat.reduceLeDiff, Nat.reduceEqDiff, Nat.reduceBEq, Nat.reduceBneDiff, Nat.reduceMul, ↓reduceIte, Int.reduceToNat, reduceCtorEq, Int.reduceNeg, Int.reduceAdd]
  refine go_loop (α := Int) (fun a => ⟨slots 22 0 [(1, .str n), (2, .ptr 0 0), (5, .int .i64 a)], [.box 63 [.arr (x.binds.map Bd.d)]]⟩) (fun a => ∃ k : Nat, a = k ∧ k ≤ (x.binds).length ∧ idxP (fun b => dec (b.var = n)) (x.binds.drop k) a = idxP (fun b => dec (b.var = n)) x.binds 0) (fun a => (x.binds).length - (a).toNat) 0 ⟨0, rfl, Nat.zero_le _, by rw [List.drop_zero]⟩ (by simp (disch := omega) only [go_sem, Nat.reduceAdd, Nat.reduceSub, Nat.reduceLT, Nat.reduceLeDiff, Nat.reduceEqDiff, Nat.reduceBEq, Nat.reduceBneDiff, Nat.reduceMul, ↓reduceIte, Int.reduceToNat, reduceCtorEq, Int.reduceNeg, Int.reduceAdd]) ?_
  rintro i ⟨k, hi, hk, hR⟩
  have hni : i.toNat = k := by omega
  have hni1 : (i + 1).toNat = k + 1 := by omega
  rcases Nat.lt_or_ge k (x.binds).length with hlt | hge
  · have hg := get_at Bd.d hlt
    rw [Bd.d_eq] at hg
    rw [List.drop_eq_getElem_cons hlt, idxP] at hR
    cases hp : dec (x.binds[k].var = n) with
    | true =>
      rw [hp] at hR
      simp (disch := omega) only [go_sem, Nat.reduceAdd, Nat.reduceSub, Nat.reduceLT, Nat.reduceLeDiff, Nat.reduceEqDiff, Nat.reduceBEq, Nat.reduceBneDiff, Nat.reduceMul, ↓reduceIte, Int.reduceToNat, reduceCtorEq, Int.reduceNeg, Int.reduceAdd, hni, hg, hp]
      simpa using hR
    | false =>
      rw [hp] at hR
      simp (disch := omega) only [go_sem, Nat.reduceAdd, Nat.reduceSub, Nat.reduceLT, Nat.reduceLeDiff, Nat.reduceEqDiff, Nat.reduceBEq, Nat.reduceBneDiff, Nat.reduceMul, ↓reduceIte, Int.reduceToNat, reduceCtorEq, Int.reduceNeg, Int.reduceAdd, hni, hg, hp]
      exact ⟨i + 1, ⟨k + 1, by omega, hlt, by simpa using hR⟩, by omega, by first | trivial | rfl⟩
  · rw [List.drop_eq_nil_of_le hge, idxP] at hR
    simp (disch := omega) only [go_sem, Nat.reduceAdd, Nat.reduceSub, Nat.reduceLT, Nat.reduceLeDiff, Nat.reduceEqDiff, Nat.reduceBEq, Nat.reduceBneDiff, Nat.reduceMul, ↓reduceIte, Int.reduceToNat, reduceCtorEq, Int.reduceNeg, Int.reduceAdd, hni]
    exact hR
end Go.Proofs.Ytifpfjbpfekkmaa

set_option maxRecDepth 100000
set_option linter.unusedSimpArgs false
set_option linter.unusedVariables false
namespace Go.Proofs.Ytifpfjbpfekkmaa
open Go.RowKit

def c_impl_copyTerms : SC := (.seq (.reg [⟨(some 2), none, (.mv (.c .nil))⟩]) (.seq (.seq (.reg [⟨(some 6), none, (.mv (.t 0))⟩, ⟨(some 7), none, (.len false (.t 6))⟩, ⟨(some 8), none, (.bin .eql false (.t 7) (.c (.int .i64 0)))⟩]) (.cond (.t 8) (.seq (.reg [⟨(some 2), none, (.mv (.c .nil))⟩]) .ret) .skip)) (.seq (.reg [⟨(some 9), none, (.mv (.t 0))⟩, ⟨(some 10), none, (.len false (.t 9))⟩, ⟨(some 11), none, (.mkslice 67 2 40 [(.str ⟨#[]⟩), .nil] (.t 10))⟩, ⟨(some 3), none, (.mv (.t 11))⟩]) (.seq (.seq (.reg [⟨(some 12), none, (.mv (.t 0))⟩, ⟨(some 13), none, (.len false (.t 12))⟩, ⟨(some 14), none, (.mv (.c (.int .i64 0)))⟩]) (.block 0 (.loop [0, 0, 0, 1, 0, 0, 0, 0, 0, 0, 0, 0, 1, 1, 1, 0, 0, 0, 0, 0, 0, 0, 0, 0, 0, 0] (.seq (.reg [⟨(some 15), none, (.bin .lss false (.t 14) (.t 13))⟩]) (.seq (.cond (.t 15) .skip (.exit 0)) (.seq (.block 1 (.seq (.reg [⟨(some 16), none, (.mv (.t 14))⟩, ⟨(some 17), none, (.iaddr 2 (.t 12) (.t 14))⟩, ⟨(some 18), none, (.load true 2 (.t 17))⟩, ⟨(some 5), none, (.alloc 67 [(.str ⟨#[]⟩), .nil])⟩, ⟨(some 4), none, (.mv (.t 16))⟩, ⟨none, none, (.store 2 (.t 5) (.t 18))⟩]) (.reg [⟨(some 19), none, (.mv (.t 3))⟩, ⟨(some 20), none, (.mv (.t 4))⟩, ⟨(some 21), none, (.load true 2 (.t 5))⟩, ⟨(some 22), none, (.call 201 [(.t 21)])⟩, ⟨(some 23), none, (.iaddr 2 (.t 19) (.t 20))⟩, ⟨none, none, (.store 2 (.t 23) (.t 22))⟩]))) (.reg [⟨(some 24), none, (.bin .add false (.t 14) (.c (.int .i64 1)))⟩, ⟨(some 14), none, (.mv (.t 24))⟩]))))))) (.seq (.reg [⟨(some 25), none, (.mv (.t 3))⟩, ⟨(some 2), none, (.mv (.t 25))⟩]) .ret)))))
theorem k_impl_copyTerms : codeOf Try.prog 247 = some ⟨26, c_impl_copyTerms, [(.tmp 2)]⟩ := by kernel_rfl
theorem m_impl_copyTerms : modes 247 = ⟨[], .own [some (67, 2)], none, false⟩ := by unfold modes; rfl

def c_impl_copyTerm : SC := (.seq (.reg [⟨(some 1), none, (.boxv 67 2 (.t 0))⟩, ⟨(some 2), none, (.alloc 67 [(.str ⟨#[]⟩), .nil])⟩]) (.seq (.dreg [[], [0], [], [2], [3, 2], [1, 0, 4, 3, 2], [5, 1, 0, 4, 3, 2]] [⟨(some 3), none, (.faddr 0 (.t 1))⟩, ⟨(some 4), none, (.load false 1 (.t 3))⟩, ⟨(some 5), none, (.faddr 1 (.t 1))⟩, ⟨(some 6), none, (.load false 1 (.t 5))⟩, ⟨(some 7), none, (.call 247 [(.t 6)])⟩, ⟨(some 8), none, (.build [(.str ⟨#[]⟩), .nil] [(0, (1, (.t 4))), (1, (1, (.t 7)))])⟩, ⟨none, none, (.store 2 (.t 2) (.t 8))⟩]) .ret))
theorem k_impl_copyTerm : codeOf Try.prog 201 = some ⟨9, c_impl_copyTerm, [(.cell 2 true 2)]⟩ := by kernel_rfl
theorem m_impl_copyTerm : modes 201 = ⟨[], .asis, none, false⟩ := by unfold modes; rfl

def c_spec_l2Own : SC := (.seq (.reg [⟨(some 1), none, (.boxv 67 2 (.t 0))⟩, ⟨(some 2), none, (.alloc 67 [(.str ⟨#[]⟩), .nil])⟩]) (.seq (.reg [⟨(some 5), none, (.faddr 0 (.t 1))⟩, ⟨(some 6), none, (.load false 1 (.t 5))⟩, ⟨(some 7), none, (.build [(.str ⟨#[]⟩), .nil] [(0, (1, (.t 6)))])⟩, ⟨(some 3), none, (.alloc 67 [(.str ⟨#[]⟩), .nil])⟩, ⟨none, none, (.store 2 (.t 3) (.t 7))⟩]) (.seq (.seq (.reg [⟨(some 4), none, (.mv (.c (.int .i64 0)))⟩]) (.block 0 (.loop [0, 1, 1, 1, 1, 0, 0, 0, 0, 0, 0, 0, 0, 0, 0, 0, 0, 0, 0, 0, 0, 0, 0, 0, 0, 0, 0] (.seq (.seq (.reg [⟨(some 8), none, (.mv (.t 4))⟩, ⟨(some 9), none, (.faddr 1 (.t 1))⟩, ⟨(some 10), none, (.load false 1 (.t 9))⟩, ⟨(some 11), none, (.len false (.t 10))⟩, ⟨(some 12), none, (.bin .lss false (.t 8) (.t 11))⟩]) (.cond (.t 12) .skip (.exit 0))) (.seq (.block 1 (.dreg [[], [0], [], [2], [], [3, 2, 4], [5, 3, 2, 4], [6, 5, 3, 2, 4], [7, 6, 5, 3, 2, 4], [1, 0, 8, 7, 6, 5, 3, 2, 4], [0, 1, 2, 3, 4, 5, 6, 7, 8, 9], [10, 0, 1, 2, 3, 4, 5, 6, 7, 8, 9]] [⟨(some 15), none, (.faddr 1 (.t 3))⟩, ⟨(some 16), none, (.load false 1 (.t 15))⟩, ⟨(some 17), none, (.faddr 1 (.t 1))⟩, ⟨(some 18), none, (.load false 1 (.t 17))⟩, ⟨(some 19), none, (.mv (.t 4))⟩, ⟨(some 20), none, (.iaddr 2 (.t 18) (.t 19))⟩, ⟨(some 21), none, (.load true 2 (.t 20))⟩, ⟨(some 22), none, (.call 162 [(.t 21)])⟩, ⟨(some 23), none, (.mkrow 67 2 [(.str ⟨#[]⟩), .nil] 1 [(0, (.t 22))])⟩, ⟨(some 24), none, (.append 67 2 40 [(.str ⟨#[]⟩), .nil] (.t 16) (.t 23))⟩, ⟨(some 25), none, (.faddr 1 (.t 3))⟩, ⟨none, none, (.store 1 (.t 25) (.t 24))⟩])) (.reg [⟨(some 13), none, (.mv (.t 4))⟩, ⟨(some 14), none, (.bin .add false (.t 13) (.c (.int .i64 1)))⟩, ⟨(some 4), none, (.mv (.t 14))⟩])))))) (.seq (.reg [⟨(some 26), none, (.load true 2 (.t 3))⟩, ⟨none, none, (.store 2 (.t 2) (.t 26))⟩]) .ret))))
theorem k_spec_l2Own : codeOf Try.prog 162 = some ⟨27, c_spec_l2Own, [(.cell 2 true 2)]⟩ := by kernel_rfl
theorem m_spec_l2Own : modes 162 = ⟨[], .frz, none, false⟩ := by unfold modes; rfl

set_option maxHeartbeats 1000000 in
theorem copyTerms_of (xs : List Tm) (hl : xs.length ≤ 1099511627776) (h : ∀ x ∈ xs, E 201 [x.sv] [] = some (x.osv, x.obs)) : E 247 [.arr (xs.map Tm.d)] [] = some (.ref 0, [.row 67 2 (xs.map Tm.o)]) := by
  cases xs with
  | nil =>
    refine E_walk k_impl_copyTerms m_impl_copyTerms (of_decide_eq_true rfl) ?_
    simp (disch := omega) only [c_impl_copyTerms, go_sem, Nat.reduceAdd, Nat.reduceSub, Nat.reduceLT, Nat.reduceLeDiff, Nat.reduceEqDiff, Nat.reduceBEq, Nat.reduceBneDiff, Nat.reduceMul, ↓reduceIte, Int.reduceToNat, reduceCtorEq, Int.reduceNeg, Int.reduceAdd]
  | cons x0 xs0 =>
  generalize hxs : x0 :: xs0 = xs at *
  have hpos : 0 < xs.length := by rw [← hxs]; simp
  refine E_walk k_impl_copyTerms m_impl_copyTerms (of_decide_eq_true rfl) ?_
  simp (disch := omega) only [c_impl_copyTerms, go_sem, Nat.reduceAdd, Nat.reduceSub, Nat.reduceLT, Nat.reduceLeDiff, Nat.reduceEqDiff, Nat.reduceBEq, Nat.reduceBneDiff, Nat.reduceMul, ↓reduceIte, Int.reduceToNat, reduceCtorEq, Int.reduceNeg, Int.reduceAdd]
  refine go_loop (α := Int) (fun a => ⟨slots 26 0 [(3, .ref 0), (12, .arr (xs.map Tm.d)), (13, .int .i64 xs.length), (14, .int .i64 a)], [.row 67 2 (fillR Tm.o [.str ⟨#[]⟩, .ow []] xs a.toNat)]⟩) (fun a => ∃ k : Nat, a = k ∧ k ≤ (xs).length) (fun a => (xs).length - (a).toNat) 0 ⟨0, rfl, Nat.zero_le _⟩ (by simp (disch := omega) only [go_sem, Nat.reduceAdd, Nat.reduceSub, Nat.reduceLT, Nat.reduceLeDiff, Nat.reduceEqDiff, Nat.reduceBEq, Nat.reduceBneDiff, Nat.reduceMul, ↓reduceIte, Int.reduceToNat, reduceCtorEq, Int.reduceNeg, Int.reduceAdd, fillR_zero, Int.toNat_zero]) ?_
  rintro i ⟨k, hi, hk⟩
  have hni : i.toNat = k := by omega
  have hni1 : (i + 1).toNat = k + 1 := by omega
  rcases Nat.lt_or_ge k (xs).length with hlt | hge
  · have hg := get_at Tm.d hlt
    rw [Tm.d_eq] at hg
    have hz := fillR_get Tm.o [.str ⟨#[]⟩, .ow []] hlt
    have hc := h xs[k] (List.getElem_mem hlt)
    have hs := fillR_set Tm.o [.str ⟨#[]⟩, .ow []] hlt
    rw [Tm.o_eq] at hs
    simp (disch := omega) only [go_sem, Nat.reduceAdd, Nat.reduceSub, Nat.reduceLT, Nat.reduceLeDiff, Nat.reduceEqDiff, Nat.reduceBEq, Nat.reduceBneDiff, Nat.reduceMul, ↓reduceIte, Int.reduceToNat, reduceCtorEq, Int.reduceNeg, Int.reduceAdd, hni, hg, hc, hz, fillR_len, m_impl_copyTerm, Tm.osv, Tm.obs]
    refine ⟨i + 1, ⟨k + 1, by omega, hlt⟩, by omega, ?_⟩
    simp (disch := omega) only [go_sem, Nat.reduceAdd, Nat.reduceSub, Nat.reduceLT, Nat.reduceLeDiff, Nat.reduceEqDiff, Nat.reduceBEq, Nat.reduceBneDiff, Nat.reduceMul, ↓reduceIte, Int.reduceToNat, reduceCtorEq, Int.reduceNeg, Int.reduceAdd, hni1, hs]
  · obtain rfl : k = xs.length := by omega
    simp (disch := omega) only [go_sem, Nat.reduceAdd, Nat.reduceSub, Nat.reduceLT, Nat.reduceLeDiff, Nat.reduceEqDiff, Nat.reduceBEq, Nat.reduceBneDiff, Nat.reduceMul, ↓reduceIte, Int.reduceToNat, reduceCtorEq, Int.reduceNeg, Int.reduceAdd, hni, fillR_end]
set_option maxHeartbeats 1000000 in
theorem copyTerm_of (x : Tm) (h : E 247 [.arr (x.args.map Tm.d)] [] = some (.ref 0, [.row 67 2 (x.args.map Tm.o)])) : E 201 [x.sv] [] = some (x.osv, x.obs) := by
  refine E_walk k_impl_copyTerm m_impl_copyTerm (of_decide_eq_true rfl) ?_
  simp (disch := omega) only [c_impl_copyTerm, go_sem, Nat.reduceAdd, Nat.reduceSub, Nat.reduceLT, Nat.reduceLeDiff, Nat.reduceEqDiff, Nat.reduceBEq, Nat.reduceBneDiff, Nat.reduceMul, ↓reduceIte, Int.reduceToNat, reduceCtorEq, Int.reduceNeg, Int.reduceAdd, h, m_impl_copyTerms]
theorem copyTerm_E (x : Tm) (hn : x.nodes ≤ 1099511627776) : E 201 [x.sv] [] = some (x.osv, x.obs) :=
  copyTerm_of x (copyTerms_of x.args (by have := Tm.nodes_eq x; have := Tm.length_le x.args; omega) fun y hy => copyTerm_E y (by have := Tm.nodes_mem hy; have := Tm.nodes_eq x; omega))
termination_by SizeOf.sizeOf x
decreasing_by exact Tm.lt_of_mem hy
end Go.Proofs.Ytifpfjbpfekkmaa

set_option maxRecDepth 100000
set_option linter.unusedSimpArgs false
set_option linter.unusedVariables false
namespace Go.Proofs.Ytifpfjbpfekkmaa
open Go.RowKit

/-- A term whose arguments are shared, as an element of a row of one's own. -/
def Tm.osh (x : Tm) : List OT := [.str x.name, .sh (x.args.map Tm.d)]
theorem Tm.osh_eq (x : Tm) : x.osh = [.str x.name, .sh (x.args.map Tm.d)] := rfl
theorem Tm.osh_full : ∀ xs : List Tm, OT.fullss (xs.map Tm.osh) = true
  | [] => rfl
  | x :: xs => by rw [List.map_cons, Tm.osh_eq]; simp [OT.fullss, OT.fulls, OT.full, Tm.osh_full xs]
theorem Tm.osh_er : ∀ xs : List Tm, OT.erss (xs.map Tm.osh) = xs.map Tm.d
  | [] => rfl
  | x :: xs => by rw [List.map_cons, List.map_cons, Tm.osh_eq, Tm.d_eq]; simp [OT.erss, OT.ers, OT.er, Tm.osh_er xs]
theorem map_snoc {α β : Type} (f : α → β) {xs : List α} {k : Nat} (h : k < xs.length) : (xs.take k).map f ++ [f xs[k]] = (xs.take (k + 1)).map f := by
  rw [List.take_succ_eq_append_getElem h, List.map_append]; rfl
set_option maxHeartbeats 2000000 in
theorem l2Own_of (x : Tm) (hn : x.nodes ≤ 1099511627776) (ih : ∀ y ∈ x.args, E 162 [y.sv] [] = some (y.sv, [])) : E 162 [x.sv] [] = some (x.sv, []) := by
  have hl := Tm.length_le x.args
  have hne := Tm.nodes_eq x
  have h10 : ((1 : Int) = 0) = False := by simp
  have hfu := Tm.osh_full x.args
  have her := Tm.osh_er x.args
  refine E_walk k_spec_l2Own m_spec_l2Own (of_decide_eq_true rfl) ?_
  simp (disch := omega) only [c_spec_l2Own, go_sem, Nat.reduceAdd, Nat.reduceSub, Nat.reduceLT, Nat.reduceLeDiff, Nat.reduceEqDiff, Nat.reduceBEq, Nat.reduceBneDiff, Nat.reduceMul, ↓reduceIte, Int.reduceToNat, reduceCtorEq, Int.reduceNeg, Int.reduceAdd]
  refine go_loop (α := Int) (fun a => ⟨slots 27 0 [(1, .ptr 0 0), (2, .ptr 1 0), (3, .ptr 2 0), (4, .int .i64 a)], (if a = 0 then [.box 67 [.str x.name, .arr (x.args.map Tm.d)], .box 67 [.str ⟨#[]⟩, .nil], .box 67 [.str x.name, .nil]] else [.box 67 [.str x.name, .arr (x.args.map Tm.d)], .box 67 [.str ⟨#[]⟩, .nil], .box 67 [.str x.name, .ref 3], .row 67 2 ((x.args.take a.toNat).map Tm.osh)])⟩) (fun a => ∃ k : Nat, a = k ∧ k ≤ (x.args).length) (fun a => (x.args).length - (a).toNat) 0 ⟨0, rfl, Nat.zero_le _⟩ (by simp (disch := omega) only [go_sem, Nat.reduceAdd, Nat.reduceSub, Nat.reduceLT, Nat.reduceLeDiff, Nat.reduceEqDiff, Nat.reduceBEq, Nat.reduceBneDiff, Nat.reduceMul, ↓reduceIte, Int.reduceToNat, reduceCtorEq, Int.reduceNeg, Int.reduceAdd, eq_self, if_true]) ?_
  rintro i ⟨k, hi, hk⟩
  have hni : i.toNat = k := by omega
  have hni1 : (i + 1).toNat = k + 1 := by omega
  rcases Nat.lt_or_ge k (x.args).length with hlt | hge
  · have hg := get_at Tm.d hlt
    rw [Tm.d_eq] at hg
    have hc := ih x.args[k] (List.getElem_mem hlt)
    have hs := map_snoc Tm.osh hlt
    rw [Tm.osh_eq] at hs
    rcases Nat.eq_zero_or_pos k with h0 | h0
    · subst h0
      obtain rfl : i = 0 := hi
      rw [List.take_zero, List.map_nil, List.nil_append] at hs
      simp (disch := omega) only [go_sem, Nat.reduceAdd, Nat.reduceSub, Nat.reduceLT, Nat.reduceLeDiff, Nat.reduceEqDiff, Nat.reduceBEq, Nat.reduceBneDiff, Nat.reduceMul, ↓reduceIte, Int.reduceToNat, reduceCtorEq, Int.reduceNeg, Int.reduceAdd, hni, hg, hc, m_spec_l2Own, eq_self, if_true]
      refine ⟨1, ⟨1, rfl, hlt⟩, by omega, ?_⟩
      simp (disch := omega) only [go_sem, Nat.reduceAdd, Nat.reduceSub, Nat.reduceLT, Nat.reduceLeDiff, Nat.reduceEqDiff, Nat.reduceBEq, Nat.reduceBneDiff, Nat.reduceMul, ↓reduceIte, Int.reduceToNat, reduceCtorEq, Int.reduceNeg, Int.reduceAdd, h10, if_false, hs]
    · have hi0 : (i = 0) = False := by simp; omega
      have hi1 : (i + 1 = 0) = False := by simp; omega
      have htl : (x.args.take k).length = k := by rw [List.length_take]; omega
      simp (disch := omega) only [go_sem, Nat.reduceAdd, Nat.reduceSub, Nat.reduceLT, Nat.reduceLeDiff, Nat.reduceEqDiff, Nat.reduceBEq, Nat.reduceBneDiff, Nat.reduceMul, ↓reduceIte, Int.reduceToNat, reduceCtorEq, Int.reduceNeg, Int.reduceAdd, hni, hg, hc, m_spec_l2Own, hi0, if_false, htl]
      refine ⟨i + 1, ⟨k + 1, by omega, hlt⟩, by omega, ?_⟩
      simp (disch := omega) only [go_sem, Nat.reduceAdd, Nat.reduceSub, Nat.reduceLT, Nat.reduceLeDiff, Nat.reduceEqDiff, Nat.reduceBEq, Nat.reduceBneDiff, Nat.reduceMul, ↓reduceIte, Int.reduceToNat, reduceCtorEq, Int.reduceNeg, Int.reduceAdd, hni1, hi1, if_false, hs]
  · obtain rfl : k = x.args.length := by omega
    have ht : x.args.take x.args.length = x.args := List.take_length
    rcases Nat.eq_zero_or_pos x.args.length with h0 | h0
    · have hx : x.args = [] := List.eq_nil_of_length_eq_zero h0
      obtain rfl : i = 0 := by omega
      simp (disch := omega) only [go_sem, Nat.reduceAdd, Nat.reduceSub, Nat.reduceLT, Nat.reduceLeDiff, Nat.reduceEqDiff, Nat.reduceBEq, Nat.reduceBneDiff, Nat.reduceMul, ↓reduceIte, Int.reduceToNat, reduceCtorEq, Int.reduceNeg, Int.reduceAdd, hni, hx, eq_self, if_true, List.map_nil, List.length_nil]
    · have hi0 : (i = 0) = False := by simp; omega
      simp (disch := omega) only [go_sem, Nat.reduceAdd, Nat.reduceSub, Nat.reduceLT, Nat.reduceLeDiff, Nat.reduceEqDiff, Nat.reduceBEq, Nat.reduceBneDiff, Nat.reduceMul, ↓reduceIte, Int.reduceToNat, reduceCtorEq, Int.reduceNeg, Int.reduceAdd, hni, hi0, if_false, ht, hfu, her]
theorem l2Own_E (x : Tm) (hn : x.nodes ≤ 1099511627776) : E 162 [x.sv] [] = some (x.sv, []) :=
  l2Own_of x hn fun y hy => l2Own_E y (by have := Tm.nodes_mem hy; have := Tm.nodes_eq x; omega)
termination_by SizeOf.sizeOf x
decreasing_by exact Tm.lt_of_mem hy
end Go.Proofs.Ytifpfjbpfekkmaa

set_option maxRecDepth 100000
set_option linter.unusedSimpArgs false
set_option linter.unusedVariables false
namespace Go.Proofs.Ytifpfjbpfekkmaa
open Go.RowKit

theorem less_trans : ∀ x y z : List UInt8, Op.bytesLess x y = true → Op.bytesLess y z = true → Op.bytesLess x z = true
  | _, _, [], _, h => by simp [Op.bytesLess] at h
  | [], [], _ :: _, h, _ => by simp [Op.bytesLess] at h
  | [], _ :: _, _ :: _, _, _ => rfl
  | _ :: _, [], _ :: _, h, _ => by simp [Op.bytesLess] at h
  | a :: x, b :: y, c :: z, h, k => by
    simp only [Op.bytesLess, Bool.or_eq_true, decide_eq_true_eq, Bool.and_eq_true, beq_iff_eq] at h k ⊢
    rcases h with h | ⟨rfl, h⟩
    · rcases k with k | ⟨rfl, k⟩
      · exact .inl (UInt8.lt_trans h k)
      · exact .inl h
    · rcases k with k | ⟨rfl, k⟩
      · exact .inl k
      · exact .inr ⟨rfl, less_trans x y z h k⟩
theorem strLt_trans {a b c : ByteArray} (h : strLt a b = true) (k : strLt b c = true) : strLt a c = true := less_trans _ _ _ h k
theorem strLt_ne {a b : ByteArray} (h : strLt a b = true) : ¬ a = b := by rintro rfl; rw [strLt_self] at h; cases h
theorem cmpB_neg (a b : ByteArray) : dec (cmpB a b < 0) = strLt a b := by
  unfold cmpB
  cases strLt a b
  · cases dec (a = b)
    · exact dec_f (by simp)
    · exact dec_f (by simp)
  · exact dec_t (by simp)
theorem cmpB_zero (a b : ByteArray) : dec (cmpB a b = 0) = dec (a = b) := by
  unfold cmpB
  cases h : strLt a b
  · cases h2 : dec (a = b)
    · exact dec_f (by simp)
    · exact dec_t (by simp)
  · rw [dec_f (strLt_ne h)]
    exact dec_f (by simp)

theorem wrap_u64 {n : Int} (h0 : 0 ≤ n) (h1 : n ≤ 18446744073709551615) : IntKind.u64.wrap n = n := inK_wrap (by
  have e1 : IntKind.u64.min = 0 := by decide
  have e2 : IntKind.u64.max = 18446744073709551615 := by decide
  unfold inK
  rw [e1, e2]
  exact ⟨h0, h1⟩)

def bdUp (xs : List Bd) : Prop := ∀ j k (h : j < k) (hk : k < xs.length), strLt xs[j].var xs[k].var = true
theorem bdTo_up {xs : List Bd} (h : bdTo xs xs.length = true) : bdUp xs := by
  intro j k hjk hk
  induction k with
  | zero => omega
  | succ k ih =>
    have h1 := bdTo_at h hk
    rw [bdAt_succ hk, Bool.and_eq_true] at h1
    rcases Nat.lt_or_ge j k with h2 | h2
    · exact strLt_trans (ih h2 (by omega)) h1.2
    · obtain rfl : j = k := by omega
      exact h1.2
theorem Sb.ok_up {x : Sb} (h : x.ok = true) : bdUp x.binds := by
  unfold Sb.ok at h
  rw [Bool.and_eq_true] at h
  exact bdTo_up h.2
/-- How many of the first bindings lie before a name. -/
def lowI : List Bd → ByteArray → Nat
  | [], _ => 0
  | x :: xs, n => if strLt x.var n then lowI xs n + 1 else 0
theorem lowI_le (n : ByteArray) : ∀ xs : List Bd, lowI xs n ≤ xs.length
  | [] => Nat.le_refl _
  | x :: xs => by
    have := lowI_le n xs
    rw [lowI]; simp only [List.length_cons]; split <;> omega
theorem lowI_before (n : ByteArray) : ∀ (xs : List Bd) (j : Nat) (h : j < xs.length), j < lowI xs n → strLt xs[j].var n = true
  | [], j, h, _ => absurd h (by simp)
  | x :: xs, j, h, hj => by
    rw [lowI] at hj
    split at hj
    · rename_i hx
      cases j with
      | zero => exact hx
      | succ j => exact lowI_before n xs j (by simpa using h) (by omega)
    · omega
theorem lowI_at (n : ByteArray) : ∀ (xs : List Bd) (h : lowI xs n < xs.length), strLt (xs[lowI xs n]).var n = false
  | [], h => absurd h (by simp)
  | x :: xs, h => by
    cases hx : strLt x.var n with
    | false =>
      have e : lowI (x :: xs) n = 0 := by rw [lowI, if_neg (by rw [hx]; simp)]
      simp only [e, List.getElem_cons_zero]; exact hx
    | true =>
      have e : lowI (x :: xs) n = lowI xs n + 1 := by rw [lowI, if_pos hx]
      have h2 : lowI xs n < xs.length := by rw [e] at h; simpa using h
      simp only [e, List.getElem_cons_succ]; exact lowI_at n xs h2
theorem lowI_iff {xs : List Bd} (hs : bdUp xs) (n : ByteArray) {m : Nat} (h : m < xs.length) : strLt xs[m].var n = true ↔ m < lowI xs n := by
  constructor
  · intro h1
    rcases Nat.lt_or_ge m (lowI xs n) with h2 | h2
    · exact h2
    · have h3 := lowI_at n xs (by omega)
      rcases Nat.lt_or_ge (lowI xs n) m with h4 | h4
      · rw [strLt_trans (hs _ _ h4 h) h1] at h3; cases h3
      · have e : lowI xs n = m := by omega
        simp only [e] at h3
        rw [h1] at h3; cases h3
  · exact lowI_before n xs m h
noncomputable def hitB (xs : List Bd) (n : ByteArray) : Bool := match xs[lowI xs n]? with
  | none => false
  | some b => dec (b.var = n)


def c_impl_Substitution_term_1 : SC := (.seq (.reg [⟨(some 2), none, (.boxv 167 3 (.t 0))⟩, ⟨(some 4), none, (.mv (.c (.int .i64 0)))⟩]) (.seq (.reg [⟨(some 5), none, (.faddr 0 (.t 2))⟩, ⟨(some 6), none, (.load false 1 (.t 5))⟩, ⟨(some 7), none, (.mv (.t 1))⟩, ⟨(some 8), none, (.call 199 [(.t 6), (.t 7)])⟩, ⟨(some 4), none, (.mv (.t 8))⟩]) .ret))
theorem k_impl_Substitution_term_1 : codeOf Try.prog 198 = some ⟨9, c_impl_Substitution_term_1, [(.tmp 4)]⟩ := by kernel_rfl
theorem m_impl_Substitution_term_1 : modes 198 = ⟨[], .asis, none, false⟩ := by unfold modes; rfl

theorem g_impl_Substitution_term_1 : goFn Try.prog 198 = true := by kernel_rfl

def c_slices_BinarySearchFunc_impl_Binding_impl_Binding_string : SC := (.seq (.reg [⟨(some 6), none, (.mv (.c (.int .i64 0)))⟩, ⟨(some 7), none, (.mv (.c (.bool false)))⟩]) (.seq (.reg [⟨(some 12), none, (.mv (.t 0))⟩, ⟨(some 13), none, (.len false (.t 12))⟩, ⟨(some 8), none, (.mv (.t 13))⟩]) (.seq (.reg [⟨(some 14), none, (.mv (.t 8))⟩, ⟨(some 9), none, (.mv (.c (.int .i64 0)))⟩, ⟨(some 10), none, (.mv (.t 14))⟩]) (.seq (.block 0 (.loop [1, 1, 1, 0, 0, 0, 0, 0, 1, 1, 1, 0, 0, 0, 0, 0, 0, 0, 0, 0, 0, 0, 0, 0, 0, 0, 0, 0, 0, 0, 0, 0, 0, 0, 0, 0, 0, 0, 0, 0, 0, 0, 0, 0, 0, 0, 0, 0, 0] (.seq (.seq (.reg [⟨(some 15), none, (.mv (.t 9))⟩, ⟨(some 16), none, (.mv (.t 10))⟩, ⟨(some 17), none, (.bin .lss false (.t 15) (.t 16))⟩]) (.cond (.t 17) .skip (.exit 0))) (.block 1 (.seq (.reg [⟨(some 18), none, (.mv (.t 9))⟩, ⟨(some 19), none, (.mv (.t 10))⟩, ⟨(some 20), none, (.bin .add false (.t 18) (.t 19))⟩, ⟨(some 21), none, (.conv .u64 (.t 20))⟩, ⟨(some 22), none, (.bin .shr false (.t 21) (.c (.int .u64 1)))⟩, ⟨(some 23), none, (.conv .i64 (.t 22))⟩, ⟨(some 11), none, (.mv (.t 23))⟩]) (.seq (.reg [⟨(some 24), none, (.mv (.t 2))⟩, ⟨(some 25), none, (.mv (.t 0))⟩, ⟨(some 26), none, (.mv (.t 11))⟩, ⟨(some 27), none, (.iaddr 3 (.t 25) (.t 26))⟩, ⟨(some 28), none, (.load true 3 (.t 27))⟩, ⟨(some 29), none, (.mv (.t 1))⟩, ⟨(some 30), none, (.callv (.t 24) [(.t 28), (.t 29)])⟩, ⟨(some 31), none, (.bin .lss false (.t 30) (.c (.int .i64 0)))⟩]) (.cond (.t 31) (.reg [⟨(some 32), none, (.mv (.t 11))⟩, ⟨(some 33), none, (.bin .add false (.t 32) (.c (.int .i64 1)))⟩, ⟨(some 9), none, (.mv (.t 33))⟩]) (.reg [⟨(some 34), none, (.mv (.t 11))⟩, ⟨(some 10), none, (.mv (.t 34))⟩])))))))) (.seq (.reg [⟨(some 35), none, (.mv (.t 9))⟩, ⟨(some 36), none, (.mv (.t 9))⟩, ⟨(some 37), none, (.mv (.t 8))⟩, ⟨(some 38), none, (.bin .lss false (.t 36) (.t 37))⟩, ⟨(some 39), none, (.mv (.t 38))⟩, ⟨(some 40), (some (39, true)), (.mv (.t 2))⟩, ⟨(some 41), (some (39, true)), (.mv (.t 0))⟩, ⟨(some 42), (some (39, true)), (.mv (.t 9))⟩, ⟨(some 43), (some (39, true)), (.iaddr 3 (.t 41) (.t 42))⟩, ⟨(some 44), (some (39, true)), (.load true 3 (.t 43))⟩, ⟨(some 45), (some (39, true)), (.mv (.t 1))⟩, ⟨(some 46), (some (39, true)), (.callv (.t 40) [(.t 44), (.t 45)])⟩, ⟨(some 47), (some (39, true)), (.bin .eql false (.t 46) (.c (.int .i64 0)))⟩, ⟨(some 48), none, (.pick (.t 39) (.t 47) (.c (.bool false)))⟩, ⟨(some 6), none, (.mv (.t 35))⟩, ⟨(some 7), none, (.mv (.t 48))⟩]) .ret)))))
theorem k_slices_BinarySearchFunc_impl_Binding_impl_Binding_string : codeOf Try.prog 197 = some ⟨49, c_slices_BinarySearchFunc_impl_Binding_impl_Binding_string, [(.tmp 6), (.tmp 7)]⟩ := by kernel_rfl
theorem m_slices_BinarySearchFunc_impl_Binding_impl_Binding_string : modes 197 = ⟨[], .asis, none, false⟩ := by unfold modes; rfl

def c_impl_Substitution_term : SC := (.seq (.reg [⟨(some 2), none, (.boxv 63 1 (.t 0))⟩, ⟨(some 4), none, (.alloc 67 [(.str ⟨#[]⟩), .nil])⟩, ⟨(some 5), none, (.mv (.c (.bool false)))⟩]) (.seq (.reg [⟨(some 9), none, (.faddr 0 (.t 2))⟩, ⟨(some 10), none, (.load false 1 (.t 9))⟩, ⟨(some 11), none, (.mv (.t 1))⟩, ⟨(some 12), none, (.call 197 [(.t 10), (.t 11), (.c (.fn 198 []))])⟩, ⟨(some 8), none, (.mv (.t 12))⟩, ⟨(some 13), none, (.ext (.t 8) 0)⟩, ⟨(some 14), none, (.ext (.t 8) 1)⟩, ⟨(some 6), none, (.mv (.t 13))⟩, ⟨(some 7), none, (.mv (.t 14))⟩]) (.seq (.seq (.reg [⟨(some 15), none, (.mv (.t 7))⟩, ⟨(some 16), none, (.un .not (.t 15))⟩]) (.cond (.t 16) (.seq (.reg [⟨(some 17), none, (.build [(.str ⟨#[]⟩), .nil] [])⟩, ⟨none, none, (.store 2 (.t 4) (.t 17))⟩, ⟨(some 5), none, (.mv (.c (.bool false)))⟩]) .ret) .skip)) (.seq (.reg [⟨(some 18), none, (.faddr 0 (.t 2))⟩, ⟨(some 19), none, (.load false 1 (.t 18))⟩, ⟨(some 20), none, (.mv (.t 6))⟩, ⟨(some 21), none, (.iaddr 3 (.t 19) (.t 20))⟩, ⟨(some 22), none, (.faddr 1 (.t 21))⟩, ⟨(some 23), none, (.load true 2 (.t 22))⟩, ⟨none, none, (.store 2 (.t 4) (.t 23))⟩, ⟨(some 5), none, (.mv (.c (.bool true)))⟩]) .ret))))
theorem k_impl_Substitution_term : codeOf Try.prog 129 = some ⟨24, c_impl_Substitution_term, [(.cell 4 true 2), (.tmp 5)]⟩ := by kernel_rfl
theorem m_impl_Substitution_term : modes 129 = ⟨[], .frz, none, false⟩ := by unfold modes; rfl

theorem term1_E (b : Bd) (n : ByteArray) : E 198 [b.sv, .str n] [] = some (.int .i64 (cmpB b.var n), []) := by
  have h := compareS_E b.var n
  refine E_walk k_impl_Substitution_term_1 m_impl_Substitution_term_1 (of_decide_eq_true rfl) ?_
  simp (disch := omega) only [c_impl_Substitution_term_1, go_sem, Nat.reduceAdd, Nat.reduceSub, Nat.reduceLT, Nat.reduceLeDiff, Nat.reduceEqDiff, Nat.reduceBEq, Nat.reduceBneDiff, Nat.reduceMul, ↓reduceIte, Int.reduceToNat, reduceCtorEq, Int.reduceNeg, Int.reduceAdd, h, m_cmp_Compare_string]
set_option maxHeartbeats 2000000 in
theorem bsearch_E (xs : List Bd) (n : ByteArray) (hl : xs.length ≤ 1099511627776) (hs : bdUp xs) : E 197 [.arr (xs.map Bd.d), .str n, .fn 198 []] [] = some (.tup [.int .i64 (lowI xs n : Nat), .bool (hitB xs n)], []) := by
  have hlow := lowI_le n xs
  obtain ⟨L, hL⟩ : ∃ L : Int, L = (lowI xs n : Nat) := ⟨_, rfl⟩
  rw [← hL]
  refine E_walk k_slices_BinarySearchFunc_impl_Binding_impl_Binding_string m_slices_BinarySearchFunc_impl_Binding_impl_Binding_string (of_decide_eq_true rfl) ?_
  simp (disch := omega) only [c_slices_BinarySearchFunc_impl_Binding_impl_Binding_string, go_sem, Nat.reduceAdd, Nat.reduceSub, Nat.reduceLT, Nat.reduceLeDiff, Nat.reduceEqDiff, Nat.reduceBEq, Nat.reduceBneDiff, Nat.reduceMul, ↓reduceIte, Int.reduceToNat, reduceCtorEq, Int.reduceNeg, Int.reduceAdd]
  refine go_loop (α := Int × Int) (fun a => ⟨slots 49 0 [(0, .arr (xs.map Bd.d)), (1, .str n), (2, .fn 198 []), (8, .int .i64 xs.length), (9, .int .i64 a.1), (10, .int .i64 a.2)], []⟩) (fun a => 0 ≤ a.1 ∧ a.1 ≤ L ∧ L ≤ a.2 ∧ a.2 ≤ xs.length) (fun a => (a.2 - a.1).toNat) (0, xs.length) ⟨by simp, by dsimp only; omega, by dsimp only; omega, by dsimp only; omega⟩ (by simp (disch := omega) only [go_sem, Nat.reduceAdd, Nat.reduceSub, Nat.reduceLT, Nat.reduceLeDiff, Nat.reduceEqDiff, Nat.reduceBEq, Nat.reduceBneDiff, Nat.reduceMul, ↓reduceIte, Int.reduceToNat, reduceCtorEq, Int.reduceNeg, Int.reduceAdd]) ?_
  rintro ⟨i, j⟩ ⟨h0, h1, h2, h3⟩
  dsimp only at h0 h1 h2 h3
  rcases Int.lt_or_le i j with hij | hij
  · obtain ⟨m, hm⟩ : ∃ m : Nat, (i + j) / 2 = (m : Int) := ⟨((i + j) / 2).toNat, by omega⟩
    have hlt : m < xs.length := by omega
    have hni : (m : Int).toNat = m := Int.toNat_natCast m
    have hg := get_at Bd.d hlt
    rw [Bd.d_eq] at hg
    have hc := term1_E xs[m] n
    have hw : IntKind.u64.wrap (i + j) = i + j := wrap_u64 (by omega) (by omega)
    have hi := lowI_iff hs n hlt
    obtain ⟨M, hM⟩ : ∃ M : Int, (i + j) / 2 = M := ⟨_, rfl⟩
    have hni : M.toNat = m := by omega
    cases hq : strLt xs[m].var n with
    | true =>
      have hi2 := hi.1 hq
      simp (disch := omega) only [go_sem, Nat.reduceAdd, Nat.reduceSub, Nat.reduceLT, Nat.reduceLeDiff, Nat.reduceEqDiff, Nat.reduceBEq, Nat.reduceBneDiff, Nat.reduceMul, ↓reduceIte, Int.reduceToNat, reduceCtorEq, Int.reduceNeg, Int.reduceAdd, hw, hni, hg, hc, g_impl_Substitution_term_1, m_impl_Substitution_term_1, cmpB_neg, hq, hM]
      exact ⟨(M + 1, j), ⟨by dsimp only; omega, by dsimp only; omega, by dsimp only; omega, by dsimp only; omega⟩, by dsimp only; omega, by first | trivial | rfl⟩
    | false =>
      have hi2 : ¬ m < lowI xs n := by rw [← hi, hq]; simp
      simp (disch := omega) only [go_sem, Nat.reduceAdd, Nat.reduceSub, Nat.reduceLT, Nat.reduceLeDiff, Nat.reduceEqDiff, Nat.reduceBEq, Nat.reduceBneDiff, Nat.reduceMul, ↓reduceIte, Int.reduceToNat, reduceCtorEq, Int.reduceNeg, Int.reduceAdd, hw, hni, hg, hc, g_impl_Substitution_term_1, m_impl_Substitution_term_1, cmpB_neg, hq, hM]
      exact ⟨(i, M), ⟨by dsimp only; omega, by dsimp only; omega, by dsimp only; omega, by dsimp only; omega⟩, by dsimp only; omega, by first | trivial | rfl⟩
  · obtain rfl : i = L := by omega
    rcases Nat.lt_or_ge (lowI xs n) xs.length with hlt | hge
    · have hg := get_at Bd.d hlt
      rw [Bd.d_eq] at hg
      have hni : i.toNat = lowI xs n := by omega
      have hc := term1_E xs[lowI xs n] n
      have hh : hitB xs n = dec (xs[lowI xs n].var = n) := by unfold hitB; rw [List.getElem?_eq_getElem hlt]
      rw [hh]
      simp (disch := omega) only [go_sem, Nat.reduceAdd, Nat.reduceSub, Nat.reduceLT, Nat.reduceLeDiff, Nat.reduceEqDiff, Nat.reduceBEq, Nat.reduceBneDiff, Nat.reduceMul, ↓reduceIte, Int.reduceToNat, reduceCtorEq, Int.reduceNeg, Int.reduceAdd, hni, hg, hc, g_impl_Substitution_term_1, m_impl_Substitution_term_1, cmpB_zero]
    · have hh : hitB xs n = false := by unfold hitB; rw [List.getElem?_eq_none hge]
      rw [hh]
      simp (disch := omega) only [go_sem, Nat.reduceAdd, Nat.reduceSub, Nat.reduceLT, Nat.reduceLeDiff, Nat.reduceEqDiff, Nat.reduceBEq, Nat.reduceBneDiff, Nat.reduceMul, ↓reduceIte, Int.reduceToNat, reduceCtorEq, Int.reduceNeg, Int.reduceAdd]
theorem idxP_hit {α : Type} (p : α → Bool) : ∀ (xs : List α) (k : Nat) (i : Int) (h : k < xs.length), (∀ j (hj : j < k), p xs[j] = false) → p xs[k] = true → idxP p xs i = i + k
  | [], k, i, h, _, _ => absurd h (by simp)
  | x :: xs, 0, i, h, _, hp => by rw [idxP, if_pos (show p x = true from hp)]; simp
  | x :: xs, k + 1, i, h, hb, hp => by
    have h0 : p x = false := hb 0 (by omega)
    have := idxP_hit p xs k (i + 1) (by simpa using h) (fun j hj => hb (j + 1) (by omega)) hp
    rw [idxP, if_neg (by rw [h0]; simp), this]; omega
theorem idxP_no {α : Type} (p : α → Bool) : ∀ (xs : List α) (i : Int), (∀ j (hj : j < xs.length), p xs[j] = false) → idxP p xs i = -1
  | [], i, _ => by rw [idxP]
  | x :: xs, i, h => by
    have h0 : p x = false := h 0 (by simp)
    rw [idxP, if_neg (by rw [h0]; simp)]
    exact idxP_no p xs (i + 1) fun j hj => h (j + 1) (by simpa using hj)
/-- The place of a name among ascending bindings. -/
theorem idxP_low {xs : List Bd} (hs : bdUp xs) (n : ByteArray) : idxP (fun b => dec (b.var = n)) xs 0 = if hitB xs n then ((lowI xs n : Nat) : Int) else -1 := by
  have before : ∀ j (hj : j < xs.length), j < lowI xs n → dec (xs[j].var = n) = false := fun j hj hL => dec_f (strLt_ne (lowI_before n xs j hj hL))
  rcases Nat.lt_or_ge (lowI xs n) xs.length with hlt | hge
  · have hh : hitB xs n = dec (xs[lowI xs n].var = n) := by unfold hitB; rw [List.getElem?_eq_getElem hlt]
    cases hq : dec (xs[lowI xs n].var = n) with
    | true =>
      rw [hh, hq, if_pos rfl, idxP_hit _ xs (lowI xs n) 0 hlt (fun j hj => before j (by omega) hj) hq]; omega
    | false =>
      rw [hh, hq, if_neg (by simp)]
      refine idxP_no _ xs 0 fun j hj => ?_
      rcases Nat.lt_trichotomy j (lowI xs n) with h | h | h
      · exact before j hj h
      · subst h; exact hq
      · refine dec_f fun e => ?_
        have h1 := hs _ _ h hj
        rw [e, lowI_at n xs hlt] at h1
        cases h1
  · have hh : hitB xs n = false := by unfold hitB; rw [List.getElem?_eq_none hge]
    rw [hh, if_neg (by simp)]
    exact idxP_no _ xs 0 fun j hj => before j hj (by omega)
theorem hitB_lt {xs : List Bd} {n : ByteArray} (h : hitB xs n = true) : lowI xs n < xs.length := by
  rcases Nat.lt_or_ge (lowI xs n) xs.length with h1 | h1
  · exact h1
  · unfold hitB at h; rw [List.getElem?_eq_none h1] at h; cases h
/-- The term to which a name is bound. -/
noncomputable def Sb.look (x : Sb) (n : ByteArray) : Option Tm := if h : hitB x.binds n = true then some (x.binds[lowI x.binds n]'(hitB_lt h)).term else none
theorem term_E_yes (x : Sb) (hx : x.ok = true) (n : ByteArray) (hl : x.binds.length ≤ 1099511627776) (hh : hitB x.binds n = true) (hlt : lowI x.binds n < x.binds.length) : E 129 [x.sv, .str n] [] = some (.tup [(x.binds[lowI x.binds n]).term.sv, .bool true], []) := by
  have hb := bsearch_E x.binds n hl (Sb.ok_up hx)
  have hg := get_at Bd.d hlt
  rw [Bd.d_eq] at hg
  have hni : ((lowI x.binds n : Nat) : Int).toNat = lowI x.binds n := Int.toNat_natCast _
  refine E_walk k_impl_Substitution_term m_impl_Substitution_term (of_decide_eq_true rfl) ?_
  simp (disch := omega) only [c_impl_Substitution_term, go_sem, Nat.reduceAdd, Nat.reduceSub, Nat.reduceLT, Nat.reduceLeDiff, Nat.reduceEqDiff, Nat.reduceBEq, Nat.reduceBneDiff, Nat.reduceMul, ↓reduceIte, Int.reduceToNat, reduceCtorEq, Int.reduceNeg, Int.reduceAdd, hb, hni, hg, hh, m_slices_BinarySearchFunc_impl_Binding_impl_Binding_string]
theorem term_E_no (x : Sb) (hx : x.ok = true) (n : ByteArray) (hl : x.binds.length ≤ 1099511627776) (hh : hitB x.binds n = false) : E 129 [x.sv, .str n] [] = some (.tup [.agg [.str ⟨#[]⟩, .arr []], .bool false], []) := by
  have hb := bsearch_E x.binds n hl (Sb.ok_up hx)
  refine E_walk k_impl_Substitution_term m_impl_Substitution_term (of_decide_eq_true rfl) ?_
  simp (disch := omega) only [c_impl_Substitution_term, go_sem, Nat.reduceAdd, Nat.reduceSub, Nat.reduceLT, Nat.reduceLeDiff, Nat.reduceEqDiff, Nat.reduceBEq, Nat.reduceBneDiff, Nat.reduceMul, ↓reduceIte, Int.reduceToNat, reduceCtorEq, Int.reduceNeg, Int.reduceAdd, hb, hh, m_slices_BinarySearchFunc_impl_Binding_impl_Binding_string]
end Go.Proofs.Ytifpfjbpfekkmaa

set_option maxRecDepth 100000
set_option linter.unusedSimpArgs false
set_option linter.unusedVariables false
namespace Go.Proofs.Ytifpfjbpfekkmaa
open Go.RowKit

mutual
/-- A term with its variables replaced. -/
noncomputable def Tm.ap (f : ByteArray → Option Tm) : Tm → Tm
  | .mk name args => if varB name then (f name).getD (.mk name []) else .mk name (Tm.apL f args)
noncomputable def Tm.apL (f : ByteArray → Option Tm) : List Tm → List Tm
  | [] => []
  | x :: xs => Tm.ap f x :: Tm.apL f xs
end
theorem Tm.ap_eq (f : ByteArray → Option Tm) (x : Tm) : x.ap f = if varB x.name then (f x.name).getD (.mk x.name []) else .mk x.name (Tm.apL f x.args) := by
  obtain ⟨name, args⟩ := x
  rw [Tm.ap]; rfl
theorem Tm.apL_len (f : ByteArray → Option Tm) : ∀ xs : List Tm, (Tm.apL f xs).length = xs.length
  | [] => by rw [Tm.apL]
  | x :: xs => by rw [Tm.apL]; simp only [List.length_cons, Tm.apL_len f xs]
theorem Tm.apL_map (f : ByteArray → Option Tm) : ∀ xs : List Tm, Tm.apL f xs = xs.map (Tm.ap f)
  | [] => by rw [Tm.apL]; rfl
  | x :: xs => by rw [Tm.apL, Tm.apL_map f xs]; rfl
/-- The terms that replace have valid names. -/
def okF (f : ByteArray → Option Tm) : Prop := ∀ n t, f n = some t → t.names = true ∧ t.nodes ≤ 30
theorem Tm.ap_nameS (f : ByteArray → Option Tm) : ∀ xs : List Tm, (∀ y ∈ xs, (y.ap f).names = true) → Tm.nameS (Tm.apL f xs) = true
  | [], _ => by rw [Tm.apL, Tm.nameS]
  | x :: xs, h => by rw [Tm.apL, Tm.nameS, h x (by simp), Tm.ap_nameS f xs fun y hy => h y (by simp [hy])]; rfl
theorem Tm.ap_names {f : ByteArray → Option Tm} (hf : okF f) (x : Tm) (hx : x.names = true) : (x.ap f).names = true := by
  rw [Tm.ap_eq]
  rw [Tm.names_eq] at hx
  split
  · rename_i hv
    cases hq : f x.name with
    | none =>
      rw [Option.getD_none, Tm.names_eq]
      show (if varB x.name then _ else _) = true
      rw [if_pos hv]; rfl
    | some t => exact (hf _ _ hq).1
  · rename_i hv
    rw [if_neg hv, Bool.and_eq_true, Bool.and_eq_true] at hx
    rw [Tm.names_eq]
    show (if varB x.name then _ else symB x.name && decide ((Tm.apL f x.args).length ≤ 4) && Tm.nameS (Tm.apL f x.args)) = true
    rw [if_neg hv, Tm.apL_len, hx.1.1, hx.1.2, Tm.ap_nameS f x.args fun y hy => Tm.ap_names hf y (by
      have := hx.2
      rw [Tm.nameS_all, List.all_eq_true] at this
      exact this y hy)]
    rfl
termination_by SizeOf.sizeOf x
decreasing_by exact Tm.lt_of_mem hy
theorem Tm.ap_nodeS {f : ByteArray → Option Tm} : ∀ xs : List Tm, (∀ y ∈ xs, (y.ap f).nodes ≤ 30 * y.nodes) → Tm.nodeS (Tm.apL f xs) ≤ 30 * Tm.nodeS xs
  | [], _ => by rw [Tm.apL, Tm.nodeS]; omega
  | x :: xs, h => by
    have h1 := h x (by simp)
    have h2 := Tm.ap_nodeS xs fun y hy => h y (by simp [hy])
    rw [Tm.apL, Tm.nodeS, Tm.nodeS]; omega
theorem Tm.ap_nodes {f : ByteArray → Option Tm} (hf : okF f) (x : Tm) : (x.ap f).nodes ≤ 30 * x.nodes := by
  have hp := Tm.nodes_pos x
  rw [Tm.ap_eq]
  split
  · cases hq : f x.name with
    | none =>
      have : (Tm.mk x.name []).nodes = 1 + Tm.nodeS [] := Tm.nodes_eq (Tm.mk x.name [])
      rw [Tm.nodeS] at this
      rw [Option.getD_none]; omega
    | some t => have := (hf _ _ hq).2; rw [Option.getD_some]; omega
  · have h1 : (Tm.mk x.name (Tm.apL f x.args)).nodes = 1 + Tm.nodeS (Tm.apL f x.args) := Tm.nodes_eq (Tm.mk x.name (Tm.apL f x.args))
    have h2 := Tm.ap_nodeS (f := f) x.args fun y hy => Tm.ap_nodes hf y
    have h3 := Tm.nodes_eq x
    omega
termination_by SizeOf.sizeOf x
decreasing_by exact Tm.lt_of_mem hy
/-- An expression stays one, if it stays small. -/
theorem Tm.ap_any {f : ByteArray → Option Tm} (hf : okF f) (x : Tm) (hx : (x.valid || x.atom) = true) : ((x.ap f).valid || (x.ap f).atom) = (x.ap f).small := by
  cases hs : (x.ap f).small with
  | false =>
    have h1 : (x.ap f).valid = false := by unfold Tm.valid; rw [hs]; rfl
    have h2 : (x.ap f).atom = false := by
      unfold Tm.atom; split
      · rw [hs, Bool.and_false, Bool.false_and]
      · rw [h1, Bool.and_false]
    rw [h1, h2]; rfl
  | true =>
    cases hn : x.names with
    | true =>
      have : (x.ap f).valid = true := by unfold Tm.valid; rw [hs, Tm.ap_names hf x hn]; rfl
      rw [this]; rfl
    | false =>
      have hv : x.valid = false := by unfold Tm.valid; rw [hn, Bool.and_false]
      rw [hv, Bool.false_or] at hx
      unfold Tm.atom at hx
      split at hx
      · rename_i he
        rw [Bool.and_eq_true, Bool.and_eq_true] at hx
        have hname : x.name = ⟨#[61]⟩ := by unfold Tm.eqn at he; exact dec_iff.1 he
        have hnv0 : varB ⟨#[61]⟩ = false := by kernel_rfl
        have hnv : ¬ (varB x.name = true) := by rw [hname, hnv0]; simp
        have e : x.ap f = .mk x.name (Tm.apL f x.args) := by rw [Tm.ap_eq, if_neg hnv]
        have : (x.ap f).atom = true := by
          have he2 : (x.ap f).eqn = true := by rw [e]; exact he
          unfold Tm.atom
          rw [if_pos he2, hs]
          rw [e]
          show ((Tm.apL f x.args).length == 2 && true && Tm.nameS (Tm.apL f x.args)) = true
          rw [Tm.apL_len, hx.1.1, Tm.ap_nameS f x.args fun y hy => Tm.ap_names hf y (by
            have := hx.2
            rw [Tm.nameS_all, List.all_eq_true] at this
            exact this y hy)]
          rfl
        rw [this, Bool.or_true]
      · rw [hv, Bool.and_false] at hx; cases hx
/-- The variables of a term have no arguments. -/
theorem Tm.names_var {x : Tm} (h : x.names = true) (hv : varB x.name = true) : x.args = [] := by
  rw [Tm.names_eq, if_pos hv] at h
  exact List.eq_nil_of_length_eq_zero (by simpa using h)
theorem Tm.names_arg {x : Tm} (h : x.names = true) {y : Tm} (hy : y ∈ x.args) : y.names = true := by
  rw [Tm.names_eq] at h
  split at h
  · have : x.args = [] := List.eq_nil_of_length_eq_zero (by simpa using h)
    rw [this] at hy; cases hy
  · rw [Bool.and_eq_true, Tm.nameS_all, List.all_eq_true] at h
    exact h.2 y hy
end Go.Proofs.Ytifpfjbpfekkmaa

set_option maxRecDepth 100000
set_option linter.unusedSimpArgs false
set_option linter.unusedVariables false
namespace Go.Proofs.Ytifpfjbpfekkmaa
open Go.RowKit

theorem Sb.ok_at {x : Sb} (h : x.ok = true) {k : Nat} (hk : k < x.binds.length) : bdOk x.binds[k] = true := by
  unfold Sb.ok at h
  rw [Bool.and_eq_true] at h
  exact bdAt_ok hk (bdTo_at h.2 hk)
theorem bdOk_var {x : Bd} (h : bdOk x = true) : varB x.var = true := by unfold bdOk at h; rw [Bool.and_eq_true] at h; exact h.1
theorem bdOk_valid {x : Bd} (h : bdOk x = true) : x.term.valid = true := by unfold bdOk at h; rw [Bool.and_eq_true, Bool.and_eq_true] at h; exact h.2.1
theorem hitB_eq {xs : List Bd} {n : ByteArray} (h : hitB xs n = true) (hlt : lowI xs n < xs.length) : (xs[lowI xs n]).var = n := by
  have hh : hitB xs n = dec (xs[lowI xs n].var = n) := by unfold hitB; rw [List.getElem?_eq_getElem hlt]
  rw [hh] at h
  exact dec_iff.1 h
theorem Sb.look_okF {x : Sb} (h : x.ok = true) : okF x.look := by
  intro n t ht
  unfold Sb.look at ht
  split at ht
  · rename_i hh
    have hv := bdOk_valid (Sb.ok_at h (hitB_lt hh))
    obtain rfl := Option.some.inj ht
    unfold Tm.valid Tm.small at hv
    rw [Bool.and_eq_true, Bool.and_eq_true, decide_eq_true_eq] at hv
    exact ⟨hv.2, hv.1.1⟩
  · cases ht
theorem Sb.look_yes {x : Sb} {n : ByteArray} (h : hitB x.binds n = true) (hlt : lowI x.binds n < x.binds.length) : x.look n = some (x.binds[lowI x.binds n]).term := by
  unfold Sb.look; rw [dif_pos h]
theorem Sb.look_no {x : Sb} {n : ByteArray} (h : hitB x.binds n = false) : x.look n = none := by
  unfold Sb.look; rw [dif_neg (by rw [h]; simp)]

def c_impl_Substitution_apply : SC := (.seq (.reg [⟨(some 2), none, (.boxv 63 1 (.t 0))⟩, ⟨(some 3), none, (.boxv 67 2 (.t 1))⟩, ⟨(some 4), none, (.alloc 67 [(.str ⟨#[]⟩), .nil])⟩]) (.seq (.seq (.reg [⟨(some 10), none, (.faddr 1 (.t 3))⟩, ⟨(some 11), none, (.load false 1 (.t 10))⟩, ⟨(some 12), none, (.len false (.t 11))⟩, ⟨(some 13), none, (.bin .eql false (.t 12) (.c (.int .i64 0)))⟩]) (.cond (.t 13) (.seq (.seq (.reg [⟨(some 15), none, (.load true 1 (.t 2))⟩, ⟨(some 16), none, (.faddr 0 (.t 3))⟩, ⟨(some 17), none, (.load false 1 (.t 16))⟩, ⟨(some 18), none, (.call 129 [(.t 15), (.t 17)])⟩, ⟨(some 14), none, (.mv (.t 18))⟩, ⟨(some 19), none, (.ext (.t 14) 0)⟩, ⟨(some 20), none, (.ext (.t 14) 1)⟩, ⟨(some 5), none, (.alloc 67 [(.str ⟨#[]⟩), .nil])⟩, ⟨none, none, (.store 2 (.t 5) (.t 19))⟩, ⟨(some 6), none, (.mv (.t 20))⟩]) (.seq (.reg [⟨(some 21), none, (.mv (.t 6))⟩]) (.cond (.t 21) (.seq (.reg [⟨(some 22), none, (.load true 2 (.t 5))⟩, ⟨(some 23), none, (.call 201 [(.t 22)])⟩, ⟨none, none, (.store 2 (.t 4) (.t 23))⟩]) .ret) .skip))) (.seq (.reg [⟨(some 24), none, (.faddr 0 (.t 3))⟩, ⟨(some 25), none, (.load false 1 (.t 24))⟩, ⟨(some 26), none, (.build [(.str ⟨#[]⟩), .nil] [(0, (1, (.t 25)))])⟩, ⟨none, none, (.store 2 (.t 4) (.t 26))⟩]) .ret)) .skip)) (.seq (.dreg [[], [0], [], [2], [3, 2], [4, 3, 2], [1, 0, 5, 4, 3, 2], [], [7, 6, 1, 0, 5, 4, 3, 2]] [⟨(some 27), none, (.faddr 0 (.t 3))⟩, ⟨(some 28), none, (.load false 1 (.t 27))⟩, ⟨(some 29), none, (.faddr 1 (.t 3))⟩, ⟨(some 30), none, (.load false 1 (.t 29))⟩, ⟨(some 31), none, (.len false (.t 30))⟩, ⟨(some 32), none, (.mkslice 67 2 40 [(.str ⟨#[]⟩), .nil] (.t 31))⟩, ⟨(some 33), none, (.build [(.str ⟨#[]⟩), .nil] [(0, (1, (.t 28))), (1, (1, (.t 32)))])⟩, ⟨(some 7), none, (.alloc 67 [(.str ⟨#[]⟩), .nil])⟩, ⟨none, none, (.store 2 (.t 7) (.t 33))⟩]) (.seq (.seq (.reg [⟨(some 34), none, (.faddr 1 (.t 3))⟩, ⟨(some 35), none, (.load false 1 (.t 34))⟩, ⟨(some 36), none, (.len false (.t 35))⟩, ⟨(some 37), none, (.mv (.c (.int .i64 0)))⟩]) (.block 0 (.loop [0, 0, 1, 0, 1, 0, 0, 1, 0, 0, 0, 0, 0, 0, 0, 0, 0, 0, 0, 0, 0, 0, 0, 0, 0, 0, 0, 0, 0, 0, 0, 0, 0, 0, 0, 1, 1, 1, 0, 0, 0, 0, 0, 0, 0, 0, 0, 0, 0, 0, 0] (.seq (.reg [⟨(some 38), none, (.bin .lss false (.t 37) (.t 36))⟩]) (.seq (.cond (.t 38) .skip (.exit 0)) (.seq (.block 1 (.seq (.reg [⟨(some 39), none, (.mv (.t 37))⟩, ⟨(some 40), none, (.iaddr 2 (.t 35) (.t 37))⟩, ⟨(some 41), none, (.load true 2 (.t 40))⟩, ⟨(some 9), none, (.alloc 67 [(.str ⟨#[]⟩), .nil])⟩, ⟨(some 8), none, (.mv (.t 39))⟩, ⟨none, none, (.store 2 (.t 9) (.t 41))⟩]) (.dreg [[], [0], [], [], [], [3, 4], [1, 0, 2, 3, 4, 5], [6, 1, 0, 2, 3, 4, 5]] [⟨(some 42), none, (.faddr 1 (.t 7))⟩, ⟨(some 43), none, (.load false 1 (.t 42))⟩, ⟨(some 44), none, (.mv (.t 8))⟩, ⟨(some 45), none, (.load true 1 (.t 2))⟩, ⟨(some 46), none, (.load true 2 (.t 9))⟩, ⟨(some 47), none, (.call 166 [(.t 45), (.t 46)])⟩, ⟨(some 48), none, (.iaddr 2 (.t 43) (.t 44))⟩, ⟨none, none, (.store 2 (.t 48) (.t 47))⟩]))) (.reg [⟨(some 49), none, (.bin .add false (.t 37) (.c (.int .i64 1)))⟩, ⟨(some 37), none, (.mv (.t 49))⟩]))))))) (.seq (.reg [⟨(some 50), none, (.load true 2 (.t 7))⟩, ⟨none, none, (.store 2 (.t 4) (.t 50))⟩]) .ret)))))
theorem k_impl_Substitution_apply : codeOf Try.prog 166 = some ⟨51, c_impl_Substitution_apply, [(.cell 4 true 2)]⟩ := by kernel_rfl
theorem m_impl_Substitution_apply : modes 166 = ⟨[], .own [none, some (67, 2)], none, false⟩ := by unfold modes; rfl

def c_spec_l4Apply : SC := (.seq (.reg [⟨(some 2), none, (.boxv 63 1 (.t 0))⟩, ⟨(some 3), none, (.boxv 67 2 (.t 1))⟩, ⟨(some 4), none, (.alloc 67 [(.str ⟨#[]⟩), .nil])⟩]) (.seq (.seq (.reg [⟨(some 8), none, (.faddr 0 (.t 3))⟩, ⟨(some 9), none, (.load false 1 (.t 8))⟩, ⟨(some 10), none, (.call 161 [(.t 9)])⟩]) (.cond (.t 10) (.seq (.seq (.reg [⟨(some 11), none, (.load true 1 (.t 2))⟩, ⟨(some 12), none, (.faddr 0 (.t 3))⟩, ⟨(some 13), none, (.load false 1 (.t 12))⟩, ⟨(some 14), none, (.call 125 [(.t 11), (.t 13)])⟩, ⟨(some 5), none, (.mv (.t 14))⟩]) (.seq (.reg [⟨(some 15), none, (.mv (.t 5))⟩, ⟨(some 16), none, (.bin .geq false (.t 15) (.c (.int .i64 0)))⟩]) (.cond (.t 16) (.seq (.reg [⟨(some 17), none, (.faddr 0 (.t 2))⟩, ⟨(some 18), none, (.load false 1 (.t 17))⟩, ⟨(some 19), none, (.mv (.t 5))⟩, ⟨(some 20), none, (.iaddr 3 (.t 18) (.t 19))⟩, ⟨(some 21), none, (.faddr 1 (.t 20))⟩, ⟨(some 22), none, (.load true 2 (.t 21))⟩, ⟨(some 23), none, (.call 162 [(.t 22)])⟩, ⟨none, none, (.store 2 (.t 4) (.t 23))⟩]) .ret) .skip))) (.seq (.reg [⟨(some 24), none, (.faddr 0 (.t 3))⟩, ⟨(some 25), none, (.load false 1 (.t 24))⟩, ⟨(some 26), none, (.build [(.str ⟨#[]⟩), .nil] [(0, (1, (.t 25)))])⟩, ⟨none, none, (.store 2 (.t 4) (.t 26))⟩]) .ret)) .skip)) (.seq (.reg [⟨(some 27), none, (.faddr 0 (.t 3))⟩, ⟨(some 28), none, (.load false 1 (.t 27))⟩, ⟨(some 29), none, (.build [(.str ⟨#[]⟩), .nil] [(0, (1, (.t 28)))])⟩, ⟨(some 6), none, (.alloc 67 [(.str ⟨#[]⟩), .nil])⟩, ⟨none, none, (.store 2 (.t 6) (.t 29))⟩]) (.seq (.seq (.reg [⟨(some 7), none, (.mv (.c (.int .i64 0)))⟩]) (.block 0 (.loop [0, 0, 1, 1, 1, 0, 1, 1, 0, 0, 0, 0, 0, 0, 0, 0, 0, 0, 0, 0, 0, 0, 0, 0, 0, 0, 0, 0, 0, 0, 0, 0, 0, 0, 0, 0, 0, 0, 0, 0, 0, 0, 0, 0, 0, 0, 0, 0, 0, 0] (.seq (.seq (.reg [⟨(some 30), none, (.mv (.t 7))⟩, ⟨(some 31), none, (.faddr 1 (.t 3))⟩, ⟨(some 32), none, (.load false 1 (.t 31))⟩, ⟨(some 33), none, (.len false (.t 32))⟩, ⟨(some 34), none, (.bin .lss false (.t 30) (.t 33))⟩]) (.cond (.t 34) .skip (.exit 0))) (.seq (.block 1 (.dreg [[], [0], [], [], [3], [], [4, 3, 5], [6, 4, 3, 5], [2, 7, 6, 4, 3, 5], [8, 2, 7, 6, 4, 3, 5], [1, 0, 9, 8, 2, 7, 6, 4, 3, 5], [0, 1, 2, 3, 4, 5, 6, 7, 8, 9, 10], [11, 0, 1, 2, 3, 4, 5, 6, 7, 8, 9, 10]] [⟨(some 37), none, (.faddr 1 (.t 6))⟩, ⟨(some 38), none, (.load false 1 (.t 37))⟩, ⟨(some 39), none, (.load true 1 (.t 2))⟩, ⟨(some 40), none, (.faddr 1 (.t 3))⟩, ⟨(some 41), none, (.load false 1 (.t 40))⟩, ⟨(some 42), none, (.mv (.t 7))⟩, ⟨(some 43), none, (.iaddr 2 (.t 41) (.t 42))⟩, ⟨(some 44), none, (.load true 2 (.t 43))⟩, ⟨(some 45), none, (.call 93 [(.t 39), (.t 44)])⟩, ⟨(some 46), none, (.mkrow 67 2 [(.str ⟨#[]⟩), .nil] 1 [(0, (.t 45))])⟩, ⟨(some 47), none, (.append 67 2 40 [(.str ⟨#[]⟩), .nil] (.t 38) (.t 46))⟩, ⟨(some 48), none, (.faddr 1 (.t 6))⟩, ⟨none, none, (.store 1 (.t 48) (.t 47))⟩])) (.reg [⟨(some 35), none, (.mv (.t 7))⟩, ⟨(some 36), none, (.bin .add false (.t 35) (.c (.int .i64 1)))⟩, ⟨(some 7), none, (.mv (.t 36))⟩])))))) (.seq (.reg [⟨(some 49), none, (.load true 2 (.t 6))⟩, ⟨none, none, (.store 2 (.t 4) (.t 49))⟩]) .ret)))))
theorem k_spec_l4Apply : codeOf Try.prog 93 = some ⟨50, c_spec_l4Apply, [(.cell 4 true 2)]⟩ := by kernel_rfl
theorem m_spec_l4Apply : modes 93 = ⟨[], .frz, none, false⟩ := by unfold modes; rfl

set_option maxHeartbeats 4000000 in
theorem apply_of (s : Sb) (hs : s.ok = true) (ht : s.tame) (x : Tm) (hx : varB x.name = true → x.args = []) (hn : x.nodes ≤ 1099511627776) (ih : ∀ y ∈ x.args, E 166 [s.sv, y.sv] [] = some ((y.ap s.look).osv, (y.ap s.look).obs)) : E 166 [s.sv, x.sv] [] = some ((x.ap s.look).osv, (x.ap s.look).obs) := by
  have hsl := ht.1
  have hl := Tm.length_le x.args
  have hne := Tm.nodes_eq x
  rcases Nat.eq_zero_or_pos x.args.length with h0 | h0
  · have hx0 : x.args = [] := List.eq_nil_of_length_eq_zero h0
    cases hh : hitB s.binds x.name with
    | true =>
      have hlt := hitB_lt hh
      have hc := term_E_yes s hs x.name hsl hh hlt
      have hd := copyTerm_E (s.binds[lowI s.binds x.name]).term (Sb.tame_at ht hlt)
      have hv : varB x.name = true := by rw [← hitB_eq hh hlt]; exact bdOk_var (Sb.ok_at hs hlt)
      have e : x.ap s.look = (s.binds[lowI s.binds x.name]).term := by rw [Tm.ap_eq, if_pos hv, Sb.look_yes hh hlt]; rfl
      rw [e]
      refine E_walk k_impl_Substitution_apply m_impl_Substitution_apply (of_decide_eq_true rfl) ?_
      simp (disch := omega) only [c_impl_Substitution_apply, go_sem, Nat.reduceAdd, Nat.reduceSub, Nat.reduceLT, Nat.reduceLeDiff, Nat.reduceEqDiff, Nat.reduceBEq, Nat.reduceBneDiff, Nat.reduceMul, ↓reduceIte, Int.reduceToNat, reduceCtorEq, Int.reduceNeg, Int.reduceAdd, hx0, hc, hd, List.map_nil, List.length_nil, m_impl_Substitution_term, m_impl_copyTerm, Tm.osv, Tm.obs]
    | false =>
      have hc := term_E_no s hs x.name hsl hh
      have e : x.ap s.look = .mk x.name [] := by
        rw [Tm.ap_eq, Sb.look_no hh, hx0]
        split
        · rfl
        · rw [Tm.apL]
      rw [e]
      have e1 : (Tm.mk x.name []).osv = .agg [.str x.name, .ref 0] := rfl
      have e2 : (Tm.mk x.name []).obs = [.row 67 2 []] := rfl
      rw [e1, e2]
      refine E_walk k_impl_Substitution_apply m_impl_Substitution_apply (of_decide_eq_true rfl) ?_
      simp (disch := omega) only [c_impl_Substitution_apply, go_sem, Nat.reduceAdd, Nat.reduceSub, Nat.reduceLT, Nat.reduceLeDiff, Nat.reduceEqDiff, Nat.reduceBEq, Nat.reduceBneDiff, Nat.reduceMul, ↓reduceIte, Int.reduceToNat, reduceCtorEq, Int.reduceNeg, Int.reduceAdd, hx0, hc, List.map_nil, List.length_nil, m_impl_Substitution_term]
  · have hv : ¬ varB x.name = true := fun h => by rw [hx h] at h0; simp at h0
    have e : x.ap s.look = .mk x.name (x.args.map (Tm.ap s.look)) := by rw [Tm.ap_eq, if_neg hv, Tm.apL_map]
    rw [e]
    have e1 : (Tm.mk x.name (x.args.map (Tm.ap s.look))).osv = .agg [.str x.name, .ref 0] := rfl
    have e2 : (Tm.mk x.name (x.args.map (Tm.ap s.look))).obs = [.row 67 2 ((x.args.map (Tm.ap s.look)).map Tm.o)] := rfl
    rw [e1, e2]
    have hrl : List.replicate x.args.length ([.str ⟨#[]⟩, .ow []] : List OT) = fillR Tm.o [.str ⟨#[]⟩, .ow []] (x.args.map (Tm.ap s.look)) 0 := by rw [fillR_zero, List.length_map]
    refine E_walk k_impl_Substitution_apply m_impl_Substitution_apply (of_decide_eq_true rfl) ?_
    simp (disch := omega) only [c_impl_Substitution_apply, go_sem, Nat.reduceAdd, Nat.reduceSub, Nat.reduceLT, Nat.reduceLeDiff, Nat.reduceEqDiff, Nat.reduceBEq, Nat.reduceBneDiff, Nat.reduceMul, ↓reduceIte, Int.reduceToNat, reduceCtorEq, Int.reduceNeg, Int.reduceAdd]
    refine go_loop (α := Int) (fun a => ⟨slots 51 0 [(2, .ptr 0 0), (4, .ptr 1 0), (7, .ptr 2 0), (35, .arr (x.args.map Tm.d)), (36, .int .i64 x.args.length), (37, .int .i64 a)], [.box 63 [.arr (s.binds.map Bd.d)], .box 67 [.str ⟨#[]⟩, .nil], .box 67 [.str x.name, .ref 3], .row 67 2 (fillR Tm.o [.str ⟨#[]⟩, .ow []] (x.args.map (Tm.ap s.look)) a.toNat)]⟩) (fun a => ∃ k : Nat, a = k ∧ k ≤ (x.args).length) (fun a => (x.args).length - (a).toNat) 0 ⟨0, rfl, Nat.zero_le _⟩ (by simp (disch := omega) only [go_sem, Nat.reduceAdd, Nat.reduceSub, Nat.reduceLT, Nat.reduceLeDiff, Nat.reduceEqDiff, Nat.reduceBEq, Nat.reduceBneDiff, Nat.reduceMul, ↓reduceIte, Int.reduceToNat, reduceCtorEq, Int.reduceNeg, Int.reduceAdd, hrl, Int.toNat_zero]) ?_
    rintro i ⟨k, hi, hk⟩
    have hni : i.toNat = k := by omega
    have hni1 : (i + 1).toNat = k + 1 := by omega
    rcases Nat.lt_or_ge k (x.args).length with hlt | hge
    · have hg := get_at Tm.d hlt
      rw [Tm.d_eq] at hg
      have hltm : k < (x.args.map (Tm.ap s.look)).length := by rw [List.length_map]; exact hlt
      have hz := fillR_get Tm.o [.str ⟨#[]⟩, .ow []] hltm
      have hc := ih x.args[k] (List.getElem_mem hlt)
      have hse := fillR_set Tm.o [.str ⟨#[]⟩, .ow []] hltm
      rw [Tm.o_eq, List.getElem_map] at hse
      simp (disch := omega) only [go_sem, Nat.reduceAdd, Nat.reduceSub, Nat.reduceLT, Nat.reduceLeDiff, Nat.reduceEqDiff, Nat.reduceBEq, Nat.reduceBneDiff, Nat.reduceMul, ↓reduceIte, Int.reduceToNat, reduceCtorEq, Int.reduceNeg, Int.reduceAdd, hni, hg, hc, hz, fillR_len, List.length_map, m_impl_Substitution_apply, Tm.osv, Tm.obs]
      refine ⟨i + 1, ⟨k + 1, by omega, hlt⟩, by omega, ?_⟩
      simp (disch := omega) only [go_sem, Nat.reduceAdd, Nat.reduceSub, Nat.reduceLT, Nat.reduceLeDiff, Nat.reduceEqDiff, Nat.reduceBEq, Nat.reduceBneDiff, Nat.reduceMul, ↓reduceIte, Int.reduceToNat, reduceCtorEq, Int.reduceNeg, Int.reduceAdd, hni1, hse]
    · obtain rfl : k = x.args.length := by omega
      have hend : fillR Tm.o [.str ⟨#[]⟩, .ow []] (x.args.map (Tm.ap s.look)) x.args.length = (x.args.map (Tm.ap s.look)).map Tm.o := by
        have := fillR_end Tm.o [.str ⟨#[]⟩, .ow []] (xs := x.args.map (Tm.ap s.look))
        rwa [List.length_map] at this
      simp (disch := omega) only [go_sem, Nat.reduceAdd, Nat.reduceSub, Nat.reduceLT, Nat.reduceLeDiff, Nat.reduceEqDiff, Nat.reduceBEq, Nat.reduceBneDiff, Nat.reduceMul, ↓reduceIte, Int.reduceToNat, reduceCtorEq, Int.reduceNeg, Int.reduceAdd, hni, hend]
theorem apply_E (s : Sb) (hs : s.ok = true) (ht : s.tame) (x : Tm) (hx : x.names = true) (hn : x.nodes ≤ 1099511627776) : E 166 [s.sv, x.sv] [] = some ((x.ap s.look).osv, (x.ap s.look).obs) :=
  apply_of s hs ht x (Tm.names_var hx) hn fun y hy => apply_E s hs ht y (Tm.names_arg hx hy) (by have := Tm.nodes_mem hy; have := Tm.nodes_eq x; omega)
termination_by SizeOf.sizeOf x
decreasing_by exact Tm.lt_of_mem hy
set_option maxHeartbeats 4000000 in
theorem l4Apply_of (s : Sb) (hs : s.ok = true) (ht : s.tame) (x : Tm) (hn : x.nodes ≤ 1099511627776) (ih : ∀ y ∈ x.args, E 93 [s.sv, y.sv] [] = some ((y.ap s.look).sv, [])) : E 93 [s.sv, x.sv] [] = some ((x.ap s.look).sv, []) := by
  have hsl := ht.1
  have hl := Tm.length_le x.args
  have hne := Tm.nodes_eq x
  have hf := l4Find_E s x.name hsl
  rw [idxP_low (Sb.ok_up hs)] at hf
  cases hv : varB x.name with
  | true =>
    cases hh : hitB s.binds x.name with
    | true =>
      have hlt := hitB_lt hh
      have hg := get_at Bd.d hlt
      rw [Bd.d_eq] at hg
      have hni : ((lowI s.binds x.name : Nat) : Int).toNat = lowI s.binds x.name := Int.toNat_natCast _
      have hd := l2Own_E (s.binds[lowI s.binds x.name]).term (Sb.tame_at ht hlt)
      have e : x.ap s.look = (s.binds[lowI s.binds x.name]).term := by rw [Tm.ap_eq, if_pos hv, Sb.look_yes hh hlt]; rfl
      rw [hh, if_pos rfl] at hf
      rw [e]
      refine E_walk k_spec_l4Apply m_spec_l4Apply (of_decide_eq_true rfl) ?_
      simp (disch := omega) only [c_spec_l4Apply, go_sem, Nat.reduceAdd, Nat.reduceSub, Nat.reduceLT, Nat.reduceLeDiff, Nat.reduceEqDiff, Nat.reduceBEq, Nat.reduceBneDiff, Nat.reduceMul, ↓reduceIte, Int.reduceToNat, reduceCtorEq, Int.reduceNeg, Int.reduceAdd, hv, hf, hg, hni, hd, m_spec_l4Find, m_spec_l2Var, l2Var_E, m_spec_l2Own]
    | false =>
      have e : x.ap s.look = .mk x.name [] := by rw [Tm.ap_eq, if_pos hv, Sb.look_no hh]; rfl
      rw [hh, if_neg (by simp)] at hf
      rw [e]
      have e1 : (Tm.mk x.name []).sv = .agg [.str x.name, .arr []] := rfl
      rw [e1]
      refine E_walk k_spec_l4Apply m_spec_l4Apply (of_decide_eq_true rfl) ?_
      simp (disch := omega) only [c_spec_l4Apply, go_sem, Nat.reduceAdd, Nat.reduceSub, Nat.reduceLT, Nat.reduceLeDiff, Nat.reduceEqDiff, Nat.reduceBEq, Nat.reduceBneDiff, Nat.reduceMul, ↓reduceIte, Int.reduceToNat, reduceCtorEq, Int.reduceNeg, Int.reduceAdd, hv, hf, m_spec_l4Find, m_spec_l2Var, l2Var_E]
  | false =>
    have e : x.ap s.look = .mk x.name (x.args.map (Tm.ap s.look)) := by rw [Tm.ap_eq, if_neg (by rw [hv]; simp), Tm.apL_map]
    rw [e]
    have e1 : (Tm.mk x.name (x.args.map (Tm.ap s.look))).sv = .agg [.str x.name, .arr ((x.args.map (Tm.ap s.look)).map Tm.d)] := rfl
    rw [e1]
    have h10 : ((1 : Int) = 0) = False := by simp
    have hfu := Tm.osh_full (x.args.map (Tm.ap s.look))
    have her := Tm.osh_er (x.args.map (Tm.ap s.look))
    refine E_walk k_spec_l4Apply m_spec_l4Apply (of_decide_eq_true rfl) ?_
    simp (disch := omega) only [c_spec_l4Apply, go_sem, Nat.reduceAdd, Nat.reduceSub, Nat.reduceLT, Nat.reduceLeDiff, Nat.reduceEqDiff, Nat.reduceBEq, Nat.reduceBneDiff, Nat.reduceMul, ↓reduceIte, Int.reduceToNat, reduceCtorEq, Int.reduceNeg, Int.reduceAdd, hv, m_spec_l4Find, m_spec_l2Var, l2Var_E]
    refine go_loop (α := Int) (fun a => ⟨slots 50 0 [(2, .ptr 0 0), (3, .ptr 1 0), (4, .ptr 2 0), (6, .ptr 3 0), (7, .int .i64 a)], (if a = 0 then [.box 63 [.arr (s.binds.map Bd.d)], .box 67 [.str x.name, .arr (x.args.map Tm.d)], .box 67 [.str ⟨#[]⟩, .nil], .box 67 [.str x.name, .nil]] else [.box 63 [.arr (s.binds.map Bd.d)], .box 67 [.str x.name, .arr (x.args.map Tm.d)], .box 67 [.str ⟨#[]⟩, .nil], .box 67 [.str x.name, .ref 4], .row 67 2 (((x.args.map (Tm.ap s.look)).take a.toNat).map Tm.osh)])⟩) (fun a => ∃ k : Nat, a = k ∧ k ≤ (x.args).length) (fun a => (x.args).length - (a).toNat) 0 ⟨0, rfl, Nat.zero_le _⟩ (by simp (disch := omega) only [go_sem, Nat.reduceAdd, Nat.reduceSub, Nat.reduceLT, Nat.reduceLeDiff, Nat.reduceEqDiff, Nat.reduceBEq, Nat.reduceBneDiff, Nat.reduceMul, ↓reduceIte, Int.reduceToNat, reduceCtorEq, Int.reduceNeg, Int.reduceAdd, eq_self, if_true]) ?_
    rintro i ⟨k, hi, hk⟩
    have hni : i.toNat = k := by omega
    have hni1 : (i + 1).toNat = k + 1 := by omega
    rcases Nat.lt_or_ge k (x.args).length with hlt | hge
    · have hg := get_at Tm.d hlt
      rw [Tm.d_eq] at hg
      have hltm : k < (x.args.map (Tm.ap s.look)).length := by rw [List.length_map]; exact hlt
      have hc := ih x.args[k] (List.getElem_mem hlt)
      have hse := map_snoc Tm.osh hltm
      rw [Tm.osh_eq, List.getElem_map] at hse
      rcases Nat.eq_zero_or_pos k with h0 | h0
      · subst h0
        obtain rfl : i = 0 := hi
        rw [List.take_zero, List.map_nil, List.nil_append] at hse
        simp (disch := omega) only [go_sem, Nat.reduceAdd, Nat.reduceSub, Nat.reduceLT, Nat.reduceLeDiff, Nat.reduceEqDiff, Nat.reduceBEq, Nat.reduceBneDiff, Nat.reduceMul, ↓reduceIte, Int.reduceToNat, reduceCtorEq, Int.reduceNeg, Int.reduceAdd, hni, hg, hc, m_spec_l4Apply, eq_self, if_true]
        refine ⟨1, ⟨1, rfl, hlt⟩, by omega, ?_⟩
        simp (disch := omega) only [go_sem, Nat.reduceAdd, Nat.reduceSub, Nat.reduceLT, Nat.reduceLeDiff, Nat.reduceEqDiff, Nat.reduceBEq, Nat.reduceBneDiff, Nat.reduceMul, ↓reduceIte, Int.reduceToNat, reduceCtorEq, Int.reduceNeg, Int.reduceAdd, h10, if_false, hse]
      · have hi0 : (i = 0) = False := by simp; omega
        have hi1 : (i + 1 = 0) = False := by simp; omega
        have htl : ((x.args.map (Tm.ap s.look)).take k).length = k := by rw [List.length_take]; omega
        simp (disch := omega) only [go_sem, Nat.reduceAdd, Nat.reduceSub, Nat.reduceLT, Nat.reduceLeDiff, Nat.reduceEqDiff, Nat.reduceBEq, Nat.reduceBneDiff, Nat.reduceMul, ↓reduceIte, Int.reduceToNat, reduceCtorEq, Int.reduceNeg, Int.reduceAdd, hni, hg, hc, m_spec_l4Apply, hi0, if_false, htl]
        refine ⟨i + 1, ⟨k + 1, by omega, hlt⟩, by omega, ?_⟩
        simp (disch := omega) only [go_sem, Nat.reduceAdd, Nat.reduceSub, Nat.reduceLT, Nat.reduceLeDiff, Nat.reduceEqDiff, Nat.reduceBEq, Nat.reduceBneDiff, Nat.reduceMul, ↓reduceIte, Int.reduceToNat, reduceCtorEq, Int.reduceNeg, Int.reduceAdd, hni1, hi1, if_false, hse]
    · obtain rfl : k = x.args.length := by omega
      have hta : (x.args.map (Tm.ap s.look)).take x.args.length = x.args.map (Tm.ap s.look) := by
        have := List.take_length (l := x.args.map (Tm.ap s.look))
        rwa [List.length_map] at this
      rcases Nat.eq_zero_or_pos x.args.length with h0 | h0
      · have hx : x.args = [] := List.eq_nil_of_length_eq_zero h0
        obtain rfl : i = 0 := by omega
        simp (disch := omega) only [go_sem, Nat.reduceAdd, Nat.reduceSub, Nat.reduceLT, Nat.reduceLeDiff, Nat.reduceEqDiff, Nat.reduceBEq, Nat.reduceBneDiff, Nat.reduceMul, ↓reduceIte, Int.reduceToNat, reduceCtorEq, Int.reduceNeg, Int.reduceAdd, hni, hx, eq_self, if_true, List.map_nil, List.length_nil]
      · have hi0 : (i = 0) = False := by simp; omega
        simp (disch := omega) only [go_sem, Nat.reduceAdd, Nat.reduceSub, Nat.reduceLT, Nat.reduceLeDiff, Nat.reduceEqDiff, Nat.reduceBEq, Nat.reduceBneDiff, Nat.reduceMul, ↓reduceIte, Int.reduceToNat, reduceCtorEq, Int.reduceNeg, Int.reduceAdd, hni, hi0, if_false, hta, hfu, her]
theorem l4Apply_E (s : Sb) (hs : s.ok = true) (ht : s.tame) (x : Tm) (hn : x.nodes ≤ 1099511627776) : E 93 [s.sv, x.sv] [] = some ((x.ap s.look).sv, []) :=
  l4Apply_of s hs ht x hn fun y hy => l4Apply_E s hs ht y (by have := Tm.nodes_mem hy; have := Tm.nodes_eq x; omega)
termination_by SizeOf.sizeOf x
decreasing_by exact Tm.lt_of_mem hy
end Go.Proofs.Ytifpfjbpfekkmaa

set_option maxRecDepth 100000
set_option linter.unusedSimpArgs false
set_option linter.unusedVariables false
namespace Go.Proofs.Ytifpfjbpfekkmaa
open Go.RowKit

noncomputable def Tm.expr (x : Tm) : Bool := x.valid || x.atom
theorem Tm.expr_small {x : Tm} (h : x.expr = true) : x.small = true := by
  unfold Tm.expr Tm.atom Tm.valid at h
  cases hs : x.small with
  | true => rfl
  | false =>
    rw [hs] at h
    split at h <;> simp at h
theorem Tm.expr_nodes {x : Tm} (h : x.expr = true) : x.nodes ≤ 30 := by
  have := Tm.expr_small h
  unfold Tm.small at this
  rw [Bool.and_eq_true, decide_eq_true_eq] at this
  exact this.1
theorem Tm.eqn_var {x : Tm} (h : x.eqn = true) : varB x.name = false := by
  unfold Tm.eqn at h
  rw [dec_iff.1 h]
  kernel_rfl
theorem Tm.expr_names {x : Tm} (h : x.expr = true) : x.names = true ∨ (x.eqn = true ∧ Tm.nameS x.args = true) := by
  unfold Tm.expr Tm.valid at h
  cases hn : x.names with
  | true => exact .inl rfl
  | false =>
    rw [hn, Bool.and_false, Bool.false_or] at h
    unfold Tm.atom at h
    split at h
    · rename_i he
      rw [Bool.and_eq_true] at h
      exact .inr ⟨he, h.2⟩
    · unfold Tm.valid at h; rw [hn, Bool.and_false, Bool.and_false] at h; cases h
theorem Tm.expr_var {x : Tm} (h : x.expr = true) : varB x.name = true → x.args = [] := by
  intro hv
  rcases Tm.expr_names h with h1 | ⟨h1, h2⟩
  · exact Tm.names_var h1 hv
  · rw [Tm.eqn_var h1] at hv; cases hv
theorem Tm.expr_arg {x : Tm} (h : x.expr = true) {y : Tm} (hy : y ∈ x.args) : y.names = true := by
  rcases Tm.expr_names h with h1 | ⟨h1, h2⟩
  · exact Tm.names_arg h1 hy
  · rw [Tm.nameS_all, List.all_eq_true] at h2; exact h2 y hy

def c_impl_Substitution_applied : SC := (.seq (.reg [⟨(some 2), none, (.boxv 63 1 (.t 0))⟩, ⟨(some 3), none, (.boxv 67 2 (.t 1))⟩, ⟨(some 4), none, (.alloc 67 [(.str ⟨#[]⟩), .nil])⟩, ⟨(some 5), none, (.mv (.c (.bool false)))⟩]) (.seq (.reg [⟨(some 7), none, (.load true 1 (.t 2))⟩, ⟨(some 8), none, (.load true 2 (.t 3))⟩, ⟨(some 9), none, (.call 166 [(.t 7), (.t 8)])⟩, ⟨(some 6), none, (.alloc 67 [(.str ⟨#[]⟩), .nil])⟩, ⟨none, none, (.store 2 (.t 6) (.t 9))⟩]) (.seq (.seq (.reg [⟨(some 10), none, (.load true 2 (.t 6))⟩, ⟨(some 11), none, (.call 167 [(.t 10)])⟩, ⟨(some 12), none, (.un .not (.t 11))⟩]) (.cond (.t 12) (.seq (.reg [⟨(some 13), none, (.build [(.str ⟨#[]⟩), .nil] [])⟩, ⟨none, none, (.store 2 (.t 4) (.t 13))⟩, ⟨(some 5), none, (.mv (.c (.bool false)))⟩]) .ret) .skip)) (.seq (.reg [⟨(some 14), none, (.load true 2 (.t 6))⟩, ⟨none, none, (.store 2 (.t 4) (.t 14))⟩, ⟨(some 5), none, (.mv (.c (.bool true)))⟩]) .ret))))
theorem k_impl_Substitution_applied : codeOf Try.prog 96 = some ⟨15, c_impl_Substitution_applied, [(.cell 4 true 2), (.tmp 5)]⟩ := by kernel_rfl
theorem m_impl_Substitution_applied : modes 96 = ⟨[], .own [none, some (67, 2), none], none, false⟩ := by unfold modes; rfl

def c_impl_ApplySubstitution : SC := (.seq (.reg [⟨(some 2), none, (.boxv 63 1 (.t 0))⟩, ⟨(some 3), none, (.boxv 67 2 (.t 1))⟩, ⟨(some 4), none, (.alloc 67 [(.str ⟨#[]⟩), .nil])⟩, ⟨(some 5), none, (.mv (.c (.bool false)))⟩]) (.seq (.seq (.reg [⟨(some 6), none, (.load true 1 (.t 2))⟩, ⟨(some 7), none, (.call 94 [(.t 6)])⟩, ⟨(some 8), none, (.un .not (.t 7))⟩, ⟨(some 9), none, (.mv (.t 8))⟩, ⟨(some 10), (some (9, false)), (.load true 2 (.t 3))⟩, ⟨(some 11), (some (9, false)), (.call 95 [(.t 10)])⟩, ⟨(some 12), (some (9, false)), (.un .not (.t 11))⟩, ⟨(some 13), none, (.pick (.t 9) (.c (.bool true)) (.t 12))⟩]) (.cond (.t 13) (.seq (.reg [⟨(some 14), none, (.build [(.str ⟨#[]⟩), .nil] [])⟩, ⟨none, none, (.store 2 (.t 4) (.t 14))⟩, ⟨(some 5), none, (.mv (.c (.bool false)))⟩]) .ret) .skip)) (.seq (.reg [⟨(some 15), none, (.load true 1 (.t 2))⟩, ⟨(some 16), none, (.load true 2 (.t 3))⟩, ⟨(some 17), none, (.call 96 [(.t 15), (.t 16)])⟩, ⟨(some 18), none, (.ext (.t 17) 0)⟩, ⟨(some 19), none, (.ext (.t 17) 1)⟩, ⟨none, none, (.store 2 (.t 4) (.t 18))⟩, ⟨(some 5), none, (.mv (.t 19))⟩]) .ret)))
theorem k_impl_ApplySubstitution : codeOf Try.prog 37 = some ⟨20, c_impl_ApplySubstitution, [(.cell 4 true 2), (.tmp 5)]⟩ := by kernel_rfl
theorem m_impl_ApplySubstitution : modes 37 = ⟨[], .own [none, some (67, 2), none], none, false⟩ := by unfold modes; rfl

def c_spec_ApplySubstitution : SC := (.seq (.reg [⟨(some 2), none, (.boxv 63 1 (.t 0))⟩, ⟨(some 3), none, (.boxv 67 2 (.t 1))⟩, ⟨(some 4), none, (.alloc 67 [(.str ⟨#[]⟩), .nil])⟩, ⟨(some 5), none, (.mv (.c (.bool false)))⟩]) (.seq (.seq (.reg [⟨(some 7), none, (.load true 1 (.t 2))⟩, ⟨(some 8), none, (.call 91 [(.t 7)])⟩, ⟨(some 9), none, (.un .not (.t 8))⟩, ⟨(some 10), none, (.mv (.t 9))⟩, ⟨(some 11), (some (10, false)), (.load true 2 (.t 3))⟩, ⟨(some 12), (some (10, false)), (.call 92 [(.t 11)])⟩, ⟨(some 13), (some (10, false)), (.un .not (.t 12))⟩, ⟨(some 14), none, (.pick (.t 10) (.c (.bool true)) (.t 13))⟩]) (.cond (.t 14) (.seq (.reg [⟨(some 15), none, (.build [(.str ⟨#[]⟩), .nil] [])⟩, ⟨none, none, (.store 2 (.t 4) (.t 15))⟩, ⟨(some 5), none, (.mv (.c (.bool false)))⟩]) .ret) .skip)) (.seq (.reg [⟨(some 16), none, (.load true 1 (.t 2))⟩, ⟨(some 17), none, (.load true 2 (.t 3))⟩, ⟨(some 18), none, (.call 93 [(.t 16), (.t 17)])⟩, ⟨(some 6), none, (.alloc 67 [(.str ⟨#[]⟩), .nil])⟩, ⟨none, none, (.store 2 (.t 6) (.t 18))⟩]) (.seq (.seq (.reg [⟨(some 19), none, (.load true 2 (.t 6))⟩, ⟨(some 20), none, (.call 92 [(.t 19)])⟩, ⟨(some 21), none, (.un .not (.t 20))⟩]) (.cond (.t 21) (.seq (.reg [⟨(some 22), none, (.build [(.str ⟨#[]⟩), .nil] [])⟩, ⟨none, none, (.store 2 (.t 4) (.t 22))⟩, ⟨(some 5), none, (.mv (.c (.bool false)))⟩]) .ret) .skip)) (.seq (.reg [⟨(some 23), none, (.load true 2 (.t 6))⟩, ⟨none, none, (.store 2 (.t 4) (.t 23))⟩, ⟨(some 5), none, (.mv (.c (.bool true)))⟩]) .ret)))))
theorem k_spec_ApplySubstitution : codeOf Try.prog 36 = some ⟨24, c_spec_ApplySubstitution, [(.cell 4 true 2), (.tmp 5)]⟩ := by kernel_rfl
theorem m_spec_ApplySubstitution : modes 36 = ⟨[], .frz, none, false⟩ := by unfold modes; rfl

theorem isExpression_E (x : Tm) (hn : x.nodes ≤ 1099511627776) : E 95 [x.sv] [] = some (.bool x.expr, []) := by
  have h1 := isValidTerm_E x hn
  have h2 := isEquality_E x
  have h3 := isValidAtom_E x hn
  unfold Tm.expr
  cases hv : x.valid with
  | true =>
    rw [hv] at h1
    rw [Bool.true_or]
    refine E_walk k_impl_isExpression m_impl_isExpression (of_decide_eq_true rfl) ?_
    simp (disch := omega) only [c_impl_isExpression, go_sem, Nat.reduceAdd, Nat.reduceSub, Nat.reduceLT, Nat.reduceLeDiff, Nat.reduceEqDiff, Nat.reduceBEq, Nat.reduceBneDiff, Nat.reduceMul, ↓reduceIte, Int.reduceToNat, reduceCtorEq, Int.reduceNeg, Int.reduceAdd, h1, m_impl_IsValidTerm]
  | false =>
    rw [hv] at h1
    rw [Bool.false_or]
    cases he : x.eqn with
    | true =>
      rw [he] at h2
      refine E_walk k_impl_isExpression m_impl_isExpression (of_decide_eq_true rfl) ?_
      simp (disch := omega) only [c_impl_isExpression, go_sem, Nat.reduceAdd, Nat.reduceSub, Nat.reduceLT, Nat.reduceLeDiff, Nat.reduceEqDiff, Nat.reduceBEq, Nat.reduceBneDiff, Nat.reduceMul, ↓reduceIte, Int.reduceToNat, reduceCtorEq, Int.reduceNeg, Int.reduceAdd, h1, h2, h3, m_impl_IsValidTerm, m_impl_isEquality, m_impl_IsValidAtom]
    | false =>
      rw [he] at h2
      have ha : x.atom = false := by unfold Tm.atom; rw [if_neg (by rw [he]; simp), hv, Bool.and_false]
      rw [ha]
      refine E_walk k_impl_isExpression m_impl_isExpression (of_decide_eq_true rfl) ?_
      simp (disch := omega) only [c_impl_isExpression, go_sem, Nat.reduceAdd, Nat.reduceSub, Nat.reduceLT, Nat.reduceLeDiff, Nat.reduceEqDiff, Nat.reduceBEq, Nat.reduceBneDiff, Nat.reduceMul, ↓reduceIte, Int.reduceToNat, reduceCtorEq, Int.reduceNeg, Int.reduceAdd, h1, h2, m_impl_IsValidTerm, m_impl_isEquality]
theorem l2Any_E (x : Tm) (hn : x.nodes ≤ 1099511627776) : E 92 [x.sv] [] = some (.bool x.expr, []) := by
  have h1 := l2Good_E x hn
  have h3 := l2Atom_E x hn
  unfold Tm.expr
  cases hv : x.valid with
  | true =>
    rw [hv] at h1
    rw [Bool.true_or]
    refine E_walk k_spec_l2Any m_spec_l2Any (of_decide_eq_true rfl) ?_
    simp (disch := omega) only [c_spec_l2Any, go_sem, Nat.reduceAdd, Nat.reduceSub, Nat.reduceLT, Nat.reduceLeDiff, Nat.reduceEqDiff, Nat.reduceBEq, Nat.reduceBneDiff, Nat.reduceMul, ↓reduceIte, Int.reduceToNat, reduceCtorEq, Int.reduceNeg, Int.reduceAdd, h1, m_spec_l2Good]
  | false =>
    rw [hv] at h1
    rw [Bool.false_or]
    refine E_walk k_spec_l2Any m_spec_l2Any (of_decide_eq_true rfl) ?_
    simp (disch := omega) only [c_spec_l2Any, go_sem, Nat.reduceAdd, Nat.reduceSub, Nat.reduceLT, Nat.reduceLeDiff, Nat.reduceEqDiff, Nat.reduceBEq, Nat.reduceBneDiff, Nat.reduceMul, ↓reduceIte, Int.reduceToNat, reduceCtorEq, Int.reduceNeg, Int.reduceAdd, h1, h3, m_spec_l2Good, m_spec_l2Atom]
/-- Whether a substitution can be applied; what comes of it. -/
noncomputable def apOk (s : Sb) (x : Tm) : Bool := s.ok && (x.expr && (x.ap s.look).small)
noncomputable def apTo (s : Sb) (x : Tm) : Tm := if apOk s x then x.ap s.look else .mk ⟨#[]⟩ []
theorem apTo_no {s : Sb} {x : Tm} (h : apOk s x = false) : apTo s x = .mk ⟨#[]⟩ [] := by unfold apTo; rw [if_neg (by rw [h]; simp)]
theorem apTo_yes {s : Sb} {x : Tm} (h : apOk s x = true) : apTo s x = x.ap s.look := by unfold apTo; rw [if_pos h]
theorem zero_osv : (Tm.mk ⟨#[]⟩ []).osv = .agg [.str ⟨#[]⟩, .ref 0] := rfl
theorem zero_obs : (Tm.mk ⟨#[]⟩ []).obs = [.row 67 2 []] := rfl
theorem zero_sv : (Tm.mk ⟨#[]⟩ []).sv = .agg [.str ⟨#[]⟩, .arr []] := rfl
theorem apply_any (s : Sb) (hs : s.ok = true) (ht : s.tame) (x : Tm) (hx : x.expr = true) : E 166 [s.sv, x.sv] [] = some ((x.ap s.look).osv, (x.ap s.look).obs) := by
  have hn := Tm.expr_nodes hx
  exact apply_of s hs ht x (Tm.expr_var hx) (by omega) fun y hy => apply_E s hs ht y (Tm.expr_arg hx hy) (by have := Tm.nodes_mem hy; have := Tm.nodes_eq x; omega)
theorem applied_E (s : Sb) (hs : s.ok = true) (ht : s.tame) (x : Tm) (hx : x.expr = true) : E 96 [s.sv, x.sv] [] = some (.tup [(apTo s x).osv, .bool (apOk s x)], (apTo s x).obs) := by
  have hn := Tm.expr_nodes hx
  have hk := Tm.ap_nodes (Sb.look_okF hs) x
  have h1 := apply_any s hs ht x hx
  have h2 := isSmall_E (x.ap s.look) (by omega)
  cases hq : (x.ap s.look).small with
  | true =>
    have ho : apOk s x = true := by unfold apOk; rw [hs, hx, hq]; rfl
    rw [hq] at h2
    rw [apTo_yes ho, ho]
    refine E_walk k_impl_Substitution_applied m_impl_Substitution_applied (of_decide_eq_true rfl) ?_
    simp (disch := omega) only [c_impl_Substitution_applied, go_sem, Nat.reduceAdd, Nat.reduceSub, Nat.reduceLT, Nat.reduceLeDiff, Nat.reduceEqDiff, Nat.reduceBEq, Nat.reduceBneDiff, Nat.reduceMul, ↓reduceIte, Int.reduceToNat, reduceCtorEq, Int.reduceNeg, Int.reduceAdd, h1, h2, Tm.osv, Tm.obs, m_impl_isSmall, m_impl_Substitution_apply]
  | false =>
    have ho : apOk s x = false := by unfold apOk; rw [hq, Bool.and_false, Bool.and_false]
    rw [hq] at h2
    rw [apTo_no ho, ho, zero_osv, zero_obs]
    refine E_walk k_impl_Substitution_applied m_impl_Substitution_applied (of_decide_eq_true rfl) ?_
    simp (disch := omega) only [c_impl_Substitution_applied, go_sem, Nat.reduceAdd, Nat.reduceSub, Nat.reduceLT, Nat.reduceLeDiff, Nat.reduceEqDiff, Nat.reduceBEq, Nat.reduceBneDiff, Nat.reduceMul, ↓reduceIte, Int.reduceToNat, reduceCtorEq, Int.reduceNeg, Int.reduceAdd, h1, h2, Tm.osv, Tm.obs, m_impl_isSmall, m_impl_Substitution_apply]
theorem applySubstitution_E (s : Sb) (ht : s.tame) (x : Tm) (hn : x.nodes ≤ 1099511627776) : E 37 [s.sv, x.sv] [] = some (.tup [(apTo s x).osv, .bool (apOk s x)], (apTo s x).obs) := by
  have h1 := isValidSubstitution_E s ht
  have h2 := isExpression_E x hn
  cases hs : s.ok with
  | false =>
    have ho : apOk s x = false := by unfold apOk; rw [hs]; rfl
    rw [hs] at h1
    rw [apTo_no ho, ho, zero_osv, zero_obs]
    refine E_walk k_impl_ApplySubstitution m_impl_ApplySubstitution (of_decide_eq_true rfl) ?_
    simp (disch := omega) only [c_impl_ApplySubstitution, go_sem, Nat.reduceAdd, Nat.reduceSub, Nat.reduceLT, Nat.reduceLeDiff, Nat.reduceEqDiff, Nat.reduceBEq, Nat.reduceBneDiff, Nat.reduceMul, ↓reduceIte, Int.reduceToNat, reduceCtorEq, Int.reduceNeg, Int.reduceAdd, h1, m_impl_IsValidSubstitution]
  | true =>
    rw [hs] at h1
    cases hx : x.expr with
    | false =>
      have ho : apOk s x = false := by unfold apOk; rw [hx, Bool.false_and, Bool.and_false]
      rw [hx] at h2
      rw [apTo_no ho, ho, zero_osv, zero_obs]
      refine E_walk k_impl_ApplySubstitution m_impl_ApplySubstitution (of_decide_eq_true rfl) ?_
      simp (disch := omega) only [c_impl_ApplySubstitution, go_sem, Nat.reduceAdd, Nat.reduceSub, Nat.reduceLT, Nat.reduceLeDiff, Nat.reduceEqDiff, Nat.reduceBEq, Nat.reduceBneDiff, Nat.reduceMul, ↓reduceIte, Int.reduceToNat, reduceCtorEq, Int.reduceNeg, Int.reduceAdd, h1, h2, m_impl_IsValidSubstitution, m_impl_isExpression]
    | true =>
      rw [hx] at h2
      have h3 := applied_E s hs ht x hx
      refine E_walk k_impl_ApplySubstitution m_impl_ApplySubstitution (of_decide_eq_true rfl) ?_
      simp (disch := omega) only [c_impl_ApplySubstitution, go_sem, Nat.reduceAdd, Nat.reduceSub, Nat.reduceLT, Nat.reduceLeDiff, Nat.reduceEqDiff, Nat.reduceBEq, Nat.reduceBneDiff, Nat.reduceMul, ↓reduceIte, Int.reduceToNat, reduceCtorEq, Int.reduceNeg, Int.reduceAdd, h1, h2, h3, Tm.osv, Tm.obs, m_impl_IsValidSubstitution, m_impl_isExpression, m_impl_Substitution_applied]
theorem l4ApplySubstitution_E (s : Sb) (ht : s.tame) (x : Tm) (hn : x.nodes ≤ 1099511627776) : E 36 [s.sv, x.sv] [] = some (.tup [(apTo s x).sv, .bool (apOk s x)], []) := by
  have h1 := l4Good_E s ht
  have h2 := l2Any_E x hn
  cases hs : s.ok with
  | false =>
    have ho : apOk s x = false := by unfold apOk; rw [hs]; rfl
    rw [hs] at h1
    rw [apTo_no ho, ho, zero_sv]
    refine E_walk k_spec_ApplySubstitution m_spec_ApplySubstitution (of_decide_eq_true rfl) ?_
    simp (disch := omega) only [c_spec_ApplySubstitution, go_sem, Nat.reduceAdd, Nat.reduceSub, Nat.reduceLT, Nat.reduceLeDiff, Nat.reduceEqDiff, Nat.reduceBEq, Nat.reduceBneDiff, Nat.reduceMul, ↓reduceIte, Int.reduceToNat, reduceCtorEq, Int.reduceNeg, Int.reduceAdd, h1, m_spec_l4Good]
  | true =>
    rw [hs] at h1
    cases hx : x.expr with
    | false =>
      have ho : apOk s x = false := by unfold apOk; rw [hx, Bool.false_and, Bool.and_false]
      rw [hx] at h2
      rw [apTo_no ho, ho, zero_sv]
      refine E_walk k_spec_ApplySubstitution m_spec_ApplySubstitution (of_decide_eq_true rfl) ?_
      simp (disch := omega) only [c_spec_ApplySubstitution, go_sem, Nat.reduceAdd, Nat.reduceSub, Nat.reduceLT, Nat.reduceLeDiff, Nat.reduceEqDiff, Nat.reduceBEq, Nat.reduceBneDiff, Nat.reduceMul, ↓reduceIte, Int.reduceToNat, reduceCtorEq, Int.reduceNeg, Int.reduceAdd, h1, h2, m_spec_l4Good, m_spec_l2Any]
    | true =>
      rw [hx] at h2
      have hn := Tm.expr_nodes hx
      have hk := Tm.ap_nodes (Sb.look_okF hs) x
      have h3 := l4Apply_E s hs ht x (by omega)
      have h4 := l2Any_E (x.ap s.look) (by omega)
      have h5 : (x.ap s.look).expr = (x.ap s.look).small := Tm.ap_any (Sb.look_okF hs) x hx
      rw [h5] at h4
      cases hq : (x.ap s.look).small with
      | true =>
        have ho : apOk s x = true := by unfold apOk; rw [hs, hx, hq]; rfl
        rw [hq] at h4
        rw [apTo_yes ho, ho]
        refine E_walk k_spec_ApplySubstitution m_spec_ApplySubstitution (of_decide_eq_true rfl) ?_
        simp (disch := omega) only [c_spec_ApplySubstitution, go_sem, Nat.reduceAdd, Nat.reduceSub, Nat.reduceLT, Nat.reduceLeDiff, Nat.reduceEqDiff, Nat.reduceBEq, Nat.reduceBneDiff, Nat.reduceMul, ↓reduceIte, Int.reduceToNat, reduceCtorEq, Int.reduceNeg, Int.reduceAdd, h1, h2, h3, h4, m_spec_l4Good, m_spec_l2Any, m_spec_l4Apply]
      | false =>
        have ho : apOk s x = false := by unfold apOk; rw [hq, Bool.and_false, Bool.and_false]
        rw [hq] at h4
        rw [apTo_no ho, ho, zero_sv]
        refine E_walk k_spec_ApplySubstitution m_spec_ApplySubstitution (of_decide_eq_true rfl) ?_
        simp (disch := omega) only [c_spec_ApplySubstitution, go_sem, Nat.reduceAdd, Nat.reduceSub, Nat.reduceLT, Nat.reduceLeDiff, Nat.reduceEqDiff, Nat.reduceBEq, Nat.reduceBneDiff, Nat.reduceMul, ↓reduceIte, Int.reduceToNat, reduceCtorEq, Int.reduceNeg, Int.reduceAdd, h1, h2, h3, h4, m_spec_l4Good, m_spec_l2Any, m_spec_l4Apply]
end Go.Proofs.Ytifpfjbpfekkmaa

set_option maxRecDepth 100000
set_option linter.unusedSimpArgs false
set_option linter.unusedVariables false
namespace Go.Proofs.Ytifpfjbpfekkmaa
open Go.RowKit

mutual
def Tm.wt : Tm → Nat
  | .mk name args => 1 + Tm.wtS args
def Tm.wtS : List Tm → Nat
  | [] => 0
  | x :: xs => Tm.wt x + Tm.wtS xs
end
theorem Tm.wt_eq (x : Tm) : x.wt = 1 + Tm.wtS x.args := by
  obtain ⟨name, args⟩ := x
  rw [Tm.wt]; rfl
mutual
noncomputable def Tm.mk1 : Tm → Int → Tm × Int
  | .mk name args, k => ((Tm.mk (markT k) ((Tm.mkS args (k + 1)).1)), (Tm.mkS args (k + 1)).2)
noncomputable def Tm.mkS : List Tm → Int → List Tm × Int
  | [], k => ([], k)
  | x :: xs, k => ((Tm.mk1 x k).1 :: (Tm.mkS xs (Tm.mk1 x k).2).1, (Tm.mkS xs (Tm.mk1 x k).2).2)
end
theorem Tm.mk1_eq (x : Tm) (k : Int) : x.mk1 k = ((Tm.mk (markT k) ((Tm.mkS x.args (k + 1)).1)), (Tm.mkS x.args (k + 1)).2) := by
  obtain ⟨name, args⟩ := x
  rw [Tm.mk1]; rfl
theorem Tm.mk1_d (x : Tm) (k : Int) : Tm.d (x.mk1 k).1 = [.str (markT k), .arr ((Tm.mkS x.args (k + 1)).1.map Tm.d)] := by
  rw [Tm.mk1_eq, Tm.d_eq]
  try rfl
theorem Tm.mk1_o (x : Tm) (k : Int) : Tm.o (x.mk1 k).1 = [.str (markT k), .ow ((Tm.mkS x.args (k + 1)).1.map Tm.o)] := by
  rw [Tm.mk1_eq, Tm.o_eq]
  try rfl
theorem Tm.mkS_end_of : ∀ (xs : List Tm) (k : Int), (∀ x ∈ xs, ∀ k, (x.mk1 k).2 = k + x.wt) → (Tm.mkS xs k).2 = k + Tm.wtS xs
  | [], k, _ => by simp [Tm.mkS, Tm.wtS]
  | x :: xs, k, h => by
    rw [Tm.mkS, Tm.wtS]
    have h1 := h x (by simp) k
    have h2 := Tm.mkS_end_of xs (x.mk1 k).2 fun y hy => h y (by simp [hy])
    dsimp only
    omega
theorem Tm.mk1_end (x : Tm) (k : Int) : (x.mk1 k).2 = k + x.wt := by
  rw [Tm.mk1_eq, Tm.wt_eq]
  have h := fun k => Tm.mkS_end_of x.args k fun y hy k => Tm.mk1_end y k
  simp only [h]
  omega
termination_by SizeOf.sizeOf x
decreasing_by exact Tm.lt_of_mem hy
theorem Tm.mkS_end (xs : List Tm) (k : Int) : (Tm.mkS xs k).2 = k + Tm.wtS xs := Tm.mkS_end_of xs k fun x _ k => Tm.mk1_end x k
theorem Tm.wtS_of : ∀ xs : List Tm, (∀ x ∈ xs, x.wt ≤ 5 * (1 + x.bulk)) → Tm.wtS xs ≤ 5 * (xs.length + Tm.sumB xs)
  | [], _ => by simp [Tm.wtS]
  | x :: xs, h => by
    have h1 := h x (by simp)
    have h2 := Tm.wtS_of xs fun y hy => h y (by simp [hy])
    rw [Tm.wtS, Tm.sumB]; simp only [List.length_cons]; omega
theorem Tm.wt_bulk (x : Tm) : x.wt ≤ 5 * (1 + x.bulk) := by
  rw [Tm.wt_eq, Tm.bulk_eq]
  have h := Tm.wtS_of x.args fun y hy => Tm.wt_bulk y
  omega
termination_by SizeOf.sizeOf x
decreasing_by exact Tm.lt_of_mem hy
theorem Tm.wtS_bulk (xs : List Tm) : Tm.wtS xs ≤ 5 * (xs.length + Tm.sumB xs) := Tm.wtS_of xs fun x _ => Tm.wt_bulk x
theorem Tm.length_wt : ∀ xs : List Tm, xs.length ≤ Tm.wtS xs
  | [] => Nat.le_refl _
  | x :: xs => by
    have := Tm.length_wt xs
    have := Tm.wt_eq x
    rw [Tm.wtS]; simp only [List.length_cons]; omega
def c_laws_markTermS : SC := (.seq (.reg [⟨(some 4), none, (.mv (.c (.int .i64 0)))⟩]) (.seq (.seq (.reg [⟨(some 5), none, (.mv (.c (.int .i64 0)))⟩]) (.block 0 (.loop [1, 1, 0, 0, 0, 1, 0, 0, 0, 0, 0, 0, 0, 0, 0, 0, 0, 0, 0, 0, 0, 0, 0, 0, 0, 0, 0, 0] (.seq (.seq (.reg [⟨(some 6), none, (.mv (.t 5))⟩, ⟨(some 7), none, (.mv (.t 0))⟩, ⟨(some 8), none, (.len false (.t 7))⟩, ⟨(some 9), none, (.bin .lss false (.t 6) (.t 8))⟩]) (.cond (.t 9) .skip (.exit 0))) (.seq (.block 1 (.seq (.reg [⟨(some 12), none, (.mv (.t 0))⟩, ⟨(some 13), none, (.mv (.t 5))⟩, ⟨(some 14), none, (.mv (.t 1))⟩, ⟨(some 15), none, (.call 150 [(.t 14)])⟩, ⟨(some 16), none, (.iaddr 2 (.t 12) (.t 13))⟩, ⟨(some 17), none, (.faddr 0 (.t 16))⟩, ⟨none, none, (.store 1 (.t 17) (.t 15))⟩]) (.seq (.reg [⟨(some 18), none, (.mv (.t 1))⟩, ⟨(some 19), none, (.bin .add false (.t 18) (.c (.int .i64 1)))⟩, ⟨(some 1), none, (.mv (.t 19))⟩]) (.reg [⟨(some 20), none, (.mv (.t 0))⟩, ⟨(some 21), none, (.mv (.t 5))⟩, ⟨(some 22), none, (.iaddr 2 (.t 20) (.t 21))⟩, ⟨(some 23), none, (.faddr 1 (.t 22))⟩, ⟨(some 24), none, (.load false 1 (.t 23))⟩, ⟨(some 25), none, (.mv (.t 1))⟩, ⟨(some 26), none, (.call 98 [(.t 24), (.t 25)])⟩, ⟨(some 1), none, (.mv (.t 26))⟩])))) (.reg [⟨(some 10), none, (.mv (.t 5))⟩, ⟨(some 11), none, (.bin .add false (.t 10) (.c (.int .i64 1)))⟩, ⟨(some 5), none, (.mv (.t 11))⟩])))))) (.seq (.reg [⟨(some 27), none, (.mv (.t 1))⟩, ⟨(some 4), none, (.mv (.t 27))⟩]) .ret)))
theorem k_laws_markTermS : codeOf Try.prog 98 = some ⟨28, c_laws_markTermS, [(.tmp 4)]⟩ := by kernel_rfl
theorem m_laws_markTermS : modes 98 = ⟨[true], .asis, none, true⟩ := by unfold modes; rfl
abbrev MarkTS_Term (xs : List Tm) : Prop := ∀ (k : Int) (ob : List Ob), 1 ≤ k → k + Tm.wtS xs ≤ 1099511627776 → toTree ob = [.tree (xs.map Tm.o) []] → E 98 [.ref 0, .int .i64 k] ob = some (.int .i64 (Tm.mkS xs k).2, [.tree ((Tm.mkS xs k).1.map Tm.o) []])
set_option maxHeartbeats 2000000 in
theorem markTS_Term_of (xs : List Tm) (ih : ∀ x ∈ xs, MarkTS_Term x.args) : MarkTS_Term xs := by
  intro k0 ob h1 h2 hob
  have hlen : ob.length = 1 := by rw [← toTree_len, hob]; rfl
  have hL := Tm.length_wt xs
  refine E_walk k_laws_markTermS m_laws_markTermS (of_decide_eq_true rfl) ?_
  simp (disch := omega) only [c_laws_markTermS, go_sem, Nat.reduceAdd, Nat.reduceSub, Nat.reduceLT, Nat.reduceLeDiff, Nat.reduceEqDiff, Nat.reduceBEq, Nat.reduceBneDiff, Nat.reduceMul, ↓reduceIte, Int.reduceToNat, reduceCtorEq, Int.reduceNeg, Int.reduceAdd, hob, hlen]
  refine go_loop (α := Int × (Int) × (List Tm)) (fun a => ⟨slots 28 0 [(0, .ref 0), (1, .int .i64 (a.2.1)), (5, .int .i64 (a.1))], [.tree (((a.2.2) ++ xs.drop (a.1).toNat).map Tm.o) []]⟩) (fun a => ∃ k : Nat, a.1 = k ∧ k ≤ (xs).length ∧ (a.2.2).length = k ∧ 1 ≤ (a.2.1) ∧ (a.2.1) + Tm.wtS (xs.drop k) = k0 + Tm.wtS xs ∧ Tm.mkS xs k0 = ((a.2.2) ++ (Tm.mkS (xs.drop k) (a.2.1)).1, (Tm.mkS (xs.drop k) (a.2.1)).2)) (fun a => (xs).length - (a.1).toNat) (0, k0, []) ⟨0, rfl, Nat.zero_le _, rfl, h1, by rw [List.drop_zero], by simp⟩ (by simp (disch := omega) only [go_sem, Nat.reduceAdd, Nat.reduceSub, Nat.reduceLT, Nat.reduceLeDiff, Nat.reduceEqDiff, Nat.reduceBEq, Nat.reduceBneDiff, Nat.reduceMul, ↓reduceIte, Int.reduceToNat, reduceCtorEq, Int.reduceNeg, Int.reduceAdd, Int.toNat_zero]) ?_
  rintro ⟨i, kk, dn⟩ ⟨k, hi, hk, hR⟩
  dsimp only at hi hR
  have hni : i.toNat = k := by omega
  have hni1 : (i + 1).toNat = k + 1 := by omega
  rcases Nat.lt_or_ge k (xs).length with hlt | hge
  · obtain ⟨hd, hk1, hkn, hm⟩ := hR
    have hdr : xs.drop k = xs[k] :: xs.drop (k + 1) := List.drop_eq_getElem_cons hlt
    have hel : (dn ++ xs.drop k).length = xs.length := by simp; omega
    have hg : (List.map Tm.o (dn ++ xs.drop k))[k]? = some [.str xs[k].name, .ow (xs[k].args.map Tm.o)] := by
      rw [← Tm.o_eq, hdr, List.getElem?_map, List.getElem?_append_right (by omega), hd, Nat.sub_self]; rfl
    rw [hdr, Tm.wtS] at hkn
    rw [hdr, Tm.mkS] at hm
    have hn1 := Tm.wt_eq xs[k]
    have e1 := Tm.mkS_end xs[k].args ((kk + 1))
    have t0 := markText_E (k := kk) (by omega) (by omega)
    have c58 := ih xs[k] (List.getElem_mem hlt) ((kk + 1)) [.tree (xs[k].args.map Tm.o) []] (by omega) (by omega) rfl
    have hs := map_set_mid Tm.o dn (xs.drop (k + 1)) xs[k] (xs[k].mk1 kk).1 hd
    rw [Tm.mk1_o, ← hdr] at hs
    have hgs : ∀ a, ((List.map Tm.o (dn ++ xs.drop k)).set k a)[k]? = some a := fun a => List.getElem?_set_self (by rw [List.length_map, hel]; exact hlt)
    have he := Tm.mk1_end xs[k] kk
    have three : ∀ z : Int, dec ((3 : Int) = 0) = false := fun _ => dec_f (by omega)
    simp (disch := omega) only [go_sem, Nat.reduceAdd, Nat.reduceSub, Nat.reduceLT, Nat.reduceLeDiff, Nat.reduceEqDiff, Nat.reduceBEq, Nat.reduceBneDiff, Nat.reduceMul, ↓reduceIte, Int.reduceToNat, reduceCtorEq, Int.reduceNeg, Int.reduceAdd, hni, hel, hg, t0, c58, m_laws_markTermS, m_laws_markText, hgs, List.length_set, List.set_set, hs, three 0]
    refine ⟨(i + 1, (xs[k].mk1 kk).2, dn ++ [(xs[k].mk1 kk).1]), ⟨k + 1, by dsimp only; omega, hlt, by dsimp only; simp [hd], by dsimp only; omega, by dsimp only; omega, by rw [hm]; simp⟩, by dsimp only; omega, ?_⟩
    dsimp only
    rw [hni1, Tm.mk1_eq]
    refine ⟨⟨?_, rfl⟩, rfl⟩
    first | rfl | omega
  · obtain ⟨hd, hk1, hkn, hm⟩ := hR
    have hdr : xs.drop k = [] := List.drop_eq_nil_of_le hge
    rw [hdr, Tm.mkS] at hm
    rw [hm]
    simp (disch := omega) only [go_sem, Nat.reduceAdd, Nat.reduceSub, Nat.reduceLT, Nat.reduceLeDiff, Nat.reduceEqDiff, Nat.reduceBEq, Nat.reduceBneDiff, Nat.reduceMul, ↓reduceIte, Int.reduceToNat, reduceCtorEq, Int.reduceNeg, Int.reduceAdd, hni, hdr, List.append_nil]
theorem markTS1_Term (x : Tm) : MarkTS_Term x.args := markTS_Term_of x.args fun y hy => markTS1_Term y
termination_by SizeOf.sizeOf x
decreasing_by exact Tm.lt_of_mem hy
theorem markTS_Term (xs : List Tm) : MarkTS_Term xs := markTS_Term_of xs fun y _ => markTS1_Term y
def Lt.wt (x : Lt) : Nat := 2 + Tm.wtS x.atom.args
theorem Lt.wt_eq (x : Lt) : x.wt = 2 + Tm.wtS x.atom.args := rfl
noncomputable def Lt.mk1 (x : Lt) (k : Int) : Lt × Int := ((Lt.mk (dec (k.tmod 3 = 0)) (Tm.mk (markT (k + 1)) ((Tm.mkS x.atom.args (k + 1 + 1)).1))), (Tm.mkS x.atom.args (k + 1 + 1)).2)
theorem Lt.mk1_eq (x : Lt) (k : Int) : x.mk1 k = ((Lt.mk (dec (k.tmod 3 = 0)) (Tm.mk (markT (k + 1)) ((Tm.mkS x.atom.args (k + 1 + 1)).1))), (Tm.mkS x.atom.args (k + 1 + 1)).2) := rfl
def Lt.wtS : List Lt → Nat
  | [] => 0
  | x :: xs => Lt.wt x + Lt.wtS xs
noncomputable def Lt.mkS : List Lt → Int → List Lt × Int
  | [], k => ([], k)
  | x :: xs, k => ((Lt.mk1 x k).1 :: (Lt.mkS xs (Lt.mk1 x k).2).1, (Lt.mkS xs (Lt.mk1 x k).2).2)
theorem Lt.mk1_d (x : Lt) (k : Int) : Lt.d (x.mk1 k).1 = [.bool (dec (k.tmod 3 = 0)), .str (markT (k + 1)), .arr ((Tm.mkS x.atom.args (k + 1 + 1)).1.map Tm.d)] := by
  rw [Lt.mk1_eq, Lt.d_eq]
  try rfl
theorem Lt.mk1_o (x : Lt) (k : Int) : Lt.o (x.mk1 k).1 = [.bool (dec (k.tmod 3 = 0)), .str (markT (k + 1)), .ow ((Tm.mkS x.atom.args (k + 1 + 1)).1.map Tm.o)] := by
  rw [Lt.mk1_eq, Lt.o_eq]
  try rfl
theorem Lt.mk1_end (x : Lt) (k : Int) : (x.mk1 k).2 = k + x.wt := by
  rw [Lt.mk1_eq, Lt.wt_eq]
  first
    | omega
    | (simp only [Tm.mkS_end]; done)
    | (simp only [Tm.mkS_end]; omega)
    | simp
theorem Lt.mkS_end : ∀ (xs : List Lt) (k : Int), (Lt.mkS xs k).2 = k + Lt.wtS xs
  | [], k => by simp [Lt.mkS, Lt.wtS]
  | x :: xs, k => by
    rw [Lt.mkS, Lt.wtS]
    have h1 := Lt.mk1_end x k
    have h2 := Lt.mkS_end xs (x.mk1 k).2
    dsimp only
    omega
theorem Lt.wt_bulk (x : Lt) : x.wt ≤ 5 * (1 + x.bulk) := by
  rw [Lt.wt_eq, Lt.bulk_eq]
  have h0 := Tm.wtS_bulk x.atom.args
  have q1 := Tm.bulk_eq x.atom
  omega
theorem Lt.wtS_bulk : ∀ xs : List Lt, Lt.wtS xs ≤ 5 * (xs.length + Lt.sumB xs)
  | [] => by simp [Lt.wtS]
  | x :: xs => by
    have h1 := Lt.wt_bulk x
    have h2 := Lt.wtS_bulk xs
    rw [Lt.wtS, Lt.sumB]; simp only [List.length_cons]; omega
theorem Lt.length_wt : ∀ xs : List Lt, xs.length ≤ Lt.wtS xs
  | [] => Nat.le_refl _
  | x :: xs => by
    have := Lt.length_wt xs
    have := Lt.wt_eq x
    rw [Lt.wtS]; simp only [List.length_cons]; omega
mutual
def Fm.wt : Fm → Nat
  | .mk op atom var parts => 3 + Tm.wtS atom.args + Fm.wtS parts
def Fm.wtS : List Fm → Nat
  | [] => 0
  | x :: xs => Fm.wt x + Fm.wtS xs
end
theorem Fm.wt_eq (x : Fm) : x.wt = 3 + Tm.wtS x.atom.args + Fm.wtS x.parts := by
  obtain ⟨op, atom, var, parts⟩ := x
  rw [Fm.wt]; rfl
mutual
noncomputable def Fm.mk1 : Fm → Int → Fm × Int
  | .mk op atom var parts, k => ((Fm.mk (k) (Tm.mk (markT (k + 1)) ((Tm.mkS atom.args (k + 1 + 1)).1)) (markT (Tm.mkS atom.args (k + 1 + 1)).2) ((Fm.mkS parts ((Tm.mkS atom.args (k + 1 + 1)).2 + 1)).1)), (Fm.mkS parts ((Tm.mkS atom.args (k + 1 + 1)).2 + 1)).2)
noncomputable def Fm.mkS : List Fm → Int → List Fm × Int
  | [], k => ([], k)
  | x :: xs, k => ((Fm.mk1 x k).1 :: (Fm.mkS xs (Fm.mk1 x k).2).1, (Fm.mkS xs (Fm.mk1 x k).2).2)
end
theorem Fm.mk1_eq (x : Fm) (k : Int) : x.mk1 k = ((Fm.mk (k) (Tm.mk (markT (k + 1)) ((Tm.mkS x.atom.args (k + 1 + 1)).1)) (markT (Tm.mkS x.atom.args (k + 1 + 1)).2) ((Fm.mkS x.parts ((Tm.mkS x.atom.args (k + 1 + 1)).2 + 1)).1)), (Fm.mkS x.parts ((Tm.mkS x.atom.args (k + 1 + 1)).2 + 1)).2) := by
  obtain ⟨op, atom, var, parts⟩ := x
  rw [Fm.mk1]; rfl
theorem Fm.mk1_d (x : Fm) (k : Int) : Fm.d (x.mk1 k).1 = [.int k, .str (markT (k + 1)), .arr ((Tm.mkS x.atom.args (k + 1 + 1)).1.map Tm.d), .str (markT (Tm.mkS x.atom.args (k + 1 + 1)).2), .arr ((Fm.mkS x.parts ((Tm.mkS x.atom.args (k + 1 + 1)).2 + 1)).1.map Fm.d)] := by
  rw [Fm.mk1_eq, Fm.d_eq]
  try rfl
theorem Fm.mk1_o (x : Fm) (k : Int) : Fm.o (x.mk1 k).1 = [.int k, .str (markT (k + 1)), .ow ((Tm.mkS x.atom.args (k + 1 + 1)).1.map Tm.o), .str (markT (Tm.mkS x.atom.args (k + 1 + 1)).2), .ow ((Fm.mkS x.parts ((Tm.mkS x.atom.args (k + 1 + 1)).2 + 1)).1.map Fm.o)] := by
  rw [Fm.mk1_eq, Fm.o_eq]
  try rfl
theorem Fm.mkS_end_of : ∀ (xs : List Fm) (k : Int), (∀ x ∈ xs, ∀ k, (x.mk1 k).2 = k + x.wt) → (Fm.mkS xs k).2 = k + Fm.wtS xs
  | [], k, _ => by simp [Fm.mkS, Fm.wtS]
  | x :: xs, k, h => by
    rw [Fm.mkS, Fm.wtS]
    have h1 := h x (by simp) k
    have h2 := Fm.mkS_end_of xs (x.mk1 k).2 fun y hy => h y (by simp [hy])
    dsimp only
    omega
theorem Fm.mk1_end (x : Fm) (k : Int) : (x.mk1 k).2 = k + x.wt := by
  rw [Fm.mk1_eq, Fm.wt_eq]
  have h := fun k => Fm.mkS_end_of x.parts k fun y hy k => Fm.mk1_end y k
  simp only [h, Tm.mkS_end]
  omega
termination_by SizeOf.sizeOf x
decreasing_by exact Fm.lt_of_mem hy
theorem Fm.mkS_end (xs : List Fm) (k : Int) : (Fm.mkS xs k).2 = k + Fm.wtS xs := Fm.mkS_end_of xs k fun x _ k => Fm.mk1_end x k
theorem Fm.wtS_of : ∀ xs : List Fm, (∀ x ∈ xs, x.wt ≤ 5 * (1 + x.bulk)) → Fm.wtS xs ≤ 5 * (xs.length + Fm.sumB xs)
  | [], _ => by simp [Fm.wtS]
  | x :: xs, h => by
    have h1 := h x (by simp)
    have h2 := Fm.wtS_of xs fun y hy => h y (by simp [hy])
    rw [Fm.wtS, Fm.sumB]; simp only [List.length_cons]; omega
theorem Fm.wt_bulk (x : Fm) : x.wt ≤ 5 * (1 + x.bulk) := by
  rw [Fm.wt_eq, Fm.bulk_eq]
  have h := Fm.wtS_of x.parts fun y hy => Fm.wt_bulk y
  have h0 := Tm.wtS_bulk x.atom.args
  have q1 := Tm.bulk_eq x.atom
  omega
termination_by SizeOf.sizeOf x
decreasing_by exact Fm.lt_of_mem hy
theorem Fm.wtS_bulk (xs : List Fm) : Fm.wtS xs ≤ 5 * (xs.length + Fm.sumB xs) := Fm.wtS_of xs fun x _ => Fm.wt_bulk x
theorem Fm.length_wt : ∀ xs : List Fm, xs.length ≤ Fm.wtS xs
  | [] => Nat.le_refl _
  | x :: xs => by
    have := Fm.length_wt xs
    have := Fm.wt_eq x
    rw [Fm.wtS]; simp only [List.length_cons]; omega
def c_laws_markFormulaS : SC := (.seq (.reg [⟨(some 4), none, (.mv (.c (.int .i64 0)))⟩]) (.seq (.seq (.reg [⟨(some 5), none, (.mv (.c (.int .i64 0)))⟩]) (.block 0 (.loop [1, 1, 0, 0, 0, 1, 0, 0, 0, 0, 0, 0, 0, 0, 0, 0, 0, 0, 0, 0, 0, 0, 0, 0, 0, 0, 0, 0, 0, 0, 0, 0, 0, 0, 0, 0, 0, 0, 0, 0, 0, 0, 0, 0, 0, 0, 0, 0, 0, 0, 0, 0] (.seq (.seq (.reg [⟨(some 6), none, (.mv (.t 5))⟩, ⟨(some 7), none, (.mv (.t 0))⟩, ⟨(some 8), none, (.len false (.t 7))⟩, ⟨(some 9), none, (.bin .lss false (.t 6) (.t 8))⟩]) (.cond (.t 9) .skip (.exit 0))) (.seq (.block 1 (.seq (.reg [⟨(some 12), none, (.mv (.t 0))⟩, ⟨(some 13), none, (.mv (.t 5))⟩, ⟨(some 14), none, (.mv (.t 1))⟩, ⟨(some 15), none, (.iaddr 5 (.t 12) (.t 13))⟩, ⟨(some 16), none, (.faddr 0 (.t 15))⟩, ⟨none, none, (.store 1 (.t 16) (.t 14))⟩]) (.seq (.reg [⟨(some 17), none, (.mv (.t 1))⟩, ⟨(some 18), none, (.bin .add false (.t 17) (.c (.int .i64 1)))⟩, ⟨(some 1), none, (.mv (.t 18))⟩]) (.seq (.reg [⟨(some 19), none, (.mv (.t 0))⟩, ⟨(some 20), none, (.mv (.t 5))⟩, ⟨(some 21), none, (.mv (.t 1))⟩, ⟨(some 22), none, (.call 150 [(.t 21)])⟩, ⟨(some 23), none, (.iaddr 5 (.t 19) (.t 20))⟩, ⟨(some 24), none, (.faddr 1 (.t 23))⟩, ⟨(some 25), none, (.faddr 0 (.t 24))⟩, ⟨none, none, (.store 1 (.t 25) (.t 22))⟩]) (.seq (.reg [⟨(some 26), none, (.mv (.t 1))⟩, ⟨(some 27), none, (.bin .add false (.t 26) (.c (.int .i64 1)))⟩, ⟨(some 1), none, (.mv (.t 27))⟩]) (.seq (.reg [⟨(some 28), none, (.mv (.t 0))⟩, ⟨(some 29), none, (.mv (.t 5))⟩, ⟨(some 30), none, (.iaddr 5 (.t 28) (.t 29))⟩, ⟨(some 31), none, (.faddr 1 (.t 30))⟩, ⟨(some 32), none, (.faddr 1 (.t 31))⟩, ⟨(some 33), none, (.load false 1 (.t 32))⟩, ⟨(some 34), none, (.mv (.t 1))⟩, ⟨(some 35), none, (.call 98 [(.t 33), (.t 34)])⟩, ⟨(some 1), none, (.mv (.t 35))⟩]) (.seq (.reg [⟨(some 36), none, (.mv (.t 0))⟩, ⟨(some 37), none, (.mv (.t 5))⟩, ⟨(some 38), none, (.mv (.t 1))⟩, ⟨(some 39), none, (.call 150 [(.t 38)])⟩, ⟨(some 40), none, (.iaddr 5 (.t 36) (.t 37))⟩, ⟨(some 41), none, (.faddr 3 (.t 40))⟩, ⟨none, none, (.store 1 (.t 41) (.t 39))⟩]) (.seq (.reg [⟨(some 42), none, (.mv (.t 1))⟩, ⟨(some 43), none, (.bin .add false (.t 42) (.c (.int .i64 1)))⟩, ⟨(some 1), none, (.mv (.t 43))⟩]) (.reg [⟨(some 44), none, (.mv (.t 0))⟩, ⟨(some 45), none, (.mv (.t 5))⟩, ⟨(some 46), none, (.iaddr 5 (.t 44) (.t 45))⟩, ⟨(some 47), none, (.faddr 4 (.t 46))⟩, ⟨(some 48), none, (.load false 1 (.t 47))⟩, ⟨(some 49), none, (.mv (.t 1))⟩, ⟨(some 50), none, (.call 113 [(.t 48), (.t 49)])⟩, ⟨(some 1), none, (.mv (.t 50))⟩]))))))))) (.reg [⟨(some 10), none, (.mv (.t 5))⟩, ⟨(some 11), none, (.bin .add false (.t 10) (.c (.int .i64 1)))⟩, ⟨(some 5), none, (.mv (.t 11))⟩])))))) (.seq (.reg [⟨(some 51), none, (.mv (.t 1))⟩, ⟨(some 4), none, (.mv (.t 51))⟩]) .ret)))
theorem k_laws_markFormulaS : codeOf Try.prog 113 = some ⟨52, c_laws_markFormulaS, [(.tmp 4)]⟩ := by kernel_rfl
theorem m_laws_markFormulaS : modes 113 = ⟨[true], .asis, none, true⟩ := by unfold modes; rfl
abbrev MarkTS_Formula (xs : List Fm) : Prop := ∀ (k : Int) (ob : List Ob), 1 ≤ k → k + Fm.wtS xs ≤ 1099511627776 → toTree ob = [.tree (xs.map Fm.o) []] → E 113 [.ref 0, .int .i64 k] ob = some (.int .i64 (Fm.mkS xs k).2, [.tree ((Fm.mkS xs k).1.map Fm.o) []])
set_option maxHeartbeats 2000000 in
theorem markTS_Formula_of (xs : List Fm) (ih : ∀ x ∈ xs, MarkTS_Formula x.parts) : MarkTS_Formula xs := by
  intro k0 ob h1 h2 hob
  have hlen : ob.length = 1 := by rw [← toTree_len, hob]; rfl
  have hL := Fm.length_wt xs
  refine E_walk k_laws_markFormulaS m_laws_markFormulaS (of_decide_eq_true rfl) ?_
  simp (disch := omega) only [c_laws_markFormulaS, go_sem, Nat.reduceAdd, Nat.reduceSub, Nat.reduceLT, Nat.reduceLeDiff, Nat.reduceEqDiff, Nat.reduceBEq, Nat.reduceBneDiff, Nat.reduceMul, ↓reduceIte, Int.reduceToNat, reduceCtorEq, Int.reduceNeg, Int.reduceAdd, hob, hlen]
  refine go_loop (α := Int × (Int) × (List Fm)) (fun a => ⟨slots 52 0 [(0, .ref 0), (1, .int .i64 (a.2.1)), (5, .int .i64 (a.1))], [.tree (((a.2.2) ++ xs.drop (a.1).toNat).map Fm.o) []]⟩) (fun a => ∃ k : Nat, a.1 = k ∧ k ≤ (xs).length ∧ (a.2.2).length = k ∧ 1 ≤ (a.2.1) ∧ (a.2.1) + Fm.wtS (xs.drop k) = k0 + Fm.wtS xs ∧ Fm.mkS xs k0 = ((a.2.2) ++ (Fm.mkS (xs.drop k) (a.2.1)).1, (Fm.mkS (xs.drop k) (a.2.1)).2)) (fun a => (xs).length - (a.1).toNat) (0, k0, []) ⟨0, rfl, Nat.zero_le _, rfl, h1, by rw [List.drop_zero], by simp⟩ (by simp (disch := omega) only [go_sem, Nat.reduceAdd, Nat.reduceSub, Nat.reduceLT, Nat.reduceLeDiff, Nat.reduceEqDiff, Nat.reduceBEq, Nat.reduceBneDiff, Nat.reduceMul, ↓reduceIte, Int.reduceToNat, reduceCtorEq, Int.reduceNeg, Int.reduceAdd, Int.toNat_zero]) ?_
  rintro ⟨i, kk, dn⟩ ⟨k, hi, hk, hR⟩
  dsimp only at hi hR
  have hni : i.toNat = k := by omega
  have hni1 : (i + 1).toNat = k + 1 := by omega
  rcases Nat.lt_or_ge k (xs).length with hlt | hge
  · obtain ⟨hd, hk1, hkn, hm⟩ := hR
    have hdr : xs.drop k = xs[k] :: xs.drop (k + 1) := List.drop_eq_getElem_cons hlt
    have hel : (dn ++ xs.drop k).length = xs.length := by simp; omega
    have hg : (List.map Fm.o (dn ++ xs.drop k))[k]? = some [.int xs[k].op, .str xs[k].atom.name, .ow (xs[k].atom.args.map Tm.o), .str xs[k].var, .ow (xs[k].parts.map Fm.o)] := by
      rw [← Fm.o_eq, hdr, List.getElem?_map, List.getElem?_append_right (by omega), hd, Nat.sub_self]; rfl
    rw [hdr, Fm.wtS] at hkn
    rw [hdr, Fm.mkS] at hm
    have hn1 := Fm.wt_eq xs[k]
    have e2 := Tm.mkS_end xs[k].atom.args ((kk + 1 + 1))
    have e4 := Fm.mkS_end xs[k].parts (((Tm.mkS xs[k].atom.args (kk + 1 + 1)).2 + 1))
    have t0 := markText_E (k := (kk + 1)) (by omega) (by omega)
    have c64 := markTS_Term xs[k].atom.args ((kk + 1 + 1)) [.tree (xs[k].atom.args.map Tm.o) []] (by omega) (by omega) rfl
    have t187 := markText_E (k := (Tm.mkS xs[k].atom.args (kk + 1 + 1)).2) (by omega) (by omega)
    have c284 := ih xs[k] (List.getElem_mem hlt) (((Tm.mkS xs[k].atom.args (kk + 1 + 1)).2 + 1)) [.tree (xs[k].parts.map Fm.o) []] (by omega) (by omega) rfl
    have hs := map_set_mid Fm.o dn (xs.drop (k + 1)) xs[k] (xs[k].mk1 kk).1 hd
    rw [Fm.mk1_o, ← hdr] at hs
    have hgs : ∀ a, ((List.map Fm.o (dn ++ xs.drop k)).set k a)[k]? = some a := fun a => List.getElem?_set_self (by rw [List.length_map, hel]; exact hlt)
    have he := Fm.mk1_end xs[k] kk
    have three : ∀ z : Int, dec ((3 : Int) = 0) = false := fun _ => dec_f (by omega)
    simp (disch := omega) only [go_sem, Nat.reduceAdd, Nat.reduceSub, Nat.reduceLT, Nat.reduceLeDiff, Nat.reduceEqDiff, Nat.reduceBEq, Nat.reduceBneDiff, Nat.reduceMul, ↓reduceIte, Int.reduceToNat, reduceCtorEq, Int.reduceNeg, Int.reduceAdd, hni, hel, hg, t0, c64, m_laws_markTermS, t187, c284, m_laws_markFormulaS, m_laws_markText, hgs, List.length_set, List.set_set, hs, three 0]
    refine ⟨(i + 1, (xs[k].mk1 kk).2, dn ++ [(xs[k].mk1 kk).1]), ⟨k + 1, by dsimp only; omega, hlt, by dsimp only; simp [hd], by dsimp only; omega, by dsimp only; omega, by rw [hm]; simp⟩, by dsimp only; omega, ?_⟩
    dsimp only
    rw [hni1, Fm.mk1_eq]
    refine ⟨⟨?_, rfl⟩, rfl⟩
    first | rfl | omega
  · obtain ⟨hd, hk1, hkn, hm⟩ := hR
    have hdr : xs.drop k = [] := List.drop_eq_nil_of_le hge
    rw [hdr, Fm.mkS] at hm
    rw [hm]
    simp (disch := omega) only [go_sem, Nat.reduceAdd, Nat.reduceSub, Nat.reduceLT, Nat.reduceLeDiff, Nat.reduceEqDiff, Nat.reduceBEq, Nat.reduceBneDiff, Nat.reduceMul, ↓reduceIte, Int.reduceToNat, reduceCtorEq, Int.reduceNeg, Int.reduceAdd, hni, hdr, List.append_nil]
theorem markTS1_Formula (x : Fm) : MarkTS_Formula x.parts := markTS_Formula_of x.parts fun y hy => markTS1_Formula y
termination_by SizeOf.sizeOf x
decreasing_by exact Fm.lt_of_mem hy
theorem markTS_Formula (xs : List Fm) : MarkTS_Formula xs := markTS_Formula_of xs fun y _ => markTS1_Formula y
def Ag.wt (x : Ag) : Nat := 2
theorem Ag.wt_eq (x : Ag) : x.wt = 2 := rfl
noncomputable def Ag.mk1 (x : Ag) (k : Int) : Ag × Int := ((Ag.mk (markT k) ((k + 1))), (k + 1 + 1))
theorem Ag.mk1_eq (x : Ag) (k : Int) : x.mk1 k = ((Ag.mk (markT k) ((k + 1))), (k + 1 + 1)) := rfl
def Ag.wtS : List Ag → Nat
  | [] => 0
  | x :: xs => Ag.wt x + Ag.wtS xs
noncomputable def Ag.mkS : List Ag → Int → List Ag × Int
  | [], k => ([], k)
  | x :: xs, k => ((Ag.mk1 x k).1 :: (Ag.mkS xs (Ag.mk1 x k).2).1, (Ag.mkS xs (Ag.mk1 x k).2).2)
theorem Ag.mk1_d (x : Ag) (k : Int) : Ag.d (x.mk1 k).1 = [.str (markT k), .int (k + 1)] := by
  rw [Ag.mk1_eq, Ag.d_eq]
  try rfl
theorem Ag.mk1_o (x : Ag) (k : Int) : Ag.o (x.mk1 k).1 = [.str (markT k), .int (k + 1)] := by
  rw [Ag.mk1_eq, Ag.o_eq]
  try rfl
theorem Ag.mk1_end (x : Ag) (k : Int) : (x.mk1 k).2 = k + x.wt := by
  rw [Ag.mk1_eq, Ag.wt_eq]
  first
    | omega
    | (simp only [Nat.cast_ofNat_Int]; done)
    | (simp only [Nat.cast_ofNat_Int]; omega)
    | simp
theorem Ag.mkS_end : ∀ (xs : List Ag) (k : Int), (Ag.mkS xs k).2 = k + Ag.wtS xs
  | [], k => by simp [Ag.mkS, Ag.wtS]
  | x :: xs, k => by
    rw [Ag.mkS, Ag.wtS]
    have h1 := Ag.mk1_end x k
    have h2 := Ag.mkS_end xs (x.mk1 k).2
    dsimp only
    omega
theorem Ag.wt_bulk (x : Ag) : x.wt ≤ 5 * (1 + x.bulk) := by
  rw [Ag.wt_eq, Ag.bulk_eq]
  omega
theorem Ag.wtS_bulk : ∀ xs : List Ag, Ag.wtS xs ≤ 5 * (xs.length + Ag.sumB xs)
  | [] => by simp [Ag.wtS]
  | x :: xs => by
    have h1 := Ag.wt_bulk x
    have h2 := Ag.wtS_bulk xs
    rw [Ag.wtS, Ag.sumB]; simp only [List.length_cons]; omega
theorem Ag.length_wt : ∀ xs : List Ag, xs.length ≤ Ag.wtS xs
  | [] => Nat.le_refl _
  | x :: xs => by
    have := Ag.length_wt xs
    have := Ag.wt_eq x
    rw [Ag.wtS]; simp only [List.length_cons]; omega
def Bd.wt (x : Bd) : Nat := 2 + Tm.wtS x.term.args
theorem Bd.wt_eq (x : Bd) : x.wt = 2 + Tm.wtS x.term.args := rfl
noncomputable def Bd.mk1 (x : Bd) (k : Int) : Bd × Int := ((Bd.mk (markT k) (Tm.mk (markT (k + 1)) ((Tm.mkS x.term.args (k + 1 + 1)).1))), (Tm.mkS x.term.args (k + 1 + 1)).2)
theorem Bd.mk1_eq (x : Bd) (k : Int) : x.mk1 k = ((Bd.mk (markT k) (Tm.mk (markT (k + 1)) ((Tm.mkS x.term.args (k + 1 + 1)).1))), (Tm.mkS x.term.args (k + 1 + 1)).2) := rfl
def Bd.wtS : List Bd → Nat
  | [] => 0
  | x :: xs => Bd.wt x + Bd.wtS xs
noncomputable def Bd.mkS : List Bd → Int → List Bd × Int
  | [], k => ([], k)
  | x :: xs, k => ((Bd.mk1 x k).1 :: (Bd.mkS xs (Bd.mk1 x k).2).1, (Bd.mkS xs (Bd.mk1 x k).2).2)
theorem Bd.mk1_d (x : Bd) (k : Int) : Bd.d (x.mk1 k).1 = [.str (markT k), .str (markT (k + 1)), .arr ((Tm.mkS x.term.args (k + 1 + 1)).1.map Tm.d)] := by
  rw [Bd.mk1_eq, Bd.d_eq]
  try rfl
theorem Bd.mk1_o (x : Bd) (k : Int) : Bd.o (x.mk1 k).1 = [.str (markT k), .str (markT (k + 1)), .ow ((Tm.mkS x.term.args (k + 1 + 1)).1.map Tm.o)] := by
  rw [Bd.mk1_eq, Bd.o_eq]
  try rfl
theorem Bd.mk1_end (x : Bd) (k : Int) : (x.mk1 k).2 = k + x.wt := by
  rw [Bd.mk1_eq, Bd.wt_eq]
  first
    | omega
    | (simp only [Tm.mkS_end]; done)
    | (simp only [Tm.mkS_end]; omega)
    | simp
theorem Bd.mkS_end : ∀ (xs : List Bd) (k : Int), (Bd.mkS xs k).2 = k + Bd.wtS xs
  | [], k => by simp [Bd.mkS, Bd.wtS]
  | x :: xs, k => by
    rw [Bd.mkS, Bd.wtS]
    have h1 := Bd.mk1_end x k
    have h2 := Bd.mkS_end xs (x.mk1 k).2
    dsimp only
    omega
theorem Bd.wt_bulk (x : Bd) : x.wt ≤ 5 * (1 + x.bulk) := by
  rw [Bd.wt_eq, Bd.bulk_eq]
  have h0 := Tm.wtS_bulk x.term.args
  have q1 := Tm.bulk_eq x.term
  omega
theorem Bd.wtS_bulk : ∀ xs : List Bd, Bd.wtS xs ≤ 5 * (xs.length + Bd.sumB xs)
  | [] => by simp [Bd.wtS]
  | x :: xs => by
    have h1 := Bd.wt_bulk x
    have h2 := Bd.wtS_bulk xs
    rw [Bd.wtS, Bd.sumB]; simp only [List.length_cons]; omega
theorem Bd.length_wt : ∀ xs : List Bd, xs.length ≤ Bd.wtS xs
  | [] => Nat.le_refl _
  | x :: xs => by
    have := Bd.length_wt xs
    have := Bd.wt_eq x
    rw [Bd.wtS]; simp only [List.length_cons]; omega
def c_laws_markBindingS : SC := (.seq (.reg [⟨(some 4), none, (.mv (.c (.int .i64 0)))⟩]) (.seq (.seq (.reg [⟨(some 5), none, (.mv (.c (.int .i64 0)))⟩]) (.block 0 (.loop [1, 1, 0, 0, 0, 1, 0, 0, 0, 0, 0, 0, 0, 0, 0, 0, 0, 0, 0, 0, 0, 0, 0, 0, 0, 0, 0, 0, 0, 0, 0, 0, 0, 0, 0, 0, 0, 0] (.seq (.seq (.reg [⟨(some 6), none, (.mv (.t 5))⟩, ⟨(some 7), none, (.mv (.t 0))⟩, ⟨(some 8), none, (.len false (.t 7))⟩, ⟨(some 9), none, (.bin .lss false (.t 6) (.t 8))⟩]) (.cond (.t 9) .skip (.exit 0))) (.seq (.block 1 (.seq (.reg [⟨(some 12), none, (.mv (.t 0))⟩, ⟨(some 13), none, (.mv (.t 5))⟩, ⟨(some 14), none, (.mv (.t 1))⟩, ⟨(some 15), none, (.call 150 [(.t 14)])⟩, ⟨(some 16), none, (.iaddr 3 (.t 12) (.t 13))⟩, ⟨(some 17), none, (.faddr 0 (.t 16))⟩, ⟨none, none, (.store 1 (.t 17) (.t 15))⟩]) (.seq (.reg [⟨(some 18), none, (.mv (.t 1))⟩, ⟨(some 19), none, (.bin .add false (.t 18) (.c (.int .i64 1)))⟩, ⟨(some 1), none, (.mv (.t 19))⟩]) (.seq (.reg [⟨(some 20), none, (.mv (.t 0))⟩, ⟨(some 21), none, (.mv (.t 5))⟩, ⟨(some 22), none, (.mv (.t 1))⟩, ⟨(some 23), none, (.call 150 [(.t 22)])⟩, ⟨(some 24), none, (.iaddr 3 (.t 20) (.t 21))⟩, ⟨(some 25), none, (.faddr 1 (.t 24))⟩, ⟨(some 26), none, (.faddr 0 (.t 25))⟩, ⟨none, none, (.store 1 (.t 26) (.t 23))⟩]) (.seq (.reg [⟨(some 27), none, (.mv (.t 1))⟩, ⟨(some 28), none, (.bin .add false (.t 27) (.c (.int .i64 1)))⟩, ⟨(some 1), none, (.mv (.t 28))⟩]) (.reg [⟨(some 29), none, (.mv (.t 0))⟩, ⟨(some 30), none, (.mv (.t 5))⟩, ⟨(some 31), none, (.iaddr 3 (.t 29) (.t 30))⟩, ⟨(some 32), none, (.faddr 1 (.t 31))⟩, ⟨(some 33), none, (.faddr 1 (.t 32))⟩, ⟨(some 34), none, (.load false 1 (.t 33))⟩, ⟨(some 35), none, (.mv (.t 1))⟩, ⟨(some 36), none, (.call 98 [(.t 34), (.t 35)])⟩, ⟨(some 1), none, (.mv (.t 36))⟩])))))) (.reg [⟨(some 10), none, (.mv (.t 5))⟩, ⟨(some 11), none, (.bin .add false (.t 10) (.c (.int .i64 1)))⟩, ⟨(some 5), none, (.mv (.t 11))⟩])))))) (.seq (.reg [⟨(some 37), none, (.mv (.t 1))⟩, ⟨(some 4), none, (.mv (.t 37))⟩]) .ret)))
theorem k_laws_markBindingS : codeOf Try.prog 97 = some ⟨38, c_laws_markBindingS, [(.tmp 4)]⟩ := by kernel_rfl
theorem m_laws_markBindingS : modes 97 = ⟨[true], .asis, none, true⟩ := by unfold modes; rfl
abbrev MarkTS_Binding (xs : List Bd) : Prop := ∀ (k : Int) (ob : List Ob), 1 ≤ k → k + Bd.wtS xs ≤ 1099511627776 → toTree ob = [.tree (xs.map Bd.o) []] → E 97 [.ref 0, .int .i64 k] ob = some (.int .i64 (Bd.mkS xs k).2, [.tree ((Bd.mkS xs k).1.map Bd.o) []])
set_option maxHeartbeats 2000000 in
theorem markTS_Binding_of (xs : List Bd) : MarkTS_Binding xs := by
  intro k0 ob h1 h2 hob
  have hlen : ob.length = 1 := by rw [← toTree_len, hob]; rfl
  have hL := Bd.length_wt xs
  refine E_walk k_laws_markBindingS m_laws_markBindingS (of_decide_eq_true rfl) ?_
  simp (disch := omega) only [c_laws_markBindingS, go_sem, Nat.reduceAdd, Nat.reduceSub, Nat.reduceLT, Nat.reduceLeDiff, Nat.reduceEqDiff, Nat.reduceBEq, Nat.reduceBneDiff, Nat.reduceMul, ↓reduceIte, Int.reduceToNat, reduceCtorEq, Int.reduceNeg, Int.reduceAdd, hob, hlen]
  refine go_loop (α := Int × (Int) × (List Bd)) (fun a => ⟨slots 38 0 [(0, .ref 0), (1, .int .i64 (a.2.1)), (5, .int .i64 (a.1))], [.tree (((a.2.2) ++ xs.drop (a.1).toNat).map Bd.o) []]⟩) (fun a => ∃ k : Nat, a.1 = k ∧ k ≤ (xs).length ∧ (a.2.2).length = k ∧ 1 ≤ (a.2.1) ∧ (a.2.1) + Bd.wtS (xs.drop k) = k0 + Bd.wtS xs ∧ Bd.mkS xs k0 = ((a.2.2) ++ (Bd.mkS (xs.drop k) (a.2.1)).1, (Bd.mkS (xs.drop k) (a.2.1)).2)) (fun a => (xs).length - (a.1).toNat) (0, k0, []) ⟨0, rfl, Nat.zero_le _, rfl, h1, by rw [List.drop_zero], by simp⟩ (by simp (disch := omega) only [go_sem, Nat.reduceAdd, Nat.reduceSub, Nat.reduceLT, Nat.reduceLeDiff, Nat.reduceEqDiff, Nat.reduceBEq, Nat.reduceBneDiff, Nat.reduceMul, ↓reduceIte, Int.reduceToNat, reduceCtorEq, Int.reduceNeg, Int.reduceAdd, Int.toNat_zero]) ?_
  rintro ⟨i, kk, dn⟩ ⟨k, hi, hk, hR⟩
  dsimp only at hi hR
  have hni : i.toNat = k := by omega
  have hni1 : (i + 1).toNat = k + 1 := by omega
  rcases Nat.lt_or_ge k (xs).length with hlt | hge
  · obtain ⟨hd, hk1, hkn, hm⟩ := hR
    have hdr : xs.drop k = xs[k] :: xs.drop (k + 1) := List.drop_eq_getElem_cons hlt
    have hel : (dn ++ xs.drop k).length = xs.length := by simp; omega
    have hg : (List.map Bd.o (dn ++ xs.drop k))[k]? = some [.str xs[k].var, .str xs[k].term.name, .ow (xs[k].term.args.map Tm.o)] := by
      rw [← Bd.o_eq, hdr, List.getElem?_map, List.getElem?_append_right (by omega), hd, Nat.sub_self]; rfl
    rw [hdr, Bd.wtS] at hkn
    rw [hdr, Bd.mkS] at hm
    have hn1 := Bd.wt_eq xs[k]
    have e2 := Tm.mkS_end xs[k].term.args ((kk + 1 + 1))
    have t0 := markText_E (k := kk) (by omega) (by omega)
    have t58 := markText_E (k := (kk + 1)) (by omega) (by omega)
    have c123 := markTS_Term xs[k].term.args ((kk + 1 + 1)) [.tree (xs[k].term.args.map Tm.o) []] (by omega) (by omega) rfl
    have hs := map_set_mid Bd.o dn (xs.drop (k + 1)) xs[k] (xs[k].mk1 kk).1 hd
    rw [Bd.mk1_o, ← hdr] at hs
    have hgs : ∀ a, ((List.map Bd.o (dn ++ xs.drop k)).set k a)[k]? = some a := fun a => List.getElem?_set_self (by rw [List.length_map, hel]; exact hlt)
    have he := Bd.mk1_end xs[k] kk
    have three : ∀ z : Int, dec ((3 : Int) = 0) = false := fun _ => dec_f (by omega)
    simp (disch := omega) only [go_sem, Nat.reduceAdd, Nat.reduceSub, Nat.reduceLT, Nat.reduceLeDiff, Nat.reduceEqDiff, Nat.reduceBEq, Nat.reduceBneDiff, Nat.reduceMul, ↓reduceIte, Int.reduceToNat, reduceCtorEq, Int.reduceNeg, Int.reduceAdd, hni, hel, hg, t0, t58, c123, m_laws_markTermS, m_laws_markText, hgs, List.length_set, List.set_set, hs, three 0]
    refine ⟨(i + 1, (xs[k].mk1 kk).2, dn ++ [(xs[k].mk1 kk).1]), ⟨k + 1, by dsimp only; omega, hlt, by dsimp only; simp [hd], by dsimp only; omega, by dsimp only; omega, by rw [hm]; simp⟩, by dsimp only; omega, ?_⟩
    dsimp only
    rw [hni1, Bd.mk1_eq]
    refine ⟨⟨?_, rfl⟩, rfl⟩
    first | rfl | omega
  · obtain ⟨hd, hk1, hkn, hm⟩ := hR
    have hdr : xs.drop k = [] := List.drop_eq_nil_of_le hge
    rw [hdr, Bd.mkS] at hm
    rw [hm]
    simp (disch := omega) only [go_sem, Nat.reduceAdd, Nat.reduceSub, Nat.reduceLT, Nat.reduceLeDiff, Nat.reduceEqDiff, Nat.reduceBEq, Nat.reduceBneDiff, Nat.reduceMul, ↓reduceIte, Int.reduceToNat, reduceCtorEq, Int.reduceNeg, Int.reduceAdd, hni, hdr, List.append_nil]
theorem markTS_Binding (xs : List Bd) : MarkTS_Binding xs := markTS_Binding_of xs
end Go.Proofs.Ytifpfjbpfekkmaa

set_option maxRecDepth 100000
set_option linter.unusedSimpArgs false
set_option linter.unusedVariables false
namespace Go.Proofs.Ytifpfjbpfekkmaa
open Go.RowKit

def c_laws_heldTermS : SC := (.seq (.reg [⟨(some 4), none, (.mv (.c (.int .i64 0)))⟩]) (.seq (.seq (.reg [⟨(some 5), none, (.mv (.c (.int .i64 0)))⟩]) (.block 0 (.loop [1, 1, 0, 0, 0, 1, 0, 0, 0, 0, 0, 0, 0, 0, 0, 0, 0, 0, 0, 0, 0, 0, 0, 0, 0, 0, 0, 0, 0, 0, 0, 0] (.seq (.seq (.reg [⟨(some 6), none, (.mv (.t 5))⟩, ⟨(some 7), none, (.mv (.t 0))⟩, ⟨(some 8), none, (.len false (.t 7))⟩, ⟨(some 9), none, (.bin .lss false (.t 6) (.t 8))⟩]) (.cond (.t 9) .skip (.exit 0))) (.seq (.block 1 (.seq (.seq (.dreg [[], [], [0, 1], [2, 0, 1], [3, 2, 0, 1], [], [5], [4, 3, 2, 0, 1, 6, 5]] [⟨(some 12), none, (.mv (.t 0))⟩, ⟨(some 13), none, (.mv (.t 5))⟩, ⟨(some 14), none, (.iaddr 2 (.t 12) (.t 13))⟩, ⟨(some 15), none, (.faddr 0 (.t 14))⟩, ⟨(some 16), none, (.load false 1 (.t 15))⟩, ⟨(some 17), none, (.mv (.t 1))⟩, ⟨(some 18), none, (.call 150 [(.t 17)])⟩, ⟨(some 19), none, (.bin .neq false (.t 16) (.t 18))⟩]) (.cond (.t 19) (.seq (.reg [⟨(some 4), none, (.mv (.c (.int .i64 (-(0 + 1)))))⟩]) .ret) .skip)) (.seq (.reg [⟨(some 20), none, (.mv (.t 1))⟩, ⟨(some 21), none, (.bin .add false (.t 20) (.c (.int .i64 1)))⟩, ⟨(some 1), none, (.mv (.t 21))⟩]) (.seq (.reg [⟨(some 22), none, (.mv (.t 0))⟩, ⟨(some 23), none, (.mv (.t 5))⟩, ⟨(some 24), none, (.iaddr 2 (.t 22) (.t 23))⟩, ⟨(some 25), none, (.faddr 1 (.t 24))⟩, ⟨(some 26), none, (.load false 1 (.t 25))⟩, ⟨(some 27), none, (.mv (.t 1))⟩, ⟨(some 28), none, (.call 99 [(.t 26), (.t 27)])⟩, ⟨(some 1), none, (.mv (.t 28))⟩]) (.seq (.reg [⟨(some 29), none, (.mv (.t 1))⟩, ⟨(some 30), none, (.bin .lss false (.t 29) (.c (.int .i64 0)))⟩]) (.cond (.t 30) (.seq (.reg [⟨(some 4), none, (.mv (.c (.int .i64 (-(0 + 1)))))⟩]) .ret) .skip)))))) (.reg [⟨(some 10), none, (.mv (.t 5))⟩, ⟨(some 11), none, (.bin .add false (.t 10) (.c (.int .i64 1)))⟩, ⟨(some 5), none, (.mv (.t 11))⟩])))))) (.seq (.reg [⟨(some 31), none, (.mv (.t 1))⟩, ⟨(some 4), none, (.mv (.t 31))⟩]) .ret)))
theorem k_laws_heldTermS : codeOf Try.prog 99 = some ⟨32, c_laws_heldTermS, [(.tmp 4)]⟩ := by kernel_rfl
theorem m_laws_heldTermS : modes 99 = ⟨[], .asis, none, false⟩ := by unfold modes; rfl
theorem Tm.mkS_len : ∀ (xs : List Tm) (k : Int), (Tm.mkS xs k).1.length = xs.length
  | [], k => by rw [Tm.mkS]
  | x :: xs, k => by rw [Tm.mkS]; simp only [List.length_cons]; rw [Tm.mkS_len xs]
abbrev HeldTS_Term (xs : List Tm) : Prop := ∀ k : Int, 1 ≤ k → k + Tm.wtS xs ≤ 1099511627776 → E 99 [.arr ((Tm.mkS xs k).1.map Tm.d), .int .i64 k] [] = some (.int .i64 (Tm.mkS xs k).2, [])
set_option maxHeartbeats 2000000 in
theorem heldTS_Term_of (xs : List Tm) (ih : ∀ x ∈ xs, HeldTS_Term x.args) : HeldTS_Term xs := by
  intro k0 h1 h2
  obtain ⟨ys, hys⟩ : ∃ ys, ys = (Tm.mkS xs k0).1 := ⟨_, rfl⟩
  have hyl : ys.length = xs.length := by rw [hys, Tm.mkS_len]
  rw [← hys]
  have hL := Tm.length_wt xs
  refine E_walk k_laws_heldTermS m_laws_heldTermS (of_decide_eq_true rfl) ?_
  simp (disch := omega) only [c_laws_heldTermS, go_sem, Nat.reduceAdd, Nat.reduceSub, Nat.reduceLT, Nat.reduceLeDiff, Nat.reduceEqDiff, Nat.reduceBEq, Nat.reduceBneDiff, Nat.reduceMul, ↓reduceIte, Int.reduceToNat, reduceCtorEq, Int.reduceNeg, Int.reduceAdd]
  refine go_loop (α := Int × (Int)) (fun a => ⟨slots 32 0 [(0, .arr (ys.map Tm.d)), (1, .int .i64 (a.2)), (5, .int .i64 (a.1))], []⟩) (fun a => ∃ k : Nat, a.1 = k ∧ k ≤ (ys).length ∧ 1 ≤ (a.2) ∧ (a.2) + Tm.wtS (xs.drop k) = k0 + Tm.wtS xs ∧ ys.drop k = (Tm.mkS (xs.drop k) (a.2)).1 ∧ (Tm.mkS xs k0).2 = (Tm.mkS (xs.drop k) (a.2)).2) (fun a => (ys).length - (a.1).toNat) (0, k0) ⟨0, rfl, Nat.zero_le _, h1, by rw [List.drop_zero], by rw [List.drop_zero, List.drop_zero, hys], by rw [List.drop_zero]⟩ (by simp (disch := omega) only [go_sem, Nat.reduceAdd, Nat.reduceSub, Nat.reduceLT, Nat.reduceLeDiff, Nat.reduceEqDiff, Nat.reduceBEq, Nat.reduceBneDiff, Nat.reduceMul, ↓reduceIte, Int.reduceToNat, reduceCtorEq, Int.reduceNeg, Int.reduceAdd]) ?_
  rintro ⟨i, kk⟩ ⟨k, hi, hk, hR⟩
  dsimp only at hi hR
  have hni : i.toNat = k := by omega
  have hni1 : (i + 1).toNat = k + 1 := by omega
  rcases Nat.lt_or_ge k (ys).length with hlt | hge
  · obtain ⟨hk1, hkn, hy, hm⟩ := hR
    have hlx : k < xs.length := by omega
    have hdr : xs.drop k = xs[k] :: xs.drop (k + 1) := List.drop_eq_getElem_cons hlx
    have hdy := List.drop_eq_getElem_cons hlt
    rw [hdr, Tm.wtS] at hkn
    rw [hdr, Tm.mkS] at hm
    rw [hdr, Tm.mkS, hdy] at hy
    dsimp only at hy hm
    obtain ⟨hy1, hy2⟩ := List.cons.inj hy
    have hg := get_at Tm.d hlt
    rw [hy1, Tm.mk1_d] at hg
    have hn1 := Tm.wt_eq xs[k]
    have e1 := Tm.mkS_end xs[k].args ((kk + 1))
    have t0 := markText_E (k := kk) (by omega) (by omega)
    have c58 := ih xs[k] (List.getElem_mem hlx) ((kk + 1)) (by omega) (by omega)
    have he := Tm.mk1_end xs[k] kk
    simp (disch := omega) only [go_sem, Nat.reduceAdd, Nat.reduceSub, Nat.reduceLT, Nat.reduceLeDiff, Nat.reduceEqDiff, Nat.reduceBEq, Nat.reduceBneDiff, Nat.reduceMul, ↓reduceIte, Int.reduceToNat, reduceCtorEq, Int.reduceNeg, Int.reduceAdd, hni, hg, m_laws_markText, dec_refl, t0, c58, m_laws_heldTermS]
    refine ⟨(i + 1, (xs[k].mk1 kk).2), ⟨k + 1, by dsimp only; omega, hlt, by dsimp only; omega, by dsimp only; omega, hy2, hm⟩, by dsimp only; omega, ?_⟩
    dsimp only
    rw [Tm.mk1_eq]
    simp only [and_self, and_true, true_and]
    try omega
  · obtain ⟨hk1, hkn, hy, hm⟩ := hR
    have hdr : xs.drop k = [] := List.drop_eq_nil_of_le (by omega)
    rw [hdr, Tm.mkS] at hm
    rw [hm]
    simp (disch := omega) only [go_sem, Nat.reduceAdd, Nat.reduceSub, Nat.reduceLT, Nat.reduceLeDiff, Nat.reduceEqDiff, Nat.reduceBEq, Nat.reduceBneDiff, Nat.reduceMul, ↓reduceIte, Int.reduceToNat, reduceCtorEq, Int.reduceNeg, Int.reduceAdd, hni]
theorem heldTS1_Term (x : Tm) : HeldTS_Term x.args := heldTS_Term_of x.args fun y hy => heldTS1_Term y
termination_by SizeOf.sizeOf x
decreasing_by exact Tm.lt_of_mem hy
theorem heldTS_Term (xs : List Tm) : HeldTS_Term xs := heldTS_Term_of xs fun y _ => heldTS1_Term y
def c_laws_heldFormulaS : SC := (.seq (.reg [⟨(some 4), none, (.mv (.c (.int .i64 0)))⟩]) (.seq (.seq (.reg [⟨(some 5), none, (.mv (.c (.int .i64 0)))⟩]) (.block 0 (.loop [1, 1, 0, 0, 0, 1, 0, 0, 0, 0, 0, 0, 0, 0, 0, 0, 0, 0, 0, 0, 0, 0, 0, 0, 0, 0, 0, 0, 0, 0, 0, 0, 0, 0, 0, 0, 0, 0, 0, 0, 0, 0, 0, 0, 0, 0, 0, 0, 0, 0, 0, 0, 0, 0, 0, 0, 0, 0, 0, 0, 0, 0] (.seq (.seq (.reg [⟨(some 6), none, (.mv (.t 5))⟩, ⟨(some 7), none, (.mv (.t 0))⟩, ⟨(some 8), none, (.len false (.t 7))⟩, ⟨(some 9), none, (.bin .lss false (.t 6) (.t 8))⟩]) (.cond (.t 9) .skip (.exit 0))) (.seq (.block 1 (.seq (.seq (.reg [⟨(some 12), none, (.mv (.t 0))⟩, ⟨(some 13), none, (.mv (.t 5))⟩, ⟨(some 14), none, (.iaddr 5 (.t 12) (.t 13))⟩, ⟨(some 15), none, (.faddr 0 (.t 14))⟩, ⟨(some 16), none, (.load false 1 (.t 15))⟩, ⟨(some 17), none, (.mv (.t 1))⟩, ⟨(some 18), none, (.bin .neq false (.t 16) (.t 17))⟩]) (.cond (.t 18) (.seq (.reg [⟨(some 4), none, (.mv (.c (.int .i64 (-(0 + 1)))))⟩]) .ret) .skip)) (.seq (.reg [⟨(some 19), none, (.mv (.t 1))⟩, ⟨(some 20), none, (.bin .add false (.t 19) (.c (.int .i64 1)))⟩, ⟨(some 1), none, (.mv (.t 20))⟩]) (.seq (.seq (.dreg [[], [], [0, 1], [2, 0, 1], [3, 2, 0, 1], [4, 3, 2, 0, 1], [], [6], [5, 4, 3, 2, 0, 1, 7, 6]] [⟨(some 21), none, (.mv (.t 0))⟩, ⟨(some 22), none, (.mv (.t 5))⟩, ⟨(some 23), none, (.iaddr 5 (.t 21) (.t 22))⟩, ⟨(some 24), none, (.faddr 1 (.t 23))⟩, ⟨(some 25), none, (.faddr 0 (.t 24))⟩, ⟨(some 26), none, (.load false 1 (.t 25))⟩, ⟨(some 27), none, (.mv (.t 1))⟩, ⟨(some 28), none, (.call 150 [(.t 27)])⟩, ⟨(some 29), none, (.bin .neq false (.t 26) (.t 28))⟩]) (.cond (.t 29) (.seq (.reg [⟨(some 4), none, (.mv (.c (.int .i64 (-(0 + 1)))))⟩]) .ret) .skip)) (.seq (.reg [⟨(some 30), none, (.mv (.t 1))⟩, ⟨(some 31), none, (.bin .add false (.t 30) (.c (.int .i64 1)))⟩, ⟨(some 1), none, (.mv (.t 31))⟩]) (.seq (.reg [⟨(some 32), none, (.mv (.t 0))⟩, ⟨(some 33), none, (.mv (.t 5))⟩, ⟨(some 34), none, (.iaddr 5 (.t 32) (.t 33))⟩, ⟨(some 35), none, (.faddr 1 (.t 34))⟩, ⟨(some 36), none, (.faddr 1 (.t 35))⟩, ⟨(some 37), none, (.load false 1 (.t 36))⟩, ⟨(some 38), none, (.mv (.t 1))⟩, ⟨(some 39), none, (.call 99 [(.t 37), (.t 38)])⟩, ⟨(some 1), none, (.mv (.t 39))⟩]) (.seq (.seq (.reg [⟨(some 40), none, (.mv (.t 1))⟩, ⟨(some 41), none, (.bin .lss false (.t 40) (.c (.int .i64 0)))⟩]) (.cond (.t 41) (.seq (.reg [⟨(some 4), none, (.mv (.c (.int .i64 (-(0 + 1)))))⟩]) .ret) .skip)) (.seq (.seq (.dreg [[], [], [0, 1], [2, 0, 1], [3, 2, 0, 1], [], [5], [4, 3, 2, 0, 1, 6, 5]] [⟨(some 42), none, (.mv (.t 0))⟩, ⟨(some 43), none, (.mv (.t 5))⟩, ⟨(some 44), none, (.iaddr 5 (.t 42) (.t 43))⟩, ⟨(some 45), none, (.faddr 3 (.t 44))⟩, ⟨(some 46), none, (.load false 1 (.t 45))⟩, ⟨(some 47), none, (.mv (.t 1))⟩, ⟨(some 48), none, (.call 150 [(.t 47)])⟩, ⟨(some 49), none, (.bin .neq false (.t 46) (.t 48))⟩]) (.cond (.t 49) (.seq (.reg [⟨(some 4), none, (.mv (.c (.int .i64 (-(0 + 1)))))⟩]) .ret) .skip)) (.seq (.reg [⟨(some 50), none, (.mv (.t 1))⟩, ⟨(some 51), none, (.bin .add false (.t 50) (.c (.int .i64 1)))⟩, ⟨(some 1), none, (.mv (.t 51))⟩]) (.seq (.reg [⟨(some 52), none, (.mv (.t 0))⟩, ⟨(some 53), none, (.mv (.t 5))⟩, ⟨(some 54), none, (.iaddr 5 (.t 52) (.t 53))⟩, ⟨(some 55), none, (.faddr 4 (.t 54))⟩, ⟨(some 56), none, (.load false 1 (.t 55))⟩, ⟨(some 57), none, (.mv (.t 1))⟩, ⟨(some 58), none, (.call 114 [(.t 56), (.t 57)])⟩, ⟨(some 1), none, (.mv (.t 58))⟩]) (.seq (.reg [⟨(some 59), none, (.mv (.t 1))⟩, ⟨(some 60), none, (.bin .lss false (.t 59) (.c (.int .i64 0)))⟩]) (.cond (.t 60) (.seq (.reg [⟨(some 4), none, (.mv (.c (.int .i64 (-(0 + 1)))))⟩]) .ret) .skip)))))))))))) (.reg [⟨(some 10), none, (.mv (.t 5))⟩, ⟨(some 11), none, (.bin .add false (.t 10) (.c (.int .i64 1)))⟩, ⟨(some 5), none, (.mv (.t 11))⟩])))))) (.seq (.reg [⟨(some 61), none, (.mv (.t 1))⟩, ⟨(some 4), none, (.mv (.t 61))⟩]) .ret)))
theorem k_laws_heldFormulaS : codeOf Try.prog 114 = some ⟨62, c_laws_heldFormulaS, [(.tmp 4)]⟩ := by kernel_rfl
theorem m_laws_heldFormulaS : modes 114 = ⟨[], .asis, none, false⟩ := by unfold modes; rfl
theorem Fm.mkS_len : ∀ (xs : List Fm) (k : Int), (Fm.mkS xs k).1.length = xs.length
  | [], k => by rw [Fm.mkS]
  | x :: xs, k => by rw [Fm.mkS]; simp only [List.length_cons]; rw [Fm.mkS_len xs]
abbrev HeldTS_Formula (xs : List Fm) : Prop := ∀ k : Int, 1 ≤ k → k + Fm.wtS xs ≤ 1099511627776 → E 114 [.arr ((Fm.mkS xs k).1.map Fm.d), .int .i64 k] [] = some (.int .i64 (Fm.mkS xs k).2, [])
set_option maxHeartbeats 2000000 in
theorem heldTS_Formula_of (xs : List Fm) (ih : ∀ x ∈ xs, HeldTS_Formula x.parts) : HeldTS_Formula xs := by
  intro k0 h1 h2
  obtain ⟨ys, hys⟩ : ∃ ys, ys = (Fm.mkS xs k0).1 := ⟨_, rfl⟩
  have hyl : ys.length = xs.length := by rw [hys, Fm.mkS_len]
  rw [← hys]
  have hL := Fm.length_wt xs
  refine E_walk k_laws_heldFormulaS m_laws_heldFormulaS (of_decide_eq_true rfl) ?_
  simp (disch := omega) only [c_laws_heldFormulaS, go_sem, Nat.reduceAdd, Nat.reduceSub, Nat.reduceLT, Nat.reduceLeDiff, Nat.reduceEqDiff, Nat.reduceBEq, Nat.reduceBneDiff, Nat.reduceMul, ↓reduceIte, Int.reduceToNat, reduceCtorEq, Int.reduceNeg, Int.reduceAdd]
  refine go_loop (α := Int × (Int)) (fun a => ⟨slots 62 0 [(0, .arr (ys.map Fm.d)), (1, .int .i64 (a.2)), (5, .int .i64 (a.1))], []⟩) (fun a => ∃ k : Nat, a.1 = k ∧ k ≤ (ys).length ∧ 1 ≤ (a.2) ∧ (a.2) + Fm.wtS (xs.drop k) = k0 + Fm.wtS xs ∧ ys.drop k = (Fm.mkS (xs.drop k) (a.2)).1 ∧ (Fm.mkS xs k0).2 = (Fm.mkS (xs.drop k) (a.2)).2) (fun a => (ys).length - (a.1).toNat) (0, k0) ⟨0, rfl, Nat.zero_le _, h1, by rw [List.drop_zero], by rw [List.drop_zero, List.drop_zero, hys], by rw [List.drop_zero]⟩ (by simp (disch := omega) only [go_sem, Nat.reduceAdd, Nat.reduceSub, Nat.reduceLT, Nat.reduceLeDiff, Nat.reduceEqDiff, Nat.reduceBEq, Nat.reduceBneDiff, Nat.reduceMul, ↓reduceIte, Int.reduceToNat, reduceCtorEq, Int.reduceNeg, Int.reduceAdd]) ?_
  rintro ⟨i, kk⟩ ⟨k, hi, hk, hR⟩
  dsimp only at hi hR
  have hni : i.toNat = k := by omega
  have hni1 : (i + 1).toNat = k + 1 := by omega
  rcases Nat.lt_or_ge k (ys).length with hlt | hge
  · obtain ⟨hk1, hkn, hy, hm⟩ := hR
    have hlx : k < xs.length := by omega
    have hdr : xs.drop k = xs[k] :: xs.drop (k + 1) := List.drop_eq_getElem_cons hlx
    have hdy := List.drop_eq_getElem_cons hlt
    rw [hdr, Fm.wtS] at hkn
    rw [hdr, Fm.mkS] at hm
    rw [hdr, Fm.mkS, hdy] at hy
    dsimp only at hy hm
    obtain ⟨hy1, hy2⟩ := List.cons.inj hy
    have hg := get_at Fm.d hlt
    rw [hy1, Fm.mk1_d] at hg
    have hn1 := Fm.wt_eq xs[k]
    have e2 := Tm.mkS_end xs[k].atom.args ((kk + 1 + 1))
    have e4 := Fm.mkS_end xs[k].parts (((Tm.mkS xs[k].atom.args (kk + 1 + 1)).2 + 1))
    have t0 := markText_E (k := (kk + 1)) (by omega) (by omega)
    have c64 := heldTS_Term xs[k].atom.args ((kk + 1 + 1)) (by omega) (by omega)
    have t145 := markText_E (k := (Tm.mkS xs[k].atom.args (kk + 1 + 1)).2) (by omega) (by omega)
    have c242 := ih xs[k] (List.getElem_mem hlx) (((Tm.mkS xs[k].atom.args (kk + 1 + 1)).2 + 1)) (by omega) (by omega)
    have he := Fm.mk1_end xs[k] kk
    simp (disch := omega) only [go_sem, Nat.reduceAdd, Nat.reduceSub, Nat.reduceLT, Nat.reduceLeDiff, Nat.reduceEqDiff, Nat.reduceBEq, Nat.reduceBneDiff, Nat.reduceMul, ↓reduceIte, Int.reduceToNat, reduceCtorEq, Int.reduceNeg, Int.reduceAdd, hni, hg, m_laws_markText, dec_refl, t0, c64, m_laws_heldTermS, t145, c242, m_laws_heldFormulaS]
    refine ⟨(i + 1, (xs[k].mk1 kk).2), ⟨k + 1, by dsimp only; omega, hlt, by dsimp only; omega, by dsimp only; omega, hy2, hm⟩, by dsimp only; omega, ?_⟩
    dsimp only
    rw [Fm.mk1_eq]
    simp only [and_self, and_true, true_and]
    try omega
  · obtain ⟨hk1, hkn, hy, hm⟩ := hR
    have hdr : xs.drop k = [] := List.drop_eq_nil_of_le (by omega)
    rw [hdr, Fm.mkS] at hm
    rw [hm]
    simp (disch := omega) only [go_sem, Nat.reduceAdd, Nat.reduceSub, Nat.reduceLT, Nat.reduceLeDiff, Nat.reduceEqDiff, Nat.reduceBEq, Nat.reduceBneDiff, Nat.reduceMul, ↓reduceIte, Int.reduceToNat, reduceCtorEq, Int.reduceNeg, Int.reduceAdd, hni]
theorem heldTS1_Formula (x : Fm) : HeldTS_Formula x.parts := heldTS_Formula_of x.parts fun y hy => heldTS1_Formula y
termination_by SizeOf.sizeOf x
decreasing_by exact Fm.lt_of_mem hy
theorem heldTS_Formula (xs : List Fm) : HeldTS_Formula xs := heldTS_Formula_of xs fun y _ => heldTS1_Formula y
def c_laws_heldBindingS : SC := (.seq (.reg [⟨(some 4), none, (.mv (.c (.int .i64 0)))⟩]) (.seq (.seq (.reg [⟨(some 5), none, (.mv (.c (.int .i64 0)))⟩]) (.block 0 (.loop [1, 1, 0, 0, 0, 1, 0, 0, 0, 0, 0, 0, 0, 0, 0, 0, 0, 0, 0, 0, 0, 0, 0, 0, 0, 0, 0, 0, 0, 0, 0, 0, 0, 0, 0, 0, 0, 0, 0, 0, 0, 0, 0, 0] (.seq (.seq (.reg [⟨(some 6), none, (.mv (.t 5))⟩, ⟨(some 7), none, (.mv (.t 0))⟩, ⟨(some 8), none, (.len false (.t 7))⟩, ⟨(some 9), none, (.bin .lss false (.t 6) (.t 8))⟩]) (.cond (.t 9) .skip (.exit 0))) (.seq (.block 1 (.seq (.seq (.dreg [[], [], [0, 1], [2, 0, 1], [3, 2, 0, 1], [], [5], [4, 3, 2, 0, 1, 6, 5]] [⟨(some 12), none, (.mv (.t 0))⟩, ⟨(some 13), none, (.mv (.t 5))⟩, ⟨(some 14), none, (.iaddr 3 (.t 12) (.t 13))⟩, ⟨(some 15), none, (.faddr 0 (.t 14))⟩, ⟨(some 16), none, (.load false 1 (.t 15))⟩, ⟨(some 17), none, (.mv (.t 1))⟩, ⟨(some 18), none, (.call 150 [(.t 17)])⟩, ⟨(some 19), none, (.bin .neq false (.t 16) (.t 18))⟩]) (.cond (.t 19) (.seq (.reg [⟨(some 4), none, (.mv (.c (.int .i64 (-(0 + 1)))))⟩]) .ret) .skip)) (.seq (.reg [⟨(some 20), none, (.mv (.t 1))⟩, ⟨(some 21), none, (.bin .add false (.t 20) (.c (.int .i64 1)))⟩, ⟨(some 1), none, (.mv (.t 21))⟩]) (.seq (.seq (.dreg [[], [], [0, 1], [2, 0, 1], [3, 2, 0, 1], [4, 3, 2, 0, 1], [], [6], [5, 4, 3, 2, 0, 1, 7, 6]] [⟨(some 22), none, (.mv (.t 0))⟩, ⟨(some 23), none, (.mv (.t 5))⟩, ⟨(some 24), none, (.iaddr 3 (.t 22) (.t 23))⟩, ⟨(some 25), none, (.faddr 1 (.t 24))⟩, ⟨(some 26), none, (.faddr 0 (.t 25))⟩, ⟨(some 27), none, (.load false 1 (.t 26))⟩, ⟨(some 28), none, (.mv (.t 1))⟩, ⟨(some 29), none, (.call 150 [(.t 28)])⟩, ⟨(some 30), none, (.bin .neq false (.t 27) (.t 29))⟩]) (.cond (.t 30) (.seq (.reg [⟨(some 4), none, (.mv (.c (.int .i64 (-(0 + 1)))))⟩]) .ret) .skip)) (.seq (.reg [⟨(some 31), none, (.mv (.t 1))⟩, ⟨(some 32), none, (.bin .add false (.t 31) (.c (.int .i64 1)))⟩, ⟨(some 1), none, (.mv (.t 32))⟩]) (.seq (.reg [⟨(some 33), none, (.mv (.t 0))⟩, ⟨(some 34), none, (.mv (.t 5))⟩, ⟨(some 35), none, (.iaddr 3 (.t 33) (.t 34))⟩, ⟨(some 36), none, (.faddr 1 (.t 35))⟩, ⟨(some 37), none, (.faddr 1 (.t 36))⟩, ⟨(some 38), none, (.load false 1 (.t 37))⟩, ⟨(some 39), none, (.mv (.t 1))⟩, ⟨(some 40), none, (.call 99 [(.t 38), (.t 39)])⟩, ⟨(some 1), none, (.mv (.t 40))⟩]) (.seq (.reg [⟨(some 41), none, (.mv (.t 1))⟩, ⟨(some 42), none, (.bin .lss false (.t 41) (.c (.int .i64 0)))⟩]) (.cond (.t 42) (.seq (.reg [⟨(some 4), none, (.mv (.c (.int .i64 (-(0 + 1)))))⟩]) .ret) .skip)))))))) (.reg [⟨(some 10), none, (.mv (.t 5))⟩, ⟨(some 11), none, (.bin .add false (.t 10) (.c (.int .i64 1)))⟩, ⟨(some 5), none, (.mv (.t 11))⟩])))))) (.seq (.reg [⟨(some 43), none, (.mv (.t 1))⟩, ⟨(some 4), none, (.mv (.t 43))⟩]) .ret)))
theorem k_laws_heldBindingS : codeOf Try.prog 132 = some ⟨44, c_laws_heldBindingS, [(.tmp 4)]⟩ := by kernel_rfl
theorem m_laws_heldBindingS : modes 132 = ⟨[], .asis, none, false⟩ := by unfold modes; rfl
theorem Bd.mkS_len : ∀ (xs : List Bd) (k : Int), (Bd.mkS xs k).1.length = xs.length
  | [], k => by rw [Bd.mkS]
  | x :: xs, k => by rw [Bd.mkS]; simp only [List.length_cons]; rw [Bd.mkS_len xs]
abbrev HeldTS_Binding (xs : List Bd) : Prop := ∀ k : Int, 1 ≤ k → k + Bd.wtS xs ≤ 1099511627776 → E 132 [.arr ((Bd.mkS xs k).1.map Bd.d), .int .i64 k] [] = some (.int .i64 (Bd.mkS xs k).2, [])
set_option maxHeartbeats 2000000 in
theorem heldTS_Binding_of (xs : List Bd) : HeldTS_Binding xs := by
  intro k0 h1 h2
  obtain ⟨ys, hys⟩ : ∃ ys, ys = (Bd.mkS xs k0).1 := ⟨_, rfl⟩
  have hyl : ys.length = xs.length := by rw [hys, Bd.mkS_len]
  rw [← hys]
  have hL := Bd.length_wt xs
  refine E_walk k_laws_heldBindingS m_laws_heldBindingS (of_decide_eq_true rfl) ?_
  simp (disch := omega) only [c_laws_heldBindingS, go_sem, Nat.reduceAdd, Nat.reduceSub, Nat.reduceLT, Nat.reduceLeDiff, Nat.reduceEqDiff, Nat.reduceBEq, Nat.reduceBneDiff, Nat.reduceMul, ↓reduceIte, Int.reduceToNat, reduceCtorEq, Int.reduceNeg, Int.reduceAdd]
  refine go_loop (α := Int × (Int)) (fun a => ⟨slots 44 0 [(0, .arr (ys.map Bd.d)), (1, .int .i64 (a.2)), (5, .int .i64 (a.1))], []⟩) (fun a => ∃ k : Nat, a.1 = k ∧ k ≤ (ys).length ∧ 1 ≤ (a.2) ∧ (a.2) + Bd.wtS (xs.drop k) = k0 + Bd.wtS xs ∧ ys.drop k = (Bd.mkS (xs.drop k) (a.2)).1 ∧ (Bd.mkS xs k0).2 = (Bd.mkS (xs.drop k) (a.2)).2) (fun a => (ys).length - (a.1).toNat) (0, k0) ⟨0, rfl, Nat.zero_le _, h1, by rw [List.drop_zero], by rw [List.drop_zero, List.drop_zero, hys], by rw [List.drop_zero]⟩ (by simp (disch := omega) only [go_sem, Nat.reduceAdd, Nat.reduceSub, Nat.reduceLT, Nat.reduceLeDiff, Nat.reduceEqDiff, Nat.reduceBEq, Nat.reduceBneDiff, Nat.reduceMul, ↓reduceIte, Int.reduceToNat, reduceCtorEq, Int.reduceNeg, Int.reduceAdd]) ?_
  rintro ⟨i, kk⟩ ⟨k, hi, hk, hR⟩
  dsimp only at hi hR
  have hni : i.toNat = k := by omega
  have hni1 : (i + 1).toNat = k + 1 := by omega
  rcases Nat.lt_or_ge k (ys).length with hlt | hge
  · obtain ⟨hk1, hkn, hy, hm⟩ := hR
    have hlx : k < xs.length := by omega
    have hdr : xs.drop k = xs[k] :: xs.drop (k + 1) := List.drop_eq_getElem_cons hlx
    have hdy := List.drop_eq_getElem_cons hlt
    rw [hdr, Bd.wtS] at hkn
    rw [hdr, Bd.mkS] at hm
    rw [hdr, Bd.mkS, hdy] at hy
    dsimp only at hy hm
    obtain ⟨hy1, hy2⟩ := List.cons.inj hy
    have hg := get_at Bd.d hlt
    rw [hy1, Bd.mk1_d] at hg
    have hn1 := Bd.wt_eq xs[k]
    have e2 := Tm.mkS_end xs[k].term.args ((kk + 1 + 1))
    have t0 := markText_E (k := kk) (by omega) (by omega)
    have t58 := markText_E (k := (kk + 1)) (by omega) (by omega)
    have c123 := heldTS_Term xs[k].term.args ((kk + 1 + 1)) (by omega) (by omega)
    have he := Bd.mk1_end xs[k] kk
    simp (disch := omega) only [go_sem, Nat.reduceAdd, Nat.reduceSub, Nat.reduceLT, Nat.reduceLeDiff, Nat.reduceEqDiff, Nat.reduceBEq, Nat.reduceBneDiff, Nat.reduceMul, ↓reduceIte, Int.reduceToNat, reduceCtorEq, Int.reduceNeg, Int.reduceAdd, hni, hg, m_laws_markText, dec_refl, t0, t58, c123, m_laws_heldTermS]
    refine ⟨(i + 1, (xs[k].mk1 kk).2), ⟨k + 1, by dsimp only; omega, hlt, by dsimp only; omega, by dsimp only; omega, hy2, hm⟩, by dsimp only; omega, ?_⟩
    dsimp only
    rw [Bd.mk1_eq]
    simp only [and_self, and_true, true_and]
    try omega
  · obtain ⟨hk1, hkn, hy, hm⟩ := hR
    have hdr : xs.drop k = [] := List.drop_eq_nil_of_le (by omega)
    rw [hdr, Bd.mkS] at hm
    rw [hm]
    simp (disch := omega) only [go_sem, Nat.reduceAdd, Nat.reduceSub, Nat.reduceLT, Nat.reduceLeDiff, Nat.reduceEqDiff, Nat.reduceBEq, Nat.reduceBneDiff, Nat.reduceMul, ↓reduceIte, Int.reduceToNat, reduceCtorEq, Int.reduceNeg, Int.reduceAdd, hni]
theorem heldTS_Binding (xs : List Bd) : HeldTS_Binding xs := heldTS_Binding_of xs
end Go.Proofs.Ytifpfjbpfekkmaa

set_option maxRecDepth 100000
set_option linter.unusedSimpArgs false
set_option linter.unusedVariables false
namespace Go.Proofs.Ytifpfjbpfekkmaa
open Go.RowKit

theorem toTree1 {o : Ob} {es : List (List OT)} (h : toTree [o] = [.tree es []]) : (∃ a b, o = .row a b es) ∨ o = .tree es [] := by
  cases o with
  | row a b e => obtain ⟨h1, h2⟩ := List.cons.inj h; cases h1; exact .inl ⟨a, b, rfl⟩
  | tree e hs => obtain ⟨h1, h2⟩ := List.cons.inj h; cases h1; exact .inr rfl
  | _ => simp [toTree] at h

noncomputable def Tm.mkr (x : Tm) (k : Int) : Tm × Int := ((Tm.mk (x.name) ((Tm.mkS x.args k).1)), (Tm.mkS x.args k).2)
def c_laws_markTerm : SC := (.seq (.reg [⟨(some 2), none, (.boxv 67 2 (.t 0))⟩, ⟨(some 4), none, (.mv (.c (.int .i64 0)))⟩]) (.seq (.reg [⟨(some 5), none, (.faddr 1 (.t 2))⟩, ⟨(some 6), none, (.load false 1 (.t 5))⟩, ⟨(some 7), none, (.mv (.t 1))⟩, ⟨(some 8), none, (.call 98 [(.t 6), (.t 7)])⟩, ⟨(some 1), none, (.mv (.t 8))⟩]) (.seq (.reg [⟨(some 9), none, (.mv (.t 1))⟩, ⟨(some 4), none, (.mv (.t 9))⟩]) .ret)))
theorem k_laws_markTerm : codeOf Try.prog 39 = some ⟨10, c_laws_markTerm, [(.tmp 4)]⟩ := by kernel_rfl
theorem m_laws_markTerm : modes 39 = ⟨[true], .asis, none, false⟩ := by unfold modes; rfl
set_option maxHeartbeats 1000000 in
theorem markT_Term (x : Tm) (k : Int) (o0 : Ob) (h1 : 1 ≤ k) (h2 : k + (Tm.wtS x.args : Nat) ≤ 1099511627776) (t0 : toTree [o0] = [.tree (x.args.map Tm.o) []]) : E 39 [.agg [.str x.name, .ref 0], .int .i64 k] [o0] = some (.int .i64 (x.mkr k).2, [.tree ((Tm.mkS x.args k).1.map Tm.o) []]) := by
  have e0 := Tm.mkS_end x.args k
  rw [Tm.mkr]
  dsimp only
  have c0 := markTS_Term x.args k [o0] (by omega) (by omega) t0
  rcases toTree1 t0 with ⟨a0, b0, rfl⟩ | rfl <;>
   (
    refine E_walk k_laws_markTerm m_laws_markTerm (of_decide_eq_true rfl) ?_
    simp (disch := omega) only [c_laws_markTerm, go_sem, Nat.reduceAdd, Nat.reduceSub, Nat.reduceLT, Nat.reduceLeDiff, Nat.reduceEqDiff, Nat.reduceBEq, Nat.reduceBneDiff, Nat.reduceMul, ↓reduceIte, Int.reduceToNat, reduceCtorEq, Int.reduceNeg, Int.reduceAdd, c0, m_laws_markTermS])
def c_laws_heldTerm : SC := (.seq (.reg [⟨(some 2), none, (.boxv 67 2 (.t 0))⟩, ⟨(some 4), none, (.mv (.c (.int .i64 0)))⟩]) (.seq (.reg [⟨(some 5), none, (.faddr 1 (.t 2))⟩, ⟨(some 6), none, (.load false 1 (.t 5))⟩, ⟨(some 7), none, (.mv (.t 1))⟩, ⟨(some 8), none, (.call 99 [(.t 6), (.t 7)])⟩, ⟨(some 1), none, (.mv (.t 8))⟩]) (.seq (.seq (.reg [⟨(some 9), none, (.mv (.t 1))⟩, ⟨(some 10), none, (.bin .lss false (.t 9) (.c (.int .i64 0)))⟩]) (.cond (.t 10) (.seq (.reg [⟨(some 4), none, (.mv (.c (.int .i64 (-(0 + 1)))))⟩]) .ret) .skip)) (.seq (.reg [⟨(some 11), none, (.mv (.t 1))⟩, ⟨(some 4), none, (.mv (.t 11))⟩]) .ret))))
theorem k_laws_heldTerm : codeOf Try.prog 40 = some ⟨12, c_laws_heldTerm, [(.tmp 4)]⟩ := by kernel_rfl
theorem m_laws_heldTerm : modes 40 = ⟨[], .asis, none, false⟩ := by unfold modes; rfl
set_option maxHeartbeats 1000000 in
theorem heldT_Term (x : Tm) (k : Int) (h1 : 1 ≤ k) (h2 : k + (Tm.wtS x.args : Nat) ≤ 1099511627776) : E 40 [.agg [.str x.name, .arr ((Tm.mkS x.args k).1.map Tm.d)], .int .i64 k] [] = some (.int .i64 (x.mkr k).2, []) := by
  have e0 := Tm.mkS_end x.args k
  rw [Tm.mkr]
  dsimp only
  have p0 : (Tm.mk (x.name) ((Tm.mkS x.args k).1)).name = x.name := rfl
  have p1 : (Tm.mk (x.name) ((Tm.mkS x.args k).1)).args = (Tm.mkS x.args k).1 := rfl
  have c0 := heldTS_Term x.args k (by omega) (by omega)
  refine E_walk k_laws_heldTerm m_laws_heldTerm (of_decide_eq_true rfl) ?_
  simp (disch := omega) only [c_laws_heldTerm, go_sem, Nat.reduceAdd, Nat.reduceSub, Nat.reduceLT, Nat.reduceLeDiff, Nat.reduceEqDiff, Nat.reduceBEq, Nat.reduceBneDiff, Nat.reduceMul, ↓reduceIte, Int.reduceToNat, reduceCtorEq, Int.reduceNeg, Int.reduceAdd, c0, m_laws_heldTermS, p0, p1]
noncomputable def Lt.mkr (x : Lt) (k : Int) : Lt × Int := ((Lt.mk (x.pos) (Tm.mk (x.atom.name) ((Tm.mkS x.atom.args k).1))), (Tm.mkS x.atom.args k).2)
def c_laws_markLiteral : SC := (.seq (.reg [⟨(some 2), none, (.boxv 78 3 (.t 0))⟩, ⟨(some 4), none, (.mv (.c (.int .i64 0)))⟩]) (.seq (.reg [⟨(some 5), none, (.faddr 1 (.t 2))⟩, ⟨(some 6), none, (.load true 2 (.t 5))⟩, ⟨(some 7), none, (.mv (.t 1))⟩, ⟨(some 8), none, (.call 39 [(.t 6), (.t 7)])⟩, ⟨(some 1), none, (.mv (.t 8))⟩]) (.seq (.reg [⟨(some 9), none, (.mv (.t 1))⟩, ⟨(some 4), none, (.mv (.t 9))⟩]) .ret)))
theorem k_laws_markLiteral : codeOf Try.prog 44 = some ⟨10, c_laws_markLiteral, [(.tmp 4)]⟩ := by kernel_rfl
theorem m_laws_markLiteral : modes 44 = ⟨[true], .asis, none, false⟩ := by unfold modes; rfl
set_option maxHeartbeats 1000000 in
theorem markT_Literal (x : Lt) (k : Int) (o0 : Ob) (h1 : 1 ≤ k) (h2 : k + (Tm.wtS x.atom.args : Nat) ≤ 1099511627776) (t0 : toTree [o0] = [.tree (x.atom.args.map Tm.o) []]) : E 44 [.agg [.bool x.pos, .str x.atom.name, .ref 0], .int .i64 k] [o0] = some (.int .i64 (x.mkr k).2, [.tree ((Tm.mkS x.atom.args k).1.map Tm.o) []]) := by
  have e0 := Tm.mkS_end x.atom.args k
  rw [Lt.mkr]
  dsimp only
  have c0 := markT_Term x.atom k o0 (by omega) (by omega) t0
  rw [Tm.mkr] at c0
  dsimp only at c0
  rcases toTree1 t0 with ⟨a0, b0, rfl⟩ | rfl <;>
   (
    refine E_walk k_laws_markLiteral m_laws_markLiteral (of_decide_eq_true rfl) ?_
    simp (disch := omega) only [c_laws_markLiteral, go_sem, Nat.reduceAdd, Nat.reduceSub, Nat.reduceLT, Nat.reduceLeDiff, Nat.reduceEqDiff, Nat.reduceBEq, Nat.reduceBneDiff, Nat.reduceMul, ↓reduceIte, Int.reduceToNat, reduceCtorEq, Int.reduceNeg, Int.reduceAdd, c0, m_laws_markTerm])
def c_laws_heldLiteral : SC := (.seq (.reg [⟨(some 2), none, (.boxv 78 3 (.t 0))⟩, ⟨(some 4), none, (.mv (.c (.int .i64 0)))⟩]) (.seq (.reg [⟨(some 5), none, (.faddr 1 (.t 2))⟩, ⟨(some 6), none, (.load true 2 (.t 5))⟩, ⟨(some 7), none, (.mv (.t 1))⟩, ⟨(some 8), none, (.call 40 [(.t 6), (.t 7)])⟩, ⟨(some 1), none, (.mv (.t 8))⟩]) (.seq (.seq (.reg [⟨(some 9), none, (.mv (.t 1))⟩, ⟨(some 10), none, (.bin .lss false (.t 9) (.c (.int .i64 0)))⟩]) (.cond (.t 10) (.seq (.reg [⟨(some 4), none, (.mv (.c (.int .i64 (-(0 + 1)))))⟩]) .ret) .skip)) (.seq (.reg [⟨(some 11), none, (.mv (.t 1))⟩, ⟨(some 4), none, (.mv (.t 11))⟩]) .ret))))
theorem k_laws_heldLiteral : codeOf Try.prog 45 = some ⟨12, c_laws_heldLiteral, [(.tmp 4)]⟩ := by kernel_rfl
theorem m_laws_heldLiteral : modes 45 = ⟨[], .asis, none, false⟩ := by unfold modes; rfl
set_option maxHeartbeats 1000000 in
theorem heldT_Literal (x : Lt) (k : Int) (h1 : 1 ≤ k) (h2 : k + (Tm.wtS x.atom.args : Nat) ≤ 1099511627776) : E 45 [.agg [.bool x.pos, .str x.atom.name, .arr ((Tm.mkS x.atom.args k).1.map Tm.d)], .int .i64 k] [] = some (.int .i64 (x.mkr k).2, []) := by
  have e0 := Tm.mkS_end x.atom.args k
  rw [Lt.mkr]
  dsimp only
  have p0 : (Tm.mk (x.atom.name) ((Tm.mkS x.atom.args k).1)).name = x.atom.name := rfl
  have p1 : (Tm.mk (x.atom.name) ((Tm.mkS x.atom.args k).1)).args = (Tm.mkS x.atom.args k).1 := rfl
  have c0 := heldT_Term x.atom k (by omega) (by omega)
  rw [Tm.mkr] at c0
  dsimp only at c0
  refine E_walk k_laws_heldLiteral m_laws_heldLiteral (of_decide_eq_true rfl) ?_
  simp (disch := omega) only [c_laws_heldLiteral, go_sem, Nat.reduceAdd, Nat.reduceSub, Nat.reduceLT, Nat.reduceLeDiff, Nat.reduceEqDiff, Nat.reduceBEq, Nat.reduceBneDiff, Nat.reduceMul, ↓reduceIte, Int.reduceToNat, reduceCtorEq, Int.reduceNeg, Int.reduceAdd, c0, m_laws_heldTerm, p0, p1]
noncomputable def Fm.mkr (x : Fm) (k : Int) : Fm × Int := ((Fm.mk (x.op) (Tm.mk (x.atom.name) ((Tm.mkS x.atom.args k).1)) (x.var) ((Fm.mkS x.parts (Tm.mkS x.atom.args k).2).1)), (Fm.mkS x.parts (Tm.mkS x.atom.args k).2).2)
def c_laws_markFormula : SC := (.seq (.reg [⟨(some 2), none, (.boxv 90 5 (.t 0))⟩, ⟨(some 4), none, (.mv (.c (.int .i64 0)))⟩]) (.seq (.reg [⟨(some 5), none, (.faddr 1 (.t 2))⟩, ⟨(some 6), none, (.load true 2 (.t 5))⟩, ⟨(some 7), none, (.mv (.t 1))⟩, ⟨(some 8), none, (.call 39 [(.t 6), (.t 7)])⟩, ⟨(some 1), none, (.mv (.t 8))⟩]) (.seq (.reg [⟨(some 9), none, (.faddr 4 (.t 2))⟩, ⟨(some 10), none, (.load false 1 (.t 9))⟩, ⟨(some 11), none, (.mv (.t 1))⟩, ⟨(some 12), none, (.call 113 [(.t 10), (.t 11)])⟩, ⟨(some 1), none, (.mv (.t 12))⟩]) (.seq (.reg [⟨(some 13), none, (.mv (.t 1))⟩, ⟨(some 4), none, (.mv (.t 13))⟩]) .ret))))
theorem k_laws_markFormula : codeOf Try.prog 51 = some ⟨14, c_laws_markFormula, [(.tmp 4)]⟩ := by kernel_rfl
theorem m_laws_markFormula : modes 51 = ⟨[true], .asis, none, false⟩ := by unfold modes; rfl
set_option maxHeartbeats 1000000 in
theorem markT_Formula (x : Fm) (k : Int) (o0 o1 : Ob) (h1 : 1 ≤ k) (h2 : k + (Tm.wtS x.atom.args + Fm.wtS x.parts : Nat) ≤ 1099511627776) (t0 : toTree [o0] = [.tree (x.atom.args.map Tm.o) []]) (t1 : toTree [o1] = [.tree (x.parts.map Fm.o) []]) : E 51 [.agg [.int .i64 x.op, .str x.atom.name, .ref 0, .str x.var, .ref 1], .int .i64 k] [o0, o1] = some (.int .i64 (x.mkr k).2, [.tree ((Tm.mkS x.atom.args k).1.map Tm.o) [], .tree ((Fm.mkS x.parts (Tm.mkS x.atom.args k).2).1.map Fm.o) []]) := by
  have e0 := Tm.mkS_end x.atom.args k
  have e1 := Fm.mkS_end x.parts (Tm.mkS x.atom.args k).2
  rw [Fm.mkr]
  dsimp only
  have c0 := markT_Term x.atom k o0 (by omega) (by omega) t0
  rw [Tm.mkr] at c0
  dsimp only at c0
  have c1 := markTS_Formula x.parts (Tm.mkS x.atom.args k).2 [o1] (by omega) (by omega) t1
  rcases toTree1 t0 with ⟨a0, b0, rfl⟩ | rfl <;>
  rcases toTree1 t1 with ⟨a1, b1, rfl⟩ | rfl <;>
   (
    refine E_walk k_laws_markFormula m_laws_markFormula (of_decide_eq_true rfl) ?_
    simp (disch := omega) only [c_laws_markFormula, go_sem, Nat.reduceAdd, Nat.reduceSub, Nat.reduceLT, Nat.reduceLeDiff, Nat.reduceEqDiff, Nat.reduceBEq, Nat.reduceBneDiff, Nat.reduceMul, ↓reduceIte, Int.reduceToNat, reduceCtorEq, Int.reduceNeg, Int.reduceAdd, c0, m_laws_markTerm, c1, m_laws_markFormulaS])
def c_laws_heldFormula : SC := (.seq (.reg [⟨(some 2), none, (.boxv 90 5 (.t 0))⟩, ⟨(some 4), none, (.mv (.c (.int .i64 0)))⟩]) (.seq (.reg [⟨(some 5), none, (.faddr 1 (.t 2))⟩, ⟨(some 6), none, (.load true 2 (.t 5))⟩, ⟨(some 7), none, (.mv (.t 1))⟩, ⟨(some 8), none, (.call 40 [(.t 6), (.t 7)])⟩, ⟨(some 1), none, (.mv (.t 8))⟩]) (.seq (.seq (.reg [⟨(some 9), none, (.mv (.t 1))⟩, ⟨(some 10), none, (.bin .lss false (.t 9) (.c (.int .i64 0)))⟩]) (.cond (.t 10) (.seq (.reg [⟨(some 4), none, (.mv (.c (.int .i64 (-(0 + 1)))))⟩]) .ret) .skip)) (.seq (.reg [⟨(some 11), none, (.faddr 4 (.t 2))⟩, ⟨(some 12), none, (.load false 1 (.t 11))⟩, ⟨(some 13), none, (.mv (.t 1))⟩, ⟨(some 14), none, (.call 114 [(.t 12), (.t 13)])⟩, ⟨(some 1), none, (.mv (.t 14))⟩]) (.seq (.seq (.reg [⟨(some 15), none, (.mv (.t 1))⟩, ⟨(some 16), none, (.bin .lss false (.t 15) (.c (.int .i64 0)))⟩]) (.cond (.t 16) (.seq (.reg [⟨(some 4), none, (.mv (.c (.int .i64 (-(0 + 1)))))⟩]) .ret) .skip)) (.seq (.reg [⟨(some 17), none, (.mv (.t 1))⟩, ⟨(some 4), none, (.mv (.t 17))⟩]) .ret))))))
theorem k_laws_heldFormula : codeOf Try.prog 52 = some ⟨18, c_laws_heldFormula, [(.tmp 4)]⟩ := by kernel_rfl
theorem m_laws_heldFormula : modes 52 = ⟨[], .asis, none, false⟩ := by unfold modes; rfl
set_option maxHeartbeats 1000000 in
theorem heldT_Formula (x : Fm) (k : Int) (h1 : 1 ≤ k) (h2 : k + (Tm.wtS x.atom.args + Fm.wtS x.parts : Nat) ≤ 1099511627776) : E 52 [.agg [.int .i64 x.op, .str x.atom.name, .arr ((Tm.mkS x.atom.args k).1.map Tm.d), .str x.var, .arr ((Fm.mkS x.parts (Tm.mkS x.atom.args k).2).1.map Fm.d)], .int .i64 k] [] = some (.int .i64 (x.mkr k).2, []) := by
  have e0 := Tm.mkS_end x.atom.args k
  have e1 := Fm.mkS_end x.parts (Tm.mkS x.atom.args k).2
  rw [Fm.mkr]
  dsimp only
  have p0 : (Fm.mk (x.op) (Tm.mk (x.atom.name) ((Tm.mkS x.atom.args k).1)) (x.var) ((Fm.mkS x.parts (Tm.mkS x.atom.args k).2).1)).op = x.op := rfl
  have p1 : (Fm.mk (x.op) (Tm.mk (x.atom.name) ((Tm.mkS x.atom.args k).1)) (x.var) ((Fm.mkS x.parts (Tm.mkS x.atom.args k).2).1)).atom = (Tm.mk (x.atom.name) ((Tm.mkS x.atom.args k).1)) := rfl
  have p2 : (Tm.mk (x.atom.name) ((Tm.mkS x.atom.args k).1)).name = x.atom.name := rfl
  have p3 : (Tm.mk (x.atom.name) ((Tm.mkS x.atom.args k).1)).args = (Tm.mkS x.atom.args k).1 := rfl
  have p4 : (Fm.mk (x.op) (Tm.mk (x.atom.name) ((Tm.mkS x.atom.args k).1)) (x.var) ((Fm.mkS x.parts (Tm.mkS x.atom.args k).2).1)).var = x.var := rfl
  have p5 : (Fm.mk (x.op) (Tm.mk (x.atom.name) ((Tm.mkS x.atom.args k).1)) (x.var) ((Fm.mkS x.parts (Tm.mkS x.atom.args k).2).1)).parts = (Fm.mkS x.parts (Tm.mkS x.atom.args k).2).1 := rfl
  have c0 := heldT_Term x.atom k (by omega) (by omega)
  rw [Tm.mkr] at c0
  dsimp only at c0
  have c1 := heldTS_Formula x.parts (Tm.mkS x.atom.args k).2 (by omega) (by omega)
  refine E_walk k_laws_heldFormula m_laws_heldFormula (of_decide_eq_true rfl) ?_
  simp (disch := omega) only [c_laws_heldFormula, go_sem, Nat.reduceAdd, Nat.reduceSub, Nat.reduceLT, Nat.reduceLeDiff, Nat.reduceEqDiff, Nat.reduceBEq, Nat.reduceBneDiff, Nat.reduceMul, ↓reduceIte, Int.reduceToNat, reduceCtorEq, Int.reduceNeg, Int.reduceAdd, c0, m_laws_heldTerm, c1, m_laws_heldFormulaS, p0, p1, p2, p3, p4, p5]
noncomputable def Sb.mkr (x : Sb) (k : Int) : Sb × Int := ((Sb.mk ((Bd.mkS x.binds k).1)), (Bd.mkS x.binds k).2)
def c_laws_markSubstitution : SC := (.seq (.reg [⟨(some 2), none, (.boxv 63 1 (.t 0))⟩, ⟨(some 4), none, (.mv (.c (.int .i64 0)))⟩]) (.seq (.reg [⟨(some 5), none, (.faddr 0 (.t 2))⟩, ⟨(some 6), none, (.load false 1 (.t 5))⟩, ⟨(some 7), none, (.mv (.t 1))⟩, ⟨(some 8), none, (.call 97 [(.t 6), (.t 7)])⟩, ⟨(some 1), none, (.mv (.t 8))⟩]) (.seq (.reg [⟨(some 9), none, (.mv (.t 1))⟩, ⟨(some 4), none, (.mv (.t 9))⟩]) .ret)))
theorem k_laws_markSubstitution : codeOf Try.prog 38 = some ⟨10, c_laws_markSubstitution, [(.tmp 4)]⟩ := by kernel_rfl
theorem m_laws_markSubstitution : modes 38 = ⟨[true], .asis, none, false⟩ := by unfold modes; rfl
set_option maxHeartbeats 1000000 in
theorem markT_Substitution (x : Sb) (k : Int) (o0 : Ob) (h1 : 1 ≤ k) (h2 : k + (Bd.wtS x.binds : Nat) ≤ 1099511627776) (t0 : toTree [o0] = [.tree (x.binds.map Bd.o) []]) : E 38 [.agg [.ref 0], .int .i64 k] [o0] = some (.int .i64 (x.mkr k).2, [.tree ((Bd.mkS x.binds k).1.map Bd.o) []]) := by
  have e0 := Bd.mkS_end x.binds k
  rw [Sb.mkr]
  dsimp only
  have c0 := markTS_Binding x.binds k [o0] (by omega) (by omega) t0
  rcases toTree1 t0 with ⟨a0, b0, rfl⟩ | rfl <;>
   (
    refine E_walk k_laws_markSubstitution m_laws_markSubstitution (of_decide_eq_true rfl) ?_
    simp (disch := omega) only [c_laws_markSubstitution, go_sem, Nat.reduceAdd, Nat.reduceSub, Nat.reduceLT, Nat.reduceLeDiff, Nat.reduceEqDiff, Nat.reduceBEq, Nat.reduceBneDiff, Nat.reduceMul, ↓reduceIte, Int.reduceToNat, reduceCtorEq, Int.reduceNeg, Int.reduceAdd, c0, m_laws_markBindingS])
def c_laws_heldSubstitution : SC := (.seq (.reg [⟨(some 2), none, (.boxv 63 1 (.t 0))⟩, ⟨(some 4), none, (.mv (.c (.int .i64 0)))⟩]) (.seq (.reg [⟨(some 5), none, (.faddr 0 (.t 2))⟩, ⟨(some 6), none, (.load false 1 (.t 5))⟩, ⟨(some 7), none, (.mv (.t 1))⟩, ⟨(some 8), none, (.call 132 [(.t 6), (.t 7)])⟩, ⟨(some 1), none, (.mv (.t 8))⟩]) (.seq (.seq (.reg [⟨(some 9), none, (.mv (.t 1))⟩, ⟨(some 10), none, (.bin .lss false (.t 9) (.c (.int .i64 0)))⟩]) (.cond (.t 10) (.seq (.reg [⟨(some 4), none, (.mv (.c (.int .i64 (-(0 + 1)))))⟩]) .ret) .skip)) (.seq (.reg [⟨(some 11), none, (.mv (.t 1))⟩, ⟨(some 4), none, (.mv (.t 11))⟩]) .ret))))
theorem k_laws_heldSubstitution : codeOf Try.prog 62 = some ⟨12, c_laws_heldSubstitution, [(.tmp 4)]⟩ := by kernel_rfl
theorem m_laws_heldSubstitution : modes 62 = ⟨[], .asis, none, false⟩ := by unfold modes; rfl
set_option maxHeartbeats 1000000 in
theorem heldT_Substitution (x : Sb) (k : Int) (h1 : 1 ≤ k) (h2 : k + (Bd.wtS x.binds : Nat) ≤ 1099511627776) : E 62 [.agg [.arr ((Bd.mkS x.binds k).1.map Bd.d)], .int .i64 k] [] = some (.int .i64 (x.mkr k).2, []) := by
  have e0 := Bd.mkS_end x.binds k
  rw [Sb.mkr]
  dsimp only
  have c0 := heldTS_Binding x.binds k (by omega) (by omega)
  refine E_walk k_laws_heldSubstitution m_laws_heldSubstitution (of_decide_eq_true rfl) ?_
  simp (disch := omega) only [c_laws_heldSubstitution, go_sem, Nat.reduceAdd, Nat.reduceSub, Nat.reduceLT, Nat.reduceLeDiff, Nat.reduceEqDiff, Nat.reduceBEq, Nat.reduceBneDiff, Nat.reduceMul, ↓reduceIte, Int.reduceToNat, reduceCtorEq, Int.reduceNeg, Int.reduceAdd, c0, m_laws_heldBindingS]
end Go.Proofs.Ytifpfjbpfekkmaa

set_option maxRecDepth 100000
set_option linter.unusedSimpArgs false
set_option linter.unusedVariables false
namespace Go.Proofs.Ytifpfjbpfekkmaa
open Go.RowKit

def c_laws_szTerm : SC := (.seq (.reg [⟨(some 2), none, (.boxv 56 2 (.t 0))⟩, ⟨(some 4), none, (.mv (.c (.int .i64 0)))⟩]) (.seq (.reg [⟨(some 5), none, (.mv (.t 1))⟩, ⟨(some 6), none, (.faddr 0 (.t 2))⟩, ⟨(some 7), none, (.load false 1 (.t 6))⟩, ⟨(some 8), none, (.len true (.t 7))⟩, ⟨(some 9), none, (.bin .sub false (.t 5) (.t 8))⟩, ⟨(some 1), none, (.mv (.t 9))⟩]) (.seq (.seq (.reg [⟨(some 10), none, (.mv (.t 1))⟩, ⟨(some 11), none, (.bin .lss false (.t 10) (.c (.int .i64 0)))⟩]) (.cond (.t 11) (.seq (.reg [⟨(some 4), none, (.mv (.c (.int .i64 (-(0 + 1)))))⟩]) .ret) .skip)) (.seq (.reg [⟨(some 12), none, (.faddr 1 (.t 2))⟩, ⟨(some 13), none, (.load false 1 (.t 12))⟩, ⟨(some 14), none, (.mv (.t 1))⟩, ⟨(some 15), none, (.call 84 [(.t 13), (.t 14)])⟩, ⟨(some 1), none, (.mv (.t 15))⟩]) (.seq (.seq (.reg [⟨(some 16), none, (.mv (.t 1))⟩, ⟨(some 17), none, (.bin .lss false (.t 16) (.c (.int .i64 0)))⟩]) (.cond (.t 17) (.seq (.reg [⟨(some 4), none, (.mv (.c (.int .i64 (-(0 + 1)))))⟩]) .ret) .skip)) (.seq (.reg [⟨(some 18), none, (.mv (.t 1))⟩, ⟨(some 4), none, (.mv (.t 18))⟩]) .ret))))))
theorem k_laws_szTerm : codeOf Try.prog 29 = some ⟨19, c_laws_szTerm, [(.tmp 4)]⟩ := by kernel_rfl
theorem m_laws_szTerm : modes 29 = ⟨[], .asis, none, false⟩ := by unfold modes; rfl
def c_laws_szTermS : SC := (.seq (.reg [⟨(some 4), none, (.mv (.c (.int .i64 0)))⟩]) (.seq (.reg [⟨(some 6), none, (.mv (.t 1))⟩, ⟨(some 7), none, (.mv (.t 0))⟩, ⟨(some 8), none, (.len false (.t 7))⟩, ⟨(some 9), none, (.bin .sub false (.t 6) (.t 8))⟩, ⟨(some 1), none, (.mv (.t 9))⟩]) (.seq (.seq (.reg [⟨(some 10), none, (.mv (.t 1))⟩, ⟨(some 11), none, (.bin .lss false (.t 10) (.c (.int .i64 0)))⟩]) (.cond (.t 11) (.seq (.reg [⟨(some 4), none, (.mv (.c (.int .i64 (-(0 + 1)))))⟩]) .ret) .skip)) (.seq (.seq (.reg [⟨(some 5), none, (.mv (.c (.int .i64 0)))⟩]) (.block 0 (.loop [1, 1, 0, 0, 0, 1, 0, 0, 0, 0, 0, 0, 0, 0, 0, 0, 0, 0, 0, 0, 0, 0, 0, 0, 0, 0, 0] (.seq (.seq (.reg [⟨(some 12), none, (.mv (.t 5))⟩, ⟨(some 13), none, (.mv (.t 0))⟩, ⟨(some 14), none, (.len false (.t 13))⟩, ⟨(some 15), none, (.bin .lss false (.t 12) (.t 14))⟩]) (.cond (.t 15) .skip (.exit 0))) (.seq (.block 1 (.seq (.reg [⟨(some 18), none, (.mv (.t 0))⟩, ⟨(some 19), none, (.mv (.t 5))⟩, ⟨(some 20), none, (.iaddr 2 (.t 18) (.t 19))⟩, ⟨(some 21), none, (.load true 2 (.t 20))⟩, ⟨(some 22), none, (.mv (.t 1))⟩, ⟨(some 23), none, (.call 29 [(.t 21), (.t 22)])⟩, ⟨(some 1), none, (.mv (.t 23))⟩]) (.seq (.reg [⟨(some 24), none, (.mv (.t 1))⟩, ⟨(some 25), none, (.bin .lss false (.t 24) (.c (.int .i64 0)))⟩]) (.cond (.t 25) (.seq (.reg [⟨(some 4), none, (.mv (.c (.int .i64 (-(0 + 1)))))⟩]) .ret) .skip)))) (.reg [⟨(some 16), none, (.mv (.t 5))⟩, ⟨(some 17), none, (.bin .add false (.t 16) (.c (.int .i64 1)))⟩, ⟨(some 5), none, (.mv (.t 17))⟩])))))) (.seq (.reg [⟨(some 26), none, (.mv (.t 1))⟩, ⟨(some 4), none, (.mv (.t 26))⟩]) .ret)))))
theorem k_laws_szTermS : codeOf Try.prog 84 = some ⟨27, c_laws_szTermS, [(.tmp 4)]⟩ := by kernel_rfl
theorem m_laws_szTermS : modes 84 = ⟨[], .asis, none, false⟩ := by unfold modes; rfl
abbrev SzT_Term (x : Tm) : Prop := D.fits x.d → ∀ left : Int, 0 ≤ left → left ≤ 1048576 → E 29 [x.sv, .int .i64 left] [] = some (.int .i64 (szR left x.bulk), [])
abbrev SzTS_Term (xs : List Tm) : Prop := D.fit (.arr (xs.map Tm.d)) → ∀ left : Int, 0 ≤ left → left ≤ 1048576 → E 84 [.arr (xs.map Tm.d), .int .i64 left] [] = some (.int .i64 (szR left (xs.length + Tm.sumB xs : Nat)), [])
set_option maxHeartbeats 1000000 in
theorem szTS_Term_of (xs : List Tm) (h : ∀ x ∈ xs, SzT_Term x) : SzTS_Term xs := by
  intro hfit left h0 h1
  simp only [D.fit, List.length_map] at hfit
  have q0 := szR_spec left (xs.length + Tm.sumB xs)
  refine E_walk k_laws_szTermS m_laws_szTermS (of_decide_eq_true rfl) ?_
  simp (disch := omega) only [c_laws_szTermS, go_sem, Nat.reduceAdd, Nat.reduceSub, Nat.reduceLT, Nat.reduceLeDiff, Nat.reduceEqDiff, Nat.reduceBEq, Nat.reduceBneDiff, Nat.reduceMul, ↓reduceIte, Int.reduceToNat, reduceCtorEq, Int.reduceNeg, Int.reduceAdd]
  repeat' (refine boolP_split (fun hq => ?_) (fun hq => ?_) <;> (first | replace hq := dec_iff.1 hq | replace hq := dec_not.1 hq) <;> (try simp (disch := omega) only [go_sem, Nat.reduceAdd, Nat.reduceSub, Nat.reduceLT, Nat.reduceLeDiff, Nat.reduceEqDiff, Nat.reduceBEq, Nat.reduceBneDiff, Nat.reduceMul, ↓reduceIte, Int.reduceToNat, reduceCtorEq, Int.reduceNeg, Int.reduceAdd]))
  · omega
  refine go_loop (α := Int × Int) (fun a => ⟨slots 27 0 [(0, .arr (xs.map Tm.d)), (1, .int .i64 a.2), (5, .int .i64 a.1)], []⟩) (fun a => ∃ k : Nat, a.1 = k ∧ k ≤ xs.length ∧ 0 ≤ a.2 ∧ a.2 ≤ 1048576 ∧ szR a.2 (Tm.sumB (xs.drop k)) = szR left (xs.length + Tm.sumB xs : Nat)) (fun a => xs.length - a.1.toNat) (0, left - xs.length) ⟨0, rfl, Nat.zero_le _, by omega, by omega, ?_⟩ (by simp (disch := omega) only [go_sem, Nat.reduceAdd, Nat.reduceSub, Nat.reduceLT, Nat.reduceLeDiff, Nat.reduceEqDiff, Nat.reduceBEq, Nat.reduceBneDiff, Nat.reduceMul, ↓reduceIte, Int.reduceToNat, reduceCtorEq, Int.reduceNeg, Int.reduceAdd]) ?_
  · have q1 := szR_spec (left - xs.length) (Tm.sumB xs)
    rw [List.drop_zero]
    dsimp only
    omega
  · rintro ⟨i, l⟩ ⟨k, hi, hk, hl0, hl1, hs⟩
    dsimp only at hi hl0 hl1 hs
    rcases Nat.lt_or_ge k xs.length with hlt | hge
    · have hg := get_at Tm.d hlt
      rw [Tm.d_eq] at hg
      have hd : Tm.sumB (xs.drop k) = xs[k].bulk + Tm.sumB (xs.drop (k + 1)) := by rw [List.drop_eq_getElem_cons hlt, Tm.sumB]
      rw [hd] at hs
      have hc := h xs[k] (List.getElem_mem hlt) (D.fitss_mem hfit.2 _ (List.getElem_mem hlt)) l hl0 hl1
      have q1 := szR_spec l xs[k].bulk
      have q2 := szR_spec l (xs[k].bulk + Tm.sumB (xs.drop (k + 1)))
      have q3 := szR_spec (l - xs[k].bulk) (Tm.sumB (xs.drop (k + 1)))
      have hn : i.toNat = k := by omega
      simp (disch := omega) only [go_sem, Nat.reduceAdd, Nat.reduceSub, Nat.reduceLT, Nat.reduceLeDiff, Nat.reduceEqDiff, Nat.reduceBEq, Nat.reduceBneDiff, Nat.reduceMul, ↓reduceIte, Int.reduceToNat, reduceCtorEq, Int.reduceNeg, Int.reduceAdd, hn, hg, hc, m_laws_szTerm]
      repeat' (refine boolP_split (fun hq => ?_) (fun hq => ?_) <;> (first | replace hq := dec_iff.1 hq | replace hq := dec_not.1 hq) <;> (try simp (disch := omega) only [go_sem, Nat.reduceAdd, Nat.reduceSub, Nat.reduceLT, Nat.reduceLeDiff, Nat.reduceEqDiff, Nat.reduceBEq, Nat.reduceBneDiff, Nat.reduceMul, ↓reduceIte, Int.reduceToNat, reduceCtorEq, Int.reduceNeg, Int.reduceAdd]))
      · omega
      · refine ⟨(i + 1, l - xs[k].bulk), ⟨k + 1, by dsimp only; omega, hlt, by dsimp only; omega, by dsimp only; omega, by dsimp only; omega⟩, by dsimp only; omega, ?_⟩
        have e : szR l xs[k].bulk = l - xs[k].bulk := by omega
        simp only [e, and_self]
    · have hd : xs.drop k = [] := List.drop_eq_nil_of_le hge
      rw [hd] at hs
      have q1 := szR_spec l (Tm.sumB [])
      simp only [Tm.sumB] at hs q1
      simp (disch := omega) only [go_sem, Nat.reduceAdd, Nat.reduceSub, Nat.reduceLT, Nat.reduceLeDiff, Nat.reduceEqDiff, Nat.reduceBEq, Nat.reduceBneDiff, Nat.reduceMul, ↓reduceIte, Int.reduceToNat, reduceCtorEq, Int.reduceNeg, Int.reduceAdd]
      omega
set_option maxHeartbeats 1000000 in
theorem szT_Term_of (x : Tm) (h_args : SzTS_Term x.args) : SzT_Term x := by
  intro hfit left h0 h1
  rw [Tm.d_eq] at hfit
  simp only [D.fits, D.fit] at hfit
  replace h_args := h_args (by simp only [D.fit, List.length_map]; simp only [List.length_map] at hfit; simp only [hfit, and_self])
  have q := szR_spec left x.bulk
  have qb := Tm.bulk_eq x
  have q0 := szR_spec (left - (x.name.size : Int)) ((x.args.length + Tm.sumB x.args))
  refine E_walk k_laws_szTerm m_laws_szTerm (of_decide_eq_true rfl) ?_
  simp (disch := omega) only [c_laws_szTerm, go_sem, Nat.reduceAdd, Nat.reduceSub, Nat.reduceLT, Nat.reduceLeDiff, Nat.reduceEqDiff, Nat.reduceBEq, Nat.reduceBneDiff, Nat.reduceMul, ↓reduceIte, Int.reduceToNat, reduceCtorEq, Int.reduceNeg, Int.reduceAdd, h_args, m_laws_szTermS]
  repeat' (refine boolP_split (fun hq => ?_) (fun hq => ?_) <;> (first | replace hq := dec_iff.1 hq | replace hq := dec_not.1 hq) <;> (try simp (disch := omega) only [go_sem, Nat.reduceAdd, Nat.reduceSub, Nat.reduceLT, Nat.reduceLeDiff, Nat.reduceEqDiff, Nat.reduceBEq, Nat.reduceBneDiff, Nat.reduceMul, ↓reduceIte, Int.reduceToNat, reduceCtorEq, Int.reduceNeg, Int.reduceAdd, h_args, m_laws_szTermS]))
  all_goals omega
theorem szT_Term (x : Tm) : SzT_Term x := szT_Term_of x (szTS_Term_of x.args fun y hy => szT_Term y)
termination_by SizeOf.sizeOf x
decreasing_by exact Tm.lt_of_mem hy
theorem szTS_Term (xs : List Tm) : SzTS_Term xs := szTS_Term_of xs fun x _ => szT_Term x
def c_laws_szFormula : SC := (.seq (.reg [⟨(some 2), none, (.boxv 86 5 (.t 0))⟩, ⟨(some 4), none, (.mv (.c (.int .i64 0)))⟩]) (.seq (.reg [⟨(some 5), none, (.faddr 1 (.t 2))⟩, ⟨(some 6), none, (.load true 2 (.t 5))⟩, ⟨(some 7), none, (.mv (.t 1))⟩, ⟨(some 8), none, (.call 29 [(.t 6), (.t 7)])⟩, ⟨(some 1), none, (.mv (.t 8))⟩]) (.seq (.seq (.reg [⟨(some 9), none, (.mv (.t 1))⟩, ⟨(some 10), none, (.bin .lss false (.t 9) (.c (.int .i64 0)))⟩]) (.cond (.t 10) (.seq (.reg [⟨(some 4), none, (.mv (.c (.int .i64 (-(0 + 1)))))⟩]) .ret) .skip)) (.seq (.reg [⟨(some 11), none, (.mv (.t 1))⟩, ⟨(some 12), none, (.faddr 3 (.t 2))⟩, ⟨(some 13), none, (.load false 1 (.t 12))⟩, ⟨(some 14), none, (.len true (.t 13))⟩, ⟨(some 15), none, (.bin .sub false (.t 11) (.t 14))⟩, ⟨(some 1), none, (.mv (.t 15))⟩]) (.seq (.seq (.reg [⟨(some 16), none, (.mv (.t 1))⟩, ⟨(some 17), none, (.bin .lss false (.t 16) (.c (.int .i64 0)))⟩]) (.cond (.t 17) (.seq (.reg [⟨(some 4), none, (.mv (.c (.int .i64 (-(0 + 1)))))⟩]) .ret) .skip)) (.seq (.reg [⟨(some 18), none, (.faddr 4 (.t 2))⟩, ⟨(some 19), none, (.load false 1 (.t 18))⟩, ⟨(some 20), none, (.mv (.t 1))⟩, ⟨(some 21), none, (.call 105 [(.t 19), (.t 20)])⟩, ⟨(some 1), none, (.mv (.t 21))⟩]) (.seq (.seq (.reg [⟨(some 22), none, (.mv (.t 1))⟩, ⟨(some 23), none, (.bin .lss false (.t 22) (.c (.int .i64 0)))⟩]) (.cond (.t 23) (.seq (.reg [⟨(some 4), none, (.mv (.c (.int .i64 (-(0 + 1)))))⟩]) .ret) .skip)) (.seq (.reg [⟨(some 24), none, (.mv (.t 1))⟩, ⟨(some 4), none, (.mv (.t 24))⟩]) .ret))))))))
theorem k_laws_szFormula : codeOf Try.prog 46 = some ⟨25, c_laws_szFormula, [(.tmp 4)]⟩ := by kernel_rfl
theorem m_laws_szFormula : modes 46 = ⟨[], .asis, none, false⟩ := by unfold modes; rfl
def c_laws_szFormulaS : SC := (.seq (.reg [⟨(some 4), none, (.mv (.c (.int .i64 0)))⟩]) (.seq (.reg [⟨(some 6), none, (.mv (.t 1))⟩, ⟨(some 7), none, (.mv (.t 0))⟩, ⟨(some 8), none, (.len false (.t 7))⟩, ⟨(some 9), none, (.bin .sub false (.t 6) (.t 8))⟩, ⟨(some 1), none, (.mv (.t 9))⟩]) (.seq (.seq (.reg [⟨(some 10), none, (.mv (.t 1))⟩, ⟨(some 11), none, (.bin .lss false (.t 10) (.c (.int .i64 0)))⟩]) (.cond (.t 11) (.seq (.reg [⟨(some 4), none, (.mv (.c (.int .i64 (-(0 + 1)))))⟩]) .ret) .skip)) (.seq (.seq (.reg [⟨(some 5), none, (.mv (.c (.int .i64 0)))⟩]) (.block 0 (.loop [1, 1, 0, 0, 0, 1, 0, 0, 0, 0, 0, 0, 0, 0, 0, 0, 0, 0, 0, 0, 0, 0, 0, 0, 0, 0, 0] (.seq (.seq (.reg [⟨(some 12), none, (.mv (.t 5))⟩, ⟨(some 13), none, (.mv (.t 0))⟩, ⟨(some 14), none, (.len false (.t 13))⟩, ⟨(some 15), none, (.bin .lss false (.t 12) (.t 14))⟩]) (.cond (.t 15) .skip (.exit 0))) (.seq (.block 1 (.seq (.reg [⟨(some 18), none, (.mv (.t 0))⟩, ⟨(some 19), none, (.mv (.t 5))⟩, ⟨(some 20), none, (.iaddr 5 (.t 18) (.t 19))⟩, ⟨(some 21), none, (.load true 5 (.t 20))⟩, ⟨(some 22), none, (.mv (.t 1))⟩, ⟨(some 23), none, (.call 46 [(.t 21), (.t 22)])⟩, ⟨(some 1), none, (.mv (.t 23))⟩]) (.seq (.reg [⟨(some 24), none, (.mv (.t 1))⟩, ⟨(some 25), none, (.bin .lss false (.t 24) (.c (.int .i64 0)))⟩]) (.cond (.t 25) (.seq (.reg [⟨(some 4), none, (.mv (.c (.int .i64 (-(0 + 1)))))⟩]) .ret) .skip)))) (.reg [⟨(some 16), none, (.mv (.t 5))⟩, ⟨(some 17), none, (.bin .add false (.t 16) (.c (.int .i64 1)))⟩, ⟨(some 5), none, (.mv (.t 17))⟩])))))) (.seq (.reg [⟨(some 26), none, (.mv (.t 1))⟩, ⟨(some 4), none, (.mv (.t 26))⟩]) .ret)))))
theorem k_laws_szFormulaS : codeOf Try.prog 105 = some ⟨27, c_laws_szFormulaS, [(.tmp 4)]⟩ := by kernel_rfl
theorem m_laws_szFormulaS : modes 105 = ⟨[], .asis, none, false⟩ := by unfold modes; rfl
abbrev SzT_Formula (x : Fm) : Prop := D.fits x.d → ∀ left : Int, 0 ≤ left → left ≤ 1048576 → E 46 [x.sv, .int .i64 left] [] = some (.int .i64 (szR left x.bulk), [])
abbrev SzTS_Formula (xs : List Fm) : Prop := D.fit (.arr (xs.map Fm.d)) → ∀ left : Int, 0 ≤ left → left ≤ 1048576 → E 105 [.arr (xs.map Fm.d), .int .i64 left] [] = some (.int .i64 (szR left (xs.length + Fm.sumB xs : Nat)), [])
set_option maxHeartbeats 1000000 in
theorem szTS_Formula_of (xs : List Fm) (h : ∀ x ∈ xs, SzT_Formula x) : SzTS_Formula xs := by
  intro hfit left h0 h1
  simp only [D.fit, List.length_map] at hfit
  have q0 := szR_spec left (xs.length + Fm.sumB xs)
  refine E_walk k_laws_szFormulaS m_laws_szFormulaS (of_decide_eq_true rfl) ?_
  simp (disch := omega) only [c_laws_szFormulaS, go_sem, Nat.reduceAdd, Nat.reduceSub, Nat.reduceLT, Nat.reduceLeDiff, Nat.reduceEqDiff, Nat.reduceBEq, Nat.reduceBneDiff, Nat.reduceMul, ↓reduceIte, Int.reduceToNat, reduceCtorEq, Int.reduceNeg, Int.reduceAdd]
  repeat' (refine boolP_split (fun hq => ?_) (fun hq => ?_) <;> (first | replace hq := dec_iff.1 hq | replace hq := dec_not.1 hq) <;> (try simp (disch := omega) only [go_sem, Nat.reduceAdd, Nat.reduceSub, Nat.reduceLT, Nat.reduceLeDiff, Nat.reduceEqDiff, Nat.reduceBEq, Nat.reduceBneDiff, Nat.reduceMul, ↓reduceIte, Int.reduceToNat, reduceCtorEq, Int.reduceNeg, Int.reduceAdd]))
  · omega
  refine go_loop (α := Int × Int) (fun a => ⟨slots 27 0 [(0, .arr (xs.map Fm.d)), (1, .int .i64 a.2), (5, .int .i64 a.1)], []⟩) (fun a => ∃ k : Nat, a.1 = k ∧ k ≤ xs.length ∧ 0 ≤ a.2 ∧ a.2 ≤ 1048576 ∧ szR a.2 (Fm.sumB (xs.drop k)) = szR left (xs.length + Fm.sumB xs : Nat)) (fun a => xs.length - a.1.toNat) (0, left - xs.length) ⟨0, rfl, Nat.zero_le _, by omega, by omega, ?_⟩ (by simp (disch := omega) only [go_sem, Nat.reduceAdd, Nat.reduceSub, Nat.reduceLT, Nat.reduceLeDiff, Nat.reduceEqDiff, Nat.reduceBEq, Nat.reduceBneDiff, Nat.reduceMul, ↓reduceIte, Int.reduceToNat, reduceCtorEq, Int.reduceNeg, Int.reduceAdd]) ?_
  · have q1 := szR_spec (left - xs.length) (Fm.sumB xs)
    rw [List.drop_zero]
    dsimp only
    omega
  · rintro ⟨i, l⟩ ⟨k, hi, hk, hl0, hl1, hs⟩
    dsimp only at hi hl0 hl1 hs
    rcases Nat.lt_or_ge k xs.length with hlt | hge
    · have hg := get_at Fm.d hlt
      rw [Fm.d_eq] at hg
      have hd : Fm.sumB (xs.drop k) = xs[k].bulk + Fm.sumB (xs.drop (k + 1)) := by rw [List.drop_eq_getElem_cons hlt, Fm.sumB]
      rw [hd] at hs
      have hc := h xs[k] (List.getElem_mem hlt) (D.fitss_mem hfit.2 _ (List.getElem_mem hlt)) l hl0 hl1
      have q1 := szR_spec l xs[k].bulk
      have q2 := szR_spec l (xs[k].bulk + Fm.sumB (xs.drop (k + 1)))
      have q3 := szR_spec (l - xs[k].bulk) (Fm.sumB (xs.drop (k + 1)))
      have hn : i.toNat = k := by omega
      simp (disch := omega) only [go_sem, Nat.reduceAdd, Nat.reduceSub, Nat.reduceLT, Nat.reduceLeDiff, Nat.reduceEqDiff, Nat.reduceBEq, Nat.reduceBneDiff, Nat.reduceMul, ↓reduceIte, Int.reduceToNat, reduceCtorEq, Int.reduceNeg, Int.reduceAdd, hn, hg, hc, m_laws_szFormula]
      repeat' (refine boolP_split (fun hq => ?_) (fun hq => ?_) <;> (first | replace hq := dec_iff.1 hq | replace hq := dec_not.1 hq) <;> (try simp (disch := omega) only [go_sem, Nat.reduceAdd, Nat.reduceSub, Nat.reduceLT, Nat.reduceLeDiff, Nat.reduceEqDiff, Nat.reduceBEq, Nat.reduceBneDiff, Nat.reduceMul, ↓reduceIte, Int.reduceToNat, reduceCtorEq, Int.reduceNeg, Int.reduceAdd]))
      · omega
      · refine ⟨(i + 1, l - xs[k].bulk), ⟨k + 1, by dsimp only; omega, hlt, by dsimp only; omega, by dsimp only; omega, by dsimp only; omega⟩, by dsimp only; omega, ?_⟩
        have e : szR l xs[k].bulk = l - xs[k].bulk := by omega
        simp only [e, and_self]
    · have hd : xs.drop k = [] := List.drop_eq_nil_of_le hge
      rw [hd] at hs
      have q1 := szR_spec l (Fm.sumB [])
      simp only [Fm.sumB] at hs q1
      simp (disch := omega) only [go_sem, Nat.reduceAdd, Nat.reduceSub, Nat.reduceLT, Nat.reduceLeDiff, Nat.reduceEqDiff, Nat.reduceBEq, Nat.reduceBneDiff, Nat.reduceMul, ↓reduceIte, Int.reduceToNat, reduceCtorEq, Int.reduceNeg, Int.reduceAdd]
      omega
set_option maxHeartbeats 1000000 in
theorem szT_Formula_of (x : Fm) (h_atom : SzT_Term x.atom) (h_parts : SzTS_Formula x.parts) : SzT_Formula x := by
  intro hfit left h0 h1
  rw [Fm.d_eq] at hfit
  simp only [D.fits, D.fit] at hfit
  replace h_atom := h_atom (by rw [Tm.d_eq]; simp only [D.fits, D.fit, hfit, and_self])
  replace h_parts := h_parts (by simp only [D.fit, List.length_map]; simp only [List.length_map] at hfit; simp only [hfit, and_self])
  have q := szR_spec left x.bulk
  have qb := Fm.bulk_eq x
  have q0 := szR_spec left (x.atom.bulk)
  have q41 := szR_spec ((szR left (x.atom.bulk : Nat)) - (x.var.size : Int)) ((x.parts.length + Fm.sumB x.parts))
  refine E_walk k_laws_szFormula m_laws_szFormula (of_decide_eq_true rfl) ?_
  simp (disch := omega) only [c_laws_szFormula, go_sem, Nat.reduceAdd, Nat.reduceSub, Nat.reduceLT, Nat.reduceLeDiff, Nat.reduceEqDiff, Nat.reduceBEq, Nat.reduceBneDiff, Nat.reduceMul, ↓reduceIte, Int.reduceToNat, reduceCtorEq, Int.reduceNeg, Int.reduceAdd, h_atom, m_laws_szTerm, h_parts, m_laws_szFormulaS]
  repeat' (refine boolP_split (fun hq => ?_) (fun hq => ?_) <;> (first | replace hq := dec_iff.1 hq | replace hq := dec_not.1 hq) <;> (try simp (disch := omega) only [go_sem, Nat.reduceAdd, Nat.reduceSub, Nat.reduceLT, Nat.reduceLeDiff, Nat.reduceEqDiff, Nat.reduceBEq, Nat.reduceBneDiff, Nat.reduceMul, ↓reduceIte, Int.reduceToNat, reduceCtorEq, Int.reduceNeg, Int.reduceAdd, h_atom, m_laws_szTerm, h_parts, m_laws_szFormulaS]))
  all_goals omega
theorem szT_Formula (x : Fm) : SzT_Formula x := szT_Formula_of x (szT_Term x.atom) (szTS_Formula_of x.parts fun y hy => szT_Formula y)
termination_by SizeOf.sizeOf x
decreasing_by exact Fm.lt_of_mem hy
theorem szTS_Formula (xs : List Fm) : SzTS_Formula xs := szTS_Formula_of xs fun x _ => szT_Formula x
def c_laws_szLiteral : SC := (.seq (.reg [⟨(some 2), none, (.boxv 187 3 (.t 0))⟩, ⟨(some 4), none, (.mv (.c (.int .i64 0)))⟩]) (.seq (.reg [⟨(some 5), none, (.faddr 1 (.t 2))⟩, ⟨(some 6), none, (.load true 2 (.t 5))⟩, ⟨(some 7), none, (.mv (.t 1))⟩, ⟨(some 8), none, (.call 29 [(.t 6), (.t 7)])⟩, ⟨(some 1), none, (.mv (.t 8))⟩]) (.seq (.seq (.reg [⟨(some 9), none, (.mv (.t 1))⟩, ⟨(some 10), none, (.bin .lss false (.t 9) (.c (.int .i64 0)))⟩]) (.cond (.t 10) (.seq (.reg [⟨(some 4), none, (.mv (.c (.int .i64 (-(0 + 1)))))⟩]) .ret) .skip)) (.seq (.reg [⟨(some 11), none, (.mv (.t 1))⟩, ⟨(some 4), none, (.mv (.t 11))⟩]) .ret))))
theorem k_laws_szLiteral : codeOf Try.prog 152 = some ⟨12, c_laws_szLiteral, [(.tmp 4)]⟩ := by kernel_rfl
theorem m_laws_szLiteral : modes 152 = ⟨[], .asis, none, false⟩ := by unfold modes; rfl
def c_laws_szLiteralS : SC := (.seq (.reg [⟨(some 4), none, (.mv (.c (.int .i64 0)))⟩]) (.seq (.reg [⟨(some 6), none, (.mv (.t 1))⟩, ⟨(some 7), none, (.mv (.t 0))⟩, ⟨(some 8), none, (.len false (.t 7))⟩, ⟨(some 9), none, (.bin .sub false (.t 6) (.t 8))⟩, ⟨(some 1), none, (.mv (.t 9))⟩]) (.seq (.seq (.reg [⟨(some 10), none, (.mv (.t 1))⟩, ⟨(some 11), none, (.bin .lss false (.t 10) (.c (.int .i64 0)))⟩]) (.cond (.t 11) (.seq (.reg [⟨(some 4), none, (.mv (.c (.int .i64 (-(0 + 1)))))⟩]) .ret) .skip)) (.seq (.seq (.reg [⟨(some 5), none, (.mv (.c (.int .i64 0)))⟩]) (.block 0 (.loop [1, 1, 0, 0, 0, 1, 0, 0, 0, 0, 0, 0, 0, 0, 0, 0, 0, 0, 0, 0, 0, 0, 0, 0, 0, 0, 0] (.seq (.seq (.reg [⟨(some 12), none, (.mv (.t 5))⟩, ⟨(some 13), none, (.mv (.t 0))⟩, ⟨(some 14), none, (.len false (.t 13))⟩, ⟨(some 15), none, (.bin .lss false (.t 12) (.t 14))⟩]) (.cond (.t 15) .skip (.exit 0))) (.seq (.block 1 (.seq (.reg [⟨(some 18), none, (.mv (.t 0))⟩, ⟨(some 19), none, (.mv (.t 5))⟩, ⟨(some 20), none, (.iaddr 3 (.t 18) (.t 19))⟩, ⟨(some 21), none, (.load true 3 (.t 20))⟩, ⟨(some 22), none, (.mv (.t 1))⟩, ⟨(some 23), none, (.call 152 [(.t 21), (.t 22)])⟩, ⟨(some 1), none, (.mv (.t 23))⟩]) (.seq (.reg [⟨(some 24), none, (.mv (.t 1))⟩, ⟨(some 25), none, (.bin .lss false (.t 24) (.c (.int .i64 0)))⟩]) (.cond (.t 25) (.seq (.reg [⟨(some 4), none, (.mv (.c (.int .i64 (-(0 + 1)))))⟩]) .ret) .skip)))) (.reg [⟨(some 16), none, (.mv (.t 5))⟩, ⟨(some 17), none, (.bin .add false (.t 16) (.c (.int .i64 1)))⟩, ⟨(some 5), none, (.mv (.t 17))⟩])))))) (.seq (.reg [⟨(some 26), none, (.mv (.t 1))⟩, ⟨(some 4), none, (.mv (.t 26))⟩]) .ret)))))
theorem k_laws_szLiteralS : codeOf Try.prog 76 = some ⟨27, c_laws_szLiteralS, [(.tmp 4)]⟩ := by kernel_rfl
theorem m_laws_szLiteralS : modes 76 = ⟨[], .asis, none, false⟩ := by unfold modes; rfl
abbrev SzT_Literal (x : Lt) : Prop := D.fits x.d → ∀ left : Int, 0 ≤ left → left ≤ 1048576 → E 152 [x.sv, .int .i64 left] [] = some (.int .i64 (szR left x.bulk), [])
abbrev SzTS_Literal (xs : List Lt) : Prop := D.fit (.arr (xs.map Lt.d)) → ∀ left : Int, 0 ≤ left → left ≤ 1048576 → E 76 [.arr (xs.map Lt.d), .int .i64 left] [] = some (.int .i64 (szR left (xs.length + Lt.sumB xs : Nat)), [])
set_option maxHeartbeats 1000000 in
theorem szTS_Literal_of (xs : List Lt) (h : ∀ x ∈ xs, SzT_Literal x) : SzTS_Literal xs := by
  intro hfit left h0 h1
  simp only [D.fit, List.length_map] at hfit
  have q0 := szR_spec left (xs.length + Lt.sumB xs)
  refine E_walk k_laws_szLiteralS m_laws_szLiteralS (of_decide_eq_true rfl) ?_
  simp (disch := omega) only [c_laws_szLiteralS, go_sem, Nat.reduceAdd, Nat.reduceSub, Nat.reduceLT, Nat.reduceLeDiff, Nat.reduceEqDiff, Nat.reduceBEq, Nat.reduceBneDiff, Nat.reduceMul, ↓reduceIte, Int.reduceToNat, reduceCtorEq, Int.reduceNeg, Int.reduceAdd]
  repeat' (refine boolP_split (fun hq => ?_) (fun hq => ?_) <;> (first | replace hq := dec_iff.1 hq | replace hq := dec_not.1 hq) <;> (try simp (disch := omega) only [go_sem, Nat.reduceAdd, Nat.reduceSub, Nat.reduceLT, Nat.reduceLeDiff, Nat.reduceEqDiff, Nat.reduceBEq, Nat.reduceBneDiff, Nat.reduceMul, ↓reduceIte, Int.reduceToNat, reduceCtorEq, Int.reduceNeg, Int.reduceAdd]))
  · omega
  refine go_loop (α := Int × Int) (fun a => ⟨slots 27 0 [(0, .arr (xs.map Lt.d)), (1, .int .i64 a.2), (5, .int .i64 a.1)], []⟩) (fun a => ∃ k : Nat, a.1 = k ∧ k ≤ xs.length ∧ 0 ≤ a.2 ∧ a.2 ≤ 1048576 ∧ szR a.2 (Lt.sumB (xs.drop k)) = szR left (xs.length + Lt.sumB xs : Nat)) (fun a => xs.length - a.1.toNat) (0, left - xs.length) ⟨0, rfl, Nat.zero_le _, by omega, by omega, ?_⟩ (by simp (disch := omega) only [go_sem, Nat.reduceAdd, Nat.reduceSub, Nat.reduceLT, Nat.reduceLeDiff, Nat.reduceEqDiff, Nat.reduceBEq, Nat.reduceBneDiff, Nat.reduceMul, ↓reduceIte, Int.reduceToNat, reduceCtorEq, Int.reduceNeg, Int.reduceAdd]) ?_
  · have q1 := szR_spec (left - xs.length) (Lt.sumB xs)
    rw [List.drop_zero]
    dsimp only
    omega
  · rintro ⟨i, l⟩ ⟨k, hi, hk, hl0, hl1, hs⟩
    dsimp only at hi hl0 hl1 hs
    rcases Nat.lt_or_ge k xs.length with hlt | hge
    · have hg := get_at Lt.d hlt
      rw [Lt.d_eq] at hg
      have hd : Lt.sumB (xs.drop k) = xs[k].bulk + Lt.sumB (xs.drop (k + 1)) := by rw [List.drop_eq_getElem_cons hlt, Lt.sumB]
      rw [hd] at hs
      have hc := h xs[k] (List.getElem_mem hlt) (D.fitss_mem hfit.2 _ (List.getElem_mem hlt)) l hl0 hl1
      have q1 := szR_spec l xs[k].bulk
      have q2 := szR_spec l (xs[k].bulk + Lt.sumB (xs.drop (k + 1)))
      have q3 := szR_spec (l - xs[k].bulk) (Lt.sumB (xs.drop (k + 1)))
      have hn : i.toNat = k := by omega
      simp (disch := omega) only [go_sem, Nat.reduceAdd, Nat.reduceSub, Nat.reduceLT, Nat.reduceLeDiff, Nat.reduceEqDiff, Nat.reduceBEq, Nat.reduceBneDiff, Nat.reduceMul, ↓reduceIte, Int.reduceToNat, reduceCtorEq, Int.reduceNeg, Int.reduceAdd, hn, hg, hc, m_laws_szLiteral]
      repeat' (refine boolP_split (fun hq => ?_) (fun hq => ?_) <;> (first | replace hq := dec_iff.1 hq | replace hq := dec_not.1 hq) <;> (try simp (disch := omega) only [go_sem, Nat.reduceAdd, Nat.reduceSub, Nat.reduceLT, Nat.reduceLeDiff, Nat.reduceEqDiff, Nat.reduceBEq, Nat.reduceBneDiff, Nat.reduceMul, ↓reduceIte, Int.reduceToNat, reduceCtorEq, Int.reduceNeg, Int.reduceAdd]))
      · omega
      · refine ⟨(i + 1, l - xs[k].bulk), ⟨k + 1, by dsimp only; omega, hlt, by dsimp only; omega, by dsimp only; omega, by dsimp only; omega⟩, by dsimp only; omega, ?_⟩
        have e : szR l xs[k].bulk = l - xs[k].bulk := by omega
        simp only [e, and_self]
    · have hd : xs.drop k = [] := List.drop_eq_nil_of_le hge
      rw [hd] at hs
      have q1 := szR_spec l (Lt.sumB [])
      simp only [Lt.sumB] at hs q1
      simp (disch := omega) only [go_sem, Nat.reduceAdd, Nat.reduceSub, Nat.reduceLT, Nat.reduceLeDiff, Nat.reduceEqDiff, Nat.reduceBEq, Nat.reduceBneDiff, Nat.reduceMul, ↓reduceIte, Int.reduceToNat, reduceCtorEq, Int.reduceNeg, Int.reduceAdd]
      omega
set_option maxHeartbeats 1000000 in
theorem szT_Literal_of (x : Lt) (h_atom : SzT_Term x.atom) : SzT_Literal x := by
  intro hfit left h0 h1
  rw [Lt.d_eq] at hfit
  simp only [D.fits, D.fit] at hfit
  replace h_atom := h_atom (by rw [Tm.d_eq]; simp only [D.fits, D.fit, hfit, and_self])
  have q := szR_spec left x.bulk
  have qb := Lt.bulk_eq x
  have q0 := szR_spec left (x.atom.bulk)
  refine E_walk k_laws_szLiteral m_laws_szLiteral (of_decide_eq_true rfl) ?_
  simp (disch := omega) only [c_laws_szLiteral, go_sem, Nat.reduceAdd, Nat.reduceSub, Nat.reduceLT, Nat.reduceLeDiff, Nat.reduceEqDiff, Nat.reduceBEq, Nat.reduceBneDiff, Nat.reduceMul, ↓reduceIte, Int.reduceToNat, reduceCtorEq, Int.reduceNeg, Int.reduceAdd, h_atom, m_laws_szTerm]
  repeat' (refine boolP_split (fun hq => ?_) (fun hq => ?_) <;> (first | replace hq := dec_iff.1 hq | replace hq := dec_not.1 hq) <;> (try simp (disch := omega) only [go_sem, Nat.reduceAdd, Nat.reduceSub, Nat.reduceLT, Nat.reduceLeDiff, Nat.reduceEqDiff, Nat.reduceBEq, Nat.reduceBneDiff, Nat.reduceMul, ↓reduceIte, Int.reduceToNat, reduceCtorEq, Int.reduceNeg, Int.reduceAdd, h_atom, m_laws_szTerm]))
  all_goals omega
theorem szT_Literal (x : Lt) : SzT_Literal x := szT_Literal_of x (szT_Term x.atom)
theorem szTS_Literal (xs : List Lt) : SzTS_Literal xs := szTS_Literal_of xs fun x _ => szT_Literal x
def c_laws_szClause : SC := (.seq (.reg [⟨(some 2), none, (.boxv 41 1 (.t 0))⟩, ⟨(some 4), none, (.mv (.c (.int .i64 0)))⟩]) (.seq (.reg [⟨(some 5), none, (.faddr 0 (.t 2))⟩, ⟨(some 6), none, (.load false 1 (.t 5))⟩, ⟨(some 7), none, (.mv (.t 1))⟩, ⟨(some 8), none, (.call 76 [(.t 6), (.t 7)])⟩, ⟨(some 1), none, (.mv (.t 8))⟩]) (.seq (.seq (.reg [⟨(some 9), none, (.mv (.t 1))⟩, ⟨(some 10), none, (.bin .lss false (.t 9) (.c (.int .i64 0)))⟩]) (.cond (.t 10) (.seq (.reg [⟨(some 4), none, (.mv (.c (.int .i64 (-(0 + 1)))))⟩]) .ret) .skip)) (.seq (.reg [⟨(some 11), none, (.mv (.t 1))⟩, ⟨(some 4), none, (.mv (.t 11))⟩]) .ret))))
theorem k_laws_szClause : codeOf Try.prog 23 = some ⟨12, c_laws_szClause, [(.tmp 4)]⟩ := by kernel_rfl
theorem m_laws_szClause : modes 23 = ⟨[], .asis, none, false⟩ := by unfold modes; rfl
abbrev SzT_Clause (x : Cl) : Prop := D.fits x.d → ∀ left : Int, 0 ≤ left → left ≤ 1048576 → E 23 [x.sv, .int .i64 left] [] = some (.int .i64 (szR left x.bulk), [])
set_option maxHeartbeats 1000000 in
theorem szT_Clause_of (x : Cl) (h_lits : SzTS_Literal x.lits) : SzT_Clause x := by
  intro hfit left h0 h1
  rw [Cl.d_eq] at hfit
  simp only [D.fits, D.fit] at hfit
  replace h_lits := h_lits (by simp only [D.fit, List.length_map]; simp only [List.length_map] at hfit; simp only [hfit, and_self])
  have q := szR_spec left x.bulk
  have qb := Cl.bulk_eq x
  have q0 := szR_spec left ((x.lits.length + Lt.sumB x.lits))
  refine E_walk k_laws_szClause m_laws_szClause (of_decide_eq_true rfl) ?_
  simp (disch := omega) only [c_laws_szClause, go_sem, Nat.reduceAdd, Nat.reduceSub, Nat.reduceLT, Nat.reduceLeDiff, Nat.reduceEqDiff, Nat.reduceBEq, Nat.reduceBneDiff, Nat.reduceMul, ↓reduceIte, Int.reduceToNat, reduceCtorEq, Int.reduceNeg, Int.reduceAdd, h_lits, m_laws_szLiteralS]
  repeat' (refine boolP_split (fun hq => ?_) (fun hq => ?_) <;> (first | replace hq := dec_iff.1 hq | replace hq := dec_not.1 hq) <;> (try simp (disch := omega) only [go_sem, Nat.reduceAdd, Nat.reduceSub, Nat.reduceLT, Nat.reduceLeDiff, Nat.reduceEqDiff, Nat.reduceBEq, Nat.reduceBneDiff, Nat.reduceMul, ↓reduceIte, Int.reduceToNat, reduceCtorEq, Int.reduceNeg, Int.reduceAdd, h_lits, m_laws_szLiteralS]))
  all_goals omega
theorem szT_Clause (x : Cl) : SzT_Clause x := szT_Clause_of x (szTS_Literal_of x.lits fun y hy => szT_Literal y)
def c_laws_szAssigned : SC := (.seq (.reg [⟨(some 2), none, (.boxv 153 2 (.t 0))⟩, ⟨(some 4), none, (.mv (.c (.int .i64 0)))⟩]) (.seq (.reg [⟨(some 5), none, (.mv (.t 1))⟩, ⟨(some 6), none, (.faddr 0 (.t 2))⟩, ⟨(some 7), none, (.load false 1 (.t 6))⟩, ⟨(some 8), none, (.len true (.t 7))⟩, ⟨(some 9), none, (.bin .sub false (.t 5) (.t 8))⟩, ⟨(some 1), none, (.mv (.t 9))⟩]) (.seq (.seq (.reg [⟨(some 10), none, (.mv (.t 1))⟩, ⟨(some 11), none, (.bin .lss false (.t 10) (.c (.int .i64 0)))⟩]) (.cond (.t 11) (.seq (.reg [⟨(some 4), none, (.mv (.c (.int .i64 (-(0 + 1)))))⟩]) .ret) .skip)) (.seq (.reg [⟨(some 12), none, (.mv (.t 1))⟩, ⟨(some 4), none, (.mv (.t 12))⟩]) .ret))))
theorem k_laws_szAssigned : codeOf Try.prog 115 = some ⟨13, c_laws_szAssigned, [(.tmp 4)]⟩ := by kernel_rfl
theorem m_laws_szAssigned : modes 115 = ⟨[], .asis, none, false⟩ := by unfold modes; rfl
def c_laws_szAssignedS : SC := (.seq (.reg [⟨(some 4), none, (.mv (.c (.int .i64 0)))⟩]) (.seq (.reg [⟨(some 6), none, (.mv (.t 1))⟩, ⟨(some 7), none, (.mv (.t 0))⟩, ⟨(some 8), none, (.len false (.t 7))⟩, ⟨(some 9), none, (.bin .sub false (.t 6) (.t 8))⟩, ⟨(some 1), none, (.mv (.t 9))⟩]) (.seq (.seq (.reg [⟨(some 10), none, (.mv (.t 1))⟩, ⟨(some 11), none, (.bin .lss false (.t 10) (.c (.int .i64 0)))⟩]) (.cond (.t 11) (.seq (.reg [⟨(some 4), none, (.mv (.c (.int .i64 (-(0 + 1)))))⟩]) .ret) .skip)) (.seq (.seq (.reg [⟨(some 5), none, (.mv (.c (.int .i64 0)))⟩]) (.block 0 (.loop [1, 1, 0, 0, 0, 1, 0, 0, 0, 0, 0, 0, 0, 0, 0, 0, 0, 0, 0, 0, 0, 0, 0, 0, 0, 0, 0] (.seq (.seq (.reg [⟨(some 12), none, (.mv (.t 5))⟩, ⟨(some 13), none, (.mv (.t 0))⟩, ⟨(some 14), none, (.len false (.t 13))⟩, ⟨(some 15), none, (.bin .lss false (.t 12) (.t 14))⟩]) (.cond (.t 15) .skip (.exit 0))) (.seq (.block 1 (.seq (.reg [⟨(some 18), none, (.mv (.t 0))⟩, ⟨(some 19), none, (.mv (.t 5))⟩, ⟨(some 20), none, (.iaddr 2 (.t 18) (.t 19))⟩, ⟨(some 21), none, (.load true 2 (.t 20))⟩, ⟨(some 22), none, (.mv (.t 1))⟩, ⟨(some 23), none, (.call 115 [(.t 21), (.t 22)])⟩, ⟨(some 1), none, (.mv (.t 23))⟩]) (.seq (.reg [⟨(some 24), none, (.mv (.t 1))⟩, ⟨(some 25), none, (.bin .lss false (.t 24) (.c (.int .i64 0)))⟩]) (.cond (.t 25) (.seq (.reg [⟨(some 4), none, (.mv (.c (.int .i64 (-(0 + 1)))))⟩]) .ret) .skip)))) (.reg [⟨(some 16), none, (.mv (.t 5))⟩, ⟨(some 17), none, (.bin .add false (.t 16) (.c (.int .i64 1)))⟩, ⟨(some 5), none, (.mv (.t 17))⟩])))))) (.seq (.reg [⟨(some 26), none, (.mv (.t 1))⟩, ⟨(some 4), none, (.mv (.t 26))⟩]) .ret)))))
theorem k_laws_szAssignedS : codeOf Try.prog 53 = some ⟨27, c_laws_szAssignedS, [(.tmp 4)]⟩ := by kernel_rfl
theorem m_laws_szAssignedS : modes 53 = ⟨[], .asis, none, false⟩ := by unfold modes; rfl
abbrev SzT_Assigned (x : Ag) : Prop := D.fits x.d → ∀ left : Int, 0 ≤ left → left ≤ 1048576 → E 115 [x.sv, .int .i64 left] [] = some (.int .i64 (szR left x.bulk), [])
abbrev SzTS_Assigned (xs : List Ag) : Prop := D.fit (.arr (xs.map Ag.d)) → ∀ left : Int, 0 ≤ left → left ≤ 1048576 → E 53 [.arr (xs.map Ag.d), .int .i64 left] [] = some (.int .i64 (szR left (xs.length + Ag.sumB xs : Nat)), [])
set_option maxHeartbeats 1000000 in
theorem szTS_Assigned_of (xs : List Ag) (h : ∀ x ∈ xs, SzT_Assigned x) : SzTS_Assigned xs := by
  intro hfit left h0 h1
  simp only [D.fit, List.length_map] at hfit
  have q0 := szR_spec left (xs.length + Ag.sumB xs)
  refine E_walk k_laws_szAssignedS m_laws_szAssignedS (of_decide_eq_true rfl) ?_
  simp (disch := omega) only [c_laws_szAssignedS, go_sem, Nat.reduceAdd, Nat.reduceSub, Nat.reduceLT, Nat.reduceLeDiff, Nat.reduceEqDiff, Nat.reduceBEq, Nat.reduceBneDiff, Nat.reduceMul, ↓reduceIte, Int.reduceToNat, reduceCtorEq, Int.reduceNeg, Int.reduceAdd]
  repeat' (refine boolP_split (fun hq => ?_) (fun hq => ?_) <;> (first | replace hq := dec_iff.1 hq | replace hq := dec_not.1 hq) <;> (try simp (disch := omega) only [go_sem, Nat.reduceAdd, Nat.reduceSub, Nat.reduceLT, Nat.reduceLeDiff, Nat.reduceEqDiff, Nat.reduceBEq, Nat.reduceBneDiff, Nat.reduceMul, ↓reduceIte, Int.reduceToNat, reduceCtorEq, Int.reduceNeg, Int.reduceAdd]))
  · omega
  refine go_loop (α := Int × Int) (fun a => ⟨slots 27 0 [(0, .arr (xs.map Ag.d)), (1, .int .i64 a.2), (5, .int .i64 a.1)], []⟩) (fun a => ∃ k : Nat, a.1 = k ∧ k ≤ xs.length ∧ 0 ≤ a.2 ∧ a.2 ≤ 1048576 ∧ szR a.2 (Ag.sumB (xs.drop k)) = szR left (xs.length + Ag.sumB xs : Nat)) (fun a => xs.length - a.1.toNat) (0, left - xs.length) ⟨0, rfl, Nat.zero_le _, by omega, by omega, ?_⟩ (by simp (disch := omega) only [go_sem, Nat.reduceAdd, Nat.reduceSub, Nat.reduceLT, Nat.reduceLeDiff, Nat.reduceEqDiff, Nat.reduceBEq, Nat.reduceBneDiff, Nat.reduceMul, ↓reduceIte, Int.reduceToNat, reduceCtorEq, Int.reduceNeg, Int.reduceAdd]) ?_
  · have q1 := szR_spec (left - xs.length) (Ag.sumB xs)
    rw [List.drop_zero]
    dsimp only
    omega
  · rintro ⟨i, l⟩ ⟨k, hi, hk, hl0, hl1, hs⟩
    dsimp only at hi hl0 hl1 hs
    rcases Nat.lt_or_ge k xs.length with hlt | hge
    · have hg := get_at Ag.d hlt
      rw [Ag.d_eq] at hg
      have hd : Ag.sumB (xs.drop k) = xs[k].bulk + Ag.sumB (xs.drop (k + 1)) := by rw [List.drop_eq_getElem_cons hlt, Ag.sumB]
      rw [hd] at hs
      have hc := h xs[k] (List.getElem_mem hlt) (D.fitss_mem hfit.2 _ (List.getElem_mem hlt)) l hl0 hl1
      have q1 := szR_spec l xs[k].bulk
      have q2 := szR_spec l (xs[k].bulk + Ag.sumB (xs.drop (k + 1)))
      have q3 := szR_spec (l - xs[k].bulk) (Ag.sumB (xs.drop (k + 1)))
      have hn : i.toNat = k := by omega
      simp (disch := omega) only [go_sem, Nat.reduceAdd, Nat.reduceSub, Nat.reduceLT, Nat.reduceLeDiff, Nat.reduceEqDiff, Nat.reduceBEq, Nat.reduceBneDiff, Nat.reduceMul, ↓reduceIte, Int.reduceToNat, reduceCtorEq, Int.reduceNeg, Int.reduceAdd, hn, hg, hc, m_laws_szAssigned]
      repeat' (refine boolP_split (fun hq => ?_) (fun hq => ?_) <;> (first | replace hq := dec_iff.1 hq | replace hq := dec_not.1 hq) <;> (try simp (disch := omega) only [go_sem, Nat.reduceAdd, Nat.reduceSub, Nat.reduceLT, Nat.reduceLeDiff, Nat.reduceEqDiff, Nat.reduceBEq, Nat.reduceBneDiff, Nat.reduceMul, ↓reduceIte, Int.reduceToNat, reduceCtorEq, Int.reduceNeg, Int.reduceAdd]))
      · omega
      · refine ⟨(i + 1, l - xs[k].bulk), ⟨k + 1, by dsimp only; omega, hlt, by dsimp only; omega, by dsimp only; omega, by dsimp only; omega⟩, by dsimp only; omega, ?_⟩
        have e : szR l xs[k].bulk = l - xs[k].bulk := by omega
        simp only [e, and_self]
    · have hd : xs.drop k = [] := List.drop_eq_nil_of_le hge
      rw [hd] at hs
      have q1 := szR_spec l (Ag.sumB [])
      simp only [Ag.sumB] at hs q1
      simp (disch := omega) only [go_sem, Nat.reduceAdd, Nat.reduceSub, Nat.reduceLT, Nat.reduceLeDiff, Nat.reduceEqDiff, Nat.reduceBEq, Nat.reduceBneDiff, Nat.reduceMul, ↓reduceIte, Int.reduceToNat, reduceCtorEq, Int.reduceNeg, Int.reduceAdd]
      omega
set_option maxHeartbeats 1000000 in
theorem szT_Assigned_of (x : Ag) : SzT_Assigned x := by
  intro hfit left h0 h1
  rw [Ag.d_eq] at hfit
  simp only [D.fits, D.fit] at hfit
  have q := szR_spec left x.bulk
  have qb := Ag.bulk_eq x
  refine E_walk k_laws_szAssigned m_laws_szAssigned (of_decide_eq_true rfl) ?_
  simp (disch := omega) only [c_laws_szAssigned, go_sem, Nat.reduceAdd, Nat.reduceSub, Nat.reduceLT, Nat.reduceLeDiff, Nat.reduceEqDiff, Nat.reduceBEq, Nat.reduceBneDiff, Nat.reduceMul, ↓reduceIte, Int.reduceToNat, reduceCtorEq, Int.reduceNeg, Int.reduceAdd]
  repeat' (refine boolP_split (fun hq => ?_) (fun hq => ?_) <;> (first | replace hq := dec_iff.1 hq | replace hq := dec_not.1 hq) <;> (try simp (disch := omega) only [go_sem, Nat.reduceAdd, Nat.reduceSub, Nat.reduceLT, Nat.reduceLeDiff, Nat.reduceEqDiff, Nat.reduceBEq, Nat.reduceBneDiff, Nat.reduceMul, ↓reduceIte, Int.reduceToNat, reduceCtorEq, Int.reduceNeg, Int.reduceAdd]))
  all_goals omega
theorem szT_Assigned (x : Ag) : SzT_Assigned x := szT_Assigned_of x 
theorem szTS_Assigned (xs : List Ag) : SzTS_Assigned xs := szTS_Assigned_of xs fun x _ => szT_Assigned x
def c_laws_szBinding : SC := (.seq (.reg [⟨(some 2), none, (.boxv 192 3 (.t 0))⟩, ⟨(some 4), none, (.mv (.c (.int .i64 0)))⟩]) (.seq (.reg [⟨(some 5), none, (.mv (.t 1))⟩, ⟨(some 6), none, (.faddr 0 (.t 2))⟩, ⟨(some 7), none, (.load false 1 (.t 6))⟩, ⟨(some 8), none, (.len true (.t 7))⟩, ⟨(some 9), none, (.bin .sub false (.t 5) (.t 8))⟩, ⟨(some 1), none, (.mv (.t 9))⟩]) (.seq (.seq (.reg [⟨(some 10), none, (.mv (.t 1))⟩, ⟨(some 11), none, (.bin .lss false (.t 10) (.c (.int .i64 0)))⟩]) (.cond (.t 11) (.seq (.reg [⟨(some 4), none, (.mv (.c (.int .i64 (-(0 + 1)))))⟩]) .ret) .skip)) (.seq (.reg [⟨(some 12), none, (.faddr 1 (.t 2))⟩, ⟨(some 13), none, (.load true 2 (.t 12))⟩, ⟨(some 14), none, (.mv (.t 1))⟩, ⟨(some 15), none, (.call 29 [(.t 13), (.t 14)])⟩, ⟨(some 1), none, (.mv (.t 15))⟩]) (.seq (.seq (.reg [⟨(some 16), none, (.mv (.t 1))⟩, ⟨(some 17), none, (.bin .lss false (.t 16) (.c (.int .i64 0)))⟩]) (.cond (.t 17) (.seq (.reg [⟨(some 4), none, (.mv (.c (.int .i64 (-(0 + 1)))))⟩]) .ret) .skip)) (.seq (.reg [⟨(some 18), none, (.mv (.t 1))⟩, ⟨(some 4), none, (.mv (.t 18))⟩]) .ret))))))
theorem k_laws_szBinding : codeOf Try.prog 157 = some ⟨19, c_laws_szBinding, [(.tmp 4)]⟩ := by kernel_rfl
theorem m_laws_szBinding : modes 157 = ⟨[], .asis, none, false⟩ := by unfold modes; rfl
def c_laws_szBindingS : SC := (.seq (.reg [⟨(some 4), none, (.mv (.c (.int .i64 0)))⟩]) (.seq (.reg [⟨(some 6), none, (.mv (.t 1))⟩, ⟨(some 7), none, (.mv (.t 0))⟩, ⟨(some 8), none, (.len false (.t 7))⟩, ⟨(some 9), none, (.bin .sub false (.t 6) (.t 8))⟩, ⟨(some 1), none, (.mv (.t 9))⟩]) (.seq (.seq (.reg [⟨(some 10), none, (.mv (.t 1))⟩, ⟨(some 11), none, (.bin .lss false (.t 10) (.c (.int .i64 0)))⟩]) (.cond (.t 11) (.seq (.reg [⟨(some 4), none, (.mv (.c (.int .i64 (-(0 + 1)))))⟩]) .ret) .skip)) (.seq (.seq (.reg [⟨(some 5), none, (.mv (.c (.int .i64 0)))⟩]) (.block 0 (.loop [1, 1, 0, 0, 0, 1, 0, 0, 0, 0, 0, 0, 0, 0, 0, 0, 0, 0, 0, 0, 0, 0, 0, 0, 0, 0, 0] (.seq (.seq (.reg [⟨(some 12), none, (.mv (.t 5))⟩, ⟨(some 13), none, (.mv (.t 0))⟩, ⟨(some 14), none, (.len false (.t 13))⟩, ⟨(some 15), none, (.bin .lss false (.t 12) (.t 14))⟩]) (.cond (.t 15) .skip (.exit 0))) (.seq (.block 1 (.seq (.reg [⟨(some 18), none, (.mv (.t 0))⟩, ⟨(some 19), none, (.mv (.t 5))⟩, ⟨(some 20), none, (.iaddr 3 (.t 18) (.t 19))⟩, ⟨(some 21), none, (.load true 3 (.t 20))⟩, ⟨(some 22), none, (.mv (.t 1))⟩, ⟨(some 23), none, (.call 157 [(.t 21), (.t 22)])⟩, ⟨(some 1), none, (.mv (.t 23))⟩]) (.seq (.reg [⟨(some 24), none, (.mv (.t 1))⟩, ⟨(some 25), none, (.bin .lss false (.t 24) (.c (.int .i64 0)))⟩]) (.cond (.t 25) (.seq (.reg [⟨(some 4), none, (.mv (.c (.int .i64 (-(0 + 1)))))⟩]) .ret) .skip)))) (.reg [⟨(some 16), none, (.mv (.t 5))⟩, ⟨(some 17), none, (.bin .add false (.t 16) (.c (.int .i64 1)))⟩, ⟨(some 5), none, (.mv (.t 17))⟩])))))) (.seq (.reg [⟨(some 26), none, (.mv (.t 1))⟩, ⟨(some 4), none, (.mv (.t 26))⟩]) .ret)))))
theorem k_laws_szBindingS : codeOf Try.prog 83 = some ⟨27, c_laws_szBindingS, [(.tmp 4)]⟩ := by kernel_rfl
theorem m_laws_szBindingS : modes 83 = ⟨[], .asis, none, false⟩ := by unfold modes; rfl
abbrev SzT_Binding (x : Bd) : Prop := D.fits x.d → ∀ left : Int, 0 ≤ left → left ≤ 1048576 → E 157 [x.sv, .int .i64 left] [] = some (.int .i64 (szR left x.bulk), [])
abbrev SzTS_Binding (xs : List Bd) : Prop := D.fit (.arr (xs.map Bd.d)) → ∀ left : Int, 0 ≤ left → left ≤ 1048576 → E 83 [.arr (xs.map Bd.d), .int .i64 left] [] = some (.int .i64 (szR left (xs.length + Bd.sumB xs : Nat)), [])
set_option maxHeartbeats 1000000 in
theorem szTS_Binding_of (xs : List Bd) (h : ∀ x ∈ xs, SzT_Binding x) : SzTS_Binding xs := by
  intro hfit left h0 h1
  simp only [D.fit, List.length_map] at hfit
  have q0 := szR_spec left (xs.length + Bd.sumB xs)
  refine E_walk k_laws_szBindingS m_laws_szBindingS (of_decide_eq_true rfl) ?_
  simp (disch := omega) only [c_laws_szBindingS, go_sem, Nat.reduceAdd, Nat.reduceSub, Nat.reduceLT, Nat.reduceLeDiff, Nat.reduceEqDiff, Nat.reduceBEq, Nat.reduceBneDiff, Nat.reduceMul, ↓reduceIte, Int.reduceToNat, reduceCtorEq, Int.reduceNeg, Int.reduceAdd]
  repeat' (refine boolP_split (fun hq => ?_) (fun hq => ?_) <;> (first | replace hq := dec_iff.1 hq | replace hq := dec_not.1 hq) <;> (try simp (disch := omega) only [go_sem, Nat.reduceAdd, Nat.reduceSub, Nat.reduceLT, Nat.reduceLeDiff, Nat.reduceEqDiff, Nat.reduceBEq, Nat.reduceBneDiff, Nat.reduceMul, ↓reduceIte, Int.reduceToNat, reduceCtorEq, Int.reduceNeg, Int.reduceAdd]))
  · omega
  refine go_loop (α := Int × Int) (fun a => ⟨slots 27 0 [(0, .arr (xs.map Bd.d)), (1, .int .i64 a.2), (5, .int .i64 a.1)], []⟩) (fun a => ∃ k : Nat, a.1 = k ∧ k ≤ xs.length ∧ 0 ≤ a.2 ∧ a.2 ≤ 1048576 ∧ szR a.2 (Bd.sumB (xs.drop k)) = szR left (xs.length + Bd.sumB xs : Nat)) (fun a => xs.length - a.1.toNat) (0, left - xs.length) ⟨0, rfl, Nat.zero_le _, by omega, by omega, ?_⟩ (by simp (disch := omega) only [go_sem, Nat.reduceAdd, Nat.reduceSub, Nat.reduceLT, Nat.reduceLeDiff, Nat.reduceEqDiff, Nat.reduceBEq, Nat.reduceBneDiff, Nat.reduceMul, ↓reduceIte, Int.reduceToNat, reduceCtorEq, Int.reduceNeg, Int.reduceAdd]) ?_
  · have q1 := szR_spec (left - xs.length) (Bd.sumB xs)
    rw [List.drop_zero]
    dsimp only
    omega
  · rintro ⟨i, l⟩ ⟨k, hi, hk, hl0, hl1, hs⟩
    dsimp only at hi hl0 hl1 hs
    rcases Nat.lt_or_ge k xs.length with hlt | hge
    · have hg := get_at Bd.d hlt
      rw [Bd.d_eq] at hg
      have hd : Bd.sumB (xs.drop k) = xs[k].bulk + Bd.sumB (xs.drop (k + 1)) := by rw [List.drop_eq_getElem_cons hlt, Bd.sumB]
      rw [hd] at hs
      have hc := h xs[k] (List.getElem_mem hlt) (D.fitss_mem hfit.2 _ (List.getElem_mem hlt)) l hl0 hl1
      have q1 := szR_spec l xs[k].bulk
      have q2 := szR_spec l (xs[k].bulk + Bd.sumB (xs.drop (k + 1)))
      have q3 := szR_spec (l - xs[k].bulk) (Bd.sumB (xs.drop (k + 1)))
      have hn : i.toNat = k := by omega
      simp (disch := omega) only [go_sem, Nat.reduceAdd, Nat.reduceSub, Nat.reduceLT, Nat.reduceLeDiff, Nat.reduceEqDiff, Nat.reduceBEq, Nat.reduceBneDiff, Nat.reduceMul, ↓reduceIte, Int.reduceToNat, reduceCtorEq, Int.reduceNeg, Int.reduceAdd, hn, hg, hc, m_laws_szBinding]
      repeat' (refine boolP_split (fun hq => ?_) (fun hq => ?_) <;> (first | replace hq := dec_iff.1 hq | replace hq := dec_not.1 hq) <;> (try simp (disch := omega) only [go_sem, Nat.reduceAdd, Nat.reduceSub, Nat.reduceLT, Nat.reduceLeDiff, Nat.reduceEqDiff, Nat.reduceBEq, Nat.reduceBneDiff, Nat.reduceMul, ↓reduceIte, Int.reduceToNat, reduceCtorEq, Int.reduceNeg, Int.reduceAdd]))
      · omega
      · refine ⟨(i + 1, l - xs[k].bulk), ⟨k + 1, by dsimp only; omega, hlt, by dsimp only; omega, by dsimp only; omega, by dsimp only; omega⟩, by dsimp only; omega, ?_⟩
        have e : szR l xs[k].bulk = l - xs[k].bulk := by omega
        simp only [e, and_self]
    · have hd : xs.drop k = [] := List.drop_eq_nil_of_le hge
      rw [hd] at hs
      have q1 := szR_spec l (Bd.sumB [])
      simp only [Bd.sumB] at hs q1
      simp (disch := omega) only [go_sem, Nat.reduceAdd, Nat.reduceSub, Nat.reduceLT, Nat.reduceLeDiff, Nat.reduceEqDiff, Nat.reduceBEq, Nat.reduceBneDiff, Nat.reduceMul, ↓reduceIte, Int.reduceToNat, reduceCtorEq, Int.reduceNeg, Int.reduceAdd]
      omega
set_option maxHeartbeats 1000000 in
theorem szT_Binding_of (x : Bd) (h_term : SzT_Term x.term) : SzT_Binding x := by
  intro hfit left h0 h1
  rw [Bd.d_eq] at hfit
  simp only [D.fits, D.fit] at hfit
  replace h_term := h_term (by rw [Tm.d_eq]; simp only [D.fits, D.fit, hfit, and_self])
  have q := szR_spec left x.bulk
  have qb := Bd.bulk_eq x
  have q0 := szR_spec (left - (x.var.size : Int)) (x.term.bulk)
  refine E_walk k_laws_szBinding m_laws_szBinding (of_decide_eq_true rfl) ?_
  simp (disch := omega) only [c_laws_szBinding, go_sem, Nat.reduceAdd, Nat.reduceSub, Nat.reduceLT, Nat.reduceLeDiff, Nat.reduceEqDiff, Nat.reduceBEq, Nat.reduceBneDiff, Nat.reduceMul, ↓reduceIte, Int.reduceToNat, reduceCtorEq, Int.reduceNeg, Int.reduceAdd, h_term, m_laws_szTerm]
  repeat' (refine boolP_split (fun hq => ?_) (fun hq => ?_) <;> (first | replace hq := dec_iff.1 hq | replace hq := dec_not.1 hq) <;> (try simp (disch := omega) only [go_sem, Nat.reduceAdd, Nat.reduceSub, Nat.reduceLT, Nat.reduceLeDiff, Nat.reduceEqDiff, Nat.reduceBEq, Nat.reduceBneDiff, Nat.reduceMul, ↓reduceIte, Int.reduceToNat, reduceCtorEq, Int.reduceNeg, Int.reduceAdd, h_term, m_laws_szTerm]))
  all_goals omega
theorem szT_Binding (x : Bd) : SzT_Binding x := szT_Binding_of x (szT_Term x.term)
theorem szTS_Binding (xs : List Bd) : SzTS_Binding xs := szTS_Binding_of xs fun x _ => szT_Binding x
def c_laws_szSubstitution : SC := (.seq (.reg [⟨(some 2), none, (.boxv 53 1 (.t 0))⟩, ⟨(some 4), none, (.mv (.c (.int .i64 0)))⟩]) (.seq (.reg [⟨(some 5), none, (.faddr 0 (.t 2))⟩, ⟨(some 6), none, (.load false 1 (.t 5))⟩, ⟨(some 7), none, (.mv (.t 1))⟩, ⟨(some 8), none, (.call 83 [(.t 6), (.t 7)])⟩, ⟨(some 1), none, (.mv (.t 8))⟩]) (.seq (.seq (.reg [⟨(some 9), none, (.mv (.t 1))⟩, ⟨(some 10), none, (.bin .lss false (.t 9) (.c (.int .i64 0)))⟩]) (.cond (.t 10) (.seq (.reg [⟨(some 4), none, (.mv (.c (.int .i64 (-(0 + 1)))))⟩]) .ret) .skip)) (.seq (.reg [⟨(some 11), none, (.mv (.t 1))⟩, ⟨(some 4), none, (.mv (.t 11))⟩]) .ret))))
theorem k_laws_szSubstitution : codeOf Try.prog 28 = some ⟨12, c_laws_szSubstitution, [(.tmp 4)]⟩ := by kernel_rfl
theorem m_laws_szSubstitution : modes 28 = ⟨[], .asis, none, false⟩ := by unfold modes; rfl
abbrev SzT_Substitution (x : Sb) : Prop := D.fits x.d → ∀ left : Int, 0 ≤ left → left ≤ 1048576 → E 28 [x.sv, .int .i64 left] [] = some (.int .i64 (szR left x.bulk), [])
set_option maxHeartbeats 1000000 in
theorem szT_Substitution_of (x : Sb) (h_binds : SzTS_Binding x.binds) : SzT_Substitution x := by
  intro hfit left h0 h1
  rw [Sb.d_eq] at hfit
  simp only [D.fits, D.fit] at hfit
  replace h_binds := h_binds (by simp only [D.fit, List.length_map]; simp only [List.length_map] at hfit; simp only [hfit, and_self])
  have q := szR_spec left x.bulk
  have qb := Sb.bulk_eq x
  have q0 := szR_spec left ((x.binds.length + Bd.sumB x.binds))
  refine E_walk k_laws_szSubstitution m_laws_szSubstitution (of_decide_eq_true rfl) ?_
  simp (disch := omega) only [c_laws_szSubstitution, go_sem, Nat.reduceAdd, Nat.reduceSub, Nat.reduceLT, Nat.reduceLeDiff, Nat.reduceEqDiff, Nat.reduceBEq, Nat.reduceBneDiff, Nat.reduceMul, ↓reduceIte, Int.reduceToNat, reduceCtorEq, Int.reduceNeg, Int.reduceAdd, h_binds, m_laws_szBindingS]
  repeat' (refine boolP_split (fun hq => ?_) (fun hq => ?_) <;> (first | replace hq := dec_iff.1 hq | replace hq := dec_not.1 hq) <;> (try simp (disch := omega) only [go_sem, Nat.reduceAdd, Nat.reduceSub, Nat.reduceLT, Nat.reduceLeDiff, Nat.reduceEqDiff, Nat.reduceBEq, Nat.reduceBneDiff, Nat.reduceMul, ↓reduceIte, Int.reduceToNat, reduceCtorEq, Int.reduceNeg, Int.reduceAdd, h_binds, m_laws_szBindingS]))
  all_goals omega
theorem szT_Substitution (x : Sb) : SzT_Substitution x := szT_Substitution_of x (szTS_Binding_of x.binds fun y hy => szT_Binding y)
end Go.Proofs.Ytifpfjbpfekkmaa
