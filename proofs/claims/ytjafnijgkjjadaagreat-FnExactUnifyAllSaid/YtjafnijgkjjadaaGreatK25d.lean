/-
  This text holds, one behind the other: This text tells what the validity of substitutions answers in both packages, and the place of a binding. No condition.
  This text tells what copies of terms answer in both packages. No condition.
  This text holds a rule for runs of which a part of the answer is left open. No condition.
  This text tells what the reference's copies of terms answer. No condition.
  This text tells what the search for a binding answers. No condition.
  This text holds the plain laws of applying a substitution to a term. No condition.
  This text tells what applying a substitution answers in both packages. No condition.
  This text holds plain laws of expressions and of the sizes of terms. No condition.
  This text tells what ApplySubstitution answers in both packages. No condition.
  This text holds the plain laws of composing substitutions. No condition.
  This text tells what the laws' marks answer. No condition.
  This text tells what the laws read of the marks. No condition.
  This text tells what the laws' marks of a record answer. No condition.
  This text tells what the laws' measuring functions answer. No condition.
  This text tells what the laws' copying functions answer. No condition.
  This text tells what the laws' comparing functions answer. No condition.
  This text holds plain laws of the sizes of terms, for the laws of the program. No condition.
  This text tells what composing substitutions answers in the program. No condition.
  This text tells what composing substitutions answers in both packages. No condition.
  This text tells what the variables of a term answer in both packages. No condition.
  This text tells what the variables of a term answer in the reference. No condition.
-/
import Derived.Test.YtjafnijgkjjadaaGreatK25c
set_option maxRecDepth 100000
set_option linter.unusedSimpArgs false
set_option linter.unusedVariables false
namespace Go.Proofs.YtjafnijgkjjadaaGreat
open Go.RowKit

theorem less_irrefl : ∀ x : List UInt8, Op.bytesLess x x = false
  | [] => rfl
  | a :: x => by simp [Op.bytesLess, less_irrefl x]
theorem less_asymm : ∀ x y : List UInt8, Op.bytesLess x y = true → Op.bytesLess y x = false
  | [], [], h => by simp [Op.bytesLess] at h
  | [], _ :: _, _ => rfl
  | _ :: _, [], h => by simp [Op.bytesLess] at h
  | a :: x, b :: y, h => by
    simp only [Op.bytesLess, Bool.or_eq_true, decide_eq_true_eq, Bool.and_eq_true, beq_iff_eq] at h
    simp only [Op.bytesLess, Bool.or_eq_false_iff, decide_eq_false_iff_not]
    rcases h with h | ⟨rfl, h⟩
    · have h2 : ¬ b < a := by intro h3; exact absurd (UInt8.lt_trans h h3) (UInt8.lt_irrefl _)
      have h3 : (b == a) = false := by
        rw [beq_eq_false_iff_ne]; rintro rfl; exact UInt8.lt_irrefl _ h
      exact ⟨h2, by rw [h3]; rfl⟩
    · exact ⟨UInt8.lt_irrefl _, by rw [less_asymm x y h]; simp⟩
theorem less_total : ∀ x y : List UInt8, Op.bytesLess x y = false → Op.bytesLess y x = false → x = y
  | [], [], _, _ => rfl
  | [], _ :: _, h, _ => by simp [Op.bytesLess] at h
  | _ :: _, [], _, h => by simp [Op.bytesLess] at h
  | a :: x, b :: y, h, k => by
    simp only [Op.bytesLess, Bool.or_eq_false_iff, decide_eq_false_iff_not] at h k
    have hab : a = b := by
      have h1 := h.1; have h2 := k.1
      rw [UInt8.lt_iff_toNat_lt] at h1 h2
      exact UInt8.toNat_inj.1 (by omega)
    subst hab
    have h1 : Op.bytesLess x y = false := by simpa using h.2
    have h2 : Op.bytesLess y x = false := by simpa using k.2
    rw [less_total x y h1 h2]

theorem strLt_asymm {a b : ByteArray} (h : strLt a b = true) : strLt b a = false := less_asymm _ _ h
theorem strLt_total {a b : ByteArray} (h : strLt a b = false) (h' : strLt b a = false) : a = b := bytes_ext (less_total _ _ h h')
theorem strLe_eq (a b : ByteArray) : (strLt a b || dec (a = b)) = !strLt b a := by
  cases h : strLt b a with
  | false =>
    cases h2 : strLt a b with
    | false => rw [dec_t (strLt_total h2 h)]; rfl
    | true => rfl
  | true =>
    rw [strLt_asymm h, dec_f (by rintro rfl; rw [strLt_self] at h; cases h)]
    rfl

noncomputable def bdOk (x : Bd) : Bool := varB x.var && (x.term.valid && !dec (x.term.name = x.var))
noncomputable def bdAt (xs : List Bd) (k : Nat) : Bool := match xs[k]? with
  | none => true
  | some x => bdOk x && (match k with
    | 0 => true
    | j + 1 => match xs[j]? with
      | none => true
      | some y => strLt y.var x.var)
noncomputable def bdTo (xs : List Bd) : Nat → Bool
  | 0 => true
  | k + 1 => bdTo xs k && bdAt xs k
theorem bdTo_mono {xs : List Bd} {k n : Nat} (h : bdTo xs k = false) (hn : k ≤ n) : bdTo xs n = false := by
  induction n with
  | zero => obtain rfl : k = 0 := by omega
            exact h
  | succ n ih =>
    rcases Nat.lt_or_ge n k with h1 | h1
    · obtain rfl : k = n + 1 := by omega
      exact h
    · rw [bdTo, ih h1]; rfl
theorem bdAt_zero {xs : List Bd} (h : 0 < xs.length) : bdAt xs 0 = bdOk xs[0] := by
  unfold bdAt
  rw [List.getElem?_eq_getElem h]
  simp
theorem bdAt_succ {xs : List Bd} {j : Nat} (h : j + 1 < xs.length) : bdAt xs (j + 1) = (bdOk xs[j + 1] && strLt xs[j].var xs[j + 1].var) := by
  unfold bdAt
  rw [List.getElem?_eq_getElem h]
  simp only [List.getElem?_eq_getElem (show j < xs.length by omega)]
theorem bdTo_at {xs : List Bd} {k j : Nat} (h : bdTo xs k = true) (hj : j < k) : bdAt xs j = true := by
  induction k with
  | zero => omega
  | succ k ih =>
    rw [bdTo, Bool.and_eq_true] at h
    rcases Nat.lt_or_ge j k with h1 | h1
    · exact ih h.1 h1
    · obtain rfl : j = k := by omega
      exact h.2
theorem bdAt_ok {xs : List Bd} {j : Nat} (hl : j < xs.length) (h : bdAt xs j = true) : bdOk xs[j] = true := by
  cases j with
  | zero => rw [← bdAt_zero hl]; exact h
  | succ j => rw [bdAt_succ hl, Bool.and_eq_true] at h; exact h.1
noncomputable def Sb.ok (x : Sb) : Bool := decide (x.binds.length ≤ 12) && bdTo x.binds x.binds.length
theorem Sb.not_ok {x : Sb} {k : Nat} (h : bdTo x.binds k = true) (h' : bdAt x.binds k = false) (hk : k < x.binds.length) : x.ok = false := by
  have : bdTo x.binds x.binds.length = false := bdTo_mono (k := k + 1) (by rw [bdTo, h, h']; rfl) (by omega)
  unfold Sb.ok
  rw [this, Bool.and_false]
def Sb.tame (x : Sb) : Prop := x.binds.length ≤ 1099511627776 ∧ ∀ y ∈ x.binds, y.term.nodes ≤ 1099511627776
theorem Sb.tame_at {x : Sb} (h : x.tame) {k : Nat} (hk : k < x.binds.length) : x.binds[k].term.nodes ≤ 1099511627776 := h.2 _ (List.getElem_mem hk)

def c_impl_IsValidSubstitution : SC := (.seq (.reg [⟨(some 1), none, (.boxv 28 1 (.t 0))⟩, ⟨(some 2), none, (.mv (.c (.bool false)))⟩]) (.seq (.seq (.reg [⟨(some 5), none, (.faddr 0 (.t 1))⟩, ⟨(some 6), none, (.load false 1 (.t 5))⟩, ⟨(some 7), none, (.len false (.t 6))⟩, ⟨(some 8), none, (.mv (.c (.int .i64 0)))⟩]) (.block 0 (.loop [0, 1, 0, 0, 0, 0, 1, 1, 1, 0, 0, 0, 0, 0, 0, 0, 0, 0, 0, 0, 0, 0, 0, 0, 0, 0, 0, 0, 0, 0, 0, 0, 0, 0, 0, 0, 0, 0, 0, 0, 0, 0, 0, 0, 0, 0, 0, 0, 0, 0, 0, 0] (.seq (.reg [⟨(some 9), none, (.bin .lss false (.t 8) (.t 7))⟩]) (.seq (.cond (.t 9) .skip (.exit 0)) (.seq (.block 1 (.seq (.reg [⟨(some 10), none, (.mv (.t 8))⟩, ⟨(some 11), none, (.iaddr 3 (.t 6) (.t 8))⟩, ⟨(some 12), none, (.load true 3 (.t 11))⟩, ⟨(some 4), none, (.alloc 67 [(.str ⟨#[]⟩), (.str ⟨#[]⟩), .nil])⟩, ⟨(some 3), none, (.mv (.t 10))⟩, ⟨none, none, (.store 3 (.t 4) (.t 12))⟩]) (.seq (.dreg [[], [0], [1, 0], [2, 1, 0], [3, 2, 1, 0], [4, 3, 2, 1, 0], [5, 4, 3, 2, 1, 0], [6, 5, 4, 3, 2, 1, 0], [7, 6, 5, 4, 3, 2, 1, 0], [8, 7, 6, 5, 4, 3, 2, 1, 0], [7, 6, 5, 4, 3, 2, 1, 0], [10, 7, 6, 5, 4, 3, 2, 1, 0], [7, 6, 5, 4, 3, 2, 1, 0], [12, 7, 6, 5, 4, 3, 2, 1, 0], [11, 10, 7, 6, 5, 4, 3, 2, 1, 0, 13, 12], [14, 11, 10, 7, 6, 5, 4, 3, 2, 1, 0, 13, 12], [15, 14, 11, 10, 7, 6, 5, 4, 3, 2, 1, 0, 13, 12], [9, 8, 7, 6, 5, 4, 3, 2, 1, 0, 16, 15, 14, 11, 10, 13, 12], [7, 6, 5, 4, 3, 2, 1, 0, 17, 9, 8, 16, 15, 14, 11, 10, 13, 12], [4, 3, 2, 1, 0, 18, 7, 6, 5, 17, 9, 8, 16, 15, 14, 11, 10, 13, 12], [19, 4, 3, 2, 1, 0, 18, 7, 6, 5, 17, 9, 8, 16, 15, 14, 11, 10, 13, 12], [20, 19, 4, 3, 2, 1, 0, 18, 7, 6, 5, 17, 9, 8, 16, 15, 14, 11, 10, 13, 12], [21, 20, 19, 4, 3, 2, 1, 0, 18, 7, 6, 5, 17, 9, 8, 16, 15, 14, 11, 10, 13, 12], [22, 21, 20, 19, 4, 3, 2, 1, 0, 18, 7, 6, 5, 17, 9, 8, 16, 15, 14, 11, 10, 13, 12], [23, 22, 21, 20, 19, 4, 3, 2, 1, 0, 18, 7, 6, 5, 17, 9, 8, 16, 15, 14, 11, 10, 13, 12], [20, 19, 4, 3, 2, 1, 0, 18, 7, 6, 5, 17, 9, 8, 16, 15, 14, 11, 10, 13, 12, 24, 23, 22, 21], [25, 20, 19, 4, 3, 2, 1, 0, 18, 7, 6, 5, 17, 9, 8, 16, 15, 14, 11, 10, 13, 12, 24, 23, 22, 21], [26, 25, 20, 19, 4, 3, 2, 1, 0, 18, 7, 6, 5, 17, 9, 8, 16, 15, 14, 11, 10, 13, 12, 24, 23, 22, 21], [27, 26, 25, 20, 19, 4, 3, 2, 1, 0, 18, 7, 6, 5, 17, 9, 8, 16, 15, 14, 11, 10, 13, 12, 24, 23, 22, 21], [28, 27, 26, 25, 20, 19, 4, 3, 2, 1, 0, 18, 7, 6, 5, 17, 9, 8, 16, 15, 14, 11, 10, 13, 12, 24, 23, 22, 21], [26, 25, 20, 19, 4, 3, 2, 1, 0, 18, 7, 6, 5, 17, 9, 8, 16, 15, 14, 11, 10, 13, 12, 24, 23, 22, 21], [30, 26, 25, 20, 19, 4, 3, 2, 1, 0, 18, 7, 6, 5, 17, 9, 8, 16, 15, 14, 11, 10, 13, 12, 24, 23, 22, 21], [29, 28, 27, 26, 25, 20, 19, 4, 3, 2, 1, 0, 18, 7, 6, 5, 17, 9, 8, 16, 15, 14, 11, 10, 13, 12, 24, 23, 22, 21, 31, 30], [26, 25, 20, 19, 4, 3, 2, 1, 0, 18, 7, 6, 5, 17, 9, 8, 16, 15, 14, 11, 10, 13, 12, 24, 23, 22, 21, 32, 29, 28, 27, 31, 30]] [⟨(some 13), none, (.faddr 0 (.t 4))⟩, ⟨(some 14), none, (.load false 1 (.t 13))⟩, ⟨(some 15), none, (.call 83 [(.t 14)])⟩, ⟨(some 16), none, (.un .not (.t 15))⟩, ⟨(some 17), none, (.mv (.t 16))⟩, ⟨(some 18), (some (17, false)), (.mv (.t 3))⟩, ⟨(some 19), (some (17, false)), (.bin .gtr false (.t 18) (.c (.int .i64 0)))⟩, ⟨(some 20), (some (17, false)), (.mv (.t 19))⟩, ⟨(some 21), (some (20, true)), (.faddr 0 (.t 4))⟩, ⟨(some 22), (some (20, true)), (.load false 1 (.t 21))⟩, ⟨(some 23), (some (20, true)), (.faddr 0 (.t 1))⟩, ⟨(some 24), (some (20, true)), (.load false 1 (.t 23))⟩, ⟨(some 25), (some (20, true)), (.mv (.t 3))⟩, ⟨(some 26), (some (20, true)), (.bin .sub false (.t 25) (.c (.int .i64 1)))⟩, ⟨(some 27), (some (20, true)), (.iaddr 3 (.t 24) (.t 26))⟩, ⟨(some 28), (some (20, true)), (.faddr 0 (.t 27))⟩, ⟨(some 29), (some (20, true)), (.load false 1 (.t 28))⟩, ⟨(some 30), (some (20, true)), (.bin .leq false (.t 22) (.t 29))⟩, ⟨(some 31), (some (17, false)), (.pick (.t 20) (.t 30) (.c (.bool false)))⟩, ⟨(some 32), none, (.pick (.t 17) (.c (.bool true)) (.t 31))⟩, ⟨(some 33), none, (.mv (.t 32))⟩, ⟨(some 34), (some (33, false)), (.faddr 1 (.t 4))⟩, ⟨(some 35), (some (33, false)), (.load true 2 (.t 34))⟩, ⟨(some 36), (some (33, false)), (.call 41 [(.t 35)])⟩, ⟨(some 37), (some (33, false)), (.un .not (.t 36))⟩, ⟨(some 38), none, (.pick (.t 33) (.c (.bool true)) (.t 37))⟩, ⟨(some 39), none, (.mv (.t 38))⟩, ⟨(some 40), (some (39, false)), (.faddr 1 (.t 4))⟩, ⟨(some 41), (some (39, false)), (.faddr 0 (.t 40))⟩, ⟨(some 42), (some (39, false)), (.load false 1 (.t 41))⟩, ⟨(some 43), (some (39, false)), (.faddr 0 (.t 4))⟩, ⟨(some 44), (some (39, false)), (.load false 1 (.t 43))⟩, ⟨(some 45), (some (39, false)), (.bin .eql false (.t 42) (.t 44))⟩, ⟨(some 46), none, (.pick (.t 39) (.c (.bool true)) (.t 45))⟩]) (.cond (.t 46) (.seq (.reg [⟨(some 2), none, (.mv (.c (.bool false)))⟩]) .ret) .skip)))) (.reg [⟨(some 47), none, (.bin .add false (.t 8) (.c (.int .i64 1)))⟩, ⟨(some 8), none, (.mv (.t 47))⟩]))))))) (.seq (.reg [⟨(some 48), none, (.faddr 0 (.t 1))⟩, ⟨(some 49), none, (.load false 1 (.t 48))⟩, ⟨(some 50), none, (.len false (.t 49))⟩, ⟨(some 51), none, (.bin .leq false (.t 50) (.c (.int .i64 12)))⟩, ⟨(some 2), none, (.mv (.t 51))⟩]) .ret)))
theorem k_impl_IsValidSubstitution : codeOf Tryz.prog 60 = some ⟨52, c_impl_IsValidSubstitution, [(.tmp 2)]⟩ := by kernel_rfl
theorem m_impl_IsValidSubstitution : modes 60 = ⟨[], .asis, none, false⟩ := by unfold modes; rfl

def c_spec_l4Good : SC := (.seq (.reg [⟨(some 1), none, (.boxv 28 1 (.t 0))⟩, ⟨(some 2), none, (.mv (.c (.bool false)))⟩]) (.seq (.seq (.reg [⟨(some 3), none, (.mv (.c (.int .i64 0)))⟩]) (.block 0 (.loop [0, 1, 0, 1, 0, 0, 0, 0, 0, 0, 0, 0, 0, 0, 0, 0, 0, 0, 0, 0, 0, 0, 0, 0, 0, 0, 0, 0, 0, 0, 0, 0, 0, 0, 0, 0, 0, 0, 0, 0, 0, 0, 0, 0, 0, 0, 0, 0, 0, 0, 0, 0, 0, 0, 0] (.seq (.seq (.reg [⟨(some 5), none, (.mv (.t 3))⟩, ⟨(some 6), none, (.faddr 0 (.t 1))⟩, ⟨(some 7), none, (.load false 1 (.t 6))⟩, ⟨(some 8), none, (.len false (.t 7))⟩, ⟨(some 9), none, (.bin .lss false (.t 5) (.t 8))⟩]) (.cond (.t 9) .skip (.exit 0))) (.seq (.block 1 (.seq (.reg [⟨(some 12), none, (.faddr 0 (.t 1))⟩, ⟨(some 13), none, (.load false 1 (.t 12))⟩, ⟨(some 14), none, (.mv (.t 3))⟩, ⟨(some 15), none, (.iaddr 3 (.t 13) (.t 14))⟩, ⟨(some 16), none, (.load true 3 (.t 15))⟩, ⟨(some 4), none, (.alloc 67 [(.str ⟨#[]⟩), (.str ⟨#[]⟩), .nil])⟩, ⟨none, none, (.store 3 (.t 4) (.t 16))⟩]) (.seq (.dreg [[], [0], [1, 0], [2, 1, 0], [3, 2, 1, 0], [4, 3, 2, 1, 0], [5, 4, 3, 2, 1, 0], [6, 5, 4, 3, 2, 1, 0], [7, 6, 5, 4, 3, 2, 1, 0], [4, 3, 2, 1, 0, 8, 7, 6, 5], [9, 4, 3, 2, 1, 0, 8, 7, 6, 5], [10, 9, 4, 3, 2, 1, 0, 8, 7, 6, 5], [11, 10, 9, 4, 3, 2, 1, 0, 8, 7, 6, 5], [12, 11, 10, 9, 4, 3, 2, 1, 0, 8, 7, 6, 5], [10, 9, 4, 3, 2, 1, 0, 8, 7, 6, 5], [14, 10, 9, 4, 3, 2, 1, 0, 8, 7, 6, 5], [13, 12, 11, 10, 9, 4, 3, 2, 1, 0, 8, 7, 6, 5, 15, 14], [10, 9, 4, 3, 2, 1, 0, 8, 7, 6, 5, 16, 13, 12, 11, 15, 14], [17, 10, 9, 4, 3, 2, 1, 0, 8, 7, 6, 5, 16, 13, 12, 11, 15, 14], [18, 17, 10, 9, 4, 3, 2, 1, 0, 8, 7, 6, 5, 16, 13, 12, 11, 15, 14], [19, 18, 17, 10, 9, 4, 3, 2, 1, 0, 8, 7, 6, 5, 16, 13, 12, 11, 15, 14], [20, 19, 18, 17, 10, 9, 4, 3, 2, 1, 0, 8, 7, 6, 5, 16, 13, 12, 11, 15, 14], [21, 20, 19, 18, 17, 10, 9, 4, 3, 2, 1, 0, 8, 7, 6, 5, 16, 13, 12, 11, 15, 14], [22, 21, 20, 19, 18, 17, 10, 9, 4, 3, 2, 1, 0, 8, 7, 6, 5, 16, 13, 12, 11, 15, 14], [21, 20, 19, 18, 17, 10, 9, 4, 3, 2, 1, 0, 8, 7, 6, 5, 16, 13, 12, 11, 15, 14], [24, 21, 20, 19, 18, 17, 10, 9, 4, 3, 2, 1, 0, 8, 7, 6, 5, 16, 13, 12, 11, 15, 14], [23, 22, 21, 20, 19, 18, 17, 10, 9, 4, 3, 2, 1, 0, 8, 7, 6, 5, 16, 13, 12, 11, 15, 14, 25, 24], [26, 23, 22, 21, 20, 19, 18, 17, 10, 9, 4, 3, 2, 1, 0, 8, 7, 6, 5, 16, 13, 12, 11, 15, 14, 25, 24], [27, 26, 23, 22, 21, 20, 19, 18, 17, 10, 9, 4, 3, 2, 1, 0, 8, 7, 6, 5, 16, 13, 12, 11, 15, 14, 25, 24], [21, 20, 19, 18, 17, 10, 9, 4, 3, 2, 1, 0, 8, 7, 6, 5, 16, 13, 12, 11, 15, 14], [29, 21, 20, 19, 18, 17, 10, 9, 4, 3, 2, 1, 0, 8, 7, 6, 5, 16, 13, 12, 11, 15, 14], [28, 27, 26, 23, 22, 21, 20, 19, 18, 17, 10, 9, 4, 3, 2, 1, 0, 8, 7, 6, 5, 16, 13, 12, 11, 15, 14, 25, 24, 30, 29], [21, 20, 19, 18, 17, 10, 9, 4, 3, 2, 1, 0, 8, 7, 6, 5, 16, 13, 12, 11, 15, 14, 31, 28, 27, 26, 23, 22, 25, 24, 30, 29], [18, 17, 10, 9, 4, 3, 2, 1, 0, 8, 7, 6, 5, 16, 13, 12, 11, 15, 14, 32, 21, 20, 19, 31, 28, 27, 26, 23, 22, 25, 24, 30, 29]] [⟨(some 17), none, (.faddr 0 (.t 4))⟩, ⟨(some 18), none, (.load false 1 (.t 17))⟩, ⟨(some 19), none, (.call 39 [(.t 18)])⟩, ⟨(some 20), none, (.un .not (.t 19))⟩, ⟨(some 21), none, (.mv (.t 20))⟩, ⟨(some 22), (some (21, false)), (.faddr 1 (.t 4))⟩, ⟨(some 23), (some (21, false)), (.load true 2 (.t 22))⟩, ⟨(some 24), (some (21, false)), (.call 36 [(.t 23)])⟩, ⟨(some 25), (some (21, false)), (.un .not (.t 24))⟩, ⟨(some 26), none, (.pick (.t 21) (.c (.bool true)) (.t 25))⟩, ⟨(some 27), none, (.mv (.t 26))⟩, ⟨(some 28), (some (27, false)), (.faddr 1 (.t 4))⟩, ⟨(some 29), (some (27, false)), (.faddr 0 (.t 28))⟩, ⟨(some 30), (some (27, false)), (.load false 1 (.t 29))⟩, ⟨(some 31), (some (27, false)), (.faddr 0 (.t 4))⟩, ⟨(some 32), (some (27, false)), (.load false 1 (.t 31))⟩, ⟨(some 33), (some (27, false)), (.bin .eql false (.t 30) (.t 32))⟩, ⟨(some 34), none, (.pick (.t 27) (.c (.bool true)) (.t 33))⟩, ⟨(some 35), none, (.mv (.t 34))⟩, ⟨(some 36), (some (35, false)), (.mv (.t 3))⟩, ⟨(some 37), (some (35, false)), (.bin .gtr false (.t 36) (.c (.int .i64 0)))⟩, ⟨(some 38), (some (35, false)), (.mv (.t 37))⟩, ⟨(some 39), (some (38, true)), (.faddr 0 (.t 1))⟩, ⟨(some 40), (some (38, true)), (.load false 1 (.t 39))⟩, ⟨(some 41), (some (38, true)), (.mv (.t 3))⟩, ⟨(some 42), (some (38, true)), (.bin .sub false (.t 41) (.c (.int .i64 1)))⟩, ⟨(some 43), (some (38, true)), (.iaddr 3 (.t 40) (.t 42))⟩, ⟨(some 44), (some (38, true)), (.faddr 0 (.t 43))⟩, ⟨(some 45), (some (38, true)), (.load false 1 (.t 44))⟩, ⟨(some 46), (some (38, true)), (.faddr 0 (.t 4))⟩, ⟨(some 47), (some (38, true)), (.load false 1 (.t 46))⟩, ⟨(some 48), (some (38, true)), (.bin .geq false (.t 45) (.t 47))⟩, ⟨(some 49), (some (35, false)), (.pick (.t 38) (.t 48) (.c (.bool false)))⟩, ⟨(some 50), none, (.pick (.t 35) (.c (.bool true)) (.t 49))⟩]) (.cond (.t 50) (.seq (.reg [⟨(some 2), none, (.mv (.c (.bool false)))⟩]) .ret) .skip)))) (.reg [⟨(some 10), none, (.mv (.t 3))⟩, ⟨(some 11), none, (.bin .add false (.t 10) (.c (.int .i64 1)))⟩, ⟨(some 3), none, (.mv (.t 11))⟩])))))) (.seq (.reg [⟨(some 51), none, (.faddr 0 (.t 1))⟩, ⟨(some 52), none, (.load false 1 (.t 51))⟩, ⟨(some 53), none, (.len false (.t 52))⟩, ⟨(some 54), none, (.bin .leq false (.t 53) (.c (.int .i64 12)))⟩, ⟨(some 2), none, (.mv (.t 54))⟩]) .ret)))
theorem k_spec_l4Good : codeOf Tryz.prog 49 = some ⟨55, c_spec_l4Good, [(.tmp 2)]⟩ := by kernel_rfl
theorem m_spec_l4Good : modes 49 = ⟨[], .asis, none, false⟩ := by unfold modes; rfl

def c_spec_l4Find : SC := (.seq (.reg [⟨(some 2), none, (.boxv 28 1 (.t 0))⟩, ⟨(some 4), none, (.mv (.c (.int .i64 0)))⟩]) (.seq (.seq (.reg [⟨(some 5), none, (.mv (.c (.int .i64 0)))⟩]) (.block 0 (.loop [0, 1, 1, 0, 0, 1, 0, 0, 0, 0, 0, 0, 0, 0, 0, 0, 0, 0, 0, 0, 0, 0] (.seq (.seq (.reg [⟨(some 6), none, (.mv (.t 5))⟩, ⟨(some 7), none, (.faddr 0 (.t 2))⟩, ⟨(some 8), none, (.load false 1 (.t 7))⟩, ⟨(some 9), none, (.len false (.t 8))⟩, ⟨(some 10), none, (.bin .lss false (.t 6) (.t 9))⟩]) (.cond (.t 10) .skip (.exit 0))) (.seq (.block 1 (.seq (.reg [⟨(some 13), none, (.faddr 0 (.t 2))⟩, ⟨(some 14), none, (.load false 1 (.t 13))⟩, ⟨(some 15), none, (.mv (.t 5))⟩, ⟨(some 16), none, (.iaddr 3 (.t 14) (.t 15))⟩, ⟨(some 17), none, (.faddr 0 (.t 16))⟩, ⟨(some 18), none, (.load false 1 (.t 17))⟩, ⟨(some 19), none, (.mv (.t 1))⟩, ⟨(some 20), none, (.bin .eql false (.t 18) (.t 19))⟩]) (.cond (.t 20) (.seq (.reg [⟨(some 21), none, (.mv (.t 5))⟩, ⟨(some 4), none, (.mv (.t 21))⟩]) .ret) .skip))) (.reg [⟨(some 11), none, (.mv (.t 5))⟩, ⟨(some 12), none, (.bin .add false (.t 11) (.c (.int .i64 1)))⟩, ⟨(some 5), none, (.mv (.t 12))⟩])))))) (.seq (.reg [⟨(some 4), none, (.mv (.c (.int .i64 (-(0 + 1)))))⟩]) .ret)))
theorem k_spec_l4Find : codeOf Tryz.prog 73 = some ⟨22, c_spec_l4Find, [(.tmp 4)]⟩ := by kernel_rfl
theorem m_spec_l4Find : modes 73 = ⟨[], .asis, none, false⟩ := by unfold modes; rfl

set_option maxHeartbeats 4000000 in
theorem isValidSubstitution_E (x : Sb) (hn : x.tame) : E 60 [x.sv] [] = some (.bool x.ok, []) := by
  have hl := hn.1
  refine E_walk k_impl_IsValidSubstitution m_impl_IsValidSubstitution (of_decide_eq_true rfl) ?_
  simp (disch := omega) only [c_impl_IsValidSubstitution, go_sem, Nat.reduceAdd, Nat.reduceSub, Nat.reduceLT, Nat.reduceLeDiff, Nat.reduceEqDiff, Nat.reduceBEq, Nat.reduceBneDiff, Nat.reduceMul, ↓reduceIte, Int.reduceToNat, reduceCtorEq, Int.reduceNeg, Int.reduceAdd]
  refine go_loop (α := Int) (fun a => ⟨slots 52 0 [(1, .ptr 0 0), (6, .arr (x.binds.map Bd.d)), (7, .int .i64 x.binds.length), (8, .int .i64 a)], [.box 28 [.arr (x.binds.map Bd.d)]]⟩) (fun a => ∃ k : Nat, a = k ∧ k ≤ (x.binds).length ∧ bdTo x.binds k = true) (fun a => (x.binds).length - (a).toNat) 0 ⟨0, rfl, Nat.zero_le _, by rw [bdTo]⟩ (by simp (disch := omega) only [go_sem, Nat.reduceAdd, Nat.reduceSub, Nat.reduceLT, Nat.reduceLeDiff, Nat.reduceEqDiff, Nat.reduceBEq, Nat.reduceBneDiff, Nat.reduceMul, ↓reduceIte, Int.reduceToNat, reduceCtorEq, Int.reduceNeg, Int.reduceAdd]) ?_
  rintro i ⟨k, hi, hk, hR⟩
  have hni : i.toNat = k := by omega
  have hni1 : (i + 1).toNat = k + 1 := by omega
  rcases Nat.lt_or_ge k (x.binds).length with hlt | hge
  · have hg := get_at Bd.d hlt
    rw [Bd.d_eq] at hg
    have hv := isValidTerm_E x.binds[k].term (Sb.tame_at hn hlt)
    cases k with
    | zero =>
      obtain rfl : i = 0 := hi
      cases hA : varB x.binds[0].var <;> cases hV : x.binds[0].term.valid <;> cases hD : dec (x.binds[0].term.name = x.binds[0].var)
      all_goals
        first
        | (have e : x.ok = false := Sb.not_ok hR (by rw [bdAt_zero hlt, bdOk, hA, hV, hD]; rfl) hlt
           rw [e]
           simp (disch := omega) only [go_sem, Nat.reduceAdd, Nat.reduceSub, Nat.reduceLT, Nat.reduceLeDiff, Nat.reduceEqDiff, Nat.reduceBEq, Nat.reduceBneDiff, Nat.reduceMul, ↓reduceIte, Int.reduceToNat, reduceCtorEq, Int.reduceNeg, Int.reduceAdd, hni, hg, hv, hA, hV, hD, m_impl_IsValidTerm, m_impl_isVariable, isVariable_E]
           done)
        | (simp (disch := omega) only [go_sem, Nat.reduceAdd, Nat.reduceSub, Nat.reduceLT, Nat.reduceLeDiff, Nat.reduceEqDiff, Nat.reduceBEq, Nat.reduceBneDiff, Nat.reduceMul, ↓reduceIte, Int.reduceToNat, reduceCtorEq, Int.reduceNeg, Int.reduceAdd, hni, hg, hv, hA, hV, hD, m_impl_IsValidTerm, m_impl_isVariable, isVariable_E]
           exact ⟨1, ⟨1, rfl, hlt, by rw [bdTo, hR, bdAt_zero hlt, bdOk, hA, hV, hD]; rfl⟩, by omega, by first | trivial | rfl⟩)
    | succ j =>
      have hj : j < x.binds.length := by omega
      have hg2 := get_at Bd.d hj
      rw [Bd.d_eq] at hg2
      have hni2 : (i - 1).toNat = j := by omega
      have hLe := strLe_eq x.binds[j + 1].var x.binds[j].var
      cases hS : strLt x.binds[j].var x.binds[j + 1].var <;> cases hA : varB x.binds[j + 1].var <;> cases hV : x.binds[j + 1].term.valid <;> cases hD : dec (x.binds[j + 1].term.name = x.binds[j + 1].var)
      all_goals
        first
        | (have e : x.ok = false := Sb.not_ok hR (by rw [bdAt_succ hlt, bdOk, hA, hV, hD, hS]; rfl) hlt
           rw [e]
           simp (disch := omega) only [go_sem, Nat.reduceAdd, Nat.reduceSub, Nat.reduceLT, Nat.reduceLeDiff, Nat.reduceEqDiff, Nat.reduceBEq, Nat.reduceBneDiff, Nat.reduceMul, ↓reduceIte, Int.reduceToNat, reduceCtorEq, Int.reduceNeg, Int.reduceAdd, hni, hg, hv, hA, hV, hD, m_impl_IsValidTerm, m_impl_isVariable, isVariable_E, hS, hni2, hg2, hLe]
           done)
        | (simp (disch := omega) only [go_sem, Nat.reduceAdd, Nat.reduceSub, Nat.reduceLT, Nat.reduceLeDiff, Nat.reduceEqDiff, Nat.reduceBEq, Nat.reduceBneDiff, Nat.reduceMul, ↓reduceIte, Int.reduceToNat, reduceCtorEq, Int.reduceNeg, Int.reduceAdd, hni, hg, hv, hA, hV, hD, m_impl_IsValidTerm, m_impl_isVariable, isVariable_E, hS, hni2, hg2, hLe]
           exact ⟨i + 1, ⟨j + 1 + 1, by omega, hlt, by rw [bdTo, hR, bdAt_succ hlt, bdOk, hA, hV, hD, hS]; rfl⟩, by omega, by first | trivial | rfl⟩)
  · obtain rfl : k = x.binds.length := by omega
    simp (disch := omega) only [go_sem, Nat.reduceAdd, Nat.reduceSub, Nat.reduceLT, Nat.reduceLeDiff, Nat.reduceEqDiff, Nat.reduceBEq, Nat.reduceBneDiff, Nat.reduceMul, ↓reduceIte, Int.reduceToNat, reduceCtorEq, Int.reduceNeg, Int.reduceAdd, hni]
    unfold Sb.ok
    rw [hR, Bool.and_true, dec_of]
    exact decide_eq_decide.2 (by omega)
set_option maxHeartbeats 4000000 in
theorem l4Good_E (x : Sb) (hn : x.tame) : E 49 [x.sv] [] = some (.bool x.ok, []) := by
  have hl := hn.1
  refine E_walk k_spec_l4Good m_spec_l4Good (of_decide_eq_true rfl) ?_
  simp (disch := omega) only [c_spec_l4Good, go_sem, Nat.reduceAdd, Nat.reduceSub, Nat.reduceLT, Nat.reduceLeDiff, Nat.reduceEqDiff, Nat.reduceBEq, Nat.reduceBneDiff, Nat.reduceMul, ↓reduceIte, Int.reduceToNat, reduceCtorEq, Int.reduceNeg, Int.reduceAdd]
  refine go_loop (α := Int) (fun a => ⟨slots 55 0 [(1, .ptr 0 0), (3, .int .i64 a)], [.box 28 [.arr (x.binds.map Bd.d)]]⟩) (fun a => ∃ k : Nat, a = k ∧ k ≤ (x.binds).length ∧ bdTo x.binds k = true) (fun a => (x.binds).length - (a).toNat) 0 ⟨0, rfl, Nat.zero_le _, by rw [bdTo]⟩ (by simp (disch := omega) only [go_sem, Nat.reduceAdd, Nat.reduceSub, Nat.reduceLT, Nat.reduceLeDiff, Nat.reduceEqDiff, Nat.reduceBEq, Nat.reduceBneDiff, Nat.reduceMul, ↓reduceIte, Int.reduceToNat, reduceCtorEq, Int.reduceNeg, Int.reduceAdd]) ?_
  rintro i ⟨k, hi, hk, hR⟩
  have hni : i.toNat = k := by omega
  have hni1 : (i + 1).toNat = k + 1 := by omega
  rcases Nat.lt_or_ge k (x.binds).length with hlt | hge
  · have hg := get_at Bd.d hlt
    rw [Bd.d_eq] at hg
    have hv := l2Good_E x.binds[k].term (Sb.tame_at hn hlt)
    cases k with
    | zero =>
      obtain rfl : i = 0 := hi
      cases hA : varB x.binds[0].var <;> cases hV : x.binds[0].term.valid <;> cases hD : dec (x.binds[0].term.name = x.binds[0].var)
      all_goals
        first
        | (have e : x.ok = false := Sb.not_ok hR (by rw [bdAt_zero hlt, bdOk, hA, hV, hD]; rfl) hlt
           rw [e]
           simp (disch := omega) only [go_sem, Nat.reduceAdd, Nat.reduceSub, Nat.reduceLT, Nat.reduceLeDiff, Nat.reduceEqDiff, Nat.reduceBEq, Nat.reduceBneDiff, Nat.reduceMul, ↓reduceIte, Int.reduceToNat, reduceCtorEq, Int.reduceNeg, Int.reduceAdd, hni, hg, hv, hA, hV, hD, m_spec_l2Good, m_spec_l2Var, l2Var_E]
           done)
        | (simp (disch := omega) only [go_sem, Nat.reduceAdd, Nat.reduceSub, Nat.reduceLT, Nat.reduceLeDiff, Nat.reduceEqDiff, Nat.reduceBEq, Nat.reduceBneDiff, Nat.reduceMul, ↓reduceIte, Int.reduceToNat, reduceCtorEq, Int.reduceNeg, Int.reduceAdd, hni, hg, hv, hA, hV, hD, m_spec_l2Good, m_spec_l2Var, l2Var_E]
           exact ⟨1, ⟨1, rfl, hlt, by rw [bdTo, hR, bdAt_zero hlt, bdOk, hA, hV, hD]; rfl⟩, by omega, by first | trivial | rfl⟩)
    | succ j =>
      have hj : j < x.binds.length := by omega
      have hg2 := get_at Bd.d hj
      rw [Bd.d_eq] at hg2
      have hni2 : (i - 1).toNat = j := by omega
      have hLe := strLe_eq x.binds[j + 1].var x.binds[j].var
      cases hS : strLt x.binds[j].var x.binds[j + 1].var <;> cases hA : varB x.binds[j + 1].var <;> cases hV : x.binds[j + 1].term.valid <;> cases hD : dec (x.binds[j + 1].term.name = x.binds[j + 1].var)
      all_goals
        first
        | (have e : x.ok = false := Sb.not_ok hR (by rw [bdAt_succ hlt, bdOk, hA, hV, hD, hS]; rfl) hlt
           rw [e]
           simp (disch := omega) only [go_sem, Nat.reduceAdd, Nat.reduceSub, Nat.reduceLT, Nat.reduceLeDiff, Nat.reduceEqDiff, Nat.reduceBEq, Nat.reduceBneDiff, Nat.reduceMul, ↓reduceIte, Int.reduceToNat, reduceCtorEq, Int.reduceNeg, Int.reduceAdd, hni, hg, hv, hA, hV, hD, m_spec_l2Good, m_spec_l2Var, l2Var_E, hS, hni2, hg2, hLe]
           done)
        | (simp (disch := omega) only [go_sem, Nat.reduceAdd, Nat.reduceSub, Nat.reduceLT, Nat.reduceLeDiff, Nat.reduceEqDiff, Nat.reduceBEq, Nat.reduceBneDiff, Nat.reduceMul, ↓reduceIte, Int.reduceToNat, reduceCtorEq, Int.reduceNeg, Int.reduceAdd, hni, hg, hv, hA, hV, hD, m_spec_l2Good, m_spec_l2Var, l2Var_E, hS, hni2, hg2, hLe]
           exact ⟨i + 1, ⟨j + 1 + 1, by omega, hlt, by rw [bdTo, hR, bdAt_succ hlt, bdOk, hA, hV, hD, hS]; rfl⟩, by omega, by first | trivial | rfl⟩)
  · obtain rfl : k = x.binds.length := by omega
    simp (disch := omega) only [go_sem, Nat.reduceAdd, Nat.reduceSub, Nat.reduceLT, Nat.reduceLeDiff, Nat.reduceEqDiff, Nat.reduceBEq, Nat.reduceBneDiff, Nat.reduceMul, ↓reduceIte, Int.reduceToNat, reduceCtorEq, Int.reduceNeg, Int.reduceAdd, hni]
    unfold Sb.ok
    rw [hR, Bool.and_true, dec_of]
    exact decide_eq_decide.2 (by omega)
set_option maxHeartbeats 2000000 in
theorem l4Find_E (x : Sb) (n : ByteArray) (hl : x.binds.length ≤ 1099511627776) : E 73 [x.sv, .str n] [] = some (.int .i64 (idxP (fun b => dec (b.var = n)) x.binds 0), []) := by
  refine E_walk k_spec_l4Find m_spec_l4Find (of_decide_eq_true rfl) ?_
  simp (disch := omega) only [c_spec_l4Find, go_sem, Nat.reduceAdd, Nat.reduceSub, Nat.reduceLT, Nat.reduceLeDiff, Nat.reduceEqDiff, Nat.reduceBEq, Nat.reduceBneDiff, Nat.reduceMul, ↓reduceIte, Int.reduceToNat, reduceCtorEq, Int.reduceNeg, Int.reduceAdd]
  refine go_loop (α := Int) (fun a => ⟨slots 22 0 [(1, .str n), (2, .ptr 0 0), (5, .int .i64 a)], [.box 28 [.arr (x.binds.map Bd.d)]]⟩) (fun a => ∃ k : Nat, a = k ∧ k ≤ (x.binds).length ∧ idxP (fun b => dec (b.var = n)) (x.binds.drop k) a = idxP (fun b => dec (b.var = n)) x.binds 0) (fun a => (x.binds).length - (a).toNat) 0 ⟨0, rfl, Nat.zero_le _, by rw [List.drop_zero]⟩ (by simp (disch := omega) only [go_sem, Nat.reduceAdd, Nat.reduceSub, Nat.reduceLT, Nat.reduceLeDiff, Nat.reduceEqDiff, Nat.reduceBEq, Nat.reduceBneDiff, Nat.reduceMul, ↓reduceIte, Int.reduceToNat, reduceCtorEq, Int.reduceNeg, Int.reduceAdd]) ?_
  rintro i ⟨k, hi, hk, hR⟩
  have hni : i.toNat = k := by omega
  have hni1 : (i + 1).toNat = k + 1 := by omega
  rcases Nat.lt_or_ge k (x.binds).length with hlt | hge
  · have hg := get_at Bd.d hlt
    rw [Bd.d_eq] at hg
    rw [List.drop_eq_getElem_cons hlt, idxP] at hR
    cases hp : dec (x.binds[k].var = n) with
    | true =>
      rw [hp] at hR
      simp (disch := omega) only [go_sem, Nat.reduceAdd, Nat.reduceSub, Nat.reduceLT, Nat.reduceLeDiff, Nat.reduceEqDiff, Nat.reduceBEq, Nat.reduceBneDiff, Nat.reduceMul, ↓reduceIte, Int.reduceToNat, reduceCtorEq, Int.reduceNeg, Int.reduceAdd, hni, hg, hp]
      simpa using hR
    | false =>
      rw [hp] at hR
      simp (disch := omega) only [go_sem, Nat.reduceAdd, Nat.reduceSub, Nat.reduceLT, Nat.reduceLeDiff, Nat.reduceEqDiff, Nat.reduceBEq, Nat.reduceBneDiff, Nat.reduceMul, ↓reduceIte, Int.reduceToNat, reduceCtorEq, Int.reduceNeg, Int.reduceAdd, hni, hg, hp]
      exact ⟨i + 1, ⟨k + 1, by omega, hlt, by simpa using hR⟩, by omega, by first | trivial | rfl⟩
  · rw [List.drop_eq_nil_of_le hge, idxP] at hR
    simp (disch := omega) only [go_sem, Nat.reduceAdd, Nat.reduceSub, Nat.reduceLT, Nat.reduceLeDiff, Nat.reduceEqDiff, Nat.reduceBEq, Nat.reduceBneDiff, Nat.reduceMul, ↓reduceIte, Int.reduceToNat, reduceCtorEq, Int.reduceNeg, Int.reduceAdd, hni]
    exact hR
end Go.Proofs.YtjafnijgkjjadaaGreat

set_option maxRecDepth 100000
set_option linter.unusedSimpArgs false
set_option linter.unusedVariables false
namespace Go.Proofs.YtjafnijgkjjadaaGreat
open Go.RowKit

def c_impl_copyTerms : SC := (.seq (.reg [⟨(some 2), none, (.mv (.c .nil))⟩]) (.seq (.seq (.reg [⟨(some 6), none, (.mv (.t 0))⟩, ⟨(some 7), none, (.len false (.t 6))⟩, ⟨(some 8), none, (.bin .eql false (.t 7) (.c (.int .i64 0)))⟩]) (.cond (.t 8) (.seq (.reg [⟨(some 2), none, (.mv (.c .nil))⟩]) .ret) .skip)) (.seq (.reg [⟨(some 9), none, (.mv (.t 0))⟩, ⟨(some 10), none, (.len false (.t 9))⟩, ⟨(some 11), none, (.mkslice 33 2 40 [(.str ⟨#[]⟩), .nil] (.t 10))⟩, ⟨(some 3), none, (.mv (.t 11))⟩]) (.seq (.seq (.reg [⟨(some 12), none, (.mv (.t 0))⟩, ⟨(some 13), none, (.len false (.t 12))⟩, ⟨(some 14), none, (.mv (.c (.int .i64 0)))⟩]) (.block 0 (.loop [0, 0, 0, 1, 0, 0, 0, 0, 0, 0, 0, 0, 1, 1, 1, 0, 0, 0, 0, 0, 0, 0, 0, 0, 0, 0] (.seq (.reg [⟨(some 15), none, (.bin .lss false (.t 14) (.t 13))⟩]) (.seq (.cond (.t 15) .skip (.exit 0)) (.seq (.block 1 (.seq (.reg [⟨(some 16), none, (.mv (.t 14))⟩, ⟨(some 17), none, (.iaddr 2 (.t 12) (.t 14))⟩, ⟨(some 18), none, (.load true 2 (.t 17))⟩, ⟨(some 5), none, (.alloc 33 [(.str ⟨#[]⟩), .nil])⟩, ⟨(some 4), none, (.mv (.t 16))⟩, ⟨none, none, (.store 2 (.t 5) (.t 18))⟩]) (.reg [⟨(some 19), none, (.mv (.t 3))⟩, ⟨(some 20), none, (.mv (.t 4))⟩, ⟨(some 21), none, (.load true 2 (.t 5))⟩, ⟨(some 22), none, (.call 56 [(.t 21)])⟩, ⟨(some 23), none, (.iaddr 2 (.t 19) (.t 20))⟩, ⟨none, none, (.store 2 (.t 23) (.t 22))⟩]))) (.reg [⟨(some 24), none, (.bin .add false (.t 14) (.c (.int .i64 1)))⟩, ⟨(some 14), none, (.mv (.t 24))⟩]))))))) (.seq (.reg [⟨(some 25), none, (.mv (.t 3))⟩, ⟨(some 2), none, (.mv (.t 25))⟩]) .ret)))))
theorem k_impl_copyTerms : codeOf Tryz.prog 79 = some ⟨26, c_impl_copyTerms, [(.tmp 2)]⟩ := by kernel_rfl
theorem m_impl_copyTerms : modes 79 = ⟨[], .own [some (33, 2)], none, false⟩ := by unfold modes; rfl

def c_impl_copyTerm : SC := (.seq (.reg [⟨(some 1), none, (.boxv 33 2 (.t 0))⟩, ⟨(some 2), none, (.alloc 33 [(.str ⟨#[]⟩), .nil])⟩]) (.seq (.dreg [[], [0], [], [2], [3, 2], [1, 0, 4, 3, 2], [5, 1, 0, 4, 3, 2]] [⟨(some 3), none, (.faddr 0 (.t 1))⟩, ⟨(some 4), none, (.load false 1 (.t 3))⟩, ⟨(some 5), none, (.faddr 1 (.t 1))⟩, ⟨(some 6), none, (.load false 1 (.t 5))⟩, ⟨(some 7), none, (.call 79 [(.t 6)])⟩, ⟨(some 8), none, (.build [(.str ⟨#[]⟩), .nil] [(0, (1, (.t 4))), (1, (1, (.t 7)))])⟩, ⟨none, none, (.store 2 (.t 2) (.t 8))⟩]) .ret))
theorem k_impl_copyTerm : codeOf Tryz.prog 56 = some ⟨9, c_impl_copyTerm, [(.cell 2 true 2)]⟩ := by kernel_rfl
theorem m_impl_copyTerm : modes 56 = ⟨[], .asis, none, false⟩ := by unfold modes; rfl

def c_spec_l2Own : SC := (.seq (.reg [⟨(some 1), none, (.boxv 33 2 (.t 0))⟩, ⟨(some 2), none, (.alloc 33 [(.str ⟨#[]⟩), .nil])⟩]) (.seq (.reg [⟨(some 5), none, (.faddr 0 (.t 1))⟩, ⟨(some 6), none, (.load false 1 (.t 5))⟩, ⟨(some 7), none, (.build [(.str ⟨#[]⟩), .nil] [(0, (1, (.t 6)))])⟩, ⟨(some 3), none, (.alloc 33 [(.str ⟨#[]⟩), .nil])⟩, ⟨none, none, (.store 2 (.t 3) (.t 7))⟩]) (.seq (.seq (.reg [⟨(some 4), none, (.mv (.c (.int .i64 0)))⟩]) (.block 0 (.loop [0, 1, 1, 1, 1, 0, 0, 0, 0, 0, 0, 0, 0, 0, 0, 0, 0, 0, 0, 0, 0, 0, 0, 0, 0, 0, 0] (.seq (.seq (.reg [⟨(some 8), none, (.mv (.t 4))⟩, ⟨(some 9), none, (.faddr 1 (.t 1))⟩, ⟨(some 10), none, (.load false 1 (.t 9))⟩, ⟨(some 11), none, (.len false (.t 10))⟩, ⟨(some 12), none, (.bin .lss false (.t 8) (.t 11))⟩]) (.cond (.t 12) .skip (.exit 0))) (.seq (.block 1 (.dreg [[], [0], [], [2], [], [3, 2, 4], [5, 3, 2, 4], [6, 5, 3, 2, 4], [7, 6, 5, 3, 2, 4], [1, 0, 8, 7, 6, 5, 3, 2, 4], [0, 1, 2, 3, 4, 5, 6, 7, 8, 9], [10, 0, 1, 2, 3, 4, 5, 6, 7, 8, 9]] [⟨(some 15), none, (.faddr 1 (.t 3))⟩, ⟨(some 16), none, (.load false 1 (.t 15))⟩, ⟨(some 17), none, (.faddr 1 (.t 1))⟩, ⟨(some 18), none, (.load false 1 (.t 17))⟩, ⟨(some 19), none, (.mv (.t 4))⟩, ⟨(some 20), none, (.iaddr 2 (.t 18) (.t 19))⟩, ⟨(some 21), none, (.load true 2 (.t 20))⟩, ⟨(some 22), none, (.call 74 [(.t 21)])⟩, ⟨(some 23), none, (.mkrow 33 2 [(.str ⟨#[]⟩), .nil] 1 [(0, (.t 22))])⟩, ⟨(some 24), none, (.append 33 2 40 [(.str ⟨#[]⟩), .nil] (.t 16) (.t 23))⟩, ⟨(some 25), none, (.faddr 1 (.t 3))⟩, ⟨none, none, (.store 1 (.t 25) (.t 24))⟩])) (.reg [⟨(some 13), none, (.mv (.t 4))⟩, ⟨(some 14), none, (.bin .add false (.t 13) (.c (.int .i64 1)))⟩, ⟨(some 4), none, (.mv (.t 14))⟩])))))) (.seq (.reg [⟨(some 26), none, (.load true 2 (.t 3))⟩, ⟨none, none, (.store 2 (.t 2) (.t 26))⟩]) .ret))))
theorem k_spec_l2Own : codeOf Tryz.prog 74 = some ⟨27, c_spec_l2Own, [(.cell 2 true 2)]⟩ := by kernel_rfl
theorem m_spec_l2Own : modes 74 = ⟨[], .frz, none, false⟩ := by unfold modes; rfl

set_option maxHeartbeats 1000000 in
theorem copyTerms_of (xs : List Tm) (hl : xs.length ≤ 1099511627776) (h : ∀ x ∈ xs, E 56 [x.sv] [] = some (x.osv, x.obs)) : E 79 [.arr (xs.map Tm.d)] [] = some (.ref 0, [.row 33 2 (xs.map Tm.o)]) := by
  cases xs with
  | nil =>
    refine E_walk k_impl_copyTerms m_impl_copyTerms (of_decide_eq_true rfl) ?_
    simp (disch := omega) only [c_impl_copyTerms, go_sem, Nat.reduceAdd, Nat.reduceSub, Nat.reduceLT, Nat.reduceLeDiff, Nat.reduceEqDiff, Nat.reduceBEq, Nat.reduceBneDiff, Nat.reduceMul, ↓reduceIte, Int.reduceToNat, reduceCtorEq, Int.reduceNeg, Int.reduceAdd]
  | cons x0 xs0 =>
  generalize hxs : x0 :: xs0 = xs at *
  have hpos : 0 < xs.length := by rw [← hxs]; simp
  refine E_walk k_impl_copyTerms m_impl_copyTerms (of_decide_eq_true rfl) ?_
  simp (disch := omega) only [c_impl_copyTerms, go_sem, Nat.reduceAdd, Nat.reduceSub, Nat.reduceLT, Nat.reduceLeDiff, Nat.reduceEqDiff, Nat.reduceBEq, Nat.reduceBneDiff, Nat.reduceMul, ↓reduceIte, Int.reduceToNat, reduceCtorEq, Int.reduceNeg, Int.reduceAdd]
  refine go_loop (α := Int) (fun a => ⟨slots 26 0 [(3, .ref 0), (12, .arr (xs.map Tm.d)), (13, .int .i64 xs.length), (14, .int .i64 a)], [.row 33 2 (fillR Tm.o [.str ⟨#[]⟩, .ow []] xs a.toNat)]⟩) (fun a => ∃ k : Nat, a = k ∧ k ≤ (xs).length) (fun a => (xs).length - (a).toNat) 0 ⟨0, rfl, Nat.zero_le _⟩ (by simp (disch := omega) only [go_sem, Nat.reduceAdd, Nat.reduceSub, Nat.reduceLT, Nat.reduceLeDiff, Nat.reduceEqDiff, Nat.reduceBEq, Nat.reduceBneDiff, Nat.reduceMul, ↓reduceIte, Int.reduceToNat, reduceCtorEq, Int.reduceNeg, Int.reduceAdd, fillR_zero, Int.toNat_zero]) ?_
  rintro i ⟨k, hi, hk⟩
  have hni : i.toNat = k := by omega
  have hni1 : (i + 1).toNat = k + 1 := by omega
  rcases Nat.lt_or_ge k (xs).length with hlt | hge
  · have hg := get_at Tm.d hlt
    rw [Tm.d_eq] at hg
    have hz := fillR_get Tm.o [.str ⟨#[]⟩, .ow []] hlt
    have hc := h xs[k] (List.getElem_mem hlt)
    have hs := fillR_set Tm.o [.str ⟨#[]⟩, .ow []] hlt
    rw [Tm.o_eq] at hs
    simp (disch := omega) only [go_sem, Nat.reduceAdd, Nat.reduceSub, Nat.reduceLT, Nat.reduceLeDiff, Nat.reduceEqDiff, Nat.reduceBEq, Nat.reduceBneDiff, Nat.reduceMul, ↓reduceIte, Int.reduceToNat, reduceCtorEq, Int.reduceNeg, Int.reduceAdd, hni, hg, hc, hz, fillR_len, m_impl_copyTerm, Tm.osv, Tm.obs]
    refine ⟨i + 1, ⟨k + 1, by omega, hlt⟩, by omega, ?_⟩
    simp (disch := omega) only [go_sem, Nat.reduceAdd, Nat.reduceSub, Nat.reduceLT, Nat.reduceLeDiff, Nat.reduceEqDiff, Nat.reduceBEq, Nat.reduceBneDiff, Nat.reduceMul, ↓reduceIte, Int.reduceToNat, reduceCtorEq, Int.reduceNeg, Int.reduceAdd, hni1, hs]
  · obtain rfl : k = xs.length := by omega
    simp (disch := omega) only [go_sem, Nat.reduceAdd, Nat.reduceSub, Nat.reduceLT, Nat.reduceLeDiff, Nat.reduceEqDiff, Nat.reduceBEq, Nat.reduceBneDiff, Nat.reduceMul, ↓reduceIte, Int.reduceToNat, reduceCtorEq, Int.reduceNeg, Int.reduceAdd, hni, fillR_end]
set_option maxHeartbeats 1000000 in
theorem copyTerm_of (x : Tm) (h : E 79 [.arr (x.args.map Tm.d)] [] = some (.ref 0, [.row 33 2 (x.args.map Tm.o)])) : E 56 [x.sv] [] = some (x.osv, x.obs) := by
  refine E_walk k_impl_copyTerm m_impl_copyTerm (of_decide_eq_true rfl) ?_
  simp (disch := omega) only [c_impl_copyTerm, go_sem, Nat.reduceAdd, Nat.reduceSub, Nat.reduceLT, Nat.reduceLeDiff, Nat.reduceEqDiff, Nat.reduceBEq, Nat.reduceBneDiff, Nat.reduceMul, ↓reduceIte, Int.reduceToNat, reduceCtorEq, Int.reduceNeg, Int.reduceAdd, h, m_impl_copyTerms]
theorem copyTerm_E (x : Tm) (hn : x.nodes ≤ 1099511627776) : E 56 [x.sv] [] = some (x.osv, x.obs) :=
  copyTerm_of x (copyTerms_of x.args (by have := Tm.nodes_eq x; have := Tm.length_le x.args; omega) fun y hy => copyTerm_E y (by have := Tm.nodes_mem hy; have := Tm.nodes_eq x; omega))
termination_by SizeOf.sizeOf x
decreasing_by exact Tm.lt_of_mem hy
end Go.Proofs.YtjafnijgkjjadaaGreat

set_option maxRecDepth 100000
set_option linter.unusedSimpArgs false
set_option linter.unusedVariables false
namespace Go.Proofs.YtjafnijgkjjadaaGreat
open Go.RowKit

/-- A run ends so that Q is true of its answer. -/
def finQ (res : RM) (n0 : Nat) (rs : List RX) (Q : SV × List Ob → Prop) (x : X) (st : St) : Prop := ∃ out, finK res n0 rs out x st ∧ Q out
theorem exq {α : Type} {a : α} {Q : α → Prop} : (∃ out, some a = some out ∧ Q out) = Q a := propext ⟨fun ⟨o, h, q⟩ => by obtain rfl := Option.some.inj h; exact q, fun q => ⟨a, rfl, q⟩⟩
theorem finQ_r {res : RM} {n0 : Nat} {rs : List RX} {Q : SV × List Ob → Prop} {sl : List SV} {ob : List Ob} : finQ res n0 rs Q .ret ⟨sl, ob⟩ = ∃ out, resF1 res n0 ob (resV ⟨sl, ob⟩ rs) = some out ∧ Q out := rfl
theorem finQ_n {res : RM} {n0 : Nat} {rs : List RX} {Q : SV × List Ob → Prop} {sl : List SV} {ob : List Ob} : finQ res n0 rs Q .normal ⟨sl, ob⟩ = ∃ out, resF1 res n0 ob (resV ⟨sl, ob⟩ rs) = some out ∧ Q out := rfl
theorem E_walkQ {f : FuncId} {fc : FC} {hand : List Bool} {res : RM} {tr : Bool} {xs : List SV} {ob : List Ob} {Q : SV × List Ob → Prop} (hc : codeOf Tryz.prog f = some fc) (hr : modes f = ⟨hand, res, none, tr⟩) (hn : xs.length ≤ fc.nt) (h : go ob.length fc.sc ⟨xs ++ anys (fc.nt - xs.length), entry tr ob⟩ (finQ res ob.length fc.rs Q)) : ∃ out, E f xs ob = some out ∧ Q out := by
  obtain ⟨x, st', h1, out, h2, h3⟩ := h
  exact ⟨out, E_walk hc hr hn ⟨x, st', h1, h2⟩, h3⟩
attribute [go_sem] finQ_r finQ_n exq
/-- A term whose arguments are shared, as an element of a row of one's own. -/
def Tm.osh (x : Tm) : List OT := [.str x.name, .sh (x.args.map Tm.d)]
theorem Tm.osh_eq (x : Tm) : x.osh = [.str x.name, .sh (x.args.map Tm.d)] := rfl
theorem Tm.osh_full : ∀ xs : List Tm, OT.fullss (xs.map Tm.osh) = true
  | [] => rfl
  | x :: xs => by rw [List.map_cons, Tm.osh_eq]; simp [OT.fullss, OT.fulls, OT.full, Tm.osh_full xs]
theorem Tm.osh_er : ∀ xs : List Tm, OT.erss (xs.map Tm.osh) = xs.map Tm.d
  | [] => rfl
  | x :: xs => by rw [List.map_cons, List.map_cons, Tm.osh_eq, Tm.d_eq]; simp [OT.erss, OT.ers, OT.er, Tm.osh_er xs]
theorem map_snoc {α β : Type} (f : α → β) {xs : List α} {k : Nat} (h : k < xs.length) : (xs.take k).map f ++ [f xs[k]] = (xs.take (k + 1)).map f := by
  rw [List.take_succ_eq_append_getElem h, List.map_append]; rfl
end Go.Proofs.YtjafnijgkjjadaaGreat

set_option maxRecDepth 100000
set_option linter.unusedSimpArgs false
set_option linter.unusedVariables false
namespace Go.Proofs.YtjafnijgkjjadaaGreat
open Go.RowKit

set_option maxHeartbeats 2000000 in
theorem l2Own_of (x : Tm) (hn : x.nodes ≤ 1099511627776) (ih : ∀ y ∈ x.args, E 74 [y.sv] [] = some (y.sv, [])) : E 74 [x.sv] [] = some (x.sv, []) := by
  have hl := Tm.length_le x.args
  have hne := Tm.nodes_eq x
  have h10 : ((1 : Int) = 0) = False := by simp
  have hfu := Tm.osh_full x.args
  have her := Tm.osh_er x.args
  refine E_walk k_spec_l2Own m_spec_l2Own (of_decide_eq_true rfl) ?_
  simp (disch := omega) only [c_spec_l2Own, go_sem, Nat.reduceAdd, Nat.reduceSub, Nat.reduceLT, Nat.reduceLeDiff, Nat.reduceEqDiff, Nat.reduceBEq, Nat.reduceBneDiff, Nat.reduceMul, ↓reduceIte, Int.reduceToNat, reduceCtorEq, Int.reduceNeg, Int.reduceAdd]
  refine go_loop (α := Int) (fun a => ⟨slots 27 0 [(1, .ptr 0 0), (2, .ptr 1 0), (3, .ptr 2 0), (4, .int .i64 a)], (if a = 0 then [.box 33 [.str x.name, .arr (x.args.map Tm.d)], .box 33 [.str ⟨#[]⟩, .nil], .box 33 [.str x.name, .nil]] else [.box 33 [.str x.name, .arr (x.args.map Tm.d)], .box 33 [.str ⟨#[]⟩, .nil], .box 33 [.str x.name, .ref 3], .row 33 2 ((x.args.take a.toNat).map Tm.osh)])⟩) (fun a => ∃ k : Nat, a = k ∧ k ≤ (x.args).length) (fun a => (x.args).length - (a).toNat) 0 ⟨0, rfl, Nat.zero_le _⟩ (by simp (disch := omega) only [go_sem, Nat.reduceAdd, Nat.reduceSub, Nat.reduceLT, Nat.reduceLeDiff, Nat.reduceEqDiff, Nat.reduceBEq, Nat.reduceBneDiff, Nat.reduceMul, ↓reduceIte, Int.reduceToNat, reduceCtorEq, Int.reduceNeg, Int.reduceAdd, eq_self, if_true]) ?_
  rintro i ⟨k, hi, hk⟩
  have hni : i.toNat = k := by omega
  have hni1 : (i + 1).toNat = k + 1 := by omega
  rcases Nat.lt_or_ge k (x.args).length with hlt | hge
  · have hg := get_at Tm.d hlt
    rw [Tm.d_eq] at hg
    have hc := ih x.args[k] (List.getElem_mem hlt)
    have hs := map_snoc Tm.osh hlt
    rw [Tm.osh_eq] at hs
    rcases Nat.eq_zero_or_pos k with h0 | h0
    · subst h0
      obtain rfl : i = 0 := hi
      rw [List.take_zero, List.map_nil, List.nil_append] at hs
      simp (disch := omega) only [go_sem, Nat.reduceAdd, Nat.reduceSub, Nat.reduceLT, Nat.reduceLeDiff, Nat.reduceEqDiff, Nat.reduceBEq, Nat.reduceBneDiff, Nat.reduceMul, ↓reduceIte, Int.reduceToNat, reduceCtorEq, Int.reduceNeg, Int.reduceAdd, hni, hg, hc, m_spec_l2Own, eq_self, if_true]
      refine ⟨1, ⟨1, rfl, hlt⟩, by omega, ?_⟩
      simp (disch := omega) only [go_sem, Nat.reduceAdd, Nat.reduceSub, Nat.reduceLT, Nat.reduceLeDiff, Nat.reduceEqDiff, Nat.reduceBEq, Nat.reduceBneDiff, Nat.reduceMul, ↓reduceIte, Int.reduceToNat, reduceCtorEq, Int.reduceNeg, Int.reduceAdd, h10, if_false, hs]
    · have hi0 : (i = 0) = False := by simp; omega
      have hi1 : (i + 1 = 0) = False := by simp; omega
      have htl : (x.args.take k).length = k := by rw [List.length_take]; omega
      simp (disch := omega) only [go_sem, Nat.reduceAdd, Nat.reduceSub, Nat.reduceLT, Nat.reduceLeDiff, Nat.reduceEqDiff, Nat.reduceBEq, Nat.reduceBneDiff, Nat.reduceMul, ↓reduceIte, Int.reduceToNat, reduceCtorEq, Int.reduceNeg, Int.reduceAdd, hni, hg, hc, m_spec_l2Own, hi0, if_false, htl]
      refine ⟨i + 1, ⟨k + 1, by omega, hlt⟩, by omega, ?_⟩
      simp (disch := omega) only [go_sem, Nat.reduceAdd, Nat.reduceSub, Nat.reduceLT, Nat.reduceLeDiff, Nat.reduceEqDiff, Nat.reduceBEq, Nat.reduceBneDiff, Nat.reduceMul, ↓reduceIte, Int.reduceToNat, reduceCtorEq, Int.reduceNeg, Int.reduceAdd, hni1, hi1, if_false, hs]
  · obtain rfl : k = x.args.length := by omega
    have ht : x.args.take x.args.length = x.args := List.take_length
    rcases Nat.eq_zero_or_pos x.args.length with h0 | h0
    · have hx : x.args = [] := List.eq_nil_of_length_eq_zero h0
      obtain rfl : i = 0 := by omega
      simp (disch := omega) only [go_sem, Nat.reduceAdd, Nat.reduceSub, Nat.reduceLT, Nat.reduceLeDiff, Nat.reduceEqDiff, Nat.reduceBEq, Nat.reduceBneDiff, Nat.reduceMul, ↓reduceIte, Int.reduceToNat, reduceCtorEq, Int.reduceNeg, Int.reduceAdd, hni, hx, eq_self, if_true, List.map_nil, List.length_nil]
    · have hi0 : (i = 0) = False := by simp; omega
      simp (disch := omega) only [go_sem, Nat.reduceAdd, Nat.reduceSub, Nat.reduceLT, Nat.reduceLeDiff, Nat.reduceEqDiff, Nat.reduceBEq, Nat.reduceBneDiff, Nat.reduceMul, ↓reduceIte, Int.reduceToNat, reduceCtorEq, Int.reduceNeg, Int.reduceAdd, hni, hi0, if_false, ht, hfu, her]
theorem l2Own_E (x : Tm) (hn : x.nodes ≤ 1099511627776) : E 74 [x.sv] [] = some (x.sv, []) :=
  l2Own_of x hn fun y hy => l2Own_E y (by have := Tm.nodes_mem hy; have := Tm.nodes_eq x; omega)
termination_by SizeOf.sizeOf x
decreasing_by exact Tm.lt_of_mem hy
end Go.Proofs.YtjafnijgkjjadaaGreat

set_option maxRecDepth 100000
set_option linter.unusedSimpArgs false
set_option linter.unusedVariables false
namespace Go.Proofs.YtjafnijgkjjadaaGreat
open Go.RowKit

theorem less_trans : ∀ x y z : List UInt8, Op.bytesLess x y = true → Op.bytesLess y z = true → Op.bytesLess x z = true
  | _, _, [], _, h => by simp [Op.bytesLess] at h
  | [], [], _ :: _, h, _ => by simp [Op.bytesLess] at h
  | [], _ :: _, _ :: _, _, _ => rfl
  | _ :: _, [], _ :: _, h, _ => by simp [Op.bytesLess] at h
  | a :: x, b :: y, c :: z, h, k => by
    simp only [Op.bytesLess, Bool.or_eq_true, decide_eq_true_eq, Bool.and_eq_true, beq_iff_eq] at h k ⊢
    rcases h with h | ⟨rfl, h⟩
    · rcases k with k | ⟨rfl, k⟩
      · exact .inl (UInt8.lt_trans h k)
      · exact .inl h
    · rcases k with k | ⟨rfl, k⟩
      · exact .inl k
      · exact .inr ⟨rfl, less_trans x y z h k⟩
theorem strLt_trans {a b c : ByteArray} (h : strLt a b = true) (k : strLt b c = true) : strLt a c = true := less_trans _ _ _ h k
theorem strLt_ne {a b : ByteArray} (h : strLt a b = true) : ¬ a = b := by rintro rfl; rw [strLt_self] at h; cases h
theorem cmpB_neg (a b : ByteArray) : dec (cmpB a b < 0) = strLt a b := by
  unfold cmpB
  cases strLt a b
  · cases dec (a = b)
    · exact dec_f (by simp)
    · exact dec_f (by simp)
  · exact dec_t (by simp)
theorem cmpB_zero (a b : ByteArray) : dec (cmpB a b = 0) = dec (a = b) := by
  unfold cmpB
  cases h : strLt a b
  · cases h2 : dec (a = b)
    · exact dec_f (by simp)
    · exact dec_t (by simp)
  · rw [dec_f (strLt_ne h)]
    exact dec_f (by simp)

theorem wrap_u64 {n : Int} (h0 : 0 ≤ n) (h1 : n ≤ 18446744073709551615) : IntKind.u64.wrap n = n := inK_wrap (by
  have e1 : IntKind.u64.min = 0 := by decide
  have e2 : IntKind.u64.max = 18446744073709551615 := by decide
  unfold inK
  rw [e1, e2]
  exact ⟨h0, h1⟩)

def bdUp (xs : List Bd) : Prop := ∀ j k (h : j < k) (hk : k < xs.length), strLt xs[j].var xs[k].var = true
theorem bdTo_up {xs : List Bd} (h : bdTo xs xs.length = true) : bdUp xs := by
  intro j k hjk hk
  induction k with
  | zero => omega
  | succ k ih =>
    have h1 := bdTo_at h hk
    rw [bdAt_succ hk, Bool.and_eq_true] at h1
    rcases Nat.lt_or_ge j k with h2 | h2
    · exact strLt_trans (ih h2 (by omega)) h1.2
    · obtain rfl : j = k := by omega
      exact h1.2
theorem Sb.ok_up {x : Sb} (h : x.ok = true) : bdUp x.binds := by
  unfold Sb.ok at h
  rw [Bool.and_eq_true] at h
  exact bdTo_up h.2
/-- How many of the first bindings lie before a name. -/
def lowI : List Bd → ByteArray → Nat
  | [], _ => 0
  | x :: xs, n => if strLt x.var n then lowI xs n + 1 else 0
theorem lowI_le (n : ByteArray) : ∀ xs : List Bd, lowI xs n ≤ xs.length
  | [] => Nat.le_refl _
  | x :: xs => by
    have := lowI_le n xs
    rw [lowI]; simp only [List.length_cons]; split <;> omega
theorem lowI_before (n : ByteArray) : ∀ (xs : List Bd) (j : Nat) (h : j < xs.length), j < lowI xs n → strLt xs[j].var n = true
  | [], j, h, _ => absurd h (by simp)
  | x :: xs, j, h, hj => by
    rw [lowI] at hj
    split at hj
    · rename_i hx
      cases j with
      | zero => exact hx
      | succ j => exact lowI_before n xs j (by simpa using h) (by omega)
    · omega
theorem lowI_at (n : ByteArray) : ∀ (xs : List Bd) (h : lowI xs n < xs.length), strLt (xs[lowI xs n]).var n = false
  | [], h => absurd h (by simp)
  | x :: xs, h => by
    cases hx : strLt x.var n with
    | false =>
      have e : lowI (x :: xs) n = 0 := by rw [lowI, if_neg (by rw [hx]; simp)]
      simp only [e, List.getElem_cons_zero]; exact hx
    | true =>
      have e : lowI (x :: xs) n = lowI xs n + 1 := by rw [lowI, if_pos hx]
      have h2 : lowI xs n < xs.length := by rw [e] at h; simpa using h
      simp only [e, List.getElem_cons_succ]; exact lowI_at n xs h2
theorem lowI_iff {xs : List Bd} (hs : bdUp xs) (n : ByteArray) {m : Nat} (h : m < xs.length) : strLt xs[m].var n = true ↔ m < lowI xs n := by
  constructor
  · intro h1
    rcases Nat.lt_or_ge m (lowI xs n) with h2 | h2
    · exact h2
    · have h3 := lowI_at n xs (by omega)
      rcases Nat.lt_or_ge (lowI xs n) m with h4 | h4
      · rw [strLt_trans (hs _ _ h4 h) h1] at h3; cases h3
      · have e : lowI xs n = m := by omega
        simp only [e] at h3
        rw [h1] at h3; cases h3
  · exact lowI_before n xs m h
noncomputable def hitB (xs : List Bd) (n : ByteArray) : Bool := match xs[lowI xs n]? with
  | none => false
  | some b => dec (b.var = n)


def c_impl_Substitution_term_1 : SC := (.seq (.reg [⟨(some 2), none, (.boxv 67 3 (.t 0))⟩, ⟨(some 4), none, (.mv (.c (.int .i64 0)))⟩]) (.seq (.reg [⟨(some 5), none, (.faddr 0 (.t 2))⟩, ⟨(some 6), none, (.load false 1 (.t 5))⟩, ⟨(some 7), none, (.mv (.t 1))⟩, ⟨(some 8), none, (.call 59 [(.t 6), (.t 7)])⟩, ⟨(some 4), none, (.mv (.t 8))⟩]) .ret))
theorem k_impl_Substitution_term_1 : codeOf Tryz.prog 78 = some ⟨9, c_impl_Substitution_term_1, [(.tmp 4)]⟩ := by kernel_rfl
theorem m_impl_Substitution_term_1 : modes 78 = ⟨[], .asis, none, false⟩ := by unfold modes; rfl

theorem g_impl_Substitution_term_1 : goFn Tryz.prog 78 = true := by kernel_rfl

def c_slices_BinarySearchFunc_impl_Binding_impl_Binding_string : SC := (.seq (.reg [⟨(some 6), none, (.mv (.c (.int .i64 0)))⟩, ⟨(some 7), none, (.mv (.c (.bool false)))⟩]) (.seq (.reg [⟨(some 12), none, (.mv (.t 0))⟩, ⟨(some 13), none, (.len false (.t 12))⟩, ⟨(some 8), none, (.mv (.t 13))⟩]) (.seq (.reg [⟨(some 14), none, (.mv (.t 8))⟩, ⟨(some 9), none, (.mv (.c (.int .i64 0)))⟩, ⟨(some 10), none, (.mv (.t 14))⟩]) (.seq (.block 0 (.loop [1, 1, 1, 0, 0, 0, 0, 0, 1, 1, 1, 0, 0, 0, 0, 0, 0, 0, 0, 0, 0, 0, 0, 0, 0, 0, 0, 0, 0, 0, 0, 0, 0, 0, 0, 0, 0, 0, 0, 0, 0, 0, 0, 0, 0, 0, 0, 0, 0] (.seq (.seq (.reg [⟨(some 15), none, (.mv (.t 9))⟩, ⟨(some 16), none, (.mv (.t 10))⟩, ⟨(some 17), none, (.bin .lss false (.t 15) (.t 16))⟩]) (.cond (.t 17) .skip (.exit 0))) (.block 1 (.seq (.reg [⟨(some 18), none, (.mv (.t 9))⟩, ⟨(some 19), none, (.mv (.t 10))⟩, ⟨(some 20), none, (.bin .add false (.t 18) (.t 19))⟩, ⟨(some 21), none, (.conv .u64 (.t 20))⟩, ⟨(some 22), none, (.bin .shr false (.t 21) (.c (.int .u64 1)))⟩, ⟨(some 23), none, (.conv .i64 (.t 22))⟩, ⟨(some 11), none, (.mv (.t 23))⟩]) (.seq (.reg [⟨(some 24), none, (.mv (.t 2))⟩, ⟨(some 25), none, (.mv (.t 0))⟩, ⟨(some 26), none, (.mv (.t 11))⟩, ⟨(some 27), none, (.iaddr 3 (.t 25) (.t 26))⟩, ⟨(some 28), none, (.load true 3 (.t 27))⟩, ⟨(some 29), none, (.mv (.t 1))⟩, ⟨(some 30), none, (.callv (.t 24) [(.t 28), (.t 29)])⟩, ⟨(some 31), none, (.bin .lss false (.t 30) (.c (.int .i64 0)))⟩]) (.cond (.t 31) (.reg [⟨(some 32), none, (.mv (.t 11))⟩, ⟨(some 33), none, (.bin .add false (.t 32) (.c (.int .i64 1)))⟩, ⟨(some 9), none, (.mv (.t 33))⟩]) (.reg [⟨(some 34), none, (.mv (.t 11))⟩, ⟨(some 10), none, (.mv (.t 34))⟩])))))))) (.seq (.reg [⟨(some 35), none, (.mv (.t 9))⟩, ⟨(some 36), none, (.mv (.t 9))⟩, ⟨(some 37), none, (.mv (.t 8))⟩, ⟨(some 38), none, (.bin .lss false (.t 36) (.t 37))⟩, ⟨(some 39), none, (.mv (.t 38))⟩, ⟨(some 40), (some (39, true)), (.mv (.t 2))⟩, ⟨(some 41), (some (39, true)), (.mv (.t 0))⟩, ⟨(some 42), (some (39, true)), (.mv (.t 9))⟩, ⟨(some 43), (some (39, true)), (.iaddr 3 (.t 41) (.t 42))⟩, ⟨(some 44), (some (39, true)), (.load true 3 (.t 43))⟩, ⟨(some 45), (some (39, true)), (.mv (.t 1))⟩, ⟨(some 46), (some (39, true)), (.callv (.t 40) [(.t 44), (.t 45)])⟩, ⟨(some 47), (some (39, true)), (.bin .eql false (.t 46) (.c (.int .i64 0)))⟩, ⟨(some 48), none, (.pick (.t 39) (.t 47) (.c (.bool false)))⟩, ⟨(some 6), none, (.mv (.t 35))⟩, ⟨(some 7), none, (.mv (.t 48))⟩]) .ret)))))
theorem k_slices_BinarySearchFunc_impl_Binding_impl_Binding_string : codeOf Tryz.prog 77 = some ⟨49, c_slices_BinarySearchFunc_impl_Binding_impl_Binding_string, [(.tmp 6), (.tmp 7)]⟩ := by kernel_rfl
theorem m_slices_BinarySearchFunc_impl_Binding_impl_Binding_string : modes 77 = ⟨[], .asis, none, false⟩ := by unfold modes; rfl

def c_impl_Substitution_term : SC := (.seq (.reg [⟨(some 2), none, (.boxv 28 1 (.t 0))⟩, ⟨(some 4), none, (.alloc 33 [(.str ⟨#[]⟩), .nil])⟩, ⟨(some 5), none, (.mv (.c (.bool false)))⟩]) (.seq (.reg [⟨(some 9), none, (.faddr 0 (.t 2))⟩, ⟨(some 10), none, (.load false 1 (.t 9))⟩, ⟨(some 11), none, (.mv (.t 1))⟩, ⟨(some 12), none, (.call 77 [(.t 10), (.t 11), (.c (.fn 78 []))])⟩, ⟨(some 8), none, (.mv (.t 12))⟩, ⟨(some 13), none, (.ext (.t 8) 0)⟩, ⟨(some 14), none, (.ext (.t 8) 1)⟩, ⟨(some 6), none, (.mv (.t 13))⟩, ⟨(some 7), none, (.mv (.t 14))⟩]) (.seq (.seq (.reg [⟨(some 15), none, (.mv (.t 7))⟩, ⟨(some 16), none, (.un .not (.t 15))⟩]) (.cond (.t 16) (.seq (.reg [⟨(some 17), none, (.build [(.str ⟨#[]⟩), .nil] [])⟩, ⟨none, none, (.store 2 (.t 4) (.t 17))⟩, ⟨(some 5), none, (.mv (.c (.bool false)))⟩]) .ret) .skip)) (.seq (.reg [⟨(some 18), none, (.faddr 0 (.t 2))⟩, ⟨(some 19), none, (.load false 1 (.t 18))⟩, ⟨(some 20), none, (.mv (.t 6))⟩, ⟨(some 21), none, (.iaddr 3 (.t 19) (.t 20))⟩, ⟨(some 22), none, (.faddr 1 (.t 21))⟩, ⟨(some 23), none, (.load true 2 (.t 22))⟩, ⟨none, none, (.store 2 (.t 4) (.t 23))⟩, ⟨(some 5), none, (.mv (.c (.bool true)))⟩]) .ret))))
theorem k_impl_Substitution_term : codeOf Tryz.prog 55 = some ⟨24, c_impl_Substitution_term, [(.cell 4 true 2), (.tmp 5)]⟩ := by kernel_rfl
theorem m_impl_Substitution_term : modes 55 = ⟨[], .frz, none, false⟩ := by unfold modes; rfl

theorem term1_E (b : Bd) (n : ByteArray) : E 78 [b.sv, .str n] [] = some (.int .i64 (cmpB b.var n), []) := by
  have h := compareS_E b.var n
  refine E_walk k_impl_Substitution_term_1 m_impl_Substitution_term_1 (of_decide_eq_true rfl) ?_
  simp (disch := omega) only [c_impl_Substitution_term_1, go_sem, Nat.reduceAdd, Nat.reduceSub, Nat.reduceLT, Nat.reduceLeDiff, Nat.reduceEqDiff, Nat.reduceBEq, Nat.reduceBneDiff, Nat.reduceMul, ↓reduceIte, Int.reduceToNat, reduceCtorEq, Int.reduceNeg, Int.reduceAdd, h, m_cmp_Compare_string]
set_option maxHeartbeats 2000000 in
theorem bsearch_E (xs : List Bd) (n : ByteArray) (hl : xs.length ≤ 1099511627776) (hs : bdUp xs) : E 77 [.arr (xs.map Bd.d), .str n, .fn 78 []] [] = some (.tup [.int .i64 (lowI xs n : Nat), .bool (hitB xs n)], []) := by
  have hlow := lowI_le n xs
  obtain ⟨L, hL⟩ : ∃ L : Int, L = (lowI xs n : Nat) := ⟨_, rfl⟩
  rw [← hL]
  refine E_walk k_slices_BinarySearchFunc_impl_Binding_impl_Binding_string m_slices_BinarySearchFunc_impl_Binding_impl_Binding_string (of_decide_eq_true rfl) ?_
  simp (disch := omega) only [c_slices_BinarySearchFunc_impl_Binding_impl_Binding_string, go_sem, Nat.reduceAdd, Nat.reduceSub, Nat.reduceLT, Nat.reduceLeDiff, Nat.reduceEqDiff, Nat.reduceBEq, Nat.reduceBneDiff, Nat.reduceMul, ↓reduceIte, Int.reduceToNat, reduceCtorEq, Int.reduceNeg, Int.reduceAdd]
  refine go_loop (α := Int × Int) (fun a => ⟨slots 49 0 [(0, .arr (xs.map Bd.d)), (1, .str n), (2, .fn 78 []), (8, .int .i64 xs.length), (9, .int .i64 a.1), (10, .int .i64 a.2)], []⟩) (fun a => 0 ≤ a.1 ∧ a.1 ≤ L ∧ L ≤ a.2 ∧ a.2 ≤ xs.length) (fun a => (a.2 - a.1).toNat) (0, xs.length) ⟨by simp, by dsimp only; omega, by dsimp only; omega, by dsimp only; omega⟩ (by simp (disch := omega) only [go_sem, Nat.reduceAdd, Nat.reduceSub, Nat.reduceLT, Nat.reduceLeDiff, Nat.reduceEqDiff, Nat.reduceBEq, Nat.reduceBneDiff, Nat.reduceMul, ↓reduceIte, Int.reduceToNat, reduceCtorEq, Int.reduceNeg, Int.reduceAdd]) ?_
  rintro ⟨i, j⟩ ⟨h0, h1, h2, h3⟩
  dsimp only at h0 h1 h2 h3
  rcases Int.lt_or_le i j with hij | hij
  · obtain ⟨m, hm⟩ : ∃ m : Nat, (i + j) / 2 = (m : Int) := ⟨((i + j) / 2).toNat, by omega⟩
    have hlt : m < xs.length := by omega
    have hni : (m : Int).toNat = m := Int.toNat_natCast m
    have hg := get_at Bd.d hlt
    rw [Bd.d_eq] at hg
    have hc := term1_E xs[m] n
    have hw : IntKind.u64.wrap (i + j) = i + j := wrap_u64 (by omega) (by omega)
    have hi := lowI_iff hs n hlt
    obtain ⟨M, hM⟩ : ∃ M : Int, (i + j) / 2 = M := ⟨_, rfl⟩
    have hni : M.toNat = m := by omega
    cases hq : strLt xs[m].var n with
    | true =>
      have hi2 := hi.1 hq
      simp (disch := omega) only [go_sem, Nat.reduceAdd, Nat.reduceSub, Nat.reduceLT, Nat.reduceLeDiff, Nat.reduceEqDiff, Nat.reduceBEq, Nat.reduceBneDiff, Nat.reduceMul, ↓reduceIte, Int.reduceToNat, reduceCtorEq, Int.reduceNeg, Int.reduceAdd, hw, hni, hg, hc, g_impl_Substitution_term_1, m_impl_Substitution_term_1, cmpB_neg, hq, hM]
      exact ⟨(M + 1, j), ⟨by dsimp only; omega, by dsimp only; omega, by dsimp only; omega, by dsimp only; omega⟩, by dsimp only; omega, by first | trivial | rfl⟩
    | false =>
      have hi2 : ¬ m < lowI xs n := by rw [← hi, hq]; simp
      simp (disch := omega) only [go_sem, Nat.reduceAdd, Nat.reduceSub, Nat.reduceLT, Nat.reduceLeDiff, Nat.reduceEqDiff, Nat.reduceBEq, Nat.reduceBneDiff, Nat.reduceMul, ↓reduceIte, Int.reduceToNat, reduceCtorEq, Int.reduceNeg, Int.reduceAdd, hw, hni, hg, hc, g_impl_Substitution_term_1, m_impl_Substitution_term_1, cmpB_neg, hq, hM]
      exact ⟨(i, M), ⟨by dsimp only; omega, by dsimp only; omega, by dsimp only; omega, by dsimp only; omega⟩, by dsimp only; omega, by first | trivial | rfl⟩
  · obtain rfl : i = L := by omega
    rcases Nat.lt_or_ge (lowI xs n) xs.length with hlt | hge
    · have hg := get_at Bd.d hlt
      rw [Bd.d_eq] at hg
      have hni : i.toNat = lowI xs n := by omega
      have hc := term1_E xs[lowI xs n] n
      have hh : hitB xs n = dec (xs[lowI xs n].var = n) := by unfold hitB; rw [List.getElem?_eq_getElem hlt]
      rw [hh]
      simp (disch := omega) only [go_sem, Nat.reduceAdd, Nat.reduceSub, Nat.reduceLT, Nat.reduceLeDiff, Nat.reduceEqDiff, Nat.reduceBEq, Nat.reduceBneDiff, Nat.reduceMul, ↓reduceIte, Int.reduceToNat, reduceCtorEq, Int.reduceNeg, Int.reduceAdd, hni, hg, hc, g_impl_Substitution_term_1, m_impl_Substitution_term_1, cmpB_zero]
    · have hh : hitB xs n = false := by unfold hitB; rw [List.getElem?_eq_none hge]
      rw [hh]
      simp (disch := omega) only [go_sem, Nat.reduceAdd, Nat.reduceSub, Nat.reduceLT, Nat.reduceLeDiff, Nat.reduceEqDiff, Nat.reduceBEq, Nat.reduceBneDiff, Nat.reduceMul, ↓reduceIte, Int.reduceToNat, reduceCtorEq, Int.reduceNeg, Int.reduceAdd]
theorem idxP_hit {α : Type} (p : α → Bool) : ∀ (xs : List α) (k : Nat) (i : Int) (h : k < xs.length), (∀ j (hj : j < k), p xs[j] = false) → p xs[k] = true → idxP p xs i = i + k
  | [], k, i, h, _, _ => absurd h (by simp)
  | x :: xs, 0, i, h, _, hp => by rw [idxP, if_pos (show p x = true from hp)]; simp
  | x :: xs, k + 1, i, h, hb, hp => by
    have h0 : p x = false := hb 0 (by omega)
    have := idxP_hit p xs k (i + 1) (by simpa using h) (fun j hj => hb (j + 1) (by omega)) hp
    rw [idxP, if_neg (by rw [h0]; simp), this]; omega
theorem idxP_no {α : Type} (p : α → Bool) : ∀ (xs : List α) (i : Int), (∀ j (hj : j < xs.length), p xs[j] = false) → idxP p xs i = -1
  | [], i, _ => by rw [idxP]
  | x :: xs, i, h => by
    have h0 : p x = false := h 0 (by simp)
    rw [idxP, if_neg (by rw [h0]; simp)]
    exact idxP_no p xs (i + 1) fun j hj => h (j + 1) (by simpa using hj)
/-- The place of a name among ascending bindings. -/
theorem idxP_low {xs : List Bd} (hs : bdUp xs) (n : ByteArray) : idxP (fun b => dec (b.var = n)) xs 0 = if hitB xs n then ((lowI xs n : Nat) : Int) else -1 := by
  have before : ∀ j (hj : j < xs.length), j < lowI xs n → dec (xs[j].var = n) = false := fun j hj hL => dec_f (strLt_ne (lowI_before n xs j hj hL))
  rcases Nat.lt_or_ge (lowI xs n) xs.length with hlt | hge
  · have hh : hitB xs n = dec (xs[lowI xs n].var = n) := by unfold hitB; rw [List.getElem?_eq_getElem hlt]
    cases hq : dec (xs[lowI xs n].var = n) with
    | true =>
      rw [hh, hq, if_pos rfl, idxP_hit _ xs (lowI xs n) 0 hlt (fun j hj => before j (by omega) hj) hq]; omega
    | false =>
      rw [hh, hq, if_neg (by simp)]
      refine idxP_no _ xs 0 fun j hj => ?_
      rcases Nat.lt_trichotomy j (lowI xs n) with h | h | h
      · exact before j hj h
      · subst h; exact hq
      · refine dec_f fun e => ?_
        have h1 := hs _ _ h hj
        rw [e, lowI_at n xs hlt] at h1
        cases h1
  · have hh : hitB xs n = false := by unfold hitB; rw [List.getElem?_eq_none hge]
    rw [hh, if_neg (by simp)]
    exact idxP_no _ xs 0 fun j hj => before j hj (by omega)
theorem hitB_lt {xs : List Bd} {n : ByteArray} (h : hitB xs n = true) : lowI xs n < xs.length := by
  rcases Nat.lt_or_ge (lowI xs n) xs.length with h1 | h1
  · exact h1
  · unfold hitB at h; rw [List.getElem?_eq_none h1] at h; cases h
/-- The term to which a name is bound. -/
noncomputable def Sb.look (x : Sb) (n : ByteArray) : Option Tm := if h : hitB x.binds n = true then some (x.binds[lowI x.binds n]'(hitB_lt h)).term else none
theorem term_E_yes (x : Sb) (hx : x.ok = true) (n : ByteArray) (hl : x.binds.length ≤ 1099511627776) (hh : hitB x.binds n = true) (hlt : lowI x.binds n < x.binds.length) : E 55 [x.sv, .str n] [] = some (.tup [(x.binds[lowI x.binds n]).term.sv, .bool true], []) := by
  have hb := bsearch_E x.binds n hl (Sb.ok_up hx)
  have hg := get_at Bd.d hlt
  rw [Bd.d_eq] at hg
  have hni : ((lowI x.binds n : Nat) : Int).toNat = lowI x.binds n := Int.toNat_natCast _
  refine E_walk k_impl_Substitution_term m_impl_Substitution_term (of_decide_eq_true rfl) ?_
  simp (disch := omega) only [c_impl_Substitution_term, go_sem, Nat.reduceAdd, Nat.reduceSub, Nat.reduceLT, Nat.reduceLeDiff, Nat.reduceEqDiff, Nat.reduceBEq, Nat.reduceBneDiff, Nat.reduceMul, ↓reduceIte, Int.reduceToNat, reduceCtorEq, Int.reduceNeg, Int.reduceAdd, hb, hni, hg, hh, m_slices_BinarySearchFunc_impl_Binding_impl_Binding_string]
theorem term_E_no (x : Sb) (hx : x.ok = true) (n : ByteArray) (hl : x.binds.length ≤ 1099511627776) (hh : hitB x.binds n = false) : E 55 [x.sv, .str n] [] = some (.tup [.agg [.str ⟨#[]⟩, .arr []], .bool false], []) := by
  have hb := bsearch_E x.binds n hl (Sb.ok_up hx)
  refine E_walk k_impl_Substitution_term m_impl_Substitution_term (of_decide_eq_true rfl) ?_
  simp (disch := omega) only [c_impl_Substitution_term, go_sem, Nat.reduceAdd, Nat.reduceSub, Nat.reduceLT, Nat.reduceLeDiff, Nat.reduceEqDiff, Nat.reduceBEq, Nat.reduceBneDiff, Nat.reduceMul, ↓reduceIte, Int.reduceToNat, reduceCtorEq, Int.reduceNeg, Int.reduceAdd, hb, hh, m_slices_BinarySearchFunc_impl_Binding_impl_Binding_string]
end Go.Proofs.YtjafnijgkjjadaaGreat

set_option maxRecDepth 100000
set_option linter.unusedSimpArgs false
set_option linter.unusedVariables false
namespace Go.Proofs.YtjafnijgkjjadaaGreat
open Go.RowKit

mutual
/-- A term with its variables replaced. -/
noncomputable def Tm.ap (f : ByteArray → Option Tm) : Tm → Tm
  | .mk name args => if varB name then (f name).getD (.mk name []) else .mk name (Tm.apL f args)
noncomputable def Tm.apL (f : ByteArray → Option Tm) : List Tm → List Tm
  | [] => []
  | x :: xs => Tm.ap f x :: Tm.apL f xs
end
theorem Tm.ap_eq (f : ByteArray → Option Tm) (x : Tm) : x.ap f = if varB x.name then (f x.name).getD (.mk x.name []) else .mk x.name (Tm.apL f x.args) := by
  obtain ⟨name, args⟩ := x
  rw [Tm.ap]; rfl
theorem Tm.apL_len (f : ByteArray → Option Tm) : ∀ xs : List Tm, (Tm.apL f xs).length = xs.length
  | [] => by rw [Tm.apL]
  | x :: xs => by rw [Tm.apL]; simp only [List.length_cons, Tm.apL_len f xs]
theorem Tm.apL_map (f : ByteArray → Option Tm) : ∀ xs : List Tm, Tm.apL f xs = xs.map (Tm.ap f)
  | [] => by rw [Tm.apL]; rfl
  | x :: xs => by rw [Tm.apL, Tm.apL_map f xs]; rfl
/-- The terms that replace have valid names. -/
def okF (f : ByteArray → Option Tm) : Prop := ∀ n t, f n = some t → t.names = true ∧ t.nodes ≤ 30
theorem Tm.ap_nameS (f : ByteArray → Option Tm) : ∀ xs : List Tm, (∀ y ∈ xs, (y.ap f).names = true) → Tm.nameS (Tm.apL f xs) = true
  | [], _ => by rw [Tm.apL, Tm.nameS]
  | x :: xs, h => by rw [Tm.apL, Tm.nameS, h x (by simp), Tm.ap_nameS f xs fun y hy => h y (by simp [hy])]; rfl
theorem Tm.ap_names {f : ByteArray → Option Tm} (hf : okF f) (x : Tm) (hx : x.names = true) : (x.ap f).names = true := by
  rw [Tm.ap_eq]
  rw [Tm.names_eq] at hx
  split
  · rename_i hv
    cases hq : f x.name with
    | none =>
      rw [Option.getD_none, Tm.names_eq]
      show (if varB x.name then _ else _) = true
      rw [if_pos hv]; rfl
    | some t => exact (hf _ _ hq).1
  · rename_i hv
    rw [if_neg hv, Bool.and_eq_true, Bool.and_eq_true] at hx
    rw [Tm.names_eq]
    show (if varB x.name then _ else symB x.name && decide ((Tm.apL f x.args).length ≤ 4) && Tm.nameS (Tm.apL f x.args)) = true
    rw [if_neg hv, Tm.apL_len, hx.1.1, hx.1.2, Tm.ap_nameS f x.args fun y hy => Tm.ap_names hf y (by
      have := hx.2
      rw [Tm.nameS_all, List.all_eq_true] at this
      exact this y hy)]
    rfl
termination_by SizeOf.sizeOf x
decreasing_by exact Tm.lt_of_mem hy
theorem Tm.ap_nodeS {f : ByteArray → Option Tm} : ∀ xs : List Tm, (∀ y ∈ xs, (y.ap f).nodes ≤ 30 * y.nodes) → Tm.nodeS (Tm.apL f xs) ≤ 30 * Tm.nodeS xs
  | [], _ => by rw [Tm.apL, Tm.nodeS]; omega
  | x :: xs, h => by
    have h1 := h x (by simp)
    have h2 := Tm.ap_nodeS xs fun y hy => h y (by simp [hy])
    rw [Tm.apL, Tm.nodeS, Tm.nodeS]; omega
theorem Tm.ap_nodes {f : ByteArray → Option Tm} (hf : okF f) (x : Tm) : (x.ap f).nodes ≤ 30 * x.nodes := by
  have hp := Tm.nodes_pos x
  rw [Tm.ap_eq]
  split
  · cases hq : f x.name with
    | none =>
      have : (Tm.mk x.name []).nodes = 1 + Tm.nodeS [] := Tm.nodes_eq (Tm.mk x.name [])
      rw [Tm.nodeS] at this
      rw [Option.getD_none]; omega
    | some t => have := (hf _ _ hq).2; rw [Option.getD_some]; omega
  · have h1 : (Tm.mk x.name (Tm.apL f x.args)).nodes = 1 + Tm.nodeS (Tm.apL f x.args) := Tm.nodes_eq (Tm.mk x.name (Tm.apL f x.args))
    have h2 := Tm.ap_nodeS (f := f) x.args fun y hy => Tm.ap_nodes hf y
    have h3 := Tm.nodes_eq x
    omega
termination_by SizeOf.sizeOf x
decreasing_by exact Tm.lt_of_mem hy
/-- An expression stays one, if it stays small. -/
theorem Tm.ap_any {f : ByteArray → Option Tm} (hf : okF f) (x : Tm) (hx : (x.valid || x.atom) = true) : ((x.ap f).valid || (x.ap f).atom) = (x.ap f).small := by
  cases hs : (x.ap f).small with
  | false =>
    have h1 : (x.ap f).valid = false := by unfold Tm.valid; rw [hs]; rfl
    have h2 : (x.ap f).atom = false := by
      unfold Tm.atom; split
      · rw [hs, Bool.and_false, Bool.false_and]
      · rw [h1, Bool.and_false]
    rw [h1, h2]; rfl
  | true =>
    cases hn : x.names with
    | true =>
      have : (x.ap f).valid = true := by unfold Tm.valid; rw [hs, Tm.ap_names hf x hn]; rfl
      rw [this]; rfl
    | false =>
      have hv : x.valid = false := by unfold Tm.valid; rw [hn, Bool.and_false]
      rw [hv, Bool.false_or] at hx
      unfold Tm.atom at hx
      split at hx
      · rename_i he
        rw [Bool.and_eq_true, Bool.and_eq_true] at hx
        have hname : x.name = ⟨#[61]⟩ := by unfold Tm.eqn at he; exact dec_iff.1 he
        have hnv0 : varB ⟨#[61]⟩ = false := by kernel_rfl
        have hnv : ¬ (varB x.name = true) := by rw [hname, hnv0]; simp
        have e : x.ap f = .mk x.name (Tm.apL f x.args) := by rw [Tm.ap_eq, if_neg hnv]
        have : (x.ap f).atom = true := by
          have he2 : (x.ap f).eqn = true := by rw [e]; exact he
          unfold Tm.atom
          rw [if_pos he2, hs]
          rw [e]
          show ((Tm.apL f x.args).length == 2 && true && Tm.nameS (Tm.apL f x.args)) = true
          rw [Tm.apL_len, hx.1.1, Tm.ap_nameS f x.args fun y hy => Tm.ap_names hf y (by
            have := hx.2
            rw [Tm.nameS_all, List.all_eq_true] at this
            exact this y hy)]
          rfl
        rw [this, Bool.or_true]
      · rw [hv, Bool.and_false] at hx; cases hx
/-- The variables of a term have no arguments. -/
theorem Tm.names_var {x : Tm} (h : x.names = true) (hv : varB x.name = true) : x.args = [] := by
  rw [Tm.names_eq, if_pos hv] at h
  exact List.eq_nil_of_length_eq_zero (by simpa using h)
theorem Tm.names_arg {x : Tm} (h : x.names = true) {y : Tm} (hy : y ∈ x.args) : y.names = true := by
  rw [Tm.names_eq] at h
  split at h
  · have : x.args = [] := List.eq_nil_of_length_eq_zero (by simpa using h)
    rw [this] at hy; cases hy
  · rw [Bool.and_eq_true, Tm.nameS_all, List.all_eq_true] at h
    exact h.2 y hy
end Go.Proofs.YtjafnijgkjjadaaGreat

set_option maxRecDepth 100000
set_option linter.unusedSimpArgs false
set_option linter.unusedVariables false
namespace Go.Proofs.YtjafnijgkjjadaaGreat
open Go.RowKit

theorem Sb.ok_at {x : Sb} (h : x.ok = true) {k : Nat} (hk : k < x.binds.length) : bdOk x.binds[k] = true := by
  unfold Sb.ok at h
  rw [Bool.and_eq_true] at h
  exact bdAt_ok hk (bdTo_at h.2 hk)
theorem bdOk_var {x : Bd} (h : bdOk x = true) : varB x.var = true := by unfold bdOk at h; rw [Bool.and_eq_true] at h; exact h.1
theorem bdOk_valid {x : Bd} (h : bdOk x = true) : x.term.valid = true := by unfold bdOk at h; rw [Bool.and_eq_true, Bool.and_eq_true] at h; exact h.2.1
theorem hitB_eq {xs : List Bd} {n : ByteArray} (h : hitB xs n = true) (hlt : lowI xs n < xs.length) : (xs[lowI xs n]).var = n := by
  have hh : hitB xs n = dec (xs[lowI xs n].var = n) := by unfold hitB; rw [List.getElem?_eq_getElem hlt]
  rw [hh] at h
  exact dec_iff.1 h
theorem Sb.look_okF {x : Sb} (h : x.ok = true) : okF x.look := by
  intro n t ht
  unfold Sb.look at ht
  split at ht
  · rename_i hh
    have hv := bdOk_valid (Sb.ok_at h (hitB_lt hh))
    obtain rfl := Option.some.inj ht
    unfold Tm.valid Tm.small at hv
    rw [Bool.and_eq_true, Bool.and_eq_true, decide_eq_true_eq] at hv
    exact ⟨hv.2, hv.1.1⟩
  · cases ht
theorem Sb.look_yes {x : Sb} {n : ByteArray} (h : hitB x.binds n = true) (hlt : lowI x.binds n < x.binds.length) : x.look n = some (x.binds[lowI x.binds n]).term := by
  unfold Sb.look; rw [dif_pos h]
theorem Sb.look_no {x : Sb} {n : ByteArray} (h : hitB x.binds n = false) : x.look n = none := by
  unfold Sb.look; rw [dif_neg (by rw [h]; simp)]

def c_impl_Substitution_apply : SC := (.seq (.reg [⟨(some 2), none, (.boxv 28 1 (.t 0))⟩, ⟨(some 3), none, (.boxv 33 2 (.t 1))⟩, ⟨(some 4), none, (.alloc 33 [(.str ⟨#[]⟩), .nil])⟩]) (.seq (.seq (.reg [⟨(some 10), none, (.faddr 1 (.t 3))⟩, ⟨(some 11), none, (.load false 1 (.t 10))⟩, ⟨(some 12), none, (.len false (.t 11))⟩, ⟨(some 13), none, (.bin .eql false (.t 12) (.c (.int .i64 0)))⟩]) (.cond (.t 13) (.seq (.seq (.reg [⟨(some 15), none, (.load true 1 (.t 2))⟩, ⟨(some 16), none, (.faddr 0 (.t 3))⟩, ⟨(some 17), none, (.load false 1 (.t 16))⟩, ⟨(some 18), none, (.call 55 [(.t 15), (.t 17)])⟩, ⟨(some 14), none, (.mv (.t 18))⟩, ⟨(some 19), none, (.ext (.t 14) 0)⟩, ⟨(some 20), none, (.ext (.t 14) 1)⟩, ⟨(some 5), none, (.alloc 33 [(.str ⟨#[]⟩), .nil])⟩, ⟨none, none, (.store 2 (.t 5) (.t 19))⟩, ⟨(some 6), none, (.mv (.t 20))⟩]) (.seq (.reg [⟨(some 21), none, (.mv (.t 6))⟩]) (.cond (.t 21) (.seq (.reg [⟨(some 22), none, (.load true 2 (.t 5))⟩, ⟨(some 23), none, (.call 56 [(.t 22)])⟩, ⟨none, none, (.store 2 (.t 4) (.t 23))⟩]) .ret) .skip))) (.seq (.reg [⟨(some 24), none, (.faddr 0 (.t 3))⟩, ⟨(some 25), none, (.load false 1 (.t 24))⟩, ⟨(some 26), none, (.build [(.str ⟨#[]⟩), .nil] [(0, (1, (.t 25)))])⟩, ⟨none, none, (.store 2 (.t 4) (.t 26))⟩]) .ret)) .skip)) (.seq (.dreg [[], [0], [], [2], [3, 2], [4, 3, 2], [1, 0, 5, 4, 3, 2], [], [7, 6, 1, 0, 5, 4, 3, 2]] [⟨(some 27), none, (.faddr 0 (.t 3))⟩, ⟨(some 28), none, (.load false 1 (.t 27))⟩, ⟨(some 29), none, (.faddr 1 (.t 3))⟩, ⟨(some 30), none, (.load false 1 (.t 29))⟩, ⟨(some 31), none, (.len false (.t 30))⟩, ⟨(some 32), none, (.mkslice 33 2 40 [(.str ⟨#[]⟩), .nil] (.t 31))⟩, ⟨(some 33), none, (.build [(.str ⟨#[]⟩), .nil] [(0, (1, (.t 28))), (1, (1, (.t 32)))])⟩, ⟨(some 7), none, (.alloc 33 [(.str ⟨#[]⟩), .nil])⟩, ⟨none, none, (.store 2 (.t 7) (.t 33))⟩]) (.seq (.seq (.reg [⟨(some 34), none, (.faddr 1 (.t 3))⟩, ⟨(some 35), none, (.load false 1 (.t 34))⟩, ⟨(some 36), none, (.len false (.t 35))⟩, ⟨(some 37), none, (.mv (.c (.int .i64 0)))⟩]) (.block 0 (.loop [0, 0, 1, 0, 1, 0, 0, 1, 0, 0, 0, 0, 0, 0, 0, 0, 0, 0, 0, 0, 0, 0, 0, 0, 0, 0, 0, 0, 0, 0, 0, 0, 0, 0, 0, 1, 1, 1, 0, 0, 0, 0, 0, 0, 0, 0, 0, 0, 0, 0, 0] (.seq (.reg [⟨(some 38), none, (.bin .lss false (.t 37) (.t 36))⟩]) (.seq (.cond (.t 38) .skip (.exit 0)) (.seq (.block 1 (.seq (.reg [⟨(some 39), none, (.mv (.t 37))⟩, ⟨(some 40), none, (.iaddr 2 (.t 35) (.t 37))⟩, ⟨(some 41), none, (.load true 2 (.t 40))⟩, ⟨(some 9), none, (.alloc 33 [(.str ⟨#[]⟩), .nil])⟩, ⟨(some 8), none, (.mv (.t 39))⟩, ⟨none, none, (.store 2 (.t 9) (.t 41))⟩]) (.dreg [[], [0], [], [], [], [3, 4], [1, 0, 2, 3, 4, 5], [6, 1, 0, 2, 3, 4, 5]] [⟨(some 42), none, (.faddr 1 (.t 7))⟩, ⟨(some 43), none, (.load false 1 (.t 42))⟩, ⟨(some 44), none, (.mv (.t 8))⟩, ⟨(some 45), none, (.load true 1 (.t 2))⟩, ⟨(some 46), none, (.load true 2 (.t 9))⟩, ⟨(some 47), none, (.call 53 [(.t 45), (.t 46)])⟩, ⟨(some 48), none, (.iaddr 2 (.t 43) (.t 44))⟩, ⟨none, none, (.store 2 (.t 48) (.t 47))⟩]))) (.reg [⟨(some 49), none, (.bin .add false (.t 37) (.c (.int .i64 1)))⟩, ⟨(some 37), none, (.mv (.t 49))⟩]))))))) (.seq (.reg [⟨(some 50), none, (.load true 2 (.t 7))⟩, ⟨none, none, (.store 2 (.t 4) (.t 50))⟩]) .ret)))))
theorem k_impl_Substitution_apply : codeOf Tryz.prog 53 = some ⟨51, c_impl_Substitution_apply, [(.cell 4 true 2)]⟩ := by kernel_rfl
theorem m_impl_Substitution_apply : modes 53 = ⟨[], .own [none, some (33, 2)], none, false⟩ := by unfold modes; rfl

def c_spec_l4Apply : SC := (.seq (.reg [⟨(some 2), none, (.boxv 28 1 (.t 0))⟩, ⟨(some 3), none, (.boxv 33 2 (.t 1))⟩, ⟨(some 4), none, (.alloc 33 [(.str ⟨#[]⟩), .nil])⟩]) (.seq (.seq (.reg [⟨(some 8), none, (.faddr 0 (.t 3))⟩, ⟨(some 9), none, (.load false 1 (.t 8))⟩, ⟨(some 10), none, (.call 39 [(.t 9)])⟩]) (.cond (.t 10) (.seq (.seq (.reg [⟨(some 11), none, (.load true 1 (.t 2))⟩, ⟨(some 12), none, (.faddr 0 (.t 3))⟩, ⟨(some 13), none, (.load false 1 (.t 12))⟩, ⟨(some 14), none, (.call 73 [(.t 11), (.t 13)])⟩, ⟨(some 5), none, (.mv (.t 14))⟩]) (.seq (.reg [⟨(some 15), none, (.mv (.t 5))⟩, ⟨(some 16), none, (.bin .geq false (.t 15) (.c (.int .i64 0)))⟩]) (.cond (.t 16) (.seq (.reg [⟨(some 17), none, (.faddr 0 (.t 2))⟩, ⟨(some 18), none, (.load false 1 (.t 17))⟩, ⟨(some 19), none, (.mv (.t 5))⟩, ⟨(some 20), none, (.iaddr 3 (.t 18) (.t 19))⟩, ⟨(some 21), none, (.faddr 1 (.t 20))⟩, ⟨(some 22), none, (.load true 2 (.t 21))⟩, ⟨(some 23), none, (.call 74 [(.t 22)])⟩, ⟨none, none, (.store 2 (.t 4) (.t 23))⟩]) .ret) .skip))) (.seq (.reg [⟨(some 24), none, (.faddr 0 (.t 3))⟩, ⟨(some 25), none, (.load false 1 (.t 24))⟩, ⟨(some 26), none, (.build [(.str ⟨#[]⟩), .nil] [(0, (1, (.t 25)))])⟩, ⟨none, none, (.store 2 (.t 4) (.t 26))⟩]) .ret)) .skip)) (.seq (.reg [⟨(some 27), none, (.faddr 0 (.t 3))⟩, ⟨(some 28), none, (.load false 1 (.t 27))⟩, ⟨(some 29), none, (.build [(.str ⟨#[]⟩), .nil] [(0, (1, (.t 28)))])⟩, ⟨(some 6), none, (.alloc 33 [(.str ⟨#[]⟩), .nil])⟩, ⟨none, none, (.store 2 (.t 6) (.t 29))⟩]) (.seq (.seq (.reg [⟨(some 7), none, (.mv (.c (.int .i64 0)))⟩]) (.block 0 (.loop [0, 0, 1, 1, 1, 0, 1, 1, 0, 0, 0, 0, 0, 0, 0, 0, 0, 0, 0, 0, 0, 0, 0, 0, 0, 0, 0, 0, 0, 0, 0, 0, 0, 0, 0, 0, 0, 0, 0, 0, 0, 0, 0, 0, 0, 0, 0, 0, 0, 0] (.seq (.seq (.reg [⟨(some 30), none, (.mv (.t 7))⟩, ⟨(some 31), none, (.faddr 1 (.t 3))⟩, ⟨(some 32), none, (.load false 1 (.t 31))⟩, ⟨(some 33), none, (.len false (.t 32))⟩, ⟨(some 34), none, (.bin .lss false (.t 30) (.t 33))⟩]) (.cond (.t 34) .skip (.exit 0))) (.seq (.block 1 (.dreg [[], [0], [], [], [3], [], [4, 3, 5], [6, 4, 3, 5], [2, 7, 6, 4, 3, 5], [8, 2, 7, 6, 4, 3, 5], [1, 0, 9, 8, 2, 7, 6, 4, 3, 5], [0, 1, 2, 3, 4, 5, 6, 7, 8, 9, 10], [11, 0, 1, 2, 3, 4, 5, 6, 7, 8, 9, 10]] [⟨(some 37), none, (.faddr 1 (.t 6))⟩, ⟨(some 38), none, (.load false 1 (.t 37))⟩, ⟨(some 39), none, (.load true 1 (.t 2))⟩, ⟨(some 40), none, (.faddr 1 (.t 3))⟩, ⟨(some 41), none, (.load false 1 (.t 40))⟩, ⟨(some 42), none, (.mv (.t 7))⟩, ⟨(some 43), none, (.iaddr 2 (.t 41) (.t 42))⟩, ⟨(some 44), none, (.load true 2 (.t 43))⟩, ⟨(some 45), none, (.call 50 [(.t 39), (.t 44)])⟩, ⟨(some 46), none, (.mkrow 33 2 [(.str ⟨#[]⟩), .nil] 1 [(0, (.t 45))])⟩, ⟨(some 47), none, (.append 33 2 40 [(.str ⟨#[]⟩), .nil] (.t 38) (.t 46))⟩, ⟨(some 48), none, (.faddr 1 (.t 6))⟩, ⟨none, none, (.store 1 (.t 48) (.t 47))⟩])) (.reg [⟨(some 35), none, (.mv (.t 7))⟩, ⟨(some 36), none, (.bin .add false (.t 35) (.c (.int .i64 1)))⟩, ⟨(some 7), none, (.mv (.t 36))⟩])))))) (.seq (.reg [⟨(some 49), none, (.load true 2 (.t 6))⟩, ⟨none, none, (.store 2 (.t 4) (.t 49))⟩]) .ret)))))
theorem k_spec_l4Apply : codeOf Tryz.prog 50 = some ⟨50, c_spec_l4Apply, [(.cell 4 true 2)]⟩ := by kernel_rfl
theorem m_spec_l4Apply : modes 50 = ⟨[], .frz, none, false⟩ := by unfold modes; rfl

set_option maxHeartbeats 4000000 in
theorem apply_of (s : Sb) (hs : s.ok = true) (ht : s.tame) (x : Tm) (hx : varB x.name = true → x.args = []) (hn : x.nodes ≤ 1099511627776) (ih : ∀ y ∈ x.args, E 53 [s.sv, y.sv] [] = some ((y.ap s.look).osv, (y.ap s.look).obs)) : E 53 [s.sv, x.sv] [] = some ((x.ap s.look).osv, (x.ap s.look).obs) := by
  have hsl := ht.1
  have hl := Tm.length_le x.args
  have hne := Tm.nodes_eq x
  rcases Nat.eq_zero_or_pos x.args.length with h0 | h0
  · have hx0 : x.args = [] := List.eq_nil_of_length_eq_zero h0
    cases hh : hitB s.binds x.name with
    | true =>
      have hlt := hitB_lt hh
      have hc := term_E_yes s hs x.name hsl hh hlt
      have hd := copyTerm_E (s.binds[lowI s.binds x.name]).term (Sb.tame_at ht hlt)
      have hv : varB x.name = true := by rw [← hitB_eq hh hlt]; exact bdOk_var (Sb.ok_at hs hlt)
      have e : x.ap s.look = (s.binds[lowI s.binds x.name]).term := by rw [Tm.ap_eq, if_pos hv, Sb.look_yes hh hlt]; rfl
      rw [e]
      refine E_walk k_impl_Substitution_apply m_impl_Substitution_apply (of_decide_eq_true rfl) ?_
      simp (disch := omega) only [c_impl_Substitution_apply, go_sem, Nat.reduceAdd, Nat.reduceSub, Nat.reduceLT, Nat.reduceLeDiff, Nat.reduceEqDiff, Nat.reduceBEq, Nat.reduceBneDiff, Nat.reduceMul, ↓reduceIte, Int.reduceToNat, reduceCtorEq, Int.reduceNeg, Int.reduceAdd, hx0, hc, hd, List.map_nil, List.length_nil, m_impl_Substitution_term, m_impl_copyTerm, Tm.osv, Tm.obs]
    | false =>
      have hc := term_E_no s hs x.name hsl hh
      have e : x.ap s.look = .mk x.name [] := by
        rw [Tm.ap_eq, Sb.look_no hh, hx0]
        split
        · rfl
        · rw [Tm.apL]
      rw [e]
      have e1 : (Tm.mk x.name []).osv = .agg [.str x.name, .ref 0] := rfl
      have e2 : (Tm.mk x.name []).obs = [.row 33 2 []] := rfl
      rw [e1, e2]
      refine E_walk k_impl_Substitution_apply m_impl_Substitution_apply (of_decide_eq_true rfl) ?_
      simp (disch := omega) only [c_impl_Substitution_apply, go_sem, Nat.reduceAdd, Nat.reduceSub, Nat.reduceLT, Nat.reduceLeDiff, Nat.reduceEqDiff, Nat.reduceBEq, Nat.reduceBneDiff, Nat.reduceMul, ↓reduceIte, Int.reduceToNat, reduceCtorEq, Int.reduceNeg, Int.reduceAdd, hx0, hc, List.map_nil, List.length_nil, m_impl_Substitution_term]
  · have hv : ¬ varB x.name = true := fun h => by rw [hx h] at h0; simp at h0
    have e : x.ap s.look = .mk x.name (x.args.map (Tm.ap s.look)) := by rw [Tm.ap_eq, if_neg hv, Tm.apL_map]
    rw [e]
    have e1 : (Tm.mk x.name (x.args.map (Tm.ap s.look))).osv = .agg [.str x.name, .ref 0] := rfl
    have e2 : (Tm.mk x.name (x.args.map (Tm.ap s.look))).obs = [.row 33 2 ((x.args.map (Tm.ap s.look)).map Tm.o)] := rfl
    rw [e1, e2]
    have hrl : List.replicate x.args.length ([.str ⟨#[]⟩, .ow []] : List OT) = fillR Tm.o [.str ⟨#[]⟩, .ow []] (x.args.map (Tm.ap s.look)) 0 := by rw [fillR_zero, List.length_map]
    refine E_walk k_impl_Substitution_apply m_impl_Substitution_apply (of_decide_eq_true rfl) ?_
    simp (disch := omega) only [c_impl_Substitution_apply, go_sem, Nat.reduceAdd, Nat.reduceSub, Nat.reduceLT, Nat.reduceLeDiff, Nat.reduceEqDiff, Nat.reduceBEq, Nat.reduceBneDiff, Nat.reduceMul, ↓reduceIte, Int.reduceToNat, reduceCtorEq, Int.reduceNeg, Int.reduceAdd]
    refine go_loop (α := Int) (fun a => ⟨slots 51 0 [(2, .ptr 0 0), (4, .ptr 1 0), (7, .ptr 2 0), (35, .arr (x.args.map Tm.d)), (36, .int .i64 x.args.length), (37, .int .i64 a)], [.box 28 [.arr (s.binds.map Bd.d)], .box 33 [.str ⟨#[]⟩, .nil], .box 33 [.str x.name, .ref 3], .row 33 2 (fillR Tm.o [.str ⟨#[]⟩, .ow []] (x.args.map (Tm.ap s.look)) a.toNat)]⟩) (fun a => ∃ k : Nat, a = k ∧ k ≤ (x.args).length) (fun a => (x.args).length - (a).toNat) 0 ⟨0, rfl, Nat.zero_le _⟩ (by simp (disch := omega) only [go_sem, Nat.reduceAdd, Nat.reduceSub, Nat.reduceLT, Nat.reduceLeDiff, Nat.reduceEqDiff, Nat.reduceBEq, Nat.reduceBneDiff, Nat.reduceMul, ↓reduceIte, Int.reduceToNat, reduceCtorEq, Int.reduceNeg, Int.reduceAdd, hrl, Int.toNat_zero]) ?_
    rintro i ⟨k, hi, hk⟩
    have hni : i.toNat = k := by omega
    have hni1 : (i + 1).toNat = k + 1 := by omega
    rcases Nat.lt_or_ge k (x.args).length with hlt | hge
    · have hg := get_at Tm.d hlt
      rw [Tm.d_eq] at hg
      have hltm : k < (x.args.map (Tm.ap s.look)).length := by rw [List.length_map]; exact hlt
      have hz := fillR_get Tm.o [.str ⟨#[]⟩, .ow []] hltm
      have hc := ih x.args[k] (List.getElem_mem hlt)
      have hse := fillR_set Tm.o [.str ⟨#[]⟩, .ow []] hltm
      rw [Tm.o_eq, List.getElem_map] at hse
      simp (disch := omega) only [go_sem, Nat.reduceAdd, Nat.reduceSub, Nat.reduceLT, Nat.reduceLeDiff, Nat.reduceEqDiff, Nat.reduceBEq, Nat.reduceBneDiff, Nat.reduceMul, ↓reduceIte, Int.reduceToNat, reduceCtorEq, Int.reduceNeg, Int.reduceAdd, hni, hg, hc, hz, fillR_len, List.length_map, m_impl_Substitution_apply, Tm.osv, Tm.obs]
      refine ⟨i + 1, ⟨k + 1, by omega, hlt⟩, by omega, ?_⟩
      simp (disch := omega) only [go_sem, Nat.reduceAdd, Nat.reduceSub, Nat.reduceLT, Nat.reduceLeDiff, Nat.reduceEqDiff, Nat.reduceBEq, Nat.reduceBneDiff, Nat.reduceMul, ↓reduceIte, Int.reduceToNat, reduceCtorEq, Int.reduceNeg, Int.reduceAdd, hni1, hse]
    · obtain rfl : k = x.args.length := by omega
      have hend : fillR Tm.o [.str ⟨#[]⟩, .ow []] (x.args.map (Tm.ap s.look)) x.args.length = (x.args.map (Tm.ap s.look)).map Tm.o := by
        have := fillR_end Tm.o [.str ⟨#[]⟩, .ow []] (xs := x.args.map (Tm.ap s.look))
        rwa [List.length_map] at this
      simp (disch := omega) only [go_sem, Nat.reduceAdd, Nat.reduceSub, Nat.reduceLT, Nat.reduceLeDiff, Nat.reduceEqDiff, Nat.reduceBEq, Nat.reduceBneDiff, Nat.reduceMul, ↓reduceIte, Int.reduceToNat, reduceCtorEq, Int.reduceNeg, Int.reduceAdd, hni, hend]
theorem apply_E (s : Sb) (hs : s.ok = true) (ht : s.tame) (x : Tm) (hx : x.names = true) (hn : x.nodes ≤ 1099511627776) : E 53 [s.sv, x.sv] [] = some ((x.ap s.look).osv, (x.ap s.look).obs) :=
  apply_of s hs ht x (Tm.names_var hx) hn fun y hy => apply_E s hs ht y (Tm.names_arg hx hy) (by have := Tm.nodes_mem hy; have := Tm.nodes_eq x; omega)
termination_by SizeOf.sizeOf x
decreasing_by exact Tm.lt_of_mem hy
set_option maxHeartbeats 4000000 in
theorem l4Apply_of (s : Sb) (hs : s.ok = true) (ht : s.tame) (x : Tm) (hn : x.nodes ≤ 1099511627776) (ih : ∀ y ∈ x.args, E 50 [s.sv, y.sv] [] = some ((y.ap s.look).sv, [])) : E 50 [s.sv, x.sv] [] = some ((x.ap s.look).sv, []) := by
  have hsl := ht.1
  have hl := Tm.length_le x.args
  have hne := Tm.nodes_eq x
  have hf := l4Find_E s x.name hsl
  rw [idxP_low (Sb.ok_up hs)] at hf
  cases hv : varB x.name with
  | true =>
    cases hh : hitB s.binds x.name with
    | true =>
      have hlt := hitB_lt hh
      have hg := get_at Bd.d hlt
      rw [Bd.d_eq] at hg
      have hni : ((lowI s.binds x.name : Nat) : Int).toNat = lowI s.binds x.name := Int.toNat_natCast _
      have hd := l2Own_E (s.binds[lowI s.binds x.name]).term (Sb.tame_at ht hlt)
      have e : x.ap s.look = (s.binds[lowI s.binds x.name]).term := by rw [Tm.ap_eq, if_pos hv, Sb.look_yes hh hlt]; rfl
      rw [hh, if_pos rfl] at hf
      rw [e]
      refine E_walk k_spec_l4Apply m_spec_l4Apply (of_decide_eq_true rfl) ?_
      simp (disch := omega) only [c_spec_l4Apply, go_sem, Nat.reduceAdd, Nat.reduceSub, Nat.reduceLT, Nat.reduceLeDiff, Nat.reduceEqDiff, Nat.reduceBEq, Nat.reduceBneDiff, Nat.reduceMul, ↓reduceIte, Int.reduceToNat, reduceCtorEq, Int.reduceNeg, Int.reduceAdd, hv, hf, hg, hni, hd, m_spec_l4Find, m_spec_l2Var, l2Var_E, m_spec_l2Own]
    | false =>
      have e : x.ap s.look = .mk x.name [] := by rw [Tm.ap_eq, if_pos hv, Sb.look_no hh]; rfl
      rw [hh, if_neg (by simp)] at hf
      rw [e]
      have e1 : (Tm.mk x.name []).sv = .agg [.str x.name, .arr []] := rfl
      rw [e1]
      refine E_walk k_spec_l4Apply m_spec_l4Apply (of_decide_eq_true rfl) ?_
      simp (disch := omega) only [c_spec_l4Apply, go_sem, Nat.reduceAdd, Nat.reduceSub, Nat.reduceLT, Nat.reduceLeDiff, Nat.reduceEqDiff, Nat.reduceBEq, Nat.reduceBneDiff, Nat.reduceMul, ↓reduceIte, Int.reduceToNat, reduceCtorEq, Int.reduceNeg, Int.reduceAdd, hv, hf, m_spec_l4Find, m_spec_l2Var, l2Var_E]
  | false =>
    have e : x.ap s.look = .mk x.name (x.args.map (Tm.ap s.look)) := by rw [Tm.ap_eq, if_neg (by rw [hv]; simp), Tm.apL_map]
    rw [e]
    have e1 : (Tm.mk x.name (x.args.map (Tm.ap s.look))).sv = .agg [.str x.name, .arr ((x.args.map (Tm.ap s.look)).map Tm.d)] := rfl
    rw [e1]
    have h10 : ((1 : Int) = 0) = False := by simp
    have hfu := Tm.osh_full (x.args.map (Tm.ap s.look))
    have her := Tm.osh_er (x.args.map (Tm.ap s.look))
    refine E_walk k_spec_l4Apply m_spec_l4Apply (of_decide_eq_true rfl) ?_
    simp (disch := omega) only [c_spec_l4Apply, go_sem, Nat.reduceAdd, Nat.reduceSub, Nat.reduceLT, Nat.reduceLeDiff, Nat.reduceEqDiff, Nat.reduceBEq, Nat.reduceBneDiff, Nat.reduceMul, ↓reduceIte, Int.reduceToNat, reduceCtorEq, Int.reduceNeg, Int.reduceAdd, hv, m_spec_l4Find, m_spec_l2Var, l2Var_E]
    refine go_loop (α := Int) (fun a => ⟨slots 50 0 [(2, .ptr 0 0), (3, .ptr 1 0), (4, .ptr 2 0), (6, .ptr 3 0), (7, .int .i64 a)], (if a = 0 then [.box 28 [.arr (s.binds.map Bd.d)], .box 33 [.str x.name, .arr (x.args.map Tm.d)], .box 33 [.str ⟨#[]⟩, .nil], .box 33 [.str x.name, .nil]] else [.box 28 [.arr (s.binds.map Bd.d)], .box 33 [.str x.name, .arr (x.args.map Tm.d)], .box 33 [.str ⟨#[]⟩, .nil], .box 33 [.str x.name, .ref 4], .row 33 2 (((x.args.map (Tm.ap s.look)).take a.toNat).map Tm.osh)])⟩) (fun a => ∃ k : Nat, a = k ∧ k ≤ (x.args).length) (fun a => (x.args).length - (a).toNat) 0 ⟨0, rfl, Nat.zero_le _⟩ (by simp (disch := omega) only [go_sem, Nat.reduceAdd, Nat.reduceSub, Nat.reduceLT, Nat.reduceLeDiff, Nat.reduceEqDiff, Nat.reduceBEq, Nat.reduceBneDiff, Nat.reduceMul, ↓reduceIte, Int.reduceToNat, reduceCtorEq, Int.reduceNeg, Int.reduceAdd, eq_self, if_true]) ?_
    rintro i ⟨k, hi, hk⟩
    have hni : i.toNat = k := by omega
    have hni1 : (i + 1).toNat = k + 1 := by omega
    rcases Nat.lt_or_ge k (x.args).length with hlt | hge
    · have hg := get_at Tm.d hlt
      rw [Tm.d_eq] at hg
      have hltm : k < (x.args.map (Tm.ap s.look)).length := by rw [List.length_map]; exact hlt
      have hc := ih x.args[k] (List.getElem_mem hlt)
      have hse := map_snoc Tm.osh hltm
      rw [Tm.osh_eq, List.getElem_map] at hse
      rcases Nat.eq_zero_or_pos k with h0 | h0
      · subst h0
        obtain rfl : i = 0 := hi
        rw [List.take_zero, List.map_nil, List.nil_append] at hse
        simp (disch := omega) only [go_sem, Nat.reduceAdd, Nat.reduceSub, Nat.reduceLT, Nat.reduceLeDiff, Nat.reduceEqDiff, Nat.reduceBEq, Nat.reduceBneDiff, Nat.reduceMul, ↓reduceIte, Int.reduceToNat, reduceCtorEq, Int.reduceNeg, Int.reduceAdd, hni, hg, hc, m_spec_l4Apply, eq_self, if_true]
        refine ⟨1, ⟨1, rfl, hlt⟩, by omega, ?_⟩
        simp (disch := omega) only [go_sem, Nat.reduceAdd, Nat.reduceSub, Nat.reduceLT, Nat.reduceLeDiff, Nat.reduceEqDiff, Nat.reduceBEq, Nat.reduceBneDiff, Nat.reduceMul, ↓reduceIte, Int.reduceToNat, reduceCtorEq, Int.reduceNeg, Int.reduceAdd, h10, if_false, hse]
      · have hi0 : (i = 0) = False := by simp; omega
        have hi1 : (i + 1 = 0) = False := by simp; omega
        have htl : ((x.args.map (Tm.ap s.look)).take k).length = k := by rw [List.length_take]; omega
        simp (disch := omega) only [go_sem, Nat.reduceAdd, Nat.reduceSub, Nat.reduceLT, Nat.reduceLeDiff, Nat.reduceEqDiff, Nat.reduceBEq, Nat.reduceBneDiff, Nat.reduceMul, ↓reduceIte, Int.reduceToNat, reduceCtorEq, Int.reduceNeg, Int.reduceAdd, hni, hg, hc, m_spec_l4Apply, hi0, if_false, htl]
        refine ⟨i + 1, ⟨k + 1, by omega, hlt⟩, by omega, ?_⟩
        simp (disch := omega) only [go_sem, Nat.reduceAdd, Nat.reduceSub, Nat.reduceLT, Nat.reduceLeDiff, Nat.reduceEqDiff, Nat.reduceBEq, Nat.reduceBneDiff, Nat.reduceMul, ↓reduceIte, Int.reduceToNat, reduceCtorEq, Int.reduceNeg, Int.reduceAdd, hni1, hi1, if_false, hse]
    · obtain rfl : k = x.args.length := by omega
      have hta : (x.args.map (Tm.ap s.look)).take x.args.length = x.args.map (Tm.ap s.look) := by
        have := List.take_length (l := x.args.map (Tm.ap s.look))
        rwa [List.length_map] at this
      rcases Nat.eq_zero_or_pos x.args.length with h0 | h0
      · have hx : x.args = [] := List.eq_nil_of_length_eq_zero h0
        obtain rfl : i = 0 := by omega
        simp (disch := omega) only [go_sem, Nat.reduceAdd, Nat.reduceSub, Nat.reduceLT, Nat.reduceLeDiff, Nat.reduceEqDiff, Nat.reduceBEq, Nat.reduceBneDiff, Nat.reduceMul, ↓reduceIte, Int.reduceToNat, reduceCtorEq, Int.reduceNeg, Int.reduceAdd, hni, hx, eq_self, if_true, List.map_nil, List.length_nil]
      · have hi0 : (i = 0) = False := by simp; omega
        simp (disch := omega) only [go_sem, Nat.reduceAdd, Nat.reduceSub, Nat.reduceLT, Nat.reduceLeDiff, Nat.reduceEqDiff, Nat.reduceBEq, Nat.reduceBneDiff, Nat.reduceMul, ↓reduceIte, Int.reduceToNat, reduceCtorEq, Int.reduceNeg, Int.reduceAdd, hni, hi0, if_false, hta, hfu, her]
theorem l4Apply_E (s : Sb) (hs : s.ok = true) (ht : s.tame) (x : Tm) (hn : x.nodes ≤ 1099511627776) : E 50 [s.sv, x.sv] [] = some ((x.ap s.look).sv, []) :=
  l4Apply_of s hs ht x hn fun y hy => l4Apply_E s hs ht y (by have := Tm.nodes_mem hy; have := Tm.nodes_eq x; omega)
termination_by SizeOf.sizeOf x
decreasing_by exact Tm.lt_of_mem hy
end Go.Proofs.YtjafnijgkjjadaaGreat

set_option maxRecDepth 100000
set_option linter.unusedSimpArgs false
set_option linter.unusedVariables false
namespace Go.Proofs.YtjafnijgkjjadaaGreat
open Go.RowKit

noncomputable def Tm.expr (x : Tm) : Bool := x.valid || x.atom
theorem Tm.expr_small {x : Tm} (h : x.expr = true) : x.small = true := by
  unfold Tm.expr Tm.atom Tm.valid at h
  cases hs : x.small with
  | true => rfl
  | false =>
    rw [hs] at h
    split at h <;> simp at h
theorem Tm.expr_nodes {x : Tm} (h : x.expr = true) : x.nodes ≤ 30 := by
  have := Tm.expr_small h
  unfold Tm.small at this
  rw [Bool.and_eq_true, decide_eq_true_eq] at this
  exact this.1
theorem Tm.eqn_var {x : Tm} (h : x.eqn = true) : varB x.name = false := by
  unfold Tm.eqn at h
  rw [dec_iff.1 h]
  kernel_rfl
theorem Tm.expr_names {x : Tm} (h : x.expr = true) : x.names = true ∨ (x.eqn = true ∧ Tm.nameS x.args = true) := by
  unfold Tm.expr Tm.valid at h
  cases hn : x.names with
  | true => exact .inl rfl
  | false =>
    rw [hn, Bool.and_false, Bool.false_or] at h
    unfold Tm.atom at h
    split at h
    · rename_i he
      rw [Bool.and_eq_true] at h
      exact .inr ⟨he, h.2⟩
    · unfold Tm.valid at h; rw [hn, Bool.and_false, Bool.and_false] at h; cases h
theorem Tm.expr_var {x : Tm} (h : x.expr = true) : varB x.name = true → x.args = [] := by
  intro hv
  rcases Tm.expr_names h with h1 | ⟨h1, h2⟩
  · exact Tm.names_var h1 hv
  · rw [Tm.eqn_var h1] at hv; cases hv
theorem Tm.expr_arg {x : Tm} (h : x.expr = true) {y : Tm} (hy : y ∈ x.args) : y.names = true := by
  rcases Tm.expr_names h with h1 | ⟨h1, h2⟩
  · exact Tm.names_arg h1 hy
  · rw [Tm.nameS_all, List.all_eq_true] at h2; exact h2 y hy

theorem Tm.nodeS_sumB : ∀ xs : List Tm, (∀ x ∈ xs, x.nodes ≤ 1 + x.bulk) → Tm.nodeS xs ≤ xs.length + Tm.sumB xs
  | [], _ => by simp [Tm.nodeS]
  | x :: xs, h => by
    have h1 := h x (by simp)
    have h2 := Tm.nodeS_sumB xs fun y hy => h y (by simp [hy])
    rw [Tm.nodeS, Tm.sumB]; simp only [List.length_cons]; omega
theorem Tm.nodes_bulk (x : Tm) : x.nodes ≤ 1 + x.bulk := by
  rw [Tm.nodes_eq, Tm.bulk_eq]
  have := Tm.nodeS_sumB x.args fun y hy => Tm.nodes_bulk y
  omega
termination_by SizeOf.sizeOf x
decreasing_by exact Tm.lt_of_mem hy
theorem varB_size {s : ByteArray} (h : varB s = true) : s.size ≤ 6 := by
  unfold varB inB at h
  simp at h
  omega
theorem symB_size {s : ByteArray} (h : symB s = true) : s.size ≤ 6 := by
  unfold symB inB at h
  simp at h
  omega
theorem Tm.sumB_nodes : ∀ xs : List Tm, (∀ x ∈ xs, x.bulk + 1 ≤ 8 * x.nodes) → xs.length + Tm.sumB xs ≤ 8 * Tm.nodeS xs
  | [], _ => by simp [Tm.nodeS, Tm.sumB]
  | x :: xs, h => by
    have h1 := h x (by simp)
    have h2 := Tm.sumB_nodes xs fun y hy => h y (by simp [hy])
    rw [Tm.nodeS, Tm.sumB]; simp only [List.length_cons]; omega
theorem Tm.names_bulk (x : Tm) (h : x.names = true) : x.bulk + 1 ≤ 8 * x.nodes := by
  have h1 := Tm.sumB_nodes x.args fun y hy => Tm.names_bulk y (Tm.names_arg h hy)
  have h2 : x.name.size ≤ 6 := by
    rw [Tm.names_eq] at h
    split at h
    · rename_i hv; exact varB_size hv
    · rw [Bool.and_eq_true, Bool.and_eq_true] at h; exact symB_size h.1.1
  rw [Tm.nodes_eq, Tm.bulk_eq]
  omega
termination_by SizeOf.sizeOf x
decreasing_by exact Tm.lt_of_mem hy
theorem Tm.expr_bulk {x : Tm} (h : x.expr = true) : x.bulk ≤ 1048576 := by
  have hn := Tm.expr_nodes h
  have h1 := Tm.sumB_nodes x.args fun y hy => Tm.names_bulk y (Tm.expr_arg h hy)
  have h2 : x.name.size ≤ 6 := by
    rcases Tm.expr_names h with h3 | ⟨h3, _⟩
    · rw [Tm.names_eq] at h3
      split at h3
      · rename_i hv; exact varB_size hv
      · rw [Bool.and_eq_true, Bool.and_eq_true] at h3; exact symB_size h3.1.1
    · unfold Tm.eqn at h3
      rw [dec_iff.1 h3]; decide
  rw [Tm.nodes_eq] at hn
  rw [Tm.bulk_eq]
  omega
theorem isExpression_E (x : Tm) (hn : x.nodes ≤ 1099511627776) : E 22 [x.sv] [] = some (.bool x.expr, []) := by
  have h1 := isValidTerm_E x hn
  have h2 := isEquality_E x
  have h3 := isValidAtom_E x hn
  unfold Tm.expr
  cases hv : x.valid with
  | true =>
    rw [hv] at h1
    rw [Bool.true_or]
    refine E_walk k_impl_isExpression m_impl_isExpression (of_decide_eq_true rfl) ?_
    simp (disch := omega) only [c_impl_isExpression, go_sem, Nat.reduceAdd, Nat.reduceSub, Nat.reduceLT, Nat.reduceLeDiff, Nat.reduceEqDiff, Nat.reduceBEq, Nat.reduceBneDiff, Nat.reduceMul, ↓reduceIte, Int.reduceToNat, reduceCtorEq, Int.reduceNeg, Int.reduceAdd, h1, m_impl_IsValidTerm]
  | false =>
    rw [hv] at h1
    rw [Bool.false_or]
    cases he : x.eqn with
    | true =>
      rw [he] at h2
      refine E_walk k_impl_isExpression m_impl_isExpression (of_decide_eq_true rfl) ?_
      simp (disch := omega) only [c_impl_isExpression, go_sem, Nat.reduceAdd, Nat.reduceSub, Nat.reduceLT, Nat.reduceLeDiff, Nat.reduceEqDiff, Nat.reduceBEq, Nat.reduceBneDiff, Nat.reduceMul, ↓reduceIte, Int.reduceToNat, reduceCtorEq, Int.reduceNeg, Int.reduceAdd, h1, h2, h3, m_impl_IsValidTerm, m_impl_isEquality, m_impl_IsValidAtom]
    | false =>
      rw [he] at h2
      have ha : x.atom = false := by unfold Tm.atom; rw [if_neg (by rw [he]; simp), hv, Bool.and_false]
      rw [ha]
      refine E_walk k_impl_isExpression m_impl_isExpression (of_decide_eq_true rfl) ?_
      simp (disch := omega) only [c_impl_isExpression, go_sem, Nat.reduceAdd, Nat.reduceSub, Nat.reduceLT, Nat.reduceLeDiff, Nat.reduceEqDiff, Nat.reduceBEq, Nat.reduceBneDiff, Nat.reduceMul, ↓reduceIte, Int.reduceToNat, reduceCtorEq, Int.reduceNeg, Int.reduceAdd, h1, h2, m_impl_IsValidTerm, m_impl_isEquality]
theorem l2Any_E (x : Tm) (hn : x.nodes ≤ 1099511627776) : E 20 [x.sv] [] = some (.bool x.expr, []) := by
  have h1 := l2Good_E x hn
  have h3 := l2Atom_E x hn
  unfold Tm.expr
  cases hv : x.valid with
  | true =>
    rw [hv] at h1
    rw [Bool.true_or]
    refine E_walk k_spec_l2Any m_spec_l2Any (of_decide_eq_true rfl) ?_
    simp (disch := omega) only [c_spec_l2Any, go_sem, Nat.reduceAdd, Nat.reduceSub, Nat.reduceLT, Nat.reduceLeDiff, Nat.reduceEqDiff, Nat.reduceBEq, Nat.reduceBneDiff, Nat.reduceMul, ↓reduceIte, Int.reduceToNat, reduceCtorEq, Int.reduceNeg, Int.reduceAdd, h1, m_spec_l2Good]
  | false =>
    rw [hv] at h1
    rw [Bool.false_or]
    refine E_walk k_spec_l2Any m_spec_l2Any (of_decide_eq_true rfl) ?_
    simp (disch := omega) only [c_spec_l2Any, go_sem, Nat.reduceAdd, Nat.reduceSub, Nat.reduceLT, Nat.reduceLeDiff, Nat.reduceEqDiff, Nat.reduceBEq, Nat.reduceBneDiff, Nat.reduceMul, ↓reduceIte, Int.reduceToNat, reduceCtorEq, Int.reduceNeg, Int.reduceAdd, h1, h3, m_spec_l2Good, m_spec_l2Atom]
end Go.Proofs.YtjafnijgkjjadaaGreat

set_option maxRecDepth 100000
set_option linter.unusedSimpArgs false
set_option linter.unusedVariables false
namespace Go.Proofs.YtjafnijgkjjadaaGreat
open Go.RowKit

def c_impl_Substitution_applied : SC := (.seq (.reg [⟨(some 2), none, (.boxv 28 1 (.t 0))⟩, ⟨(some 3), none, (.boxv 33 2 (.t 1))⟩, ⟨(some 4), none, (.alloc 33 [(.str ⟨#[]⟩), .nil])⟩, ⟨(some 5), none, (.mv (.c (.bool false)))⟩]) (.seq (.reg [⟨(some 7), none, (.load true 1 (.t 2))⟩, ⟨(some 8), none, (.load true 2 (.t 3))⟩, ⟨(some 9), none, (.call 53 [(.t 7), (.t 8)])⟩, ⟨(some 6), none, (.alloc 33 [(.str ⟨#[]⟩), .nil])⟩, ⟨none, none, (.store 2 (.t 6) (.t 9))⟩]) (.seq (.seq (.reg [⟨(some 10), none, (.load true 2 (.t 6))⟩, ⟨(some 11), none, (.call 54 [(.t 10)])⟩, ⟨(some 12), none, (.un .not (.t 11))⟩]) (.cond (.t 12) (.seq (.reg [⟨(some 13), none, (.build [(.str ⟨#[]⟩), .nil] [])⟩, ⟨none, none, (.store 2 (.t 4) (.t 13))⟩, ⟨(some 5), none, (.mv (.c (.bool false)))⟩]) .ret) .skip)) (.seq (.reg [⟨(some 14), none, (.load true 2 (.t 6))⟩, ⟨none, none, (.store 2 (.t 4) (.t 14))⟩, ⟨(some 5), none, (.mv (.c (.bool true)))⟩]) .ret))))
theorem k_impl_Substitution_applied : codeOf Tryz.prog 33 = some ⟨15, c_impl_Substitution_applied, [(.cell 4 true 2), (.tmp 5)]⟩ := by kernel_rfl
theorem m_impl_Substitution_applied : modes 33 = ⟨[], .late, none, false⟩ := by unfold modes; rfl


def c_spec_ApplySubstitution : SC := (.seq (.reg [⟨(some 2), none, (.boxv 28 1 (.t 0))⟩, ⟨(some 3), none, (.boxv 33 2 (.t 1))⟩, ⟨(some 4), none, (.alloc 33 [(.str ⟨#[]⟩), .nil])⟩, ⟨(some 5), none, (.mv (.c (.bool false)))⟩]) (.seq (.seq (.reg [⟨(some 7), none, (.load true 1 (.t 2))⟩, ⟨(some 8), none, (.call 49 [(.t 7)])⟩, ⟨(some 9), none, (.un .not (.t 8))⟩, ⟨(some 10), none, (.mv (.t 9))⟩, ⟨(some 11), (some (10, false)), (.load true 2 (.t 3))⟩, ⟨(some 12), (some (10, false)), (.call 20 [(.t 11)])⟩, ⟨(some 13), (some (10, false)), (.un .not (.t 12))⟩, ⟨(some 14), none, (.pick (.t 10) (.c (.bool true)) (.t 13))⟩]) (.cond (.t 14) (.seq (.reg [⟨(some 15), none, (.build [(.str ⟨#[]⟩), .nil] [])⟩, ⟨none, none, (.store 2 (.t 4) (.t 15))⟩, ⟨(some 5), none, (.mv (.c (.bool false)))⟩]) .ret) .skip)) (.seq (.reg [⟨(some 16), none, (.load true 1 (.t 2))⟩, ⟨(some 17), none, (.load true 2 (.t 3))⟩, ⟨(some 18), none, (.call 50 [(.t 16), (.t 17)])⟩, ⟨(some 6), none, (.alloc 33 [(.str ⟨#[]⟩), .nil])⟩, ⟨none, none, (.store 2 (.t 6) (.t 18))⟩]) (.seq (.seq (.reg [⟨(some 19), none, (.load true 2 (.t 6))⟩, ⟨(some 20), none, (.call 20 [(.t 19)])⟩, ⟨(some 21), none, (.un .not (.t 20))⟩]) (.cond (.t 21) (.seq (.reg [⟨(some 22), none, (.build [(.str ⟨#[]⟩), .nil] [])⟩, ⟨none, none, (.store 2 (.t 4) (.t 22))⟩, ⟨(some 5), none, (.mv (.c (.bool false)))⟩]) .ret) .skip)) (.seq (.reg [⟨(some 23), none, (.load true 2 (.t 6))⟩, ⟨none, none, (.store 2 (.t 4) (.t 23))⟩, ⟨(some 5), none, (.mv (.c (.bool true)))⟩]) .ret)))))
theorem k_spec_ApplySubstitution : codeOf Tryz.prog 28 = some ⟨24, c_spec_ApplySubstitution, [(.cell 4 true 2), (.tmp 5)]⟩ := by kernel_rfl
theorem m_spec_ApplySubstitution : modes 28 = ⟨[], .frz, none, false⟩ := by unfold modes; rfl

/-- Whether a substitution can be applied; what comes of it. -/
noncomputable def apOk (s : Sb) (x : Tm) : Bool := s.ok && (x.expr && (x.ap s.look).small)
noncomputable def apTo (s : Sb) (x : Tm) : Tm := if apOk s x then x.ap s.look else .mk ⟨#[]⟩ []
theorem apTo_no {s : Sb} {x : Tm} (h : apOk s x = false) : apTo s x = .mk ⟨#[]⟩ [] := by unfold apTo; rw [if_neg (by rw [h]; simp)]
theorem apTo_yes {s : Sb} {x : Tm} (h : apOk s x = true) : apTo s x = x.ap s.look := by unfold apTo; rw [if_pos h]
theorem zero_osv : (Tm.mk ⟨#[]⟩ []).osv = .agg [.str ⟨#[]⟩, .ref 0] := rfl
theorem zero_obs : (Tm.mk ⟨#[]⟩ []).obs = [.row 33 2 []] := rfl
theorem zero_sv : (Tm.mk ⟨#[]⟩ []).sv = .agg [.str ⟨#[]⟩, .arr []] := rfl
theorem apply_any (s : Sb) (hs : s.ok = true) (ht : s.tame) (x : Tm) (hx : x.expr = true) : E 53 [s.sv, x.sv] [] = some ((x.ap s.look).osv, (x.ap s.look).obs) := by
  have hn := Tm.expr_nodes hx
  exact apply_of s hs ht x (Tm.expr_var hx) (by omega) fun y hy => apply_E s hs ht y (Tm.expr_arg hx hy) (by have := Tm.nodes_mem hy; have := Tm.nodes_eq x; omega)
theorem applied_yes (s : Sb) (hs : s.ok = true) (ht : s.tame) (x : Tm) (hx : x.expr = true) (ho : apOk s x = true) : E 33 [s.sv, x.sv] [] = some (.tup [(apTo s x).osv, .bool true], (apTo s x).obs) := by
  have hn := Tm.expr_nodes hx
  have hk := Tm.ap_nodes (Sb.look_okF hs) x
  have h1 := apply_any s hs ht x hx
  have h2 := isSmall_E (x.ap s.look) (by omega)
  have hq : (x.ap s.look).small = true := by unfold apOk at ho; rw [Bool.and_eq_true, Bool.and_eq_true] at ho; exact ho.2.2
  rw [hq] at h2
  rw [apTo_yes ho]
  refine E_walk k_impl_Substitution_applied m_impl_Substitution_applied (of_decide_eq_true rfl) ?_
  simp (disch := omega) only [c_impl_Substitution_applied, go_sem, Nat.reduceAdd, Nat.reduceSub, Nat.reduceLT, Nat.reduceLeDiff, Nat.reduceEqDiff, Nat.reduceBEq, Nat.reduceBneDiff, Nat.reduceMul, ↓reduceIte, Int.reduceToNat, reduceCtorEq, Int.reduceNeg, Int.reduceAdd, h1, h2, Tm.osv, Tm.obs, m_impl_isSmall, m_impl_Substitution_apply]
theorem applied_no (s : Sb) (hs : s.ok = true) (ht : s.tame) (x : Tm) (hx : x.expr = true) (ho : apOk s x = false) : E 33 [s.sv, x.sv] [] = some (.tup [.agg [.str ⟨#[]⟩, .nil], .bool false], []) := by
  have hn := Tm.expr_nodes hx
  have hk := Tm.ap_nodes (Sb.look_okF hs) x
  have h1 := apply_any s hs ht x hx
  have h2 := isSmall_E (x.ap s.look) (by omega)
  have hq : (x.ap s.look).small = false := by unfold apOk at ho; rw [hs, hx, Bool.true_and, Bool.true_and] at ho; exact ho
  rw [hq] at h2
  refine E_walk k_impl_Substitution_applied m_impl_Substitution_applied (of_decide_eq_true rfl) ?_
  simp (disch := omega) only [c_impl_Substitution_applied, go_sem, Nat.reduceAdd, Nat.reduceSub, Nat.reduceLT, Nat.reduceLeDiff, Nat.reduceEqDiff, Nat.reduceBEq, Nat.reduceBneDiff, Nat.reduceMul, ↓reduceIte, Int.reduceToNat, reduceCtorEq, Int.reduceNeg, Int.reduceAdd, h1, h2, Tm.osv, Tm.obs, m_impl_isSmall, m_impl_Substitution_apply]
theorem l4ApplySubstitution_E (s : Sb) (ht : s.tame) (x : Tm) (hn : x.nodes ≤ 1099511627776) : E 28 [s.sv, x.sv] [] = some (.tup [(apTo s x).sv, .bool (apOk s x)], []) := by
  have h1 := l4Good_E s ht
  have h2 := l2Any_E x hn
  cases hs : s.ok with
  | false =>
    have ho : apOk s x = false := by unfold apOk; rw [hs]; rfl
    rw [hs] at h1
    rw [apTo_no ho, ho, zero_sv]
    refine E_walk k_spec_ApplySubstitution m_spec_ApplySubstitution (of_decide_eq_true rfl) ?_
    simp (disch := omega) only [c_spec_ApplySubstitution, go_sem, Nat.reduceAdd, Nat.reduceSub, Nat.reduceLT, Nat.reduceLeDiff, Nat.reduceEqDiff, Nat.reduceBEq, Nat.reduceBneDiff, Nat.reduceMul, ↓reduceIte, Int.reduceToNat, reduceCtorEq, Int.reduceNeg, Int.reduceAdd, h1, m_spec_l4Good]
  | true =>
    rw [hs] at h1
    cases hx : x.expr with
    | false =>
      have ho : apOk s x = false := by unfold apOk; rw [hx, Bool.false_and, Bool.and_false]
      rw [hx] at h2
      rw [apTo_no ho, ho, zero_sv]
      refine E_walk k_spec_ApplySubstitution m_spec_ApplySubstitution (of_decide_eq_true rfl) ?_
      simp (disch := omega) only [c_spec_ApplySubstitution, go_sem, Nat.reduceAdd, Nat.reduceSub, Nat.reduceLT, Nat.reduceLeDiff, Nat.reduceEqDiff, Nat.reduceBEq, Nat.reduceBneDiff, Nat.reduceMul, ↓reduceIte, Int.reduceToNat, reduceCtorEq, Int.reduceNeg, Int.reduceAdd, h1, h2, m_spec_l4Good, m_spec_l2Any]
    | true =>
      rw [hx] at h2
      have hn := Tm.expr_nodes hx
      have hk := Tm.ap_nodes (Sb.look_okF hs) x
      have h3 := l4Apply_E s hs ht x (by omega)
      have h4 := l2Any_E (x.ap s.look) (by omega)
      have h5 : (x.ap s.look).expr = (x.ap s.look).small := Tm.ap_any (Sb.look_okF hs) x hx
      rw [h5] at h4
      cases hq : (x.ap s.look).small with
      | true =>
        have ho : apOk s x = true := by unfold apOk; rw [hs, hx, hq]; rfl
        rw [hq] at h4
        rw [apTo_yes ho, ho]
        refine E_walk k_spec_ApplySubstitution m_spec_ApplySubstitution (of_decide_eq_true rfl) ?_
        simp (disch := omega) only [c_spec_ApplySubstitution, go_sem, Nat.reduceAdd, Nat.reduceSub, Nat.reduceLT, Nat.reduceLeDiff, Nat.reduceEqDiff, Nat.reduceBEq, Nat.reduceBneDiff, Nat.reduceMul, ↓reduceIte, Int.reduceToNat, reduceCtorEq, Int.reduceNeg, Int.reduceAdd, h1, h2, h3, h4, m_spec_l4Good, m_spec_l2Any, m_spec_l4Apply]
      | false =>
        have ho : apOk s x = false := by unfold apOk; rw [hq, Bool.and_false, Bool.and_false]
        rw [hq] at h4
        rw [apTo_no ho, ho, zero_sv]
        refine E_walk k_spec_ApplySubstitution m_spec_ApplySubstitution (of_decide_eq_true rfl) ?_
        simp (disch := omega) only [c_spec_ApplySubstitution, go_sem, Nat.reduceAdd, Nat.reduceSub, Nat.reduceLT, Nat.reduceLeDiff, Nat.reduceEqDiff, Nat.reduceBEq, Nat.reduceBneDiff, Nat.reduceMul, ↓reduceIte, Int.reduceToNat, reduceCtorEq, Int.reduceNeg, Int.reduceAdd, h1, h2, h3, h4, m_spec_l4Good, m_spec_l2Any, m_spec_l4Apply]
end Go.Proofs.YtjafnijgkjjadaaGreat

set_option maxRecDepth 100000
set_option linter.unusedSimpArgs false
set_option linter.unusedVariables false
namespace Go.Proofs.YtjafnijgkjjadaaGreat
open Go.RowKit

def bdLe (x y : Bd) : Bool := !strLt y.var x.var
/-- A binding put at its place. -/
def insB : List Bd → Bd → List Bd
  | [], b => [b]
  | x :: xs, b => bif strLt x.var b.var then x :: insB xs b else b :: x :: xs
theorem insB_perm (b : Bd) : ∀ xs : List Bd, (insB xs b).Perm (b :: xs)
  | [] => .refl _
  | x :: xs => by
    rw [insB]
    cases strLt x.var b.var with
    | true => exact ((insB_perm b xs).cons x).trans (.swap b x xs)
    | false => exact .refl _
theorem bdLe_trans {a b c : Bd} (h : bdLe a b = true) (k : bdLe b c = true) : bdLe a c = true := by
  unfold bdLe at *
  cases hq : strLt c.var a.var with
  | false => rfl
  | true =>
    cases hb : strLt b.var a.var with
    | true => rw [hb] at h; cases h
    | false =>
      cases hc : strLt c.var b.var with
      | true => rw [hc] at k; cases k
      | false =>
        cases hab : strLt a.var b.var with
        | true => rw [strLt_trans hq hab] at hc; cases hc
        | false =>
          have := strLt_total hab hb
          rw [this] at hq; rw [hq] at hc; cases hc
theorem bdLe_total (a b : Bd) : (bdLe a b || bdLe b a) = true := by
  unfold bdLe
  cases h : strLt b.var a.var with
  | false => rfl
  | true => rw [strLt_asymm h]; rfl
theorem insB_sorted (b : Bd) : ∀ xs : List Bd, xs.Pairwise (fun x y => bdLe x y = true) → (insB xs b).Pairwise fun x y => bdLe x y = true
  | [], _ => by simp [insB]
  | x :: xs, h => by
    rw [insB]
    rw [List.pairwise_cons] at h
    cases hq : strLt x.var b.var with
    | true =>
      rw [cond_true, List.pairwise_cons]
      refine ⟨fun y hy => ?_, insB_sorted b xs h.2⟩
      rcases List.mem_cons.1 ((insB_perm b xs).mem_iff.1 hy) with rfl | hy
      · unfold bdLe; rw [strLt_asymm hq]; rfl
      · exact h.1 y hy
    | false =>
      have hb : bdLe b x = true := by unfold bdLe; rw [hq]; rfl
      rw [cond_false, List.pairwise_cons, List.pairwise_cons]
      refine ⟨fun y hy => ?_, h⟩
      rcases List.mem_cons.1 hy with rfl | hy
      · exact hb
      · exact bdLe_trans hb (h.1 y hy)
def insL (xs ys : List Bd) : List Bd := ys.foldl insB xs
theorem insL_perm : ∀ (ys xs : List Bd), (insL xs ys).Perm (xs ++ ys)
  | [], xs => by simp [insL]
  | y :: ys, xs => by
    have h := insL_perm ys (insB xs y)
    simp only [insL, List.foldl_cons] at h ⊢
    refine h.trans ?_
    have h2 : (insB xs y ++ ys).Perm ((y :: xs) ++ ys) := (insB_perm y xs).append_right ys
    exact h2.trans List.perm_middle.symm
theorem insL_sorted : ∀ (ys xs : List Bd), xs.Pairwise (fun x y => bdLe x y = true) → (insL xs ys).Pairwise fun x y => bdLe x y = true
  | [], xs, h => h
  | y :: ys, xs, h => by
    simp only [insL, List.foldl_cons]
    exact insL_sorted ys (insB xs y) (insB_sorted y xs h)
theorem insL_app (xs a b : List Bd) : insL xs (a ++ b) = insL (insL xs a) b := List.foldl_append
theorem insL_snoc (xs a : List Bd) (b : Bd) : insL xs (a ++ [b]) = insB (insL xs a) b := by rw [insL_app]; rfl
/-- Putting one after the other at its place sorts, where no two have one key. -/
theorem insL_sort {ys : List Bd} (hn : (ys.map Bd.var).Nodup) : insL [] ys = ys.mergeSort bdLe := by
  have h1 : (insL [] ys).Perm ys := by simpa using insL_perm ys []
  have h2 : (ys.mergeSort bdLe).Perm ys := List.mergeSort_perm _ _
  refine List.Perm.eq_of_pairwise (le := fun x y => bdLe x y = true) ?_ (insL_sorted ys [] List.Pairwise.nil) (List.pairwise_mergeSort (le := bdLe) (fun _ _ _ h k => bdLe_trans h k) bdLe_total ys) (h1.trans h2.symm)
  intro a b ha hb hab hba
  unfold bdLe at hab hba
  have e : a.var = b.var := strLt_total (by simpa using hba) (by simpa using hab)
  have ha := h1.mem_iff.1 ha
  have hb := h2.mem_iff.1 hb
  obtain ⟨i, hi, rfl⟩ := List.getElem_of_mem ha
  obtain ⟨j, hj, rfl⟩ := List.getElem_of_mem hb
  have hij : i = j := (List.getElem_inj (h₀ := by simpa using hi) (h₁ := by simpa using hj) hn).1 (by simpa using e)
  subst hij; rfl
theorem insB_low (b : Bd) : ∀ xs : List Bd, insB xs b = xs.take (lowI xs b.var) ++ b :: xs.drop (lowI xs b.var)
  | [] => by simp [insB, lowI]
  | x :: xs => by
    rw [insB, lowI]
    cases h : strLt x.var b.var with
    | true => rw [cond_true, insB_low b xs]; simp
    | false => simp
/-! What comes of the two. -/
noncomputable def cmpOne (u : Sb) (b : Bd) : Option Bd := bif dec ((b.term.ap u.look).name = b.var) then none else some ⟨b.var, b.term.ap u.look⟩
noncomputable def cmpL1 (s u : Sb) : List Bd := s.binds.filterMap (cmpOne u)
noncomputable def cmpL2 (s u : Sb) : List Bd := u.binds.filter fun b => !hitB s.binds b.var
noncomputable def cmpAll (s u : Sb) : List Bd := cmpL1 s u ++ cmpL2 s u
noncomputable def cmpS (s u : Sb) : Sb := ⟨(cmpAll s u).mergeSort bdLe⟩
theorem bdUp_nodup : ∀ {xs : List Bd}, bdUp xs → (xs.map Bd.var).Nodup := by
  intro xs h
  unfold List.Nodup
  rw [List.pairwise_iff_getElem]
  intro i j hi hj hij e
  rw [List.length_map] at hj
  have := h i j hij hj
  simp only [List.getElem_map] at e
  rw [e, strLt_self] at this
  cases this
theorem hitB_any {xs : List Bd} (hs : bdUp xs) (n : ByteArray) : hitB xs n = xs.any fun b => dec (b.var = n) := by
  rw [← idxP_any, idxP_low hs]
  cases hitB xs n with
  | true => rw [if_pos rfl]; exact (dec_t (by omega)).symm
  | false => rw [if_neg (by simp)]; exact (dec_f (by omega)).symm
theorem cmpL1_mem {s u : Sb} {b : Bd} (h : b ∈ cmpL1 s u) : ∃ c ∈ s.binds, b.var = c.var ∧ b.term = c.term.ap u.look := by
  obtain ⟨c, hc, h⟩ := List.mem_filterMap.1 h
  refine ⟨c, hc, ?_⟩
  unfold cmpOne at h
  cases hq : dec ((c.term.ap u.look).name = c.var) with
  | true => rw [hq] at h; cases h
  | false => rw [hq] at h; obtain rfl := Option.some.inj h; exact ⟨rfl, rfl⟩
theorem filterMap_vars (u : Sb) : ∀ xs : List Bd, ((xs.filterMap (cmpOne u)).map Bd.var).Sublist (xs.map Bd.var)
  | [] => .slnil
  | x :: xs => by
    rw [List.filterMap_cons, List.map_cons]
    have h := filterMap_vars u xs
    cases hq : cmpOne u x with
    | none => exact h.cons _
    | some c =>
      have e : c.var = x.var := by
        unfold cmpOne at hq
        cases hd : dec ((x.term.ap u.look).name = x.var) with
        | true => rw [hd] at hq; cases hq
        | false => rw [hd] at hq; obtain rfl := Option.some.inj hq; rfl
      simp only [List.map_cons, e]
      exact h.cons_cons _
theorem cmpAll_nodup {s u : Sb} (hs : bdUp s.binds) (hu : bdUp u.binds) : ((cmpAll s u).map Bd.var).Nodup := by
  unfold cmpAll
  rw [List.map_append, List.nodup_append]
  refine ⟨(filterMap_vars u s.binds).nodup (bdUp_nodup hs), (List.Sublist.map _ List.filter_sublist).nodup (bdUp_nodup hu), fun a ha b hb e => ?_⟩
  subst e
  obtain ⟨x, hx, rfl⟩ := List.mem_map.1 ha
  obtain ⟨y, hy, e⟩ := List.mem_map.1 hb
  obtain ⟨c, hc, h1, _⟩ := cmpL1_mem hx
  have hy2 := (List.mem_filter.1 hy).2
  rw [hitB_any hs, Bool.not_eq_true'] at hy2
  have := List.any_eq_false.1 hy2 c hc
  exact this (dec_t (by rw [← h1, e]))
theorem cmpAll_len (s u : Sb) : (cmpAll s u).length ≤ s.binds.length + u.binds.length := by
  unfold cmpAll cmpL1 cmpL2
  rw [List.length_append]
  have h1 := List.length_filterMap_le (cmpOne u) s.binds
  have h2 := List.length_filter_le (fun b => !hitB s.binds b.var) u.binds
  omega
end Go.Proofs.YtjafnijgkjjadaaGreat

set_option maxRecDepth 100000
set_option linter.unusedSimpArgs false
set_option linter.unusedVariables false
namespace Go.Proofs.YtjafnijgkjjadaaGreat
open Go.RowKit

mutual
def Tm.wt : Tm → Nat
  | .mk name args => 1 + Tm.wtS args
def Tm.wtS : List Tm → Nat
  | [] => 0
  | x :: xs => Tm.wt x + Tm.wtS xs
end
theorem Tm.wt_eq (x : Tm) : x.wt = 1 + Tm.wtS x.args := by
  obtain ⟨name, args⟩ := x
  rw [Tm.wt]; rfl
mutual
noncomputable def Tm.mk1 : Tm → Int → Tm × Int
  | .mk name args, k => ((Tm.mk (markT k) ((Tm.mkS args (k + 1)).1)), (Tm.mkS args (k + 1)).2)
noncomputable def Tm.mkS : List Tm → Int → List Tm × Int
  | [], k => ([], k)
  | x :: xs, k => ((Tm.mk1 x k).1 :: (Tm.mkS xs (Tm.mk1 x k).2).1, (Tm.mkS xs (Tm.mk1 x k).2).2)
end
theorem Tm.mk1_eq (x : Tm) (k : Int) : x.mk1 k = ((Tm.mk (markT k) ((Tm.mkS x.args (k + 1)).1)), (Tm.mkS x.args (k + 1)).2) := by
  obtain ⟨name, args⟩ := x
  rw [Tm.mk1]; rfl
theorem Tm.mk1_d (x : Tm) (k : Int) : Tm.d (x.mk1 k).1 = [.str (markT k), .arr ((Tm.mkS x.args (k + 1)).1.map Tm.d)] := by
  rw [Tm.mk1_eq, Tm.d_eq]
  try rfl
theorem Tm.mk1_o (x : Tm) (k : Int) : Tm.o (x.mk1 k).1 = [.str (markT k), .ow ((Tm.mkS x.args (k + 1)).1.map Tm.o)] := by
  rw [Tm.mk1_eq, Tm.o_eq]
  try rfl
theorem Tm.mkS_end_of : ∀ (xs : List Tm) (k : Int), (∀ x ∈ xs, ∀ k, (x.mk1 k).2 = k + x.wt) → (Tm.mkS xs k).2 = k + Tm.wtS xs
  | [], k, _ => by simp [Tm.mkS, Tm.wtS]
  | x :: xs, k, h => by
    rw [Tm.mkS, Tm.wtS]
    have h1 := h x (by simp) k
    have h2 := Tm.mkS_end_of xs (x.mk1 k).2 fun y hy => h y (by simp [hy])
    dsimp only
    omega
theorem Tm.mk1_end (x : Tm) (k : Int) : (x.mk1 k).2 = k + x.wt := by
  rw [Tm.mk1_eq, Tm.wt_eq]
  have h := fun k => Tm.mkS_end_of x.args k fun y hy k => Tm.mk1_end y k
  simp only [h]
  omega
termination_by SizeOf.sizeOf x
decreasing_by exact Tm.lt_of_mem hy
theorem Tm.mkS_end (xs : List Tm) (k : Int) : (Tm.mkS xs k).2 = k + Tm.wtS xs := Tm.mkS_end_of xs k fun x _ k => Tm.mk1_end x k
theorem Tm.wtS_of : ∀ xs : List Tm, (∀ x ∈ xs, x.wt ≤ 5 * (1 + x.bulk)) → Tm.wtS xs ≤ 5 * (xs.length + Tm.sumB xs)
  | [], _ => by simp [Tm.wtS]
  | x :: xs, h => by
    have h1 := h x (by simp)
    have h2 := Tm.wtS_of xs fun y hy => h y (by simp [hy])
    rw [Tm.wtS, Tm.sumB]; simp only [List.length_cons]; omega
theorem Tm.wt_bulk (x : Tm) : x.wt ≤ 5 * (1 + x.bulk) := by
  rw [Tm.wt_eq, Tm.bulk_eq]
  have h := Tm.wtS_of x.args fun y hy => Tm.wt_bulk y
  omega
termination_by SizeOf.sizeOf x
decreasing_by exact Tm.lt_of_mem hy
theorem Tm.wtS_bulk (xs : List Tm) : Tm.wtS xs ≤ 5 * (xs.length + Tm.sumB xs) := Tm.wtS_of xs fun x _ => Tm.wt_bulk x
theorem Tm.length_wt : ∀ xs : List Tm, xs.length ≤ Tm.wtS xs
  | [] => Nat.le_refl _
  | x :: xs => by
    have := Tm.length_wt xs
    have := Tm.wt_eq x
    rw [Tm.wtS]; simp only [List.length_cons]; omega
def c_laws_markTermS : SC := (.seq (.reg [⟨(some 4), none, (.mv (.c (.int .i64 0)))⟩]) (.seq (.seq (.reg [⟨(some 5), none, (.mv (.c (.int .i64 0)))⟩]) (.block 0 (.loop [1, 1, 0, 0, 0, 1, 0, 0, 0, 0, 0, 0, 0, 0, 0, 0, 0, 0, 0, 0, 0, 0, 0, 0, 0, 0, 0, 0] (.seq (.seq (.reg [⟨(some 6), none, (.mv (.t 5))⟩, ⟨(some 7), none, (.mv (.t 0))⟩, ⟨(some 8), none, (.len false (.t 7))⟩, ⟨(some 9), none, (.bin .lss false (.t 6) (.t 8))⟩]) (.cond (.t 9) .skip (.exit 0))) (.seq (.block 1 (.seq (.reg [⟨(some 12), none, (.mv (.t 0))⟩, ⟨(some 13), none, (.mv (.t 5))⟩, ⟨(some 14), none, (.mv (.t 1))⟩, ⟨(some 15), none, (.call 35 [(.t 14)])⟩, ⟨(some 16), none, (.iaddr 2 (.t 12) (.t 13))⟩, ⟨(some 17), none, (.faddr 0 (.t 16))⟩, ⟨none, none, (.store 1 (.t 17) (.t 15))⟩]) (.seq (.reg [⟨(some 18), none, (.mv (.t 1))⟩, ⟨(some 19), none, (.bin .add false (.t 18) (.c (.int .i64 1)))⟩, ⟨(some 1), none, (.mv (.t 19))⟩]) (.reg [⟨(some 20), none, (.mv (.t 0))⟩, ⟨(some 21), none, (.mv (.t 5))⟩, ⟨(some 22), none, (.iaddr 2 (.t 20) (.t 21))⟩, ⟨(some 23), none, (.faddr 1 (.t 22))⟩, ⟨(some 24), none, (.load false 1 (.t 23))⟩, ⟨(some 25), none, (.mv (.t 1))⟩, ⟨(some 26), none, (.call 19 [(.t 24), (.t 25)])⟩, ⟨(some 1), none, (.mv (.t 26))⟩])))) (.reg [⟨(some 10), none, (.mv (.t 5))⟩, ⟨(some 11), none, (.bin .add false (.t 10) (.c (.int .i64 1)))⟩, ⟨(some 5), none, (.mv (.t 11))⟩])))))) (.seq (.reg [⟨(some 27), none, (.mv (.t 1))⟩, ⟨(some 4), none, (.mv (.t 27))⟩]) .ret)))
theorem k_laws_markTermS : codeOf Tryz.prog 19 = some ⟨28, c_laws_markTermS, [(.tmp 4)]⟩ := by kernel_rfl
theorem m_laws_markTermS : modes 19 = ⟨[true], .asis, none, true⟩ := by unfold modes; rfl
abbrev MarkTS_Term (xs : List Tm) : Prop := ∀ (k : Int) (ob : List Ob), 1 ≤ k → k + Tm.wtS xs ≤ 1099511627776 → toTree ob = [.tree (xs.map Tm.o) []] → E 19 [.ref 0, .int .i64 k] ob = some (.int .i64 (Tm.mkS xs k).2, [.tree ((Tm.mkS xs k).1.map Tm.o) []])
set_option maxHeartbeats 2000000 in
theorem markTS_Term_of (xs : List Tm) (ih : ∀ x ∈ xs, MarkTS_Term x.args) : MarkTS_Term xs := by
  intro k0 ob h1 h2 hob
  have hlen : ob.length = 1 := by rw [← toTree_len, hob]; rfl
  have hL := Tm.length_wt xs
  refine E_walk k_laws_markTermS m_laws_markTermS (of_decide_eq_true rfl) ?_
  simp (disch := omega) only [c_laws_markTermS, go_sem, Nat.reduceAdd, Nat.reduceSub, Nat.reduceLT, Nat.reduceLeDiff, Nat.reduceEqDiff, Nat.reduceBEq, Nat.reduceBneDiff, Nat.reduceMul, ↓reduceIte, Int.reduceToNat, reduceCtorEq, Int.reduceNeg, Int.reduceAdd, hob, hlen]
  refine go_loop (α := Int × (Int) × (List Tm)) (fun a => ⟨slots 28 0 [(0, .ref 0), (1, .int .i64 (a.2.1)), (5, .int .i64 (a.1))], [.tree (((a.2.2) ++ xs.drop (a.1).toNat).map Tm.o) []]⟩) (fun a => ∃ k : Nat, a.1 = k ∧ k ≤ (xs).length ∧ (a.2.2).length = k ∧ 1 ≤ (a.2.1) ∧ (a.2.1) + Tm.wtS (xs.drop k) = k0 + Tm.wtS xs ∧ Tm.mkS xs k0 = ((a.2.2) ++ (Tm.mkS (xs.drop k) (a.2.1)).1, (Tm.mkS (xs.drop k) (a.2.1)).2)) (fun a => (xs).length - (a.1).toNat) (0, k0, []) ⟨0, rfl, Nat.zero_le _, rfl, h1, by rw [List.drop_zero], by simp⟩ (by simp (disch := omega) only [go_sem, Nat.reduceAdd, Nat.reduceSub, Nat.reduceLT, Nat.reduceLeDiff, Nat.reduceEqDiff, Nat.reduceBEq, Nat.reduceBneDiff, Nat.reduceMul, ↓reduceIte, Int.reduceToNat, reduceCtorEq, Int.reduceNeg, Int.reduceAdd, Int.toNat_zero]) ?_
  rintro ⟨i, kk, dn⟩ ⟨k, hi, hk, hR⟩
  dsimp only at hi hR
  have hni : i.toNat = k := by omega
  have hni1 : (i + 1).toNat = k + 1 := by omega
  rcases Nat.lt_or_ge k (xs).length with hlt | hge
  · obtain ⟨hd, hk1, hkn, hm⟩ := hR
    have hdr : xs.drop k = xs[k] :: xs.drop (k + 1) := List.drop_eq_getElem_cons hlt
    have hel : (dn ++ xs.drop k).length = xs.length := by simp; omega
    have hg : (List.map Tm.o (dn ++ xs.drop k))[k]? = some [.str xs[k].name, .ow (xs[k].args.map Tm.o)] := by
      rw [← Tm.o_eq, hdr, List.getElem?_map, List.getElem?_append_right (by omega), hd, Nat.sub_self]; rfl
    rw [hdr, Tm.wtS] at hkn
    rw [hdr, Tm.mkS] at hm
    have hn1 := Tm.wt_eq xs[k]
    have e1 := Tm.mkS_end xs[k].args ((kk + 1))
    have t0 := markText_E (k := kk) (by omega) (by omega)
    have c58 := ih xs[k] (List.getElem_mem hlt) ((kk + 1)) [.tree (xs[k].args.map Tm.o) []] (by omega) (by omega) rfl
    have hs := map_set_mid Tm.o dn (xs.drop (k + 1)) xs[k] (xs[k].mk1 kk).1 hd
    rw [Tm.mk1_o, ← hdr] at hs
    have hgs : ∀ a, ((List.map Tm.o (dn ++ xs.drop k)).set k a)[k]? = some a := fun a => List.getElem?_set_self (by rw [List.length_map, hel]; exact hlt)
    have he := Tm.mk1_end xs[k] kk
    have three : ∀ z : Int, dec ((3 : Int) = 0) = false := fun _ => dec_f (by omega)
    simp (disch := omega) only [go_sem, Nat.reduceAdd, Nat.reduceSub, Nat.reduceLT, Nat.reduceLeDiff, Nat.reduceEqDiff, Nat.reduceBEq, Nat.reduceBneDiff, Nat.reduceMul, ↓reduceIte, Int.reduceToNat, reduceCtorEq, Int.reduceNeg, Int.reduceAdd, hni, hel, hg, t0, c58, m_laws_markTermS, m_laws_markText, hgs, List.length_set, List.set_set, hs, three 0]
    refine ⟨(i + 1, (xs[k].mk1 kk).2, dn ++ [(xs[k].mk1 kk).1]), ⟨k + 1, by dsimp only; omega, hlt, by dsimp only; simp [hd], by dsimp only; omega, by dsimp only; omega, by rw [hm]; simp⟩, by dsimp only; omega, ?_⟩
    dsimp only
    rw [hni1, Tm.mk1_eq]
    refine ⟨⟨?_, rfl⟩, rfl⟩
    first | rfl | omega
  · obtain ⟨hd, hk1, hkn, hm⟩ := hR
    have hdr : xs.drop k = [] := List.drop_eq_nil_of_le hge
    rw [hdr, Tm.mkS] at hm
    rw [hm]
    simp (disch := omega) only [go_sem, Nat.reduceAdd, Nat.reduceSub, Nat.reduceLT, Nat.reduceLeDiff, Nat.reduceEqDiff, Nat.reduceBEq, Nat.reduceBneDiff, Nat.reduceMul, ↓reduceIte, Int.reduceToNat, reduceCtorEq, Int.reduceNeg, Int.reduceAdd, hni, hdr, List.append_nil]
theorem markTS1_Term (x : Tm) : MarkTS_Term x.args := markTS_Term_of x.args fun y hy => markTS1_Term y
termination_by SizeOf.sizeOf x
decreasing_by exact Tm.lt_of_mem hy
theorem markTS_Term (xs : List Tm) : MarkTS_Term xs := markTS_Term_of xs fun y _ => markTS1_Term y
def Bd.wt (x : Bd) : Nat := 2 + Tm.wtS x.term.args
theorem Bd.wt_eq (x : Bd) : x.wt = 2 + Tm.wtS x.term.args := rfl
noncomputable def Bd.mk1 (x : Bd) (k : Int) : Bd × Int := ((Bd.mk (markT k) (Tm.mk (markT (k + 1)) ((Tm.mkS x.term.args (k + 1 + 1)).1))), (Tm.mkS x.term.args (k + 1 + 1)).2)
theorem Bd.mk1_eq (x : Bd) (k : Int) : x.mk1 k = ((Bd.mk (markT k) (Tm.mk (markT (k + 1)) ((Tm.mkS x.term.args (k + 1 + 1)).1))), (Tm.mkS x.term.args (k + 1 + 1)).2) := rfl
def Bd.wtS : List Bd → Nat
  | [] => 0
  | x :: xs => Bd.wt x + Bd.wtS xs
noncomputable def Bd.mkS : List Bd → Int → List Bd × Int
  | [], k => ([], k)
  | x :: xs, k => ((Bd.mk1 x k).1 :: (Bd.mkS xs (Bd.mk1 x k).2).1, (Bd.mkS xs (Bd.mk1 x k).2).2)
theorem Bd.mk1_d (x : Bd) (k : Int) : Bd.d (x.mk1 k).1 = [.str (markT k), .str (markT (k + 1)), .arr ((Tm.mkS x.term.args (k + 1 + 1)).1.map Tm.d)] := by
  rw [Bd.mk1_eq, Bd.d_eq]
  try rfl
theorem Bd.mk1_o (x : Bd) (k : Int) : Bd.o (x.mk1 k).1 = [.str (markT k), .str (markT (k + 1)), .ow ((Tm.mkS x.term.args (k + 1 + 1)).1.map Tm.o)] := by
  rw [Bd.mk1_eq, Bd.o_eq]
  try rfl
theorem Bd.mk1_end (x : Bd) (k : Int) : (x.mk1 k).2 = k + x.wt := by
  rw [Bd.mk1_eq, Bd.wt_eq]
  first
    | omega
    | (simp only [Tm.mkS_end]; done)
    | (simp only [Tm.mkS_end]; omega)
    | simp
theorem Bd.mkS_end : ∀ (xs : List Bd) (k : Int), (Bd.mkS xs k).2 = k + Bd.wtS xs
  | [], k => by simp [Bd.mkS, Bd.wtS]
  | x :: xs, k => by
    rw [Bd.mkS, Bd.wtS]
    have h1 := Bd.mk1_end x k
    have h2 := Bd.mkS_end xs (x.mk1 k).2
    dsimp only
    omega
theorem Bd.wt_bulk (x : Bd) : x.wt ≤ 5 * (1 + x.bulk) := by
  rw [Bd.wt_eq, Bd.bulk_eq]
  have h0 := Tm.wtS_bulk x.term.args
  have q1 := Tm.bulk_eq x.term
  omega
theorem Bd.wtS_bulk : ∀ xs : List Bd, Bd.wtS xs ≤ 5 * (xs.length + Bd.sumB xs)
  | [] => by simp [Bd.wtS]
  | x :: xs => by
    have h1 := Bd.wt_bulk x
    have h2 := Bd.wtS_bulk xs
    rw [Bd.wtS, Bd.sumB]; simp only [List.length_cons]; omega
theorem Bd.length_wt : ∀ xs : List Bd, xs.length ≤ Bd.wtS xs
  | [] => Nat.le_refl _
  | x :: xs => by
    have := Bd.length_wt xs
    have := Bd.wt_eq x
    rw [Bd.wtS]; simp only [List.length_cons]; omega
def c_laws_markBindingS : SC := (.seq (.reg [⟨(some 4), none, (.mv (.c (.int .i64 0)))⟩]) (.seq (.seq (.reg [⟨(some 5), none, (.mv (.c (.int .i64 0)))⟩]) (.block 0 (.loop [1, 1, 0, 0, 0, 1, 0, 0, 0, 0, 0, 0, 0, 0, 0, 0, 0, 0, 0, 0, 0, 0, 0, 0, 0, 0, 0, 0, 0, 0, 0, 0, 0, 0, 0, 0, 0, 0] (.seq (.seq (.reg [⟨(some 6), none, (.mv (.t 5))⟩, ⟨(some 7), none, (.mv (.t 0))⟩, ⟨(some 8), none, (.len false (.t 7))⟩, ⟨(some 9), none, (.bin .lss false (.t 6) (.t 8))⟩]) (.cond (.t 9) .skip (.exit 0))) (.seq (.block 1 (.seq (.reg [⟨(some 12), none, (.mv (.t 0))⟩, ⟨(some 13), none, (.mv (.t 5))⟩, ⟨(some 14), none, (.mv (.t 1))⟩, ⟨(some 15), none, (.call 35 [(.t 14)])⟩, ⟨(some 16), none, (.iaddr 3 (.t 12) (.t 13))⟩, ⟨(some 17), none, (.faddr 0 (.t 16))⟩, ⟨none, none, (.store 1 (.t 17) (.t 15))⟩]) (.seq (.reg [⟨(some 18), none, (.mv (.t 1))⟩, ⟨(some 19), none, (.bin .add false (.t 18) (.c (.int .i64 1)))⟩, ⟨(some 1), none, (.mv (.t 19))⟩]) (.seq (.reg [⟨(some 20), none, (.mv (.t 0))⟩, ⟨(some 21), none, (.mv (.t 5))⟩, ⟨(some 22), none, (.mv (.t 1))⟩, ⟨(some 23), none, (.call 35 [(.t 22)])⟩, ⟨(some 24), none, (.iaddr 3 (.t 20) (.t 21))⟩, ⟨(some 25), none, (.faddr 1 (.t 24))⟩, ⟨(some 26), none, (.faddr 0 (.t 25))⟩, ⟨none, none, (.store 1 (.t 26) (.t 23))⟩]) (.seq (.reg [⟨(some 27), none, (.mv (.t 1))⟩, ⟨(some 28), none, (.bin .add false (.t 27) (.c (.int .i64 1)))⟩, ⟨(some 1), none, (.mv (.t 28))⟩]) (.reg [⟨(some 29), none, (.mv (.t 0))⟩, ⟨(some 30), none, (.mv (.t 5))⟩, ⟨(some 31), none, (.iaddr 3 (.t 29) (.t 30))⟩, ⟨(some 32), none, (.faddr 1 (.t 31))⟩, ⟨(some 33), none, (.faddr 1 (.t 32))⟩, ⟨(some 34), none, (.load false 1 (.t 33))⟩, ⟨(some 35), none, (.mv (.t 1))⟩, ⟨(some 36), none, (.call 19 [(.t 34), (.t 35)])⟩, ⟨(some 1), none, (.mv (.t 36))⟩])))))) (.reg [⟨(some 10), none, (.mv (.t 5))⟩, ⟨(some 11), none, (.bin .add false (.t 10) (.c (.int .i64 1)))⟩, ⟨(some 5), none, (.mv (.t 11))⟩])))))) (.seq (.reg [⟨(some 37), none, (.mv (.t 1))⟩, ⟨(some 4), none, (.mv (.t 37))⟩]) .ret)))
theorem k_laws_markBindingS : codeOf Tryz.prog 25 = some ⟨38, c_laws_markBindingS, [(.tmp 4)]⟩ := by kernel_rfl
theorem m_laws_markBindingS : modes 25 = ⟨[true], .asis, none, true⟩ := by unfold modes; rfl
abbrev MarkTS_Binding (xs : List Bd) : Prop := ∀ (k : Int) (ob : List Ob), 1 ≤ k → k + Bd.wtS xs ≤ 1099511627776 → toTree ob = [.tree (xs.map Bd.o) []] → E 25 [.ref 0, .int .i64 k] ob = some (.int .i64 (Bd.mkS xs k).2, [.tree ((Bd.mkS xs k).1.map Bd.o) []])
set_option maxHeartbeats 2000000 in
theorem markTS_Binding_of (xs : List Bd) : MarkTS_Binding xs := by
  intro k0 ob h1 h2 hob
  have hlen : ob.length = 1 := by rw [← toTree_len, hob]; rfl
  have hL := Bd.length_wt xs
  refine E_walk k_laws_markBindingS m_laws_markBindingS (of_decide_eq_true rfl) ?_
  simp (disch := omega) only [c_laws_markBindingS, go_sem, Nat.reduceAdd, Nat.reduceSub, Nat.reduceLT, Nat.reduceLeDiff, Nat.reduceEqDiff, Nat.reduceBEq, Nat.reduceBneDiff, Nat.reduceMul, ↓reduceIte, Int.reduceToNat, reduceCtorEq, Int.reduceNeg, Int.reduceAdd, hob, hlen]
  refine go_loop (α := Int × (Int) × (List Bd)) (fun a => ⟨slots 38 0 [(0, .ref 0), (1, .int .i64 (a.2.1)), (5, .int .i64 (a.1))], [.tree (((a.2.2) ++ xs.drop (a.1).toNat).map Bd.o) []]⟩) (fun a => ∃ k : Nat, a.1 = k ∧ k ≤ (xs).length ∧ (a.2.2).length = k ∧ 1 ≤ (a.2.1) ∧ (a.2.1) + Bd.wtS (xs.drop k) = k0 + Bd.wtS xs ∧ Bd.mkS xs k0 = ((a.2.2) ++ (Bd.mkS (xs.drop k) (a.2.1)).1, (Bd.mkS (xs.drop k) (a.2.1)).2)) (fun a => (xs).length - (a.1).toNat) (0, k0, []) ⟨0, rfl, Nat.zero_le _, rfl, h1, by rw [List.drop_zero], by simp⟩ (by simp (disch := omega) only [go_sem, Nat.reduceAdd, Nat.reduceSub, Nat.reduceLT, Nat.reduceLeDiff, Nat.reduceEqDiff, Nat.reduceBEq, Nat.reduceBneDiff, Nat.reduceMul, ↓reduceIte, Int.reduceToNat, reduceCtorEq, Int.reduceNeg, Int.reduceAdd, Int.toNat_zero]) ?_
  rintro ⟨i, kk, dn⟩ ⟨k, hi, hk, hR⟩
  dsimp only at hi hR
  have hni : i.toNat = k := by omega
  have hni1 : (i + 1).toNat = k + 1 := by omega
  rcases Nat.lt_or_ge k (xs).length with hlt | hge
  · obtain ⟨hd, hk1, hkn, hm⟩ := hR
    have hdr : xs.drop k = xs[k] :: xs.drop (k + 1) := List.drop_eq_getElem_cons hlt
    have hel : (dn ++ xs.drop k).length = xs.length := by simp; omega
    have hg : (List.map Bd.o (dn ++ xs.drop k))[k]? = some [.str xs[k].var, .str xs[k].term.name, .ow (xs[k].term.args.map Tm.o)] := by
      rw [← Bd.o_eq, hdr, List.getElem?_map, List.getElem?_append_right (by omega), hd, Nat.sub_self]; rfl
    rw [hdr, Bd.wtS] at hkn
    rw [hdr, Bd.mkS] at hm
    have hn1 := Bd.wt_eq xs[k]
    have e2 := Tm.mkS_end xs[k].term.args ((kk + 1 + 1))
    have t0 := markText_E (k := kk) (by omega) (by omega)
    have t58 := markText_E (k := (kk + 1)) (by omega) (by omega)
    have c123 := markTS_Term xs[k].term.args ((kk + 1 + 1)) [.tree (xs[k].term.args.map Tm.o) []] (by omega) (by omega) rfl
    have hs := map_set_mid Bd.o dn (xs.drop (k + 1)) xs[k] (xs[k].mk1 kk).1 hd
    rw [Bd.mk1_o, ← hdr] at hs
    have hgs : ∀ a, ((List.map Bd.o (dn ++ xs.drop k)).set k a)[k]? = some a := fun a => List.getElem?_set_self (by rw [List.length_map, hel]; exact hlt)
    have he := Bd.mk1_end xs[k] kk
    have three : ∀ z : Int, dec ((3 : Int) = 0) = false := fun _ => dec_f (by omega)
    simp (disch := omega) only [go_sem, Nat.reduceAdd, Nat.reduceSub, Nat.reduceLT, Nat.reduceLeDiff, Nat.reduceEqDiff, Nat.reduceBEq, Nat.reduceBneDiff, Nat.reduceMul, ↓reduceIte, Int.reduceToNat, reduceCtorEq, Int.reduceNeg, Int.reduceAdd, hni, hel, hg, t0, t58, c123, m_laws_markTermS, m_laws_markText, hgs, List.length_set, List.set_set, hs, three 0]
    refine ⟨(i + 1, (xs[k].mk1 kk).2, dn ++ [(xs[k].mk1 kk).1]), ⟨k + 1, by dsimp only; omega, hlt, by dsimp only; simp [hd], by dsimp only; omega, by dsimp only; omega, by rw [hm]; simp⟩, by dsimp only; omega, ?_⟩
    dsimp only
    rw [hni1, Bd.mk1_eq]
    refine ⟨⟨?_, rfl⟩, rfl⟩
    first | rfl | omega
  · obtain ⟨hd, hk1, hkn, hm⟩ := hR
    have hdr : xs.drop k = [] := List.drop_eq_nil_of_le hge
    rw [hdr, Bd.mkS] at hm
    rw [hm]
    simp (disch := omega) only [go_sem, Nat.reduceAdd, Nat.reduceSub, Nat.reduceLT, Nat.reduceLeDiff, Nat.reduceEqDiff, Nat.reduceBEq, Nat.reduceBneDiff, Nat.reduceMul, ↓reduceIte, Int.reduceToNat, reduceCtorEq, Int.reduceNeg, Int.reduceAdd, hni, hdr, List.append_nil]
theorem markTS_Binding (xs : List Bd) : MarkTS_Binding xs := markTS_Binding_of xs
end Go.Proofs.YtjafnijgkjjadaaGreat

set_option maxRecDepth 100000
set_option linter.unusedSimpArgs false
set_option linter.unusedVariables false
namespace Go.Proofs.YtjafnijgkjjadaaGreat
open Go.RowKit

def c_laws_heldTermS : SC := (.seq (.reg [⟨(some 4), none, (.mv (.c (.int .i64 0)))⟩]) (.seq (.seq (.reg [⟨(some 5), none, (.mv (.c (.int .i64 0)))⟩]) (.block 0 (.loop [1, 1, 0, 0, 0, 1, 0, 0, 0, 0, 0, 0, 0, 0, 0, 0, 0, 0, 0, 0, 0, 0, 0, 0, 0, 0, 0, 0, 0, 0, 0, 0] (.seq (.seq (.reg [⟨(some 6), none, (.mv (.t 5))⟩, ⟨(some 7), none, (.mv (.t 0))⟩, ⟨(some 8), none, (.len false (.t 7))⟩, ⟨(some 9), none, (.bin .lss false (.t 6) (.t 8))⟩]) (.cond (.t 9) .skip (.exit 0))) (.seq (.block 1 (.seq (.seq (.dreg [[], [], [0, 1], [2, 0, 1], [3, 2, 0, 1], [], [5], [4, 3, 2, 0, 1, 6, 5]] [⟨(some 12), none, (.mv (.t 0))⟩, ⟨(some 13), none, (.mv (.t 5))⟩, ⟨(some 14), none, (.iaddr 2 (.t 12) (.t 13))⟩, ⟨(some 15), none, (.faddr 0 (.t 14))⟩, ⟨(some 16), none, (.load false 1 (.t 15))⟩, ⟨(some 17), none, (.mv (.t 1))⟩, ⟨(some 18), none, (.call 35 [(.t 17)])⟩, ⟨(some 19), none, (.bin .neq false (.t 16) (.t 18))⟩]) (.cond (.t 19) (.seq (.reg [⟨(some 4), none, (.mv (.c (.int .i64 (-(0 + 1)))))⟩]) .ret) .skip)) (.seq (.reg [⟨(some 20), none, (.mv (.t 1))⟩, ⟨(some 21), none, (.bin .add false (.t 20) (.c (.int .i64 1)))⟩, ⟨(some 1), none, (.mv (.t 21))⟩]) (.seq (.reg [⟨(some 22), none, (.mv (.t 0))⟩, ⟨(some 23), none, (.mv (.t 5))⟩, ⟨(some 24), none, (.iaddr 2 (.t 22) (.t 23))⟩, ⟨(some 25), none, (.faddr 1 (.t 24))⟩, ⟨(some 26), none, (.load false 1 (.t 25))⟩, ⟨(some 27), none, (.mv (.t 1))⟩, ⟨(some 28), none, (.call 48 [(.t 26), (.t 27)])⟩, ⟨(some 1), none, (.mv (.t 28))⟩]) (.seq (.reg [⟨(some 29), none, (.mv (.t 1))⟩, ⟨(some 30), none, (.bin .lss false (.t 29) (.c (.int .i64 0)))⟩]) (.cond (.t 30) (.seq (.reg [⟨(some 4), none, (.mv (.c (.int .i64 (-(0 + 1)))))⟩]) .ret) .skip)))))) (.reg [⟨(some 10), none, (.mv (.t 5))⟩, ⟨(some 11), none, (.bin .add false (.t 10) (.c (.int .i64 1)))⟩, ⟨(some 5), none, (.mv (.t 11))⟩])))))) (.seq (.reg [⟨(some 31), none, (.mv (.t 1))⟩, ⟨(some 4), none, (.mv (.t 31))⟩]) .ret)))
theorem k_laws_heldTermS : codeOf Tryz.prog 48 = some ⟨32, c_laws_heldTermS, [(.tmp 4)]⟩ := by kernel_rfl
theorem m_laws_heldTermS : modes 48 = ⟨[], .asis, none, false⟩ := by unfold modes; rfl
theorem Tm.mkS_len : ∀ (xs : List Tm) (k : Int), (Tm.mkS xs k).1.length = xs.length
  | [], k => by rw [Tm.mkS]
  | x :: xs, k => by rw [Tm.mkS]; simp only [List.length_cons]; rw [Tm.mkS_len xs]
abbrev HeldTS_Term (xs : List Tm) : Prop := ∀ k : Int, 1 ≤ k → k + Tm.wtS xs ≤ 1099511627776 → E 48 [.arr ((Tm.mkS xs k).1.map Tm.d), .int .i64 k] [] = some (.int .i64 (Tm.mkS xs k).2, [])
set_option maxHeartbeats 2000000 in
theorem heldTS_Term_of (xs : List Tm) (ih : ∀ x ∈ xs, HeldTS_Term x.args) : HeldTS_Term xs := by
  intro k0 h1 h2
  obtain ⟨ys, hys⟩ : ∃ ys, ys = (Tm.mkS xs k0).1 := ⟨_, rfl⟩
  have hyl : ys.length = xs.length := by rw [hys, Tm.mkS_len]
  rw [← hys]
  have hL := Tm.length_wt xs
  refine E_walk k_laws_heldTermS m_laws_heldTermS (of_decide_eq_true rfl) ?_
  simp (disch := omega) only [c_laws_heldTermS, go_sem, Nat.reduceAdd, Nat.reduceSub, Nat.reduceLT, Nat.reduceLeDiff, Nat.reduceEqDiff, Nat.reduceBEq, Nat.reduceBneDiff, Nat.reduceMul, ↓reduceIte, Int.reduceToNat, reduceCtorEq, Int.reduceNeg, Int.reduceAdd]
  refine go_loop (α := Int × (Int)) (fun a => ⟨slots 32 0 [(0, .arr (ys.map Tm.d)), (1, .int .i64 (a.2)), (5, .int .i64 (a.1))], []⟩) (fun a => ∃ k : Nat, a.1 = k ∧ k ≤ (ys).length ∧ 1 ≤ (a.2) ∧ (a.2) + Tm.wtS (xs.drop k) = k0 + Tm.wtS xs ∧ ys.drop k = (Tm.mkS (xs.drop k) (a.2)).1 ∧ (Tm.mkS xs k0).2 = (Tm.mkS (xs.drop k) (a.2)).2) (fun a => (ys).length - (a.1).toNat) (0, k0) ⟨0, rfl, Nat.zero_le _, h1, by rw [List.drop_zero], by rw [List.drop_zero, List.drop_zero, hys], by rw [List.drop_zero]⟩ (by simp (disch := omega) only [go_sem, Nat.reduceAdd, Nat.reduceSub, Nat.reduceLT, Nat.reduceLeDiff, Nat.reduceEqDiff, Nat.reduceBEq, Nat.reduceBneDiff, Nat.reduceMul, ↓reduceIte, Int.reduceToNat, reduceCtorEq, Int.reduceNeg, Int.reduceAdd]) ?_
  rintro ⟨i, kk⟩ ⟨k, hi, hk, hR⟩
  dsimp only at hi hR
  have hni : i.toNat = k := by omega
  have hni1 : (i + 1).toNat = k + 1 := by omega
  rcases Nat.lt_or_ge k (ys).length with hlt | hge
  · obtain ⟨hk1, hkn, hy, hm⟩ := hR
    have hlx : k < xs.length := by omega
    have hdr : xs.drop k = xs[k] :: xs.drop (k + 1) := List.drop_eq_getElem_cons hlx
    have hdy := List.drop_eq_getElem_cons hlt
    rw [hdr, Tm.wtS] at hkn
    rw [hdr, Tm.mkS] at hm
    rw [hdr, Tm.mkS, hdy] at hy
    dsimp only at hy hm
    obtain ⟨hy1, hy2⟩ := List.cons.inj hy
    have hg := get_at Tm.d hlt
    rw [hy1, Tm.mk1_d] at hg
    have hn1 := Tm.wt_eq xs[k]
    have e1 := Tm.mkS_end xs[k].args ((kk + 1))
    have t0 := markText_E (k := kk) (by omega) (by omega)
    have c58 := ih xs[k] (List.getElem_mem hlx) ((kk + 1)) (by omega) (by omega)
    have he := Tm.mk1_end xs[k] kk
    simp (disch := omega) only [go_sem, Nat.reduceAdd, Nat.reduceSub, Nat.reduceLT, Nat.reduceLeDiff, Nat.reduceEqDiff, Nat.reduceBEq, Nat.reduceBneDiff, Nat.reduceMul, ↓reduceIte, Int.reduceToNat, reduceCtorEq, Int.reduceNeg, Int.reduceAdd, hni, hg, m_laws_markText, dec_refl, t0, c58, m_laws_heldTermS]
    refine ⟨(i + 1, (xs[k].mk1 kk).2), ⟨k + 1, by dsimp only; omega, hlt, by dsimp only; omega, by dsimp only; omega, hy2, hm⟩, by dsimp only; omega, ?_⟩
    dsimp only
    rw [Tm.mk1_eq]
    simp only [and_self, and_true, true_and]
    try omega
  · obtain ⟨hk1, hkn, hy, hm⟩ := hR
    have hdr : xs.drop k = [] := List.drop_eq_nil_of_le (by omega)
    rw [hdr, Tm.mkS] at hm
    rw [hm]
    simp (disch := omega) only [go_sem, Nat.reduceAdd, Nat.reduceSub, Nat.reduceLT, Nat.reduceLeDiff, Nat.reduceEqDiff, Nat.reduceBEq, Nat.reduceBneDiff, Nat.reduceMul, ↓reduceIte, Int.reduceToNat, reduceCtorEq, Int.reduceNeg, Int.reduceAdd, hni]
theorem heldTS1_Term (x : Tm) : HeldTS_Term x.args := heldTS_Term_of x.args fun y hy => heldTS1_Term y
termination_by SizeOf.sizeOf x
decreasing_by exact Tm.lt_of_mem hy
theorem heldTS_Term (xs : List Tm) : HeldTS_Term xs := heldTS_Term_of xs fun y _ => heldTS1_Term y
def c_laws_heldBindingS : SC := (.seq (.reg [⟨(some 4), none, (.mv (.c (.int .i64 0)))⟩]) (.seq (.seq (.reg [⟨(some 5), none, (.mv (.c (.int .i64 0)))⟩]) (.block 0 (.loop [1, 1, 0, 0, 0, 1, 0, 0, 0, 0, 0, 0, 0, 0, 0, 0, 0, 0, 0, 0, 0, 0, 0, 0, 0, 0, 0, 0, 0, 0, 0, 0, 0, 0, 0, 0, 0, 0, 0, 0, 0, 0, 0, 0] (.seq (.seq (.reg [⟨(some 6), none, (.mv (.t 5))⟩, ⟨(some 7), none, (.mv (.t 0))⟩, ⟨(some 8), none, (.len false (.t 7))⟩, ⟨(some 9), none, (.bin .lss false (.t 6) (.t 8))⟩]) (.cond (.t 9) .skip (.exit 0))) (.seq (.block 1 (.seq (.seq (.dreg [[], [], [0, 1], [2, 0, 1], [3, 2, 0, 1], [], [5], [4, 3, 2, 0, 1, 6, 5]] [⟨(some 12), none, (.mv (.t 0))⟩, ⟨(some 13), none, (.mv (.t 5))⟩, ⟨(some 14), none, (.iaddr 3 (.t 12) (.t 13))⟩, ⟨(some 15), none, (.faddr 0 (.t 14))⟩, ⟨(some 16), none, (.load false 1 (.t 15))⟩, ⟨(some 17), none, (.mv (.t 1))⟩, ⟨(some 18), none, (.call 35 [(.t 17)])⟩, ⟨(some 19), none, (.bin .neq false (.t 16) (.t 18))⟩]) (.cond (.t 19) (.seq (.reg [⟨(some 4), none, (.mv (.c (.int .i64 (-(0 + 1)))))⟩]) .ret) .skip)) (.seq (.reg [⟨(some 20), none, (.mv (.t 1))⟩, ⟨(some 21), none, (.bin .add false (.t 20) (.c (.int .i64 1)))⟩, ⟨(some 1), none, (.mv (.t 21))⟩]) (.seq (.seq (.dreg [[], [], [0, 1], [2, 0, 1], [3, 2, 0, 1], [4, 3, 2, 0, 1], [], [6], [5, 4, 3, 2, 0, 1, 7, 6]] [⟨(some 22), none, (.mv (.t 0))⟩, ⟨(some 23), none, (.mv (.t 5))⟩, ⟨(some 24), none, (.iaddr 3 (.t 22) (.t 23))⟩, ⟨(some 25), none, (.faddr 1 (.t 24))⟩, ⟨(some 26), none, (.faddr 0 (.t 25))⟩, ⟨(some 27), none, (.load false 1 (.t 26))⟩, ⟨(some 28), none, (.mv (.t 1))⟩, ⟨(some 29), none, (.call 35 [(.t 28)])⟩, ⟨(some 30), none, (.bin .neq false (.t 27) (.t 29))⟩]) (.cond (.t 30) (.seq (.reg [⟨(some 4), none, (.mv (.c (.int .i64 (-(0 + 1)))))⟩]) .ret) .skip)) (.seq (.reg [⟨(some 31), none, (.mv (.t 1))⟩, ⟨(some 32), none, (.bin .add false (.t 31) (.c (.int .i64 1)))⟩, ⟨(some 1), none, (.mv (.t 32))⟩]) (.seq (.reg [⟨(some 33), none, (.mv (.t 0))⟩, ⟨(some 34), none, (.mv (.t 5))⟩, ⟨(some 35), none, (.iaddr 3 (.t 33) (.t 34))⟩, ⟨(some 36), none, (.faddr 1 (.t 35))⟩, ⟨(some 37), none, (.faddr 1 (.t 36))⟩, ⟨(some 38), none, (.load false 1 (.t 37))⟩, ⟨(some 39), none, (.mv (.t 1))⟩, ⟨(some 40), none, (.call 48 [(.t 38), (.t 39)])⟩, ⟨(some 1), none, (.mv (.t 40))⟩]) (.seq (.reg [⟨(some 41), none, (.mv (.t 1))⟩, ⟨(some 42), none, (.bin .lss false (.t 41) (.c (.int .i64 0)))⟩]) (.cond (.t 42) (.seq (.reg [⟨(some 4), none, (.mv (.c (.int .i64 (-(0 + 1)))))⟩]) .ret) .skip)))))))) (.reg [⟨(some 10), none, (.mv (.t 5))⟩, ⟨(some 11), none, (.bin .add false (.t 10) (.c (.int .i64 1)))⟩, ⟨(some 5), none, (.mv (.t 11))⟩])))))) (.seq (.reg [⟨(some 43), none, (.mv (.t 1))⟩, ⟨(some 4), none, (.mv (.t 43))⟩]) .ret)))
theorem k_laws_heldBindingS : codeOf Tryz.prog 26 = some ⟨44, c_laws_heldBindingS, [(.tmp 4)]⟩ := by kernel_rfl
theorem m_laws_heldBindingS : modes 26 = ⟨[], .asis, none, false⟩ := by unfold modes; rfl
theorem Bd.mkS_len : ∀ (xs : List Bd) (k : Int), (Bd.mkS xs k).1.length = xs.length
  | [], k => by rw [Bd.mkS]
  | x :: xs, k => by rw [Bd.mkS]; simp only [List.length_cons]; rw [Bd.mkS_len xs]
abbrev HeldTS_Binding (xs : List Bd) : Prop := ∀ k : Int, 1 ≤ k → k + Bd.wtS xs ≤ 1099511627776 → E 26 [.arr ((Bd.mkS xs k).1.map Bd.d), .int .i64 k] [] = some (.int .i64 (Bd.mkS xs k).2, [])
set_option maxHeartbeats 2000000 in
theorem heldTS_Binding_of (xs : List Bd) : HeldTS_Binding xs := by
  intro k0 h1 h2
  obtain ⟨ys, hys⟩ : ∃ ys, ys = (Bd.mkS xs k0).1 := ⟨_, rfl⟩
  have hyl : ys.length = xs.length := by rw [hys, Bd.mkS_len]
  rw [← hys]
  have hL := Bd.length_wt xs
  refine E_walk k_laws_heldBindingS m_laws_heldBindingS (of_decide_eq_true rfl) ?_
  simp (disch := omega) only [c_laws_heldBindingS, go_sem, Nat.reduceAdd, Nat.reduceSub, Nat.reduceLT, Nat.reduceLeDiff, Nat.reduceEqDiff, Nat.reduceBEq, Nat.reduceBneDiff, Nat.reduceMul, ↓reduceIte, Int.reduceToNat, reduceCtorEq, Int.reduceNeg, Int.reduceAdd]
  refine go_loop (α := Int × (Int)) (fun a => ⟨slots 44 0 [(0, .arr (ys.map Bd.d)), (1, .int .i64 (a.2)), (5, .int .i64 (a.1))], []⟩) (fun a => ∃ k : Nat, a.1 = k ∧ k ≤ (ys).length ∧ 1 ≤ (a.2) ∧ (a.2) + Bd.wtS (xs.drop k) = k0 + Bd.wtS xs ∧ ys.drop k = (Bd.mkS (xs.drop k) (a.2)).1 ∧ (Bd.mkS xs k0).2 = (Bd.mkS (xs.drop k) (a.2)).2) (fun a => (ys).length - (a.1).toNat) (0, k0) ⟨0, rfl, Nat.zero_le _, h1, by rw [List.drop_zero], by rw [List.drop_zero, List.drop_zero, hys], by rw [List.drop_zero]⟩ (by simp (disch := omega) only [go_sem, Nat.reduceAdd, Nat.reduceSub, Nat.reduceLT, Nat.reduceLeDiff, Nat.reduceEqDiff, Nat.reduceBEq, Nat.reduceBneDiff, Nat.reduceMul, ↓reduceIte, Int.reduceToNat, reduceCtorEq, Int.reduceNeg, Int.reduceAdd]) ?_
  rintro ⟨i, kk⟩ ⟨k, hi, hk, hR⟩
  dsimp only at hi hR
  have hni : i.toNat = k := by omega
  have hni1 : (i + 1).toNat = k + 1 := by omega
  rcases Nat.lt_or_ge k (ys).length with hlt | hge
  · obtain ⟨hk1, hkn, hy, hm⟩ := hR
    have hlx : k < xs.length := by omega
    have hdr : xs.drop k = xs[k] :: xs.drop (k + 1) := List.drop_eq_getElem_cons hlx
    have hdy := List.drop_eq_getElem_cons hlt
    rw [hdr, Bd.wtS] at hkn
    rw [hdr, Bd.mkS] at hm
    rw [hdr, Bd.mkS, hdy] at hy
    dsimp only at hy hm
    obtain ⟨hy1, hy2⟩ := List.cons.inj hy
    have hg := get_at Bd.d hlt
    rw [hy1, Bd.mk1_d] at hg
    have hn1 := Bd.wt_eq xs[k]
    have e2 := Tm.mkS_end xs[k].term.args ((kk + 1 + 1))
    have t0 := markText_E (k := kk) (by omega) (by omega)
    have t58 := markText_E (k := (kk + 1)) (by omega) (by omega)
    have c123 := heldTS_Term xs[k].term.args ((kk + 1 + 1)) (by omega) (by omega)
    have he := Bd.mk1_end xs[k] kk
    simp (disch := omega) only [go_sem, Nat.reduceAdd, Nat.reduceSub, Nat.reduceLT, Nat.reduceLeDiff, Nat.reduceEqDiff, Nat.reduceBEq, Nat.reduceBneDiff, Nat.reduceMul, ↓reduceIte, Int.reduceToNat, reduceCtorEq, Int.reduceNeg, Int.reduceAdd, hni, hg, m_laws_markText, dec_refl, t0, t58, c123, m_laws_heldTermS]
    refine ⟨(i + 1, (xs[k].mk1 kk).2), ⟨k + 1, by dsimp only; omega, hlt, by dsimp only; omega, by dsimp only; omega, hy2, hm⟩, by dsimp only; omega, ?_⟩
    dsimp only
    rw [Bd.mk1_eq]
    simp only [and_self, and_true, true_and]
    try omega
  · obtain ⟨hk1, hkn, hy, hm⟩ := hR
    have hdr : xs.drop k = [] := List.drop_eq_nil_of_le (by omega)
    rw [hdr, Bd.mkS] at hm
    rw [hm]
    simp (disch := omega) only [go_sem, Nat.reduceAdd, Nat.reduceSub, Nat.reduceLT, Nat.reduceLeDiff, Nat.reduceEqDiff, Nat.reduceBEq, Nat.reduceBneDiff, Nat.reduceMul, ↓reduceIte, Int.reduceToNat, reduceCtorEq, Int.reduceNeg, Int.reduceAdd, hni]
theorem heldTS_Binding (xs : List Bd) : HeldTS_Binding xs := heldTS_Binding_of xs
end Go.Proofs.YtjafnijgkjjadaaGreat

set_option maxRecDepth 100000
set_option linter.unusedSimpArgs false
set_option linter.unusedVariables false
namespace Go.Proofs.YtjafnijgkjjadaaGreat
open Go.RowKit

theorem toTree1 {o : Ob} {es : List (List OT)} (h : toTree [o] = [.tree es []]) : (∃ a b, o = .row a b es) ∨ o = .tree es [] := by
  cases o with
  | row a b e => obtain ⟨h1, h2⟩ := List.cons.inj h; cases h1; exact .inl ⟨a, b, rfl⟩
  | tree e hs => obtain ⟨h1, h2⟩ := List.cons.inj h; cases h1; exact .inr rfl
  | _ => simp [toTree] at h

noncomputable def Tm.mkr (x : Tm) (k : Int) : Tm × Int := ((Tm.mk (x.name) ((Tm.mkS x.args k).1)), (Tm.mkS x.args k).2)
def c_laws_markTerm : SC := (.seq (.reg [⟨(some 2), none, (.boxv 33 2 (.t 0))⟩, ⟨(some 4), none, (.mv (.c (.int .i64 0)))⟩]) (.seq (.reg [⟨(some 5), none, (.faddr 1 (.t 2))⟩, ⟨(some 6), none, (.load false 1 (.t 5))⟩, ⟨(some 7), none, (.mv (.t 1))⟩, ⟨(some 8), none, (.call 19 [(.t 6), (.t 7)])⟩, ⟨(some 1), none, (.mv (.t 8))⟩]) (.seq (.reg [⟨(some 9), none, (.mv (.t 1))⟩, ⟨(some 4), none, (.mv (.t 9))⟩]) .ret)))
theorem k_laws_markTerm : codeOf Tryz.prog 11 = some ⟨10, c_laws_markTerm, [(.tmp 4)]⟩ := by kernel_rfl
theorem m_laws_markTerm : modes 11 = ⟨[true], .asis, none, false⟩ := by unfold modes; rfl
set_option maxHeartbeats 1000000 in
theorem markT_Term (x : Tm) (k : Int) (o0 : Ob) (h1 : 1 ≤ k) (h2 : k + (Tm.wtS x.args : Nat) ≤ 1099511627776) (t0 : toTree [o0] = [.tree (x.args.map Tm.o) []]) : E 11 [.agg [.str x.name, .ref 0], .int .i64 k] [o0] = some (.int .i64 (x.mkr k).2, [.tree ((Tm.mkS x.args k).1.map Tm.o) []]) := by
  have e0 := Tm.mkS_end x.args k
  rw [Tm.mkr]
  dsimp only
  have c0 := markTS_Term x.args k [o0] (by omega) (by omega) t0
  rcases toTree1 t0 with ⟨a0, b0, rfl⟩ | rfl <;>
   (
    refine E_walk k_laws_markTerm m_laws_markTerm (of_decide_eq_true rfl) ?_
    simp (disch := omega) only [c_laws_markTerm, go_sem, Nat.reduceAdd, Nat.reduceSub, Nat.reduceLT, Nat.reduceLeDiff, Nat.reduceEqDiff, Nat.reduceBEq, Nat.reduceBneDiff, Nat.reduceMul, ↓reduceIte, Int.reduceToNat, reduceCtorEq, Int.reduceNeg, Int.reduceAdd, c0, m_laws_markTermS])
noncomputable def Sb.mkr (x : Sb) (k : Int) : Sb × Int := ((Sb.mk ((Bd.mkS x.binds k).1)), (Bd.mkS x.binds k).2)
def c_laws_markSubstitution : SC := (.seq (.reg [⟨(some 2), none, (.boxv 28 1 (.t 0))⟩, ⟨(some 4), none, (.mv (.c (.int .i64 0)))⟩]) (.seq (.reg [⟨(some 5), none, (.faddr 0 (.t 2))⟩, ⟨(some 6), none, (.load false 1 (.t 5))⟩, ⟨(some 7), none, (.mv (.t 1))⟩, ⟨(some 8), none, (.call 25 [(.t 6), (.t 7)])⟩, ⟨(some 1), none, (.mv (.t 8))⟩]) (.seq (.reg [⟨(some 9), none, (.mv (.t 1))⟩, ⟨(some 4), none, (.mv (.t 9))⟩]) .ret)))
theorem k_laws_markSubstitution : codeOf Tryz.prog 12 = some ⟨10, c_laws_markSubstitution, [(.tmp 4)]⟩ := by kernel_rfl
theorem m_laws_markSubstitution : modes 12 = ⟨[true], .asis, none, false⟩ := by unfold modes; rfl
set_option maxHeartbeats 1000000 in
theorem markT_Substitution (x : Sb) (k : Int) (o0 : Ob) (h1 : 1 ≤ k) (h2 : k + (Bd.wtS x.binds : Nat) ≤ 1099511627776) (t0 : toTree [o0] = [.tree (x.binds.map Bd.o) []]) : E 12 [.agg [.ref 0], .int .i64 k] [o0] = some (.int .i64 (x.mkr k).2, [.tree ((Bd.mkS x.binds k).1.map Bd.o) []]) := by
  have e0 := Bd.mkS_end x.binds k
  rw [Sb.mkr]
  dsimp only
  have c0 := markTS_Binding x.binds k [o0] (by omega) (by omega) t0
  rcases toTree1 t0 with ⟨a0, b0, rfl⟩ | rfl <;>
   (
    refine E_walk k_laws_markSubstitution m_laws_markSubstitution (of_decide_eq_true rfl) ?_
    simp (disch := omega) only [c_laws_markSubstitution, go_sem, Nat.reduceAdd, Nat.reduceSub, Nat.reduceLT, Nat.reduceLeDiff, Nat.reduceEqDiff, Nat.reduceBEq, Nat.reduceBneDiff, Nat.reduceMul, ↓reduceIte, Int.reduceToNat, reduceCtorEq, Int.reduceNeg, Int.reduceAdd, c0, m_laws_markBindingS])
def c_laws_heldSubstitution : SC := (.seq (.reg [⟨(some 2), none, (.boxv 28 1 (.t 0))⟩, ⟨(some 4), none, (.mv (.c (.int .i64 0)))⟩]) (.seq (.reg [⟨(some 5), none, (.faddr 0 (.t 2))⟩, ⟨(some 6), none, (.load false 1 (.t 5))⟩, ⟨(some 7), none, (.mv (.t 1))⟩, ⟨(some 8), none, (.call 26 [(.t 6), (.t 7)])⟩, ⟨(some 1), none, (.mv (.t 8))⟩]) (.seq (.seq (.reg [⟨(some 9), none, (.mv (.t 1))⟩, ⟨(some 10), none, (.bin .lss false (.t 9) (.c (.int .i64 0)))⟩]) (.cond (.t 10) (.seq (.reg [⟨(some 4), none, (.mv (.c (.int .i64 (-(0 + 1)))))⟩]) .ret) .skip)) (.seq (.reg [⟨(some 11), none, (.mv (.t 1))⟩, ⟨(some 4), none, (.mv (.t 11))⟩]) .ret))))
theorem k_laws_heldSubstitution : codeOf Tryz.prog 13 = some ⟨12, c_laws_heldSubstitution, [(.tmp 4)]⟩ := by kernel_rfl
theorem m_laws_heldSubstitution : modes 13 = ⟨[], .asis, none, false⟩ := by unfold modes; rfl
set_option maxHeartbeats 1000000 in
theorem heldT_Substitution (x : Sb) (k : Int) (h1 : 1 ≤ k) (h2 : k + (Bd.wtS x.binds : Nat) ≤ 1099511627776) : E 13 [.agg [.arr ((Bd.mkS x.binds k).1.map Bd.d)], .int .i64 k] [] = some (.int .i64 (x.mkr k).2, []) := by
  have e0 := Bd.mkS_end x.binds k
  rw [Sb.mkr]
  dsimp only
  have c0 := heldTS_Binding x.binds k (by omega) (by omega)
  refine E_walk k_laws_heldSubstitution m_laws_heldSubstitution (of_decide_eq_true rfl) ?_
  simp (disch := omega) only [c_laws_heldSubstitution, go_sem, Nat.reduceAdd, Nat.reduceSub, Nat.reduceLT, Nat.reduceLeDiff, Nat.reduceEqDiff, Nat.reduceBEq, Nat.reduceBneDiff, Nat.reduceMul, ↓reduceIte, Int.reduceToNat, reduceCtorEq, Int.reduceNeg, Int.reduceAdd, c0, m_laws_heldBindingS]
end Go.Proofs.YtjafnijgkjjadaaGreat

set_option maxRecDepth 100000
set_option linter.unusedSimpArgs false
set_option linter.unusedVariables false
namespace Go.Proofs.YtjafnijgkjjadaaGreat
open Go.RowKit

def c_laws_szTerm : SC := (.seq (.reg [⟨(some 2), none, (.boxv 24 2 (.t 0))⟩, ⟨(some 4), none, (.mv (.c (.int .i64 0)))⟩]) (.seq (.reg [⟨(some 5), none, (.mv (.t 1))⟩, ⟨(some 6), none, (.faddr 0 (.t 2))⟩, ⟨(some 7), none, (.load false 1 (.t 6))⟩, ⟨(some 8), none, (.len true (.t 7))⟩, ⟨(some 9), none, (.bin .sub false (.t 5) (.t 8))⟩, ⟨(some 1), none, (.mv (.t 9))⟩]) (.seq (.seq (.reg [⟨(some 10), none, (.mv (.t 1))⟩, ⟨(some 11), none, (.bin .lss false (.t 10) (.c (.int .i64 0)))⟩]) (.cond (.t 11) (.seq (.reg [⟨(some 4), none, (.mv (.c (.int .i64 (-(0 + 1)))))⟩]) .ret) .skip)) (.seq (.reg [⟨(some 12), none, (.faddr 1 (.t 2))⟩, ⟨(some 13), none, (.load false 1 (.t 12))⟩, ⟨(some 14), none, (.mv (.t 1))⟩, ⟨(some 15), none, (.call 14 [(.t 13), (.t 14)])⟩, ⟨(some 1), none, (.mv (.t 15))⟩]) (.seq (.seq (.reg [⟨(some 16), none, (.mv (.t 1))⟩, ⟨(some 17), none, (.bin .lss false (.t 16) (.c (.int .i64 0)))⟩]) (.cond (.t 17) (.seq (.reg [⟨(some 4), none, (.mv (.c (.int .i64 (-(0 + 1)))))⟩]) .ret) .skip)) (.seq (.reg [⟨(some 18), none, (.mv (.t 1))⟩, ⟨(some 4), none, (.mv (.t 18))⟩]) .ret))))))
theorem k_laws_szTerm : codeOf Tryz.prog 5 = some ⟨19, c_laws_szTerm, [(.tmp 4)]⟩ := by kernel_rfl
theorem m_laws_szTerm : modes 5 = ⟨[], .asis, none, false⟩ := by unfold modes; rfl
def c_laws_szTermS : SC := (.seq (.reg [⟨(some 4), none, (.mv (.c (.int .i64 0)))⟩]) (.seq (.reg [⟨(some 6), none, (.mv (.t 1))⟩, ⟨(some 7), none, (.mv (.t 0))⟩, ⟨(some 8), none, (.len false (.t 7))⟩, ⟨(some 9), none, (.bin .sub false (.t 6) (.t 8))⟩, ⟨(some 1), none, (.mv (.t 9))⟩]) (.seq (.seq (.reg [⟨(some 10), none, (.mv (.t 1))⟩, ⟨(some 11), none, (.bin .lss false (.t 10) (.c (.int .i64 0)))⟩]) (.cond (.t 11) (.seq (.reg [⟨(some 4), none, (.mv (.c (.int .i64 (-(0 + 1)))))⟩]) .ret) .skip)) (.seq (.seq (.reg [⟨(some 5), none, (.mv (.c (.int .i64 0)))⟩]) (.block 0 (.loop [1, 1, 0, 0, 0, 1, 0, 0, 0, 0, 0, 0, 0, 0, 0, 0, 0, 0, 0, 0, 0, 0, 0, 0, 0, 0, 0] (.seq (.seq (.reg [⟨(some 12), none, (.mv (.t 5))⟩, ⟨(some 13), none, (.mv (.t 0))⟩, ⟨(some 14), none, (.len false (.t 13))⟩, ⟨(some 15), none, (.bin .lss false (.t 12) (.t 14))⟩]) (.cond (.t 15) .skip (.exit 0))) (.seq (.block 1 (.seq (.reg [⟨(some 18), none, (.mv (.t 0))⟩, ⟨(some 19), none, (.mv (.t 5))⟩, ⟨(some 20), none, (.iaddr 2 (.t 18) (.t 19))⟩, ⟨(some 21), none, (.load true 2 (.t 20))⟩, ⟨(some 22), none, (.mv (.t 1))⟩, ⟨(some 23), none, (.call 5 [(.t 21), (.t 22)])⟩, ⟨(some 1), none, (.mv (.t 23))⟩]) (.seq (.reg [⟨(some 24), none, (.mv (.t 1))⟩, ⟨(some 25), none, (.bin .lss false (.t 24) (.c (.int .i64 0)))⟩]) (.cond (.t 25) (.seq (.reg [⟨(some 4), none, (.mv (.c (.int .i64 (-(0 + 1)))))⟩]) .ret) .skip)))) (.reg [⟨(some 16), none, (.mv (.t 5))⟩, ⟨(some 17), none, (.bin .add false (.t 16) (.c (.int .i64 1)))⟩, ⟨(some 5), none, (.mv (.t 17))⟩])))))) (.seq (.reg [⟨(some 26), none, (.mv (.t 1))⟩, ⟨(some 4), none, (.mv (.t 26))⟩]) .ret)))))
theorem k_laws_szTermS : codeOf Tryz.prog 14 = some ⟨27, c_laws_szTermS, [(.tmp 4)]⟩ := by kernel_rfl
theorem m_laws_szTermS : modes 14 = ⟨[], .asis, none, false⟩ := by unfold modes; rfl
abbrev SzT_Term (x : Tm) : Prop := D.fits x.d → ∀ left : Int, 0 ≤ left → left ≤ 1048576 → E 5 [x.sv, .int .i64 left] [] = some (.int .i64 (szR left x.bulk), [])
abbrev SzTS_Term (xs : List Tm) : Prop := D.fit (.arr (xs.map Tm.d)) → ∀ left : Int, 0 ≤ left → left ≤ 1048576 → E 14 [.arr (xs.map Tm.d), .int .i64 left] [] = some (.int .i64 (szR left (xs.length + Tm.sumB xs : Nat)), [])
set_option maxHeartbeats 1000000 in
theorem szTS_Term_of (xs : List Tm) (h : ∀ x ∈ xs, SzT_Term x) : SzTS_Term xs := by
  intro hfit left h0 h1
  simp only [D.fit, List.length_map] at hfit
  have q0 := szR_spec left (xs.length + Tm.sumB xs)
  refine E_walk k_laws_szTermS m_laws_szTermS (of_decide_eq_true rfl) ?_
  simp (disch := omega) only [c_laws_szTermS, go_sem, Nat.reduceAdd, Nat.reduceSub, Nat.reduceLT, Nat.reduceLeDiff, Nat.reduceEqDiff, Nat.reduceBEq, Nat.reduceBneDiff, Nat.reduceMul, ↓reduceIte, Int.reduceToNat, reduceCtorEq, Int.reduceNeg, Int.reduceAdd]
  repeat' (refine boolP_split (fun hq => ?_) (fun hq => ?_) <;> (first | replace hq := dec_iff.1 hq | replace hq := dec_not.1 hq) <;> (try simp (disch := omega) only [go_sem, Nat.reduceAdd, Nat.reduceSub, Nat.reduceLT, Nat.reduceLeDiff, Nat.reduceEqDiff, Nat.reduceBEq, Nat.reduceBneDiff, Nat.reduceMul, ↓reduceIte, Int.reduceToNat, reduceCtorEq, Int.reduceNeg, Int.reduceAdd]))
  · omega
  refine go_loop (α := Int × Int) (fun a => ⟨slots 27 0 [(0, .arr (xs.map Tm.d)), (1, .int .i64 a.2), (5, .int .i64 a.1)], []⟩) (fun a => ∃ k : Nat, a.1 = k ∧ k ≤ xs.length ∧ 0 ≤ a.2 ∧ a.2 ≤ 1048576 ∧ szR a.2 (Tm.sumB (xs.drop k)) = szR left (xs.length + Tm.sumB xs : Nat)) (fun a => xs.length - a.1.toNat) (0, left - xs.length) ⟨0, rfl, Nat.zero_le _, by omega, by omega, ?_⟩ (by simp (disch := omega) only [go_sem, Nat.reduceAdd, Nat.reduceSub, Nat.reduceLT, Nat.reduceLeDiff, Nat.reduceEqDiff, Nat.reduceBEq, Nat.reduceBneDiff, Nat.reduceMul, ↓reduceIte, Int.reduceToNat, reduceCtorEq, Int.reduceNeg, Int.reduceAdd]) ?_
  · have q1 := szR_spec (left - xs.length) (Tm.sumB xs)
    rw [List.drop_zero]
    dsimp only
    omega
  · rintro ⟨i, l⟩ ⟨k, hi, hk, hl0, hl1, hs⟩
    dsimp only at hi hl0 hl1 hs
    rcases Nat.lt_or_ge k xs.length with hlt | hge
    · have hg := get_at Tm.d hlt
      rw [Tm.d_eq] at hg
      have hd : Tm.sumB (xs.drop k) = xs[k].bulk + Tm.sumB (xs.drop (k + 1)) := by rw [List.drop_eq_getElem_cons hlt, Tm.sumB]
      rw [hd] at hs
      have hc := h xs[k] (List.getElem_mem hlt) (D.fitss_mem hfit.2 _ (List.getElem_mem hlt)) l hl0 hl1
      have q1 := szR_spec l xs[k].bulk
      have q2 := szR_spec l (xs[k].bulk + Tm.sumB (xs.drop (k + 1)))
      have q3 := szR_spec (l - xs[k].bulk) (Tm.sumB (xs.drop (k + 1)))
      have hn : i.toNat = k := by omega
      simp (disch := omega) only [go_sem, Nat.reduceAdd, Nat.reduceSub, Nat.reduceLT, Nat.reduceLeDiff, Nat.reduceEqDiff, Nat.reduceBEq, Nat.reduceBneDiff, Nat.reduceMul, ↓reduceIte, Int.reduceToNat, reduceCtorEq, Int.reduceNeg, Int.reduceAdd, hn, hg, hc, m_laws_szTerm]
      repeat' (refine boolP_split (fun hq => ?_) (fun hq => ?_) <;> (first | replace hq := dec_iff.1 hq | replace hq := dec_not.1 hq) <;> (try simp (disch := omega) only [go_sem, Nat.reduceAdd, Nat.reduceSub, Nat.reduceLT, Nat.reduceLeDiff, Nat.reduceEqDiff, Nat.reduceBEq, Nat.reduceBneDiff, Nat.reduceMul, ↓reduceIte, Int.reduceToNat, reduceCtorEq, Int.reduceNeg, Int.reduceAdd]))
      · omega
      · refine ⟨(i + 1, l - xs[k].bulk), ⟨k + 1, by dsimp only; omega, hlt, by dsimp only; omega, by dsimp only; omega, by dsimp only; omega⟩, by dsimp only; omega, ?_⟩
        have e : szR l xs[k].bulk = l - xs[k].bulk := by omega
        simp only [e, and_self]
    · have hd : xs.drop k = [] := List.drop_eq_nil_of_le hge
      rw [hd] at hs
      have q1 := szR_spec l (Tm.sumB [])
      simp only [Tm.sumB] at hs q1
      simp (disch := omega) only [go_sem, Nat.reduceAdd, Nat.reduceSub, Nat.reduceLT, Nat.reduceLeDiff, Nat.reduceEqDiff, Nat.reduceBEq, Nat.reduceBneDiff, Nat.reduceMul, ↓reduceIte, Int.reduceToNat, reduceCtorEq, Int.reduceNeg, Int.reduceAdd]
      omega
set_option maxHeartbeats 1000000 in
theorem szT_Term_of (x : Tm) (h_args : SzTS_Term x.args) : SzT_Term x := by
  intro hfit left h0 h1
  rw [Tm.d_eq] at hfit
  simp only [D.fits, D.fit] at hfit
  replace h_args := h_args (by simp only [D.fit, List.length_map]; simp only [List.length_map] at hfit; simp only [hfit, and_self])
  have q := szR_spec left x.bulk
  have qb := Tm.bulk_eq x
  have q0 := szR_spec (left - (x.name.size : Int)) ((x.args.length + Tm.sumB x.args))
  refine E_walk k_laws_szTerm m_laws_szTerm (of_decide_eq_true rfl) ?_
  simp (disch := omega) only [c_laws_szTerm, go_sem, Nat.reduceAdd, Nat.reduceSub, Nat.reduceLT, Nat.reduceLeDiff, Nat.reduceEqDiff, Nat.reduceBEq, Nat.reduceBneDiff, Nat.reduceMul, ↓reduceIte, Int.reduceToNat, reduceCtorEq, Int.reduceNeg, Int.reduceAdd, h_args, m_laws_szTermS]
  repeat' (refine boolP_split (fun hq => ?_) (fun hq => ?_) <;> (first | replace hq := dec_iff.1 hq | replace hq := dec_not.1 hq) <;> (try simp (disch := omega) only [go_sem, Nat.reduceAdd, Nat.reduceSub, Nat.reduceLT, Nat.reduceLeDiff, Nat.reduceEqDiff, Nat.reduceBEq, Nat.reduceBneDiff, Nat.reduceMul, ↓reduceIte, Int.reduceToNat, reduceCtorEq, Int.reduceNeg, Int.reduceAdd, h_args, m_laws_szTermS]))
  all_goals omega
theorem szT_Term (x : Tm) : SzT_Term x := szT_Term_of x (szTS_Term_of x.args fun y hy => szT_Term y)
termination_by SizeOf.sizeOf x
decreasing_by exact Tm.lt_of_mem hy
theorem szTS_Term (xs : List Tm) : SzTS_Term xs := szTS_Term_of xs fun x _ => szT_Term x
end Go.Proofs.YtjafnijgkjjadaaGreat

set_option maxRecDepth 100000
set_option linter.unusedSimpArgs false
set_option linter.unusedVariables false
namespace Go.Proofs.YtjafnijgkjjadaaGreat
open Go.RowKit

def c_laws_toTerm : SC := (.seq (.reg [⟨(some 1), none, (.boxv 24 2 (.t 0))⟩, ⟨(some 2), none, (.alloc 33 [(.str ⟨#[]⟩), .nil])⟩]) (.seq (.reg [⟨(some 3), none, (.alloc 33 [(.str ⟨#[]⟩), .nil])⟩]) (.seq (.reg [⟨(some 4), none, (.faddr 0 (.t 1))⟩, ⟨(some 5), none, (.load false 1 (.t 4))⟩, ⟨(some 6), none, (.faddr 0 (.t 3))⟩, ⟨none, none, (.store 1 (.t 6) (.t 5))⟩]) (.seq (.reg [⟨(some 7), none, (.faddr 1 (.t 1))⟩, ⟨(some 8), none, (.load false 1 (.t 7))⟩, ⟨(some 9), none, (.call 16 [(.t 8)])⟩, ⟨(some 10), none, (.faddr 1 (.t 3))⟩, ⟨none, none, (.store 1 (.t 10) (.t 9))⟩]) (.seq (.reg [⟨(some 11), none, (.load true 2 (.t 3))⟩, ⟨none, none, (.store 2 (.t 2) (.t 11))⟩]) .ret)))))
theorem k_laws_toTerm : codeOf Tryz.prog 7 = some ⟨12, c_laws_toTerm, [(.cell 2 true 2)]⟩ := by kernel_rfl
theorem m_laws_toTerm : modes 7 = ⟨[], .asis, none, false⟩ := by unfold modes; rfl
def c_laws_toTermS : SC := (.seq (.reg [⟨(some 2), none, (.mv (.c .nil))⟩]) (.seq (.reg [⟨(some 5), none, (.mv (.t 0))⟩, ⟨(some 6), none, (.len false (.t 5))⟩, ⟨(some 7), none, (.mkslice 33 2 40 [(.str ⟨#[]⟩), .nil] (.t 6))⟩, ⟨(some 3), none, (.mv (.t 7))⟩]) (.seq (.seq (.reg [⟨(some 4), none, (.mv (.c (.int .i64 0)))⟩]) (.block 0 (.loop [1, 0, 0, 1, 1, 0, 0, 0, 0, 0, 0, 0, 0, 0, 0, 0, 0, 0, 0, 0, 0, 0, 0] (.seq (.seq (.reg [⟨(some 8), none, (.mv (.t 4))⟩, ⟨(some 9), none, (.mv (.t 0))⟩, ⟨(some 10), none, (.len false (.t 9))⟩, ⟨(some 11), none, (.bin .lss false (.t 8) (.t 10))⟩]) (.cond (.t 11) .skip (.exit 0))) (.seq (.block 1 (.reg [⟨(some 14), none, (.mv (.t 3))⟩, ⟨(some 15), none, (.mv (.t 4))⟩, ⟨(some 16), none, (.mv (.t 0))⟩, ⟨(some 17), none, (.mv (.t 4))⟩, ⟨(some 18), none, (.iaddr 2 (.t 16) (.t 17))⟩, ⟨(some 19), none, (.load true 2 (.t 18))⟩, ⟨(some 20), none, (.call 7 [(.t 19)])⟩, ⟨(some 21), none, (.iaddr 2 (.t 14) (.t 15))⟩, ⟨none, none, (.store 2 (.t 21) (.t 20))⟩])) (.reg [⟨(some 12), none, (.mv (.t 4))⟩, ⟨(some 13), none, (.bin .add false (.t 12) (.c (.int .i64 1)))⟩, ⟨(some 4), none, (.mv (.t 13))⟩])))))) (.seq (.reg [⟨(some 22), none, (.mv (.t 3))⟩, ⟨(some 2), none, (.mv (.t 22))⟩]) .ret))))
theorem k_laws_toTermS : codeOf Tryz.prog 16 = some ⟨23, c_laws_toTermS, [(.tmp 2)]⟩ := by kernel_rfl
theorem m_laws_toTermS : modes 16 = ⟨[], .asis, none, false⟩ := by unfold modes; rfl
abbrev ToT_Term (x : Tm) : Prop := x.bulk ≤ 1048576 → E 7 [x.sv] [] = some (x.osv, x.obs)
abbrev ToTS_Term (xs : List Tm) : Prop := xs.length + Tm.sumB xs ≤ 1048576 → E 16 [.arr (xs.map Tm.d)] [] = some (.ref 0, [.row 33 2 (xs.map Tm.o)])
set_option maxHeartbeats 1000000 in
theorem toTS_Term_of (xs : List Tm) (h : ∀ x ∈ xs, ToT_Term x) : ToTS_Term xs := by
  intro hb
  refine E_walk k_laws_toTermS m_laws_toTermS (of_decide_eq_true rfl) ?_
  simp (disch := omega) only [c_laws_toTermS, go_sem, Nat.reduceAdd, Nat.reduceSub, Nat.reduceLT, Nat.reduceLeDiff, Nat.reduceEqDiff, Nat.reduceBEq, Nat.reduceBneDiff, Nat.reduceMul, ↓reduceIte, Int.reduceToNat, reduceCtorEq, Int.reduceNeg, Int.reduceAdd]
  refine go_loop (α := Int) (fun i => ⟨slots 23 0 [(0, .arr (xs.map Tm.d)), (3, .ref 0), (4, .int .i64 i)], [.row 33 2 (fillR Tm.o [.str ⟨#[]⟩, .ow []] xs i.toNat)]⟩) (fun i => ∃ k : Nat, i = k ∧ k ≤ xs.length) (fun i => xs.length - i.toNat) 0 ⟨0, rfl, Nat.zero_le _⟩ (by simp (disch := omega) only [go_sem, Nat.reduceAdd, Nat.reduceSub, Nat.reduceLT, Nat.reduceLeDiff, Nat.reduceEqDiff, Nat.reduceBEq, Nat.reduceBneDiff, Nat.reduceMul, ↓reduceIte, Int.reduceToNat, reduceCtorEq, Int.reduceNeg, Int.reduceAdd, fillR_zero, Int.toNat_zero]) ?_
  · rintro i ⟨k, rfl, hk⟩
    obtain ⟨i, hi⟩ : ∃ i : Int, i = (k : Int) := ⟨_, rfl⟩
    rw [← hi]
    have hn : i.toNat = k := by omega
    have hn1 : (i + 1).toNat = k + 1 := by omega
    rcases Nat.lt_or_ge k xs.length with hlt | hge
    · have hg := get_at Tm.d hlt
      rw [Tm.d_eq] at hg
      have hz := fillR_get Tm.o [.str ⟨#[]⟩, .ow []] hlt
      have hle := Tm.bulk_le xs k hlt
      have hc := h xs[k] (List.getElem_mem hlt) (by omega)
      have hs := fillR_set Tm.o [.str ⟨#[]⟩, .ow []] hlt
      rw [Tm.o_eq] at hs
      simp (disch := omega) only [go_sem, Nat.reduceAdd, Nat.reduceSub, Nat.reduceLT, Nat.reduceLeDiff, Nat.reduceEqDiff, Nat.reduceBEq, Nat.reduceBneDiff, Nat.reduceMul, ↓reduceIte, Int.reduceToNat, reduceCtorEq, Int.reduceNeg, Int.reduceAdd, hn, hg, hc, hz, fillR_len, m_laws_toTerm, Tm.osv, Tm.obs]
      refine ⟨i + 1, ⟨k + 1, by omega, hlt⟩, by omega, ?_⟩
      simp (disch := omega) only [go_sem, Nat.reduceAdd, Nat.reduceSub, Nat.reduceLT, Nat.reduceLeDiff, Nat.reduceEqDiff, Nat.reduceBEq, Nat.reduceBneDiff, Nat.reduceMul, ↓reduceIte, Int.reduceToNat, reduceCtorEq, Int.reduceNeg, Int.reduceAdd, hn1, hs]
    · obtain rfl : k = xs.length := by omega
      simp (disch := omega) only [go_sem, Nat.reduceAdd, Nat.reduceSub, Nat.reduceLT, Nat.reduceLeDiff, Nat.reduceEqDiff, Nat.reduceBEq, Nat.reduceBneDiff, Nat.reduceMul, ↓reduceIte, Int.reduceToNat, reduceCtorEq, Int.reduceNeg, Int.reduceAdd, hn, fillR_end]
set_option maxHeartbeats 1000000 in
theorem toT_Term_of (x : Tm) (h_args : ToTS_Term x.args) : ToT_Term x := by
  intro hb
  have qb := Tm.bulk_eq x
  replace h_args := h_args (by omega)
  refine E_walk k_laws_toTerm m_laws_toTerm (of_decide_eq_true rfl) ?_
  simp (disch := omega) only [c_laws_toTerm, go_sem, Nat.reduceAdd, Nat.reduceSub, Nat.reduceLT, Nat.reduceLeDiff, Nat.reduceEqDiff, Nat.reduceBEq, Nat.reduceBneDiff, Nat.reduceMul, ↓reduceIte, Int.reduceToNat, reduceCtorEq, Int.reduceNeg, Int.reduceAdd, h_args, m_laws_toTermS]
theorem toT_Term (x : Tm) : ToT_Term x := toT_Term_of x (toTS_Term_of x.args fun y hy => toT_Term y)
termination_by SizeOf.sizeOf x
decreasing_by exact Tm.lt_of_mem hy
theorem toTS_Term (xs : List Tm) : ToTS_Term xs := toTS_Term_of xs fun x _ => toT_Term x
end Go.Proofs.YtjafnijgkjjadaaGreat

set_option maxRecDepth 100000
set_option linter.unusedSimpArgs false
set_option linter.unusedVariables false
namespace Go.Proofs.YtjafnijgkjjadaaGreat
open Go.RowKit

def c_laws_eqTerm : SC := (.seq (.reg [⟨(some 2), none, (.boxv 33 2 (.t 0))⟩, ⟨(some 3), none, (.boxv 33 2 (.t 1))⟩, ⟨(some 4), none, (.mv (.c (.bool false)))⟩]) (.seq (.seq (.reg [⟨(some 5), none, (.faddr 0 (.t 2))⟩, ⟨(some 6), none, (.load false 1 (.t 5))⟩, ⟨(some 7), none, (.faddr 0 (.t 3))⟩, ⟨(some 8), none, (.load false 1 (.t 7))⟩, ⟨(some 9), none, (.bin .neq false (.t 6) (.t 8))⟩]) (.cond (.t 9) (.seq (.reg [⟨(some 4), none, (.mv (.c (.bool false)))⟩]) .ret) .skip)) (.seq (.seq (.reg [⟨(some 10), none, (.faddr 1 (.t 2))⟩, ⟨(some 11), none, (.load false 1 (.t 10))⟩, ⟨(some 12), none, (.faddr 1 (.t 3))⟩, ⟨(some 13), none, (.load false 1 (.t 12))⟩, ⟨(some 14), none, (.call 18 [(.t 11), (.t 13)])⟩, ⟨(some 15), none, (.un .not (.t 14))⟩]) (.cond (.t 15) (.seq (.reg [⟨(some 4), none, (.mv (.c (.bool false)))⟩]) .ret) .skip)) (.seq (.reg [⟨(some 4), none, (.mv (.c (.bool true)))⟩]) .ret))))
theorem k_laws_eqTerm : codeOf Tryz.prog 10 = some ⟨16, c_laws_eqTerm, [(.tmp 4)]⟩ := by kernel_rfl
theorem m_laws_eqTerm : modes 10 = ⟨[], .asis, none, false⟩ := by unfold modes; rfl
def c_laws_eqTermS : SC := (.seq (.reg [⟨(some 4), none, (.mv (.c (.bool false)))⟩]) (.seq (.seq (.reg [⟨(some 6), none, (.mv (.t 0))⟩, ⟨(some 7), none, (.len false (.t 6))⟩, ⟨(some 8), none, (.mv (.t 1))⟩, ⟨(some 9), none, (.len false (.t 8))⟩, ⟨(some 10), none, (.bin .neq false (.t 7) (.t 9))⟩]) (.cond (.t 10) (.seq (.reg [⟨(some 4), none, (.mv (.c (.bool false)))⟩]) .ret) .skip)) (.seq (.seq (.reg [⟨(some 5), none, (.mv (.c (.int .i64 0)))⟩]) (.block 0 (.loop [1, 1, 0, 0, 0, 1, 0, 0, 0, 0, 0, 0, 0, 0, 0, 0, 0, 0, 0, 0, 0, 0, 0, 0, 0, 0, 0] (.seq (.seq (.reg [⟨(some 11), none, (.mv (.t 5))⟩, ⟨(some 12), none, (.mv (.t 0))⟩, ⟨(some 13), none, (.len false (.t 12))⟩, ⟨(some 14), none, (.bin .lss false (.t 11) (.t 13))⟩]) (.cond (.t 14) .skip (.exit 0))) (.seq (.block 1 (.seq (.dreg [[], [], [0, 1], [2, 0, 1], [], [], [4, 5], [6, 4, 5], [3, 2, 0, 1, 7, 6, 4, 5], [8, 3, 2, 0, 1, 7, 6, 4, 5]] [⟨(some 17), none, (.mv (.t 0))⟩, ⟨(some 18), none, (.mv (.t 5))⟩, ⟨(some 19), none, (.iaddr 2 (.t 17) (.t 18))⟩, ⟨(some 20), none, (.load true 2 (.t 19))⟩, ⟨(some 21), none, (.mv (.t 1))⟩, ⟨(some 22), none, (.mv (.t 5))⟩, ⟨(some 23), none, (.iaddr 2 (.t 21) (.t 22))⟩, ⟨(some 24), none, (.load true 2 (.t 23))⟩, ⟨(some 25), none, (.call 10 [(.t 20), (.t 24)])⟩, ⟨(some 26), none, (.un .not (.t 25))⟩]) (.cond (.t 26) (.seq (.reg [⟨(some 4), none, (.mv (.c (.bool false)))⟩]) .ret) .skip))) (.reg [⟨(some 15), none, (.mv (.t 5))⟩, ⟨(some 16), none, (.bin .add false (.t 15) (.c (.int .i64 1)))⟩, ⟨(some 5), none, (.mv (.t 16))⟩])))))) (.seq (.reg [⟨(some 4), none, (.mv (.c (.bool true)))⟩]) .ret))))
theorem k_laws_eqTermS : codeOf Tryz.prog 18 = some ⟨27, c_laws_eqTermS, [(.tmp 4)]⟩ := by kernel_rfl
theorem m_laws_eqTermS : modes 18 = ⟨[], .asis, none, false⟩ := by unfold modes; rfl
abbrev EqT_Term (x : Tm) : Prop := x.bulk ≤ 1048576 → E 10 [x.sv, x.sv] [] = some (.bool true, [])
abbrev EqTS_Term (xs : List Tm) : Prop := xs.length + Tm.sumB xs ≤ 1048576 → E 18 [.arr (xs.map Tm.d), .arr (xs.map Tm.d)] [] = some (.bool true, [])
set_option maxHeartbeats 1000000 in
theorem eqTS_Term_of (xs : List Tm) (h : ∀ x ∈ xs, EqT_Term x) : EqTS_Term xs := by
  intro hb
  refine E_walk k_laws_eqTermS m_laws_eqTermS (of_decide_eq_true rfl) ?_
  simp (disch := omega) only [c_laws_eqTermS, go_sem, Nat.reduceAdd, Nat.reduceSub, Nat.reduceLT, Nat.reduceLeDiff, Nat.reduceEqDiff, Nat.reduceBEq, Nat.reduceBneDiff, Nat.reduceMul, ↓reduceIte, Int.reduceToNat, reduceCtorEq, Int.reduceNeg, Int.reduceAdd]
  refine go_loop (α := Int) (fun i => ⟨slots 27 0 [(0, .arr (xs.map Tm.d)), (1, .arr (xs.map Tm.d)), (5, .int .i64 i)], []⟩) (fun i => ∃ k : Nat, i = k ∧ k ≤ xs.length) (fun i => xs.length - i.toNat) 0 ⟨0, rfl, Nat.zero_le _⟩ (by simp (disch := omega) only [go_sem, Nat.reduceAdd, Nat.reduceSub, Nat.reduceLT, Nat.reduceLeDiff, Nat.reduceEqDiff, Nat.reduceBEq, Nat.reduceBneDiff, Nat.reduceMul, ↓reduceIte, Int.reduceToNat, reduceCtorEq, Int.reduceNeg, Int.reduceAdd]) ?_
  · rintro i ⟨k, rfl, hk⟩
    obtain ⟨i, hi⟩ : ∃ i : Int, i = (k : Int) := ⟨_, rfl⟩
    rw [← hi]
    have hn : i.toNat = k := by omega
    rcases Nat.lt_or_ge k xs.length with hlt | hge
    · have hg := get_at Tm.d hlt
      rw [Tm.d_eq] at hg
      have hle := Tm.bulk_le xs k hlt
      have hc := h xs[k] (List.getElem_mem hlt) (by omega)
      simp (disch := omega) only [go_sem, Nat.reduceAdd, Nat.reduceSub, Nat.reduceLT, Nat.reduceLeDiff, Nat.reduceEqDiff, Nat.reduceBEq, Nat.reduceBneDiff, Nat.reduceMul, ↓reduceIte, Int.reduceToNat, reduceCtorEq, Int.reduceNeg, Int.reduceAdd, hn, hg, hc, m_laws_eqTerm]
      refine ⟨i + 1, ⟨k + 1, by omega, hlt⟩, by omega, ?_⟩
      trivial
    · obtain rfl : k = xs.length := by omega
      simp (disch := omega) only [go_sem, Nat.reduceAdd, Nat.reduceSub, Nat.reduceLT, Nat.reduceLeDiff, Nat.reduceEqDiff, Nat.reduceBEq, Nat.reduceBneDiff, Nat.reduceMul, ↓reduceIte, Int.reduceToNat, reduceCtorEq, Int.reduceNeg, Int.reduceAdd, hn]
set_option maxHeartbeats 1000000 in
theorem eqT_Term_of (x : Tm) (h_args : EqTS_Term x.args) : EqT_Term x := by
  intro hb
  have qb := Tm.bulk_eq x
  replace h_args := h_args (by omega)
  refine E_walk k_laws_eqTerm m_laws_eqTerm (of_decide_eq_true rfl) ?_
  simp (disch := omega) only [c_laws_eqTerm, go_sem, Nat.reduceAdd, Nat.reduceSub, Nat.reduceLT, Nat.reduceLeDiff, Nat.reduceEqDiff, Nat.reduceBEq, Nat.reduceBneDiff, Nat.reduceMul, ↓reduceIte, Int.reduceToNat, reduceCtorEq, Int.reduceNeg, Int.reduceAdd, h_args, m_laws_eqTermS, dec_refl]
theorem eqT_Term (x : Tm) : EqT_Term x := eqT_Term_of x (eqTS_Term_of x.args fun y hy => eqT_Term y)
termination_by SizeOf.sizeOf x
decreasing_by exact Tm.lt_of_mem hy
theorem eqTS_Term (xs : List Tm) : EqTS_Term xs := eqTS_Term_of xs fun x _ => eqT_Term x
def c_laws_eqBinding : SC := (.seq (.reg [⟨(some 2), none, (.boxv 67 3 (.t 0))⟩, ⟨(some 3), none, (.boxv 67 3 (.t 1))⟩, ⟨(some 4), none, (.mv (.c (.bool false)))⟩]) (.seq (.seq (.reg [⟨(some 5), none, (.faddr 0 (.t 2))⟩, ⟨(some 6), none, (.load false 1 (.t 5))⟩, ⟨(some 7), none, (.faddr 0 (.t 3))⟩, ⟨(some 8), none, (.load false 1 (.t 7))⟩, ⟨(some 9), none, (.bin .neq false (.t 6) (.t 8))⟩]) (.cond (.t 9) (.seq (.reg [⟨(some 4), none, (.mv (.c (.bool false)))⟩]) .ret) .skip)) (.seq (.seq (.reg [⟨(some 10), none, (.faddr 1 (.t 2))⟩, ⟨(some 11), none, (.load true 2 (.t 10))⟩, ⟨(some 12), none, (.faddr 1 (.t 3))⟩, ⟨(some 13), none, (.load true 2 (.t 12))⟩, ⟨(some 14), none, (.call 10 [(.t 11), (.t 13)])⟩, ⟨(some 15), none, (.un .not (.t 14))⟩]) (.cond (.t 15) (.seq (.reg [⟨(some 4), none, (.mv (.c (.bool false)))⟩]) .ret) .skip)) (.seq (.reg [⟨(some 4), none, (.mv (.c (.bool true)))⟩]) .ret))))
theorem k_laws_eqBinding : codeOf Tryz.prog 47 = some ⟨16, c_laws_eqBinding, [(.tmp 4)]⟩ := by kernel_rfl
theorem m_laws_eqBinding : modes 47 = ⟨[], .asis, none, false⟩ := by unfold modes; rfl
def c_laws_eqBindingS : SC := (.seq (.reg [⟨(some 4), none, (.mv (.c (.bool false)))⟩]) (.seq (.seq (.reg [⟨(some 6), none, (.mv (.t 0))⟩, ⟨(some 7), none, (.len false (.t 6))⟩, ⟨(some 8), none, (.mv (.t 1))⟩, ⟨(some 9), none, (.len false (.t 8))⟩, ⟨(some 10), none, (.bin .neq false (.t 7) (.t 9))⟩]) (.cond (.t 10) (.seq (.reg [⟨(some 4), none, (.mv (.c (.bool false)))⟩]) .ret) .skip)) (.seq (.seq (.reg [⟨(some 5), none, (.mv (.c (.int .i64 0)))⟩]) (.block 0 (.loop [1, 1, 0, 0, 0, 1, 0, 0, 0, 0, 0, 0, 0, 0, 0, 0, 0, 0, 0, 0, 0, 0, 0, 0, 0, 0, 0] (.seq (.seq (.reg [⟨(some 11), none, (.mv (.t 5))⟩, ⟨(some 12), none, (.mv (.t 0))⟩, ⟨(some 13), none, (.len false (.t 12))⟩, ⟨(some 14), none, (.bin .lss false (.t 11) (.t 13))⟩]) (.cond (.t 14) .skip (.exit 0))) (.seq (.block 1 (.seq (.dreg [[], [], [0, 1], [2, 0, 1], [], [], [4, 5], [6, 4, 5], [3, 2, 0, 1, 7, 6, 4, 5], [8, 3, 2, 0, 1, 7, 6, 4, 5]] [⟨(some 17), none, (.mv (.t 0))⟩, ⟨(some 18), none, (.mv (.t 5))⟩, ⟨(some 19), none, (.iaddr 3 (.t 17) (.t 18))⟩, ⟨(some 20), none, (.load true 3 (.t 19))⟩, ⟨(some 21), none, (.mv (.t 1))⟩, ⟨(some 22), none, (.mv (.t 5))⟩, ⟨(some 23), none, (.iaddr 3 (.t 21) (.t 22))⟩, ⟨(some 24), none, (.load true 3 (.t 23))⟩, ⟨(some 25), none, (.call 47 [(.t 20), (.t 24)])⟩, ⟨(some 26), none, (.un .not (.t 25))⟩]) (.cond (.t 26) (.seq (.reg [⟨(some 4), none, (.mv (.c (.bool false)))⟩]) .ret) .skip))) (.reg [⟨(some 15), none, (.mv (.t 5))⟩, ⟨(some 16), none, (.bin .add false (.t 15) (.c (.int .i64 1)))⟩, ⟨(some 5), none, (.mv (.t 16))⟩])))))) (.seq (.reg [⟨(some 4), none, (.mv (.c (.bool true)))⟩]) .ret))))
theorem k_laws_eqBindingS : codeOf Tryz.prog 24 = some ⟨27, c_laws_eqBindingS, [(.tmp 4)]⟩ := by kernel_rfl
theorem m_laws_eqBindingS : modes 24 = ⟨[], .asis, none, false⟩ := by unfold modes; rfl
abbrev EqT_Binding (x : Bd) : Prop := x.bulk ≤ 1048576 → E 47 [x.sv, x.sv] [] = some (.bool true, [])
abbrev EqTS_Binding (xs : List Bd) : Prop := xs.length + Bd.sumB xs ≤ 1048576 → E 24 [.arr (xs.map Bd.d), .arr (xs.map Bd.d)] [] = some (.bool true, [])
set_option maxHeartbeats 1000000 in
theorem eqTS_Binding_of (xs : List Bd) (h : ∀ x ∈ xs, EqT_Binding x) : EqTS_Binding xs := by
  intro hb
  refine E_walk k_laws_eqBindingS m_laws_eqBindingS (of_decide_eq_true rfl) ?_
  simp (disch := omega) only [c_laws_eqBindingS, go_sem, Nat.reduceAdd, Nat.reduceSub, Nat.reduceLT, Nat.reduceLeDiff, Nat.reduceEqDiff, Nat.reduceBEq, Nat.reduceBneDiff, Nat.reduceMul, ↓reduceIte, Int.reduceToNat, reduceCtorEq, Int.reduceNeg, Int.reduceAdd]
  refine go_loop (α := Int) (fun i => ⟨slots 27 0 [(0, .arr (xs.map Bd.d)), (1, .arr (xs.map Bd.d)), (5, .int .i64 i)], []⟩) (fun i => ∃ k : Nat, i = k ∧ k ≤ xs.length) (fun i => xs.length - i.toNat) 0 ⟨0, rfl, Nat.zero_le _⟩ (by simp (disch := omega) only [go_sem, Nat.reduceAdd, Nat.reduceSub, Nat.reduceLT, Nat.reduceLeDiff, Nat.reduceEqDiff, Nat.reduceBEq, Nat.reduceBneDiff, Nat.reduceMul, ↓reduceIte, Int.reduceToNat, reduceCtorEq, Int.reduceNeg, Int.reduceAdd]) ?_
  · rintro i ⟨k, rfl, hk⟩
    obtain ⟨i, hi⟩ : ∃ i : Int, i = (k : Int) := ⟨_, rfl⟩
    rw [← hi]
    have hn : i.toNat = k := by omega
    rcases Nat.lt_or_ge k xs.length with hlt | hge
    · have hg := get_at Bd.d hlt
      rw [Bd.d_eq] at hg
      have hle := Bd.bulk_le xs k hlt
      have hc := h xs[k] (List.getElem_mem hlt) (by omega)
      simp (disch := omega) only [go_sem, Nat.reduceAdd, Nat.reduceSub, Nat.reduceLT, Nat.reduceLeDiff, Nat.reduceEqDiff, Nat.reduceBEq, Nat.reduceBneDiff, Nat.reduceMul, ↓reduceIte, Int.reduceToNat, reduceCtorEq, Int.reduceNeg, Int.reduceAdd, hn, hg, hc, m_laws_eqBinding]
      refine ⟨i + 1, ⟨k + 1, by omega, hlt⟩, by omega, ?_⟩
      trivial
    · obtain rfl : k = xs.length := by omega
      simp (disch := omega) only [go_sem, Nat.reduceAdd, Nat.reduceSub, Nat.reduceLT, Nat.reduceLeDiff, Nat.reduceEqDiff, Nat.reduceBEq, Nat.reduceBneDiff, Nat.reduceMul, ↓reduceIte, Int.reduceToNat, reduceCtorEq, Int.reduceNeg, Int.reduceAdd, hn]
set_option maxHeartbeats 1000000 in
theorem eqT_Binding_of (x : Bd) (h_term : EqT_Term x.term) : EqT_Binding x := by
  intro hb
  have qb := Bd.bulk_eq x
  replace h_term := h_term (by omega)
  refine E_walk k_laws_eqBinding m_laws_eqBinding (of_decide_eq_true rfl) ?_
  simp (disch := omega) only [c_laws_eqBinding, go_sem, Nat.reduceAdd, Nat.reduceSub, Nat.reduceLT, Nat.reduceLeDiff, Nat.reduceEqDiff, Nat.reduceBEq, Nat.reduceBneDiff, Nat.reduceMul, ↓reduceIte, Int.reduceToNat, reduceCtorEq, Int.reduceNeg, Int.reduceAdd, h_term, m_laws_eqTerm, dec_refl]
theorem eqT_Binding (x : Bd) : EqT_Binding x := eqT_Binding_of x (eqT_Term x.term)
theorem eqTS_Binding (xs : List Bd) : EqTS_Binding xs := eqTS_Binding_of xs fun x _ => eqT_Binding x
def c_laws_eqSubstitution : SC := (.seq (.reg [⟨(some 2), none, (.boxv 28 1 (.t 0))⟩, ⟨(some 3), none, (.boxv 28 1 (.t 1))⟩, ⟨(some 4), none, (.mv (.c (.bool false)))⟩]) (.seq (.seq (.reg [⟨(some 5), none, (.faddr 0 (.t 2))⟩, ⟨(some 6), none, (.load false 1 (.t 5))⟩, ⟨(some 7), none, (.faddr 0 (.t 3))⟩, ⟨(some 8), none, (.load false 1 (.t 7))⟩, ⟨(some 9), none, (.call 24 [(.t 6), (.t 8)])⟩, ⟨(some 10), none, (.un .not (.t 9))⟩]) (.cond (.t 10) (.seq (.reg [⟨(some 4), none, (.mv (.c (.bool false)))⟩]) .ret) .skip)) (.seq (.reg [⟨(some 4), none, (.mv (.c (.bool true)))⟩]) .ret)))
theorem k_laws_eqSubstitution : codeOf Tryz.prog 9 = some ⟨11, c_laws_eqSubstitution, [(.tmp 4)]⟩ := by kernel_rfl
theorem m_laws_eqSubstitution : modes 9 = ⟨[], .asis, none, false⟩ := by unfold modes; rfl
abbrev EqT_Substitution (x : Sb) : Prop := x.bulk ≤ 1048576 → E 9 [x.sv, x.sv] [] = some (.bool true, [])
set_option maxHeartbeats 1000000 in
theorem eqT_Substitution_of (x : Sb) (h_binds : EqTS_Binding x.binds) : EqT_Substitution x := by
  intro hb
  have qb := Sb.bulk_eq x
  replace h_binds := h_binds (by omega)
  refine E_walk k_laws_eqSubstitution m_laws_eqSubstitution (of_decide_eq_true rfl) ?_
  simp (disch := omega) only [c_laws_eqSubstitution, go_sem, Nat.reduceAdd, Nat.reduceSub, Nat.reduceLT, Nat.reduceLeDiff, Nat.reduceEqDiff, Nat.reduceBEq, Nat.reduceBneDiff, Nat.reduceMul, ↓reduceIte, Int.reduceToNat, reduceCtorEq, Int.reduceNeg, Int.reduceAdd, h_binds, m_laws_eqBindingS, dec_refl]
theorem eqT_Substitution (x : Sb) : EqT_Substitution x := eqT_Substitution_of x (eqTS_Binding_of x.binds fun y hy => eqT_Binding y)
end Go.Proofs.YtjafnijgkjjadaaGreat

set_option maxRecDepth 100000
set_option linter.unusedSimpArgs false
set_option linter.unusedVariables false
namespace Go.Proofs.YtjafnijgkjjadaaGreat
open Go.RowKit

theorem Sb.tame_of {x : Sb} (h : x.bulk ≤ 1048576) : x.tame := by
  rw [Sb.bulk_eq] at h
  refine ⟨by omega, fun y hy => ?_⟩
  obtain ⟨k, hk, rfl⟩ := List.getElem_of_mem hy
  have h1 := Bd.bulk_le x.binds k hk
  have h2 := Tm.nodes_bulk x.binds[k].term
  have h3 := Bd.bulk_eq x.binds[k]
  omega
theorem apTo_bulk (s : Sb) (x : Tm) : (apTo s x).bulk ≤ 1048576 := by
  cases h : apOk s x with
  | false =>
    rw [apTo_no h, Tm.bulk_eq]
    show 0 + _ ≤ _
    simp [Tm.args, Tm.sumB]
  | true =>
    rw [apTo_yes h]
    unfold apOk at h
    rw [Bool.and_eq_true, Bool.and_eq_true] at h
    refine Tm.expr_bulk ?_
    exact (Tm.ap_any (Sb.look_okF h.1) x h.2.1).trans h.2.2
end Go.Proofs.YtjafnijgkjjadaaGreat

set_option maxRecDepth 100000
set_option linter.unusedSimpArgs false
set_option linter.unusedVariables false
namespace Go.Proofs.YtjafnijgkjjadaaGreat
open Go.RowKit

theorem m_slices_SortFunc_impl_Binding_impl_Binding : modes 57 = ⟨[true], .asis, some sortBinding, false⟩ := by unfold modes; rfl
theorem sortB_E (l : List Bd) (hl : l.length ≤ 1099511627776) (hn : (l.map Bd.var).Nodup) : E 57 [.ref 0, .fn 58 []] [.row 67 3 (l.map Bd.o)] = some (.tup [], [.row 67 3 ((l.mergeSort bdLe).map Bd.o)]) := by
  rw [E_extO (g := sortBinding) (congrArg FM.ext m_slices_SortFunc_impl_Binding_impl_Binding)]
  unfold sortBinding
  simp only
  have e1 : (l.map Bd.o).map keyB = l.map Bd.var := by rw [List.map_map]; rfl
  rw [dec_t ⟨by first | trivial | rfl, by first | trivial | rfl, fun e he => by obtain ⟨b, _, rfl⟩ := List.mem_map.1 he; exact ⟨_, _, _, rfl⟩, by rw [e1]; exact hn, by simpa using hl⟩, cond_true]
  have e2 : (l.mergeSort bdLe).map Bd.o = (l.map Bd.o).mergeSort rowLe := List.map_mergeSort fun a _ b _ => rfl
  rw [e2]
theorem sortB_nil : E 57 [.arr [], .fn 58 []] [] = some (.tup [], []) := by
  rw [E_extO (g := sortBinding) (congrArg FM.ext m_slices_SortFunc_impl_Binding_impl_Binding)]
  unfold sortBinding
  simp only
  rw [dec_t (by first | trivial | rfl), cond_true]
def c_impl_composed : SC := (.seq (.reg [⟨(some 2), none, (.boxv 28 1 (.t 0))⟩, ⟨(some 3), none, (.boxv 28 1 (.t 1))⟩, ⟨(some 4), none, (.alloc 28 [.nil])⟩, ⟨(some 5), none, (.mv (.c (.bool false)))⟩]) (.seq (.reg [⟨(some 14), none, (.build [.nil] [])⟩, ⟨(some 6), none, (.alloc 28 [.nil])⟩, ⟨none, none, (.store 1 (.t 6) (.t 14))⟩]) (.seq (.seq (.reg [⟨(some 15), none, (.faddr 0 (.t 2))⟩, ⟨(some 16), none, (.load false 1 (.t 15))⟩, ⟨(some 17), none, (.len false (.t 16))⟩, ⟨(some 18), none, (.mv (.c (.int .i64 0)))⟩]) (.block 0 (.loop [0, 0, 1, 1, 1, 0, 1, 0, 0, 0, 0, 0, 0, 0, 0, 0, 1, 1, 1, 0, 0, 0, 0, 0, 0, 0, 0, 0, 0, 0, 0, 0, 0, 0, 0, 0, 0, 0, 0, 0, 0, 0, 0, 0, 0, 0, 0, 0, 0, 0, 0, 0, 0, 0, 0, 0, 0, 0, 0, 0, 0, 0, 0, 0, 0, 0, 0, 0, 0, 0, 0, 0, 0, 0, 0, 0, 0] (.seq (.reg [⟨(some 19), none, (.bin .lss false (.t 18) (.t 17))⟩]) (.seq (.cond (.t 19) .skip (.exit 0)) (.seq (.block 1 (.seq (.reg [⟨(some 20), none, (.iaddr 3 (.t 16) (.t 18))⟩, ⟨(some 21), none, (.load true 3 (.t 20))⟩, ⟨(some 8), none, (.alloc 67 [(.str ⟨#[]⟩), (.str ⟨#[]⟩), .nil])⟩, ⟨none, none, (.store 3 (.t 8) (.t 21))⟩]) (.seq (.reg [⟨(some 22), none, (.load true 1 (.t 3))⟩, ⟨(some 23), none, (.faddr 1 (.t 8))⟩, ⟨(some 24), none, (.load true 2 (.t 23))⟩, ⟨(some 25), none, (.call 53 [(.t 22), (.t 24)])⟩, ⟨(some 9), none, (.alloc 33 [(.str ⟨#[]⟩), .nil])⟩, ⟨none, none, (.store 2 (.t 9) (.t 25))⟩]) (.seq (.reg [⟨(some 26), none, (.faddr 0 (.t 9))⟩, ⟨(some 27), none, (.load false 1 (.t 26))⟩, ⟨(some 28), none, (.faddr 0 (.t 8))⟩, ⟨(some 29), none, (.load false 1 (.t 28))⟩, ⟨(some 30), none, (.bin .neq false (.t 27) (.t 29))⟩]) (.cond (.t 30) (.reg [⟨(some 31), none, (.faddr 0 (.t 6))⟩, ⟨(some 32), none, (.load false 1 (.t 31))⟩, ⟨(some 33), none, (.faddr 0 (.t 8))⟩, ⟨(some 34), none, (.load false 1 (.t 33))⟩, ⟨(some 35), none, (.load true 2 (.t 9))⟩, ⟨(some 36), none, (.build [(.str ⟨#[]⟩), (.str ⟨#[]⟩), .nil] [(0, (1, (.t 34))), (1, (2, (.t 35)))])⟩, ⟨(some 37), none, (.mkrow 67 3 [(.str ⟨#[]⟩), (.str ⟨#[]⟩), .nil] 1 [(0, (.t 36))])⟩, ⟨(some 38), none, (.append 67 3 56 [(.str ⟨#[]⟩), (.str ⟨#[]⟩), .nil] (.t 32) (.t 37))⟩, ⟨(some 39), none, (.faddr 0 (.t 6))⟩, ⟨none, none, (.store 1 (.t 39) (.t 38))⟩]) .skip))))) (.reg [⟨(some 40), none, (.bin .add false (.t 18) (.c (.int .i64 1)))⟩, ⟨(some 18), none, (.mv (.t 40))⟩]))))))) (.seq (.seq (.reg [⟨(some 41), none, (.faddr 0 (.t 3))⟩, ⟨(some 42), none, (.load false 1 (.t 41))⟩, ⟨(some 43), none, (.len false (.t 42))⟩, ⟨(some 44), none, (.mv (.c (.int .i64 0)))⟩]) (.block 2 (.loop [0, 0, 1, 0, 1, 0, 1, 0, 0, 0, 0, 0, 0, 0, 0, 0, 0, 0, 0, 0, 0, 0, 0, 0, 0, 0, 0, 0, 0, 0, 0, 0, 0, 0, 0, 0, 0, 0, 0, 0, 0, 0, 1, 1, 1, 0, 0, 0, 0, 0, 0, 0, 0, 0, 0, 0, 0, 0, 0, 0, 0, 0, 0, 0, 0, 0, 0, 0, 0, 0, 0, 0, 0, 0, 0, 0, 0] (.seq (.reg [⟨(some 45), none, (.bin .lss false (.t 44) (.t 43))⟩]) (.seq (.cond (.t 45) .skip (.exit 2)) (.seq (.block 3 (.seq (.reg [⟨(some 46), none, (.iaddr 3 (.t 42) (.t 44))⟩, ⟨(some 47), none, (.load true 3 (.t 46))⟩, ⟨(some 11), none, (.alloc 67 [(.str ⟨#[]⟩), (.str ⟨#[]⟩), .nil])⟩, ⟨none, none, (.store 3 (.t 11) (.t 47))⟩]) (.seq (.reg [⟨(some 49), none, (.load true 1 (.t 2))⟩, ⟨(some 50), none, (.faddr 0 (.t 11))⟩, ⟨(some 51), none, (.load false 1 (.t 50))⟩, ⟨(some 52), none, (.call 55 [(.t 49), (.t 51)])⟩, ⟨(some 48), none, (.mv (.t 52))⟩, ⟨(some 53), none, (.ext (.t 48) 0)⟩, ⟨(some 54), none, (.ext (.t 48) 1)⟩, ⟨(some 12), none, (.alloc 33 [(.str ⟨#[]⟩), .nil])⟩, ⟨none, none, (.store 2 (.t 12) (.t 53))⟩, ⟨(some 13), none, (.mv (.t 54))⟩]) (.seq (.reg [⟨(some 55), none, (.mv (.t 13))⟩, ⟨(some 56), none, (.un .not (.t 55))⟩]) (.cond (.t 56) (.dreg [[], [0], [], [2], [], [4], [5, 4], [3, 2, 6, 5, 4], [7, 3, 2, 6, 5, 4], [1, 0, 8, 7, 3, 2, 6, 5, 4], [0, 1, 2, 3, 4, 5, 6, 7, 8, 9], [10, 0, 1, 2, 3, 4, 5, 6, 7, 8, 9]] [⟨(some 57), none, (.faddr 0 (.t 6))⟩, ⟨(some 58), none, (.load false 1 (.t 57))⟩, ⟨(some 59), none, (.faddr 0 (.t 11))⟩, ⟨(some 60), none, (.load false 1 (.t 59))⟩, ⟨(some 61), none, (.faddr 1 (.t 11))⟩, ⟨(some 62), none, (.load true 2 (.t 61))⟩, ⟨(some 63), none, (.call 56 [(.t 62)])⟩, ⟨(some 64), none, (.build [(.str ⟨#[]⟩), (.str ⟨#[]⟩), .nil] [(0, (1, (.t 60))), (1, (2, (.t 63)))])⟩, ⟨(some 65), none, (.mkrow 67 3 [(.str ⟨#[]⟩), (.str ⟨#[]⟩), .nil] 1 [(0, (.t 64))])⟩, ⟨(some 66), none, (.append 67 3 56 [(.str ⟨#[]⟩), (.str ⟨#[]⟩), .nil] (.t 58) (.t 65))⟩, ⟨(some 67), none, (.faddr 0 (.t 6))⟩, ⟨none, none, (.store 1 (.t 67) (.t 66))⟩]) .skip))))) (.reg [⟨(some 68), none, (.bin .add false (.t 44) (.c (.int .i64 1)))⟩, ⟨(some 44), none, (.mv (.t 68))⟩]))))))) (.seq (.reg [⟨(some 69), none, (.faddr 0 (.t 6))⟩, ⟨(some 70), none, (.load false 1 (.t 69))⟩, ⟨(some 71), none, (.call 57 [(.t 70), (.c (.fn 58 []))])⟩]) (.seq (.seq (.reg [⟨(some 72), none, (.load true 1 (.t 6))⟩, ⟨(some 73), none, (.call 60 [(.t 72)])⟩, ⟨(some 74), none, (.un .not (.t 73))⟩]) (.cond (.t 74) (.seq (.reg [⟨(some 75), none, (.build [.nil] [])⟩, ⟨none, none, (.store 1 (.t 4) (.t 75))⟩, ⟨(some 5), none, (.mv (.c (.bool false)))⟩]) .ret) .skip)) (.seq (.reg [⟨(some 76), none, (.load true 1 (.t 6))⟩, ⟨none, none, (.store 1 (.t 4) (.t 76))⟩, ⟨(some 5), none, (.mv (.c (.bool true)))⟩]) .ret)))))))
theorem k_impl_composed : codeOf Tryz.prog 34 = some ⟨77, c_impl_composed, [(.cell 4 true 1), (.tmp 5)]⟩ := by kernel_rfl
theorem m_impl_composed : modes 34 = ⟨[], .own [some (67, 3), none], none, false⟩ := by unfold modes; rfl

theorem Sb.look_names {u : Sb} (hu : u.ok = true) {t : Tm} (ht : t.valid = true) : (t.ap u.look).nodes ≤ 900 := by
  have h := Tm.ap_nodes (Sb.look_okF hu) t
  have h2 : t.nodes ≤ 30 := Tm.expr_nodes (by unfold Tm.expr; rw [ht]; rfl)
  omega
theorem valid_names {t : Tm} (h : t.valid = true) : t.names = true := by
  unfold Tm.valid at h; rw [Bool.and_eq_true] at h; exact h.2
theorem valid_nodes {t : Tm} (h : t.valid = true) : t.nodes ≤ 30 := Tm.expr_nodes (by unfold Tm.expr; rw [h]; rfl)
theorem ok_len {s : Sb} (h : s.ok = true) : s.binds.length ≤ 12 := by
  unfold Sb.ok at h; rw [Bool.and_eq_true, decide_eq_true_eq] at h; exact h.1
theorem cmpS_len (s u : Sb) : (cmpS s u).binds.length ≤ s.binds.length + u.binds.length := by
  unfold cmpS
  show ((cmpAll s u).mergeSort bdLe).length ≤ _
  rw [(List.mergeSort_perm _ _).length_eq]
  exact cmpAll_len s u
theorem cmpAll_mem {s u : Sb} (hs : s.ok = true) (hu : u.ok = true) {b : Bd} (h : b ∈ cmpAll s u) : b.term.nodes ≤ 900 := by
  unfold cmpAll at h
  rcases List.mem_append.1 h with h | h
  · obtain ⟨c, hc, _, e⟩ := cmpL1_mem h
    obtain ⟨k, hk, rfl⟩ := List.getElem_of_mem hc
    rw [e]
    exact Sb.look_names hu (bdOk_valid (Sb.ok_at hs hk))
  · have hc := (List.mem_filter.1 h).1
    obtain ⟨k, hk, rfl⟩ := List.getElem_of_mem hc
    have := valid_nodes (bdOk_valid (Sb.ok_at hu hk))
    omega
theorem cmpS_tame {s u : Sb} (hs : s.ok = true) (hu : u.ok = true) : (cmpS s u).tame := by
  have h1 := cmpS_len s u
  have h2 := ok_len hs
  have h3 := ok_len hu
  refine ⟨by omega, fun y hy => ?_⟩
  have := cmpAll_mem hs hu ((List.mergeSort_perm (cmpAll s u) bdLe).mem_iff.1 hy)
  omega
/-- What composing answers. -/
noncomputable def cmpOk (s u : Sb) : Bool := (cmpS s u).ok
noncomputable def cmpTo (s u : Sb) : Sb := bif cmpOk s u then cmpS s u else ⟨[]⟩
theorem snoc_map {α β : Type} (f : α → β) (xs : List α) (x : α) : xs.map f ++ [f x] = (xs ++ [x]).map f := by rw [List.map_append]; rfl
set_option maxHeartbeats 8000000 in
theorem composed_E (s u : Sb) (hs : s.ok = true) (hu : u.ok = true) (hts : s.tame) (htu : u.tame) : E 34 [s.sv, u.sv] [] = some (.tup [(cmpTo s u).osv, .bool (cmpOk s u)], (cmpTo s u).obs) := by
  have hsl := ok_len hs
  have hul := ok_len hu
  have hnil : (([] : List Bd) = []) = True := eq_self _
  refine E_walk k_impl_composed m_impl_composed (of_decide_eq_true rfl) ?_
  simp (disch := omega) only [c_impl_composed, go_sem, Nat.reduceAdd, Nat.reduceSub, Nat.reduceLT, Nat.reduceLeDiff, Nat.reduceEqDiff, Nat.reduceBEq, Nat.reduceBneDiff, Nat.reduceMul, ↓reduceIte, Int.reduceToNat, reduceCtorEq, Int.reduceNeg, Int.reduceAdd]
  refine go_loop (α := Int × List Bd) (fun a => ⟨slots 77 0 [(2, .ptr 0 0), (3, .ptr 1 0), (4, .ptr 2 0), (6, .ptr 3 0), (16, .arr (s.binds.map Bd.d)), (17, .int .i64 s.binds.length), (18, .int .i64 a.1)], (if a.2 = [] then [.box 28 [.arr (s.binds.map Bd.d)], .box 28 [.arr (u.binds.map Bd.d)], .box 28 [.nil], .box 28 [.nil]] else [.box 28 [.arr (s.binds.map Bd.d)], .box 28 [.arr (u.binds.map Bd.d)], .box 28 [.nil], .box 28 [.ref 4], .row 67 3 (a.2.map Bd.o)])⟩) (fun a => ∃ k : Nat, a.1 = k ∧ k ≤ s.binds.length ∧ a.2 ++ (s.binds.drop k).filterMap (cmpOne u) = cmpL1 s u ∧ a.2.length ≤ k) (fun a => s.binds.length - a.1.toNat) (0, []) ⟨0, rfl, Nat.zero_le _, by rw [List.drop_zero]; rfl, Nat.le_refl _⟩ (by simp (disch := omega) only [go_sem, Nat.reduceAdd, Nat.reduceSub, Nat.reduceLT, Nat.reduceLeDiff, Nat.reduceEqDiff, Nat.reduceBEq, Nat.reduceBneDiff, Nat.reduceMul, ↓reduceIte, Int.reduceToNat, reduceCtorEq, Int.reduceNeg, Int.reduceAdd, hnil, if_true]) ?_
  rintro ⟨i, acc⟩ ⟨k, hi, hk, hR, hal⟩
  dsimp only at hi hR hal
  have hni : i.toNat = k := by omega
  have hni1 : (i + 1).toNat = k + 1 := by omega
  rcases Nat.lt_or_ge k s.binds.length with hlt | hge
  · have hg := get_at Bd.d hlt
    rw [Bd.d_eq] at hg
    have hval := bdOk_valid (Sb.ok_at hs hlt)
    have hc := apply_E u hu htu s.binds[k].term (valid_names hval) (by have := valid_nodes hval; omega)
    rw [List.drop_eq_getElem_cons hlt, List.filterMap_cons] at hR
    cases hq : dec ((s.binds[k].term.ap u.look).name = s.binds[k].var) with
    | true =>
      have ho : cmpOne u s.binds[k] = none := by unfold cmpOne; rw [hq]; rfl
      rw [ho] at hR
      rcases List.eq_nil_or_concat acc with ha | ⟨ys, y, ha⟩
      · subst ha
        simp (disch := omega) only [go_sem, Nat.reduceAdd, Nat.reduceSub, Nat.reduceLT, Nat.reduceLeDiff, Nat.reduceEqDiff, Nat.reduceBEq, Nat.reduceBneDiff, Nat.reduceMul, ↓reduceIte, Int.reduceToNat, reduceCtorEq, Int.reduceNeg, Int.reduceAdd, hni, hg, hc, hq, hnil, if_true, Tm.osv, Tm.obs, m_impl_Substitution_apply, m_impl_Substitution_term, m_impl_copyTerm]
        exact ⟨(i + 1, []), ⟨k + 1, by dsimp only; omega, hlt, hR, by dsimp only; omega⟩, by dsimp only; omega, by first | trivial | rfl | simp only [hnil, if_true, and_self]⟩
      · have hne : (acc = []) = False := eq_false (by rw [ha]; simp)
        simp (disch := omega) only [go_sem, Nat.reduceAdd, Nat.reduceSub, Nat.reduceLT, Nat.reduceLeDiff, Nat.reduceEqDiff, Nat.reduceBEq, Nat.reduceBneDiff, Nat.reduceMul, ↓reduceIte, Int.reduceToNat, reduceCtorEq, Int.reduceNeg, Int.reduceAdd, hni, hg, hc, hq, hne, if_false, Tm.osv, Tm.obs, List.length_map, m_impl_Substitution_apply, m_impl_Substitution_term, m_impl_copyTerm]
        exact ⟨(i + 1, acc), ⟨k + 1, by dsimp only; omega, hlt, hR, by dsimp only; omega⟩, by dsimp only; omega, by first | trivial | rfl | simp only [hne, if_false, and_self]⟩
    | false =>
      have ho : cmpOne u s.binds[k] = some ⟨s.binds[k].var, s.binds[k].term.ap u.look⟩ := by unfold cmpOne; rw [hq]; rfl
      rw [ho] at hR
      obtain ⟨b, hb⟩ : ∃ b : Bd, b = ⟨s.binds[k].var, s.binds[k].term.ap u.look⟩ := ⟨_, rfl⟩
      have hbo : [OT.str s.binds[k].var, .str (s.binds[k].term.ap u.look).name, .ow ((s.binds[k].term.ap u.look).args.map Tm.o)] = b.o := by rw [hb]; rfl
      have hR' : (acc ++ [b]) ++ (s.binds.drop (k + 1)).filterMap (cmpOne u) = cmpL1 s u := by rw [hb, List.append_assoc]; exact hR
      have hnea : (acc ++ [b] = []) = False := eq_false (by simp)
      have hlen : (acc ++ [b]).length ≤ k + 1 := by rw [List.length_append]; simp only [List.length_cons, List.length_nil]; omega
      rcases List.eq_nil_or_concat acc with ha | ⟨ys, y, ha⟩
      · subst ha
        have hneb : ([b] = []) = False := eq_false (by simp)
        simp (disch := omega) only [go_sem, Nat.reduceAdd, Nat.reduceSub, Nat.reduceLT, Nat.reduceLeDiff, Nat.reduceEqDiff, Nat.reduceBEq, Nat.reduceBneDiff, Nat.reduceMul, ↓reduceIte, Int.reduceToNat, reduceCtorEq, Int.reduceNeg, Int.reduceAdd, hni, hg, hc, hq, hnil, if_true, Tm.osv, Tm.obs, m_impl_Substitution_apply, m_impl_Substitution_term, m_impl_copyTerm]
        exact ⟨(i + 1, [b]), ⟨k + 1, by dsimp only; omega, hlt, hR', by simp⟩, by dsimp only; omega, by simp only [hneb, if_false, ← hbo, List.map_cons, List.map_nil, and_self]⟩
      · have hne : (acc = []) = False := eq_false (by rw [ha]; simp)
        simp (disch := omega) only [go_sem, Nat.reduceAdd, Nat.reduceSub, Nat.reduceLT, Nat.reduceLeDiff, Nat.reduceEqDiff, Nat.reduceBEq, Nat.reduceBneDiff, Nat.reduceMul, ↓reduceIte, Int.reduceToNat, reduceCtorEq, Int.reduceNeg, Int.reduceAdd, hni, hg, hc, hq, hne, if_false, Tm.osv, Tm.obs, List.length_map, m_impl_Substitution_apply, m_impl_Substitution_term, m_impl_copyTerm]
        exact ⟨(i + 1, acc ++ [b]), ⟨k + 1, by dsimp only; omega, hlt, hR', by dsimp only; omega⟩, by dsimp only; omega, by simp only [hnea, if_false, ← hbo, List.map_append, List.map_cons, List.map_nil, and_self]⟩
  rw [List.drop_eq_nil_of_le hge, List.filterMap_nil, List.append_nil] at hR
  subst hR
  have hl1 : (cmpL1 s u).length ≤ 12 := by omega
  have htame := cmpS_tame hs hu
  have hvalid := isValidSubstitution_E (cmpS s u) htame
  have hnd := cmpAll_nodup (Sb.ok_up hs) (Sb.ok_up hu)
  have hcl := cmpAll_len s u
  have hsort := sortB_E (cmpAll s u) (by omega) hnd
  have hsn := sortB_nil
  have hosv : (cmpS s u).sv = .agg [.arr (((cmpAll s u).mergeSort bdLe).map Bd.d)] := rfl
  rw [hosv] at hvalid
  have hor : ((cmpL1 s u = []) = True) ∨ ((cmpL1 s u = []) = False) := by
    by_cases h : cmpL1 s u = []
    · exact .inl (eq_true h)
    · exact .inr (eq_false h)
  rcases hor with hE | hE
  all_goals
    simp (disch := omega) only [go_sem, Nat.reduceAdd, Nat.reduceSub, Nat.reduceLT, Nat.reduceLeDiff, Nat.reduceEqDiff, Nat.reduceBEq, Nat.reduceBneDiff, Nat.reduceMul, ↓reduceIte, Int.reduceToNat, reduceCtorEq, Int.reduceNeg, Int.reduceAdd, hni, hE, if_true, if_false]
    refine go_loop (α := Int × List Bd) (fun a => ⟨slots 77 0 [(2, .ptr 0 0), (4, .ptr 1 0), (6, .ptr 2 0), (42, .arr (u.binds.map Bd.d)), (43, .int .i64 u.binds.length), (44, .int .i64 a.1)], (if a.2 = [] then [.box 28 [.arr (s.binds.map Bd.d)], .box 28 [.nil], .box 28 [.nil]] else [.box 28 [.arr (s.binds.map Bd.d)], .box 28 [.nil], .box 28 [.ref 3], .row 67 3 (a.2.map Bd.o)])⟩) (fun a => ∃ k : Nat, a.1 = k ∧ k ≤ u.binds.length ∧ a.2 ++ (u.binds.drop k).filter (fun b => !hitB s.binds b.var) = cmpAll s u ∧ a.2.length ≤ 12 + k) (fun a => u.binds.length - a.1.toNat) (0, cmpL1 s u) ⟨0, rfl, Nat.zero_le _, by rw [List.drop_zero]; rfl, by dsimp only; omega⟩ (by simp (disch := omega) only [go_sem, Nat.reduceAdd, Nat.reduceSub, Nat.reduceLT, Nat.reduceLeDiff, Nat.reduceEqDiff, Nat.reduceBEq, Nat.reduceBneDiff, Nat.reduceMul, ↓reduceIte, Int.reduceToNat, reduceCtorEq, Int.reduceNeg, Int.reduceAdd, hE, if_true, if_false]) ?_
    rintro ⟨i, acc⟩ ⟨k, hi, hk, hR, hal⟩
    dsimp only at hi hR hal
    have hni : i.toNat = k := by omega
    have hni1 : (i + 1).toNat = k + 1 := by omega
    rcases Nat.lt_or_ge k u.binds.length with hlt | hge
    · have hg := get_at Bd.d hlt
      rw [Bd.d_eq] at hg
      have hval := bdOk_valid (Sb.ok_at hu hlt)
      have hc := copyTerm_E u.binds[k].term (by have := valid_nodes hval; omega)
      rw [List.drop_eq_getElem_cons hlt, List.filter_cons] at hR
      cases hh : hitB s.binds u.binds[k].var with
      | true =>
        have hq := term_E_yes s hs u.binds[k].var (by omega) hh (hitB_lt hh)
        rw [hh, if_neg (by simp)] at hR
        rcases List.eq_nil_or_concat acc with ha | ⟨ys, y, ha⟩
        · subst ha
          simp (disch := omega) only [go_sem, Nat.reduceAdd, Nat.reduceSub, Nat.reduceLT, Nat.reduceLeDiff, Nat.reduceEqDiff, Nat.reduceBEq, Nat.reduceBneDiff, Nat.reduceMul, ↓reduceIte, Int.reduceToNat, reduceCtorEq, Int.reduceNeg, Int.reduceAdd, hni, hg, hc, hq, hnil, if_true, Tm.osv, Tm.obs, m_impl_Substitution_apply, m_impl_Substitution_term, m_impl_copyTerm]
          exact ⟨(i + 1, []), ⟨k + 1, by dsimp only; omega, hlt, hR, by simp⟩, by dsimp only; omega, by first | trivial | rfl | simp only [hnil, if_true, and_self]⟩
        · have hne : (acc = []) = False := eq_false (by rw [ha]; simp)
          simp (disch := omega) only [go_sem, Nat.reduceAdd, Nat.reduceSub, Nat.reduceLT, Nat.reduceLeDiff, Nat.reduceEqDiff, Nat.reduceBEq, Nat.reduceBneDiff, Nat.reduceMul, ↓reduceIte, Int.reduceToNat, reduceCtorEq, Int.reduceNeg, Int.reduceAdd, hni, hg, hc, hq, hne, if_false, Tm.osv, Tm.obs, List.length_map, m_impl_Substitution_apply, m_impl_Substitution_term, m_impl_copyTerm]
          exact ⟨(i + 1, acc), ⟨k + 1, by dsimp only; omega, hlt, hR, by dsimp only; omega⟩, by dsimp only; omega, by first | trivial | rfl | simp only [hne, if_false, and_self]⟩
      | false =>
        have hq := term_E_no s hs u.binds[k].var (by omega) hh
        rw [hh, if_pos (by simp)] at hR
        have hbo : [OT.str u.binds[k].var, .str u.binds[k].term.name, .ow (u.binds[k].term.args.map Tm.o)] = u.binds[k].o := rfl
        have hR' : (acc ++ [u.binds[k]]) ++ (u.binds.drop (k + 1)).filter (fun b => !hitB s.binds b.var) = cmpAll s u := by rw [List.append_assoc]; exact hR
        have hnea : (acc ++ [u.binds[k]] = []) = False := eq_false (by simp)
        have hlen : (acc ++ [u.binds[k]]).length ≤ 12 + (k + 1) := by rw [List.length_append]; simp only [List.length_cons, List.length_nil]; omega
        rcases List.eq_nil_or_concat acc with ha | ⟨ys, y, ha⟩
        · subst ha
          have hneb : ([u.binds[k]] = []) = False := eq_false (by simp)
          simp (disch := omega) only [go_sem, Nat.reduceAdd, Nat.reduceSub, Nat.reduceLT, Nat.reduceLeDiff, Nat.reduceEqDiff, Nat.reduceBEq, Nat.reduceBneDiff, Nat.reduceMul, ↓reduceIte, Int.reduceToNat, reduceCtorEq, Int.reduceNeg, Int.reduceAdd, hni, hg, hc, hq, hnil, if_true, Tm.osv, Tm.obs, m_impl_Substitution_apply, m_impl_Substitution_term, m_impl_copyTerm]
          exact ⟨(i + 1, [u.binds[k]]), ⟨k + 1, by dsimp only; omega, hlt, hR', by simp; omega⟩, by dsimp only; omega, by simp only [hneb, if_false, ← hbo, List.map_cons, List.map_nil, and_self]⟩
        · have hne : (acc = []) = False := eq_false (by rw [ha]; simp)
          simp (disch := omega) only [go_sem, Nat.reduceAdd, Nat.reduceSub, Nat.reduceLT, Nat.reduceLeDiff, Nat.reduceEqDiff, Nat.reduceBEq, Nat.reduceBneDiff, Nat.reduceMul, ↓reduceIte, Int.reduceToNat, reduceCtorEq, Int.reduceNeg, Int.reduceAdd, hni, hg, hc, hq, hne, if_false, Tm.osv, Tm.obs, List.length_map, m_impl_Substitution_apply, m_impl_Substitution_term, m_impl_copyTerm]
          exact ⟨(i + 1, acc ++ [u.binds[k]]), ⟨k + 1, by dsimp only; omega, hlt, hR', by dsimp only; omega⟩, by dsimp only; omega, by simp only [hnea, if_false, ← hbo, List.map_append, List.map_cons, List.map_nil, and_self]⟩
    · rw [List.drop_eq_nil_of_le hge, List.filter_nil, List.append_nil] at hR
      subst hR
      unfold cmpTo
      cases hok : cmpOk s u with
      | false =>
        have hok' : (cmpS s u).ok = false := hok
        rw [hok'] at hvalid
        simp only [cond_false]
        rcases List.eq_nil_or_concat (cmpAll s u) with ha | ⟨ys, y, ha⟩
        · have hz : (cmpAll s u = []) = True := eq_true ha
          rw [ha, List.mergeSort_nil, List.map_nil] at hvalid
          simp (disch := omega) only [go_sem, Nat.reduceAdd, Nat.reduceSub, Nat.reduceLT, Nat.reduceLeDiff, Nat.reduceEqDiff, Nat.reduceBEq, Nat.reduceBneDiff, Nat.reduceMul, ↓reduceIte, Int.reduceToNat, reduceCtorEq, Int.reduceNeg, Int.reduceAdd, hni, hz, if_true, hsn, hvalid, m_impl_IsValidSubstitution, m_slices_SortFunc_impl_Binding_impl_Binding]
          try rfl
        · have hz : (cmpAll s u = []) = False := eq_false (by rw [ha]; simp)
          simp (disch := omega) only [go_sem, Nat.reduceAdd, Nat.reduceSub, Nat.reduceLT, Nat.reduceLeDiff, Nat.reduceEqDiff, Nat.reduceBEq, Nat.reduceBneDiff, Nat.reduceMul, ↓reduceIte, Int.reduceToNat, reduceCtorEq, Int.reduceNeg, Int.reduceAdd, hni, hz, if_false, hsort, hvalid, Bd.erss, Bd.fus, m_impl_IsValidSubstitution, m_slices_SortFunc_impl_Binding_impl_Binding]
          try rfl
      | true =>
        have hok' : (cmpS s u).ok = true := hok
        rw [hok'] at hvalid
        simp only [cond_true]
        rcases List.eq_nil_or_concat (cmpAll s u) with ha | ⟨ys, y, ha⟩
        · have hz : (cmpAll s u = []) = True := eq_true ha
          have hcs : cmpS s u = ⟨[]⟩ := by unfold cmpS; rw [ha, List.mergeSort_nil]
          rw [hcs]
          rw [ha, List.mergeSort_nil, List.map_nil] at hvalid
          simp (disch := omega) only [go_sem, Nat.reduceAdd, Nat.reduceSub, Nat.reduceLT, Nat.reduceLeDiff, Nat.reduceEqDiff, Nat.reduceBEq, Nat.reduceBneDiff, Nat.reduceMul, ↓reduceIte, Int.reduceToNat, reduceCtorEq, Int.reduceNeg, Int.reduceAdd, hni, hz, if_true, hsn, hvalid, m_impl_IsValidSubstitution, m_slices_SortFunc_impl_Binding_impl_Binding]
          try rfl
        · have hz : (cmpAll s u = []) = False := eq_false (by rw [ha]; simp)
          simp (disch := omega) only [go_sem, Nat.reduceAdd, Nat.reduceSub, Nat.reduceLT, Nat.reduceLeDiff, Nat.reduceEqDiff, Nat.reduceBEq, Nat.reduceBneDiff, Nat.reduceMul, ↓reduceIte, Int.reduceToNat, reduceCtorEq, Int.reduceNeg, Int.reduceAdd, hni, hz, if_false, hsort, hvalid, Bd.erss, Bd.fus, m_impl_IsValidSubstitution, m_slices_SortFunc_impl_Binding_impl_Binding]
          try rfl
end Go.Proofs.YtjafnijgkjjadaaGreat

set_option maxRecDepth 100000
set_option linter.unusedSimpArgs false
set_option linter.unusedVariables false
namespace Go.Proofs.YtjafnijgkjjadaaGreat
open Go.RowKit

def c_spec_l4Put : SC := (.seq (.reg [⟨(some 3), none, (.boxv 28 1 (.t 0))⟩, ⟨(some 5), none, (.boxv 33 2 (.t 2))⟩, ⟨(some 6), none, (.alloc 28 [.nil])⟩]) (.seq (.seq (.reg [⟨(some 9), none, (.faddr 0 (.t 5))⟩, ⟨(some 10), none, (.load false 1 (.t 9))⟩, ⟨(some 11), none, (.mv (.t 1))⟩, ⟨(some 12), none, (.bin .eql false (.t 10) (.t 11))⟩]) (.cond (.t 12) (.seq (.reg [⟨(some 13), none, (.load true 1 (.t 3))⟩, ⟨none, none, (.store 1 (.t 6) (.t 13))⟩]) .ret) .skip)) (.seq (.reg [⟨(some 7), none, (.mv (.c (.int .i64 0)))⟩]) (.seq (.block 0 (.loop [0, 1, 0, 1, 0, 1, 1, 1, 0, 0, 0, 0, 0, 0, 0, 0, 0, 0, 0, 0, 0, 0, 0, 0, 0, 0, 0, 0, 0, 0, 0, 0, 0, 0, 0, 0, 0, 0, 0, 0, 0, 0, 0, 0, 0, 0, 0, 0, 0, 0, 0] (.seq (.seq (.reg [⟨(some 14), none, (.mv (.t 7))⟩, ⟨(some 15), none, (.faddr 0 (.t 3))⟩, ⟨(some 16), none, (.load false 1 (.t 15))⟩, ⟨(some 17), none, (.len false (.t 16))⟩, ⟨(some 18), none, (.bin .lss false (.t 14) (.t 17))⟩, ⟨(some 19), none, (.mv (.t 18))⟩, ⟨(some 20), (some (19, true)), (.faddr 0 (.t 3))⟩, ⟨(some 21), (some (19, true)), (.load false 1 (.t 20))⟩, ⟨(some 22), (some (19, true)), (.mv (.t 7))⟩, ⟨(some 23), (some (19, true)), (.iaddr 3 (.t 21) (.t 22))⟩, ⟨(some 24), (some (19, true)), (.faddr 0 (.t 23))⟩, ⟨(some 25), (some (19, true)), (.load false 1 (.t 24))⟩, ⟨(some 26), (some (19, true)), (.mv (.t 1))⟩, ⟨(some 27), (some (19, true)), (.bin .lss false (.t 25) (.t 26))⟩, ⟨(some 28), none, (.pick (.t 19) (.t 27) (.c (.bool false)))⟩]) (.cond (.t 28) .skip (.exit 0))) (.block 1 (.reg [⟨(some 29), none, (.mv (.t 7))⟩, ⟨(some 30), none, (.bin .add false (.t 29) (.c (.int .i64 1)))⟩, ⟨(some 7), none, (.mv (.t 30))⟩]))))) (.seq (.reg [⟨(some 31), none, (.mkrow 67 3 [(.str ⟨#[]⟩), (.str ⟨#[]⟩), .nil] 0 [])⟩, ⟨(some 32), none, (.faddr 0 (.t 3))⟩, ⟨(some 33), none, (.load false 1 (.t 32))⟩, ⟨(some 34), none, (.mv (.t 7))⟩, ⟨(some 35), none, (.slice false 3 (.t 33) none (some (.t 34)))⟩, ⟨(some 36), none, (.append 67 3 56 [(.str ⟨#[]⟩), (.str ⟨#[]⟩), .nil] (.t 31) (.t 35))⟩, ⟨(some 8), none, (.mv (.t 36))⟩]) (.seq (.reg [⟨(some 37), none, (.mv (.t 8))⟩, ⟨(some 38), none, (.mv (.t 1))⟩, ⟨(some 39), none, (.load true 2 (.t 5))⟩, ⟨(some 40), none, (.call 74 [(.t 39)])⟩, ⟨(some 41), none, (.build [(.str ⟨#[]⟩), (.str ⟨#[]⟩), .nil] [(0, (1, (.t 38))), (1, (2, (.t 40)))])⟩, ⟨(some 42), none, (.mkrow 67 3 [(.str ⟨#[]⟩), (.str ⟨#[]⟩), .nil] 1 [(0, (.t 41))])⟩, ⟨(some 43), none, (.append 67 3 56 [(.str ⟨#[]⟩), (.str ⟨#[]⟩), .nil] (.t 37) (.t 42))⟩, ⟨(some 8), none, (.mv (.t 43))⟩]) (.seq (.reg [⟨(some 44), none, (.mv (.t 8))⟩, ⟨(some 45), none, (.faddr 0 (.t 3))⟩, ⟨(some 46), none, (.load false 1 (.t 45))⟩, ⟨(some 47), none, (.mv (.t 7))⟩, ⟨(some 48), none, (.slice false 3 (.t 46) (some (.t 47)) none)⟩, ⟨(some 49), none, (.append 67 3 56 [(.str ⟨#[]⟩), (.str ⟨#[]⟩), .nil] (.t 44) (.t 48))⟩, ⟨(some 50), none, (.build [.nil] [(0, (1, (.t 49)))])⟩, ⟨none, none, (.store 1 (.t 6) (.t 50))⟩]) .ret)))))))
theorem k_spec_l4Put : codeOf Tryz.prog 67 = some ⟨51, c_spec_l4Put, [(.cell 6 true 1)]⟩ := by kernel_rfl
theorem m_spec_l4Put : modes 67 = ⟨[], .frz, none, false⟩ := by unfold modes; rfl

def c_spec_l4Compose : SC := (.seq (.reg [⟨(some 2), none, (.boxv 28 1 (.t 0))⟩, ⟨(some 3), none, (.boxv 28 1 (.t 1))⟩, ⟨(some 4), none, (.alloc 28 [.nil])⟩]) (.seq (.reg [⟨(some 8), none, (.build [.nil] [])⟩, ⟨(some 5), none, (.alloc 28 [.nil])⟩, ⟨none, none, (.store 1 (.t 5) (.t 8))⟩]) (.seq (.seq (.reg [⟨(some 6), none, (.mv (.c (.int .i64 0)))⟩]) (.block 0 (.loop [0, 0, 1, 1, 1, 1, 1, 0, 0, 0, 0, 0, 0, 0, 0, 0, 0, 0, 0, 0, 0, 0, 0, 0, 0, 0, 0, 0, 0, 0, 0, 0, 0, 0, 0, 0, 0, 0, 0, 0, 0, 0, 0, 0, 0, 0, 0, 0, 0, 0, 0, 0, 0, 0, 0, 0, 0, 0, 0, 0, 0, 0, 0] (.seq (.seq (.reg [⟨(some 9), none, (.mv (.t 6))⟩, ⟨(some 10), none, (.faddr 0 (.t 2))⟩, ⟨(some 11), none, (.load false 1 (.t 10))⟩, ⟨(some 12), none, (.len false (.t 11))⟩, ⟨(some 13), none, (.bin .lss false (.t 9) (.t 12))⟩]) (.cond (.t 13) .skip (.exit 0))) (.seq (.block 1 (.dreg [[], [], [1], [], [2, 1, 3], [4, 2, 1, 3], [5, 4, 2, 1, 3], [], [], [8], [], [9, 8, 10], [11, 9, 8, 10], [12, 11, 9, 8, 10], [7, 13, 12, 11, 9, 8, 10], [0, 6, 5, 4, 2, 1, 3, 14, 7, 13, 12, 11, 9, 8, 10], [15, 0, 6, 5, 4, 2, 1, 3, 14, 7, 13, 12, 11, 9, 8, 10]] [⟨(some 16), none, (.load true 1 (.t 5))⟩, ⟨(some 17), none, (.faddr 0 (.t 2))⟩, ⟨(some 18), none, (.load false 1 (.t 17))⟩, ⟨(some 19), none, (.mv (.t 6))⟩, ⟨(some 20), none, (.iaddr 3 (.t 18) (.t 19))⟩, ⟨(some 21), none, (.faddr 0 (.t 20))⟩, ⟨(some 22), none, (.load false 1 (.t 21))⟩, ⟨(some 23), none, (.load true 1 (.t 3))⟩, ⟨(some 24), none, (.faddr 0 (.t 2))⟩, ⟨(some 25), none, (.load false 1 (.t 24))⟩, ⟨(some 26), none, (.mv (.t 6))⟩, ⟨(some 27), none, (.iaddr 3 (.t 25) (.t 26))⟩, ⟨(some 28), none, (.faddr 1 (.t 27))⟩, ⟨(some 29), none, (.load true 2 (.t 28))⟩, ⟨(some 30), none, (.call 50 [(.t 23), (.t 29)])⟩, ⟨(some 31), none, (.call 67 [(.t 16), (.t 22), (.t 30)])⟩, ⟨none, none, (.store 1 (.t 5) (.t 31))⟩])) (.reg [⟨(some 14), none, (.mv (.t 6))⟩, ⟨(some 15), none, (.bin .add false (.t 14) (.c (.int .i64 1)))⟩, ⟨(some 6), none, (.mv (.t 15))⟩])))))) (.seq (.seq (.reg [⟨(some 7), none, (.mv (.c (.int .i64 0)))⟩]) (.block 2 (.loop [0, 0, 1, 1, 1, 1, 0, 1, 0, 0, 0, 0, 0, 0, 0, 0, 0, 0, 0, 0, 0, 0, 0, 0, 0, 0, 0, 0, 0, 0, 0, 0, 0, 0, 0, 0, 0, 0, 0, 0, 0, 0, 0, 0, 0, 0, 0, 0, 0, 0, 0, 0, 0, 0, 0, 0, 0, 0, 0, 0, 0, 0, 0] (.seq (.seq (.reg [⟨(some 32), none, (.mv (.t 7))⟩, ⟨(some 33), none, (.faddr 0 (.t 3))⟩, ⟨(some 34), none, (.load false 1 (.t 33))⟩, ⟨(some 35), none, (.len false (.t 34))⟩, ⟨(some 36), none, (.bin .lss false (.t 32) (.t 35))⟩]) (.cond (.t 36) .skip (.exit 2))) (.seq (.block 3 (.seq (.dreg [[], [], [1], [], [2, 1, 3], [4, 2, 1, 3], [5, 4, 2, 1, 3], [0, 6, 5, 4, 2, 1, 3], [7, 0, 6, 5, 4, 2, 1, 3]] [⟨(some 39), none, (.load true 1 (.t 2))⟩, ⟨(some 40), none, (.faddr 0 (.t 3))⟩, ⟨(some 41), none, (.load false 1 (.t 40))⟩, ⟨(some 42), none, (.mv (.t 7))⟩, ⟨(some 43), none, (.iaddr 3 (.t 41) (.t 42))⟩, ⟨(some 44), none, (.faddr 0 (.t 43))⟩, ⟨(some 45), none, (.load false 1 (.t 44))⟩, ⟨(some 46), none, (.call 73 [(.t 39), (.t 45)])⟩, ⟨(some 47), none, (.bin .lss false (.t 46) (.c (.int .i64 0)))⟩]) (.cond (.t 47) (.dreg [[], [], [1], [], [2, 1, 3], [4, 2, 1, 3], [5, 4, 2, 1, 3], [], [7], [], [8, 7, 9], [10, 8, 7, 9], [11, 10, 8, 7, 9], [0, 6, 5, 4, 2, 1, 3, 12, 11, 10, 8, 7, 9], [13, 0, 6, 5, 4, 2, 1, 3, 12, 11, 10, 8, 7, 9]] [⟨(some 48), none, (.load true 1 (.t 5))⟩, ⟨(some 49), none, (.faddr 0 (.t 3))⟩, ⟨(some 50), none, (.load false 1 (.t 49))⟩, ⟨(some 51), none, (.mv (.t 7))⟩, ⟨(some 52), none, (.iaddr 3 (.t 50) (.t 51))⟩, ⟨(some 53), none, (.faddr 0 (.t 52))⟩, ⟨(some 54), none, (.load false 1 (.t 53))⟩, ⟨(some 55), none, (.faddr 0 (.t 3))⟩, ⟨(some 56), none, (.load false 1 (.t 55))⟩, ⟨(some 57), none, (.mv (.t 7))⟩, ⟨(some 58), none, (.iaddr 3 (.t 56) (.t 57))⟩, ⟨(some 59), none, (.faddr 1 (.t 58))⟩, ⟨(some 60), none, (.load true 2 (.t 59))⟩, ⟨(some 61), none, (.call 67 [(.t 48), (.t 54), (.t 60)])⟩, ⟨none, none, (.store 1 (.t 5) (.t 61))⟩]) .skip))) (.reg [⟨(some 37), none, (.mv (.t 7))⟩, ⟨(some 38), none, (.bin .add false (.t 37) (.c (.int .i64 1)))⟩, ⟨(some 7), none, (.mv (.t 38))⟩])))))) (.seq (.reg [⟨(some 62), none, (.load true 1 (.t 5))⟩, ⟨none, none, (.store 1 (.t 4) (.t 62))⟩]) .ret)))))
theorem k_spec_l4Compose : codeOf Tryz.prog 51 = some ⟨63, c_spec_l4Compose, [(.cell 4 true 1)]⟩ := by kernel_rfl
theorem m_spec_l4Compose : modes 51 = ⟨[], .frz, none, false⟩ := by unfold modes; rfl

def c_spec_ComposeSubstitutions : SC := (.seq (.reg [⟨(some 2), none, (.boxv 28 1 (.t 0))⟩, ⟨(some 3), none, (.boxv 28 1 (.t 1))⟩, ⟨(some 4), none, (.alloc 28 [.nil])⟩, ⟨(some 5), none, (.mv (.c (.bool false)))⟩]) (.seq (.seq (.reg [⟨(some 7), none, (.load true 1 (.t 2))⟩, ⟨(some 8), none, (.call 49 [(.t 7)])⟩, ⟨(some 9), none, (.un .not (.t 8))⟩, ⟨(some 10), none, (.mv (.t 9))⟩, ⟨(some 11), (some (10, false)), (.load true 1 (.t 3))⟩, ⟨(some 12), (some (10, false)), (.call 49 [(.t 11)])⟩, ⟨(some 13), (some (10, false)), (.un .not (.t 12))⟩, ⟨(some 14), none, (.pick (.t 10) (.c (.bool true)) (.t 13))⟩]) (.cond (.t 14) (.seq (.reg [⟨(some 15), none, (.build [.nil] [])⟩, ⟨none, none, (.store 1 (.t 4) (.t 15))⟩, ⟨(some 5), none, (.mv (.c (.bool false)))⟩]) .ret) .skip)) (.seq (.reg [⟨(some 16), none, (.load true 1 (.t 2))⟩, ⟨(some 17), none, (.load true 1 (.t 3))⟩, ⟨(some 18), none, (.call 51 [(.t 16), (.t 17)])⟩, ⟨(some 6), none, (.alloc 28 [.nil])⟩, ⟨none, none, (.store 1 (.t 6) (.t 18))⟩]) (.seq (.seq (.reg [⟨(some 19), none, (.load true 1 (.t 6))⟩, ⟨(some 20), none, (.call 49 [(.t 19)])⟩, ⟨(some 21), none, (.un .not (.t 20))⟩]) (.cond (.t 21) (.seq (.reg [⟨(some 22), none, (.build [.nil] [])⟩, ⟨none, none, (.store 1 (.t 4) (.t 22))⟩, ⟨(some 5), none, (.mv (.c (.bool false)))⟩]) .ret) .skip)) (.seq (.reg [⟨(some 23), none, (.load true 1 (.t 6))⟩, ⟨none, none, (.store 1 (.t 4) (.t 23))⟩, ⟨(some 5), none, (.mv (.c (.bool true)))⟩]) .ret)))))
theorem k_spec_ComposeSubstitutions : codeOf Tryz.prog 29 = some ⟨24, c_spec_ComposeSubstitutions, [(.cell 4 true 1), (.tmp 5)]⟩ := by kernel_rfl
theorem m_spec_ComposeSubstitutions : modes 29 = ⟨[], .frz, none, false⟩ := by unfold modes; rfl


/-- A binding of a term put into a substitution, unless the term is the variable. -/
noncomputable def Sb.put (x : Sb) (b : Bd) : Sb := bif dec (b.term.name = b.var) then x else ⟨insB x.binds b⟩
theorem Bd.ot_take (xs : List Bd) (k : Nat) : ((xs.map Bd.d).take k).map (fun x => x.map D.ot) = (xs.take k).map fun b => b.d.map D.ot := by
  rw [← List.map_take, List.map_map]; rfl
theorem Bd.ot_drop (xs : List Bd) (k : Nat) : ((xs.map Bd.d).drop k).map (fun x => x.map D.ot) = (xs.drop k).map fun b => b.d.map D.ot := by
  rw [← List.map_drop, List.map_map]; rfl
theorem Bd.al3 (xs : List Bd) : ((xs.map fun b => b.d.map D.ot).all fun l => l.length == 3) = true := by
  rw [List.all_map, List.all_eq_true]
  intro x _
  show ((x.d.map D.ot).length == 3) = true
  rw [Bd.d_eq]; rfl
theorem Bd.ald3 (xs : List Bd) : ((xs.map Bd.d).all fun l => l.length == 3) = true := by
  rw [List.all_map, List.all_eq_true]
  intro x _
  show (x.d.length == 3) = true
  rw [Bd.d_eq]; rfl
theorem Bd.dfu : ∀ xs : List Bd, OT.fullss (xs.map fun b => b.d.map D.ot) = true
  | [] => rfl
  | x :: xs => by rw [List.map_cons, Bd.d_eq]; simp [OT.fullss, OT.fulls, OT.full, D.ot, Bd.dfu xs]
theorem Bd.der : ∀ xs : List Bd, OT.erss (xs.map fun b => b.d.map D.ot) = xs.map Bd.d
  | [] => rfl
  | x :: xs => by rw [List.map_cons, List.map_cons, Bd.d_eq]; simp [OT.erss, OT.ers, OT.er, D.ot, Bd.der xs]
theorem lowI_drop {xs : List Bd} {n : ByteArray} {k : Nat} (h : k + lowI (xs.drop k) n = lowI xs n) (hk : k < xs.length) : (strLt xs[k].var n = true ∧ k + 1 + lowI (xs.drop (k + 1)) n = lowI xs n) ∨ (strLt xs[k].var n = false ∧ k = lowI xs n) := by
  rw [List.drop_eq_getElem_cons hk, lowI] at h
  cases hq : strLt xs[k].var n with
  | true => rw [hq] at h; simp only [cond_true, if_true] at h; exact .inl ⟨rfl, by omega⟩
  | false => rw [hq] at h; simp only [cond_false, Bool.false_eq_true, if_false] at h; exact .inr ⟨rfl, by omega⟩
set_option maxHeartbeats 8000000 in
theorem l4Put_E (x : Sb) (n : ByteArray) (t : Tm) (hl : x.binds.length ≤ 1048576) (ht : t.nodes ≤ 1099511627776) : E 67 [x.sv, .str n, t.sv] [] = some ((x.put ⟨n, t⟩).sv, []) := by
  have ho := l2Own_E t ht
  have e1 := Bd.ot_take x.binds (lowI x.binds n)
  have e2 := Bd.ot_drop x.binds (lowI x.binds n)
  have e3 := Bd.al3 (x.binds.take (lowI x.binds n))
  have e4 := Bd.al3 (x.binds.drop (lowI x.binds n))
  have e5 := Bd.ald3 x.binds
  have l1 := lowI_le n x.binds
  have e6 : (x.binds.map Bd.d).take x.binds.length = x.binds.map Bd.d := List.take_of_length_le (by simp)
  have e7 : (x.binds.take (lowI x.binds n)).length = lowI x.binds n := by rw [List.length_take]; omega
  have e8 : (x.binds.drop (lowI x.binds n)).length = x.binds.length - lowI x.binds n := List.length_drop
  have hin := insB_low ⟨n, t⟩ x.binds
  have hx2 : (x.binds.take (lowI x.binds n)).map (fun b => b.d.map D.ot) ++ [[OT.str n, .str t.name, .sh (t.args.map Tm.d)]] ++ (x.binds.drop (lowI x.binds n)).map (fun b => b.d.map D.ot) = (insB x.binds ⟨n, t⟩).map fun b => b.d.map D.ot := by
    rw [hin]
    simp only [List.map_append, List.map_cons, List.append_assoc, List.cons_append, List.nil_append]
    rw [Bd.d_eq]; rfl
  have hfu := Bd.dfu (insB x.binds ⟨n, t⟩)
  have her := Bd.der (insB x.binds ⟨n, t⟩)
  have hsv : (Sb.mk (insB x.binds ⟨n, t⟩)).sv = .agg [.arr ((insB x.binds ⟨n, t⟩).map Bd.d)] := rfl
  unfold Sb.put
  cases hq : dec (t.name = n) with
  | true =>
    simp only [hq, cond_true]
    refine E_walk k_spec_l4Put m_spec_l4Put (of_decide_eq_true rfl) ?_
    simp (disch := omega) only [c_spec_l4Put, go_sem, Nat.reduceAdd, Nat.reduceSub, Nat.reduceLT, Nat.reduceLeDiff, Nat.reduceEqDiff, Nat.reduceBEq, Nat.reduceBneDiff, Nat.reduceMul, ↓reduceIte, Int.reduceToNat, reduceCtorEq, Int.reduceNeg, Int.reduceAdd, hq]
    try rfl
  | false =>
    simp only [hq, cond_false]
    rw [hsv]
    refine E_walk k_spec_l4Put m_spec_l4Put (of_decide_eq_true rfl) ?_
    simp (disch := omega) only [c_spec_l4Put, go_sem, Nat.reduceAdd, Nat.reduceSub, Nat.reduceLT, Nat.reduceLeDiff, Nat.reduceEqDiff, Nat.reduceBEq, Nat.reduceBneDiff, Nat.reduceMul, ↓reduceIte, Int.reduceToNat, reduceCtorEq, Int.reduceNeg, Int.reduceAdd, hq]
    refine go_loop (α := Int) (fun a => ⟨slots 51 0 [(1, .str n), (3, .ptr 0 0), (5, .ptr 1 0), (6, .ptr 2 0), (7, .int .i64 a)], [.box 28 [.arr (x.binds.map Bd.d)], .box 33 [.str t.name, .arr (t.args.map Tm.d)], .box 28 [.nil]]⟩) (fun a => ∃ k : Nat, a = k ∧ k ≤ (x.binds).length ∧ k + lowI (x.binds.drop k) n = lowI x.binds n) (fun a => (x.binds).length - (a).toNat) 0 ⟨0, rfl, Nat.zero_le _, by rw [List.drop_zero, Nat.zero_add]⟩ (by simp (disch := omega) only [go_sem, Nat.reduceAdd, Nat.reduceSub, Nat.reduceLT, Nat.reduceLeDiff, Nat.reduceEqDiff, Nat.reduceBEq, Nat.reduceBneDiff, Nat.reduceMul, ↓reduceIte, Int.reduceToNat, reduceCtorEq, Int.reduceNeg, Int.reduceAdd]) ?_
    rintro i ⟨k, hi, hk, hR⟩
    have hni : i.toNat = k := by omega
    have hni1 : (i + 1).toNat = k + 1 := by omega
    rcases Nat.lt_or_ge k (x.binds).length with hlt | hge
    · have hg := get_at Bd.d hlt
      rw [Bd.d_eq] at hg
      rcases lowI_drop hR hlt with ⟨q, hR'⟩ | ⟨q, hk'⟩
      · simp (disch := omega) only [go_sem, Nat.reduceAdd, Nat.reduceSub, Nat.reduceLT, Nat.reduceLeDiff, Nat.reduceEqDiff, Nat.reduceBEq, Nat.reduceBneDiff, Nat.reduceMul, ↓reduceIte, Int.reduceToNat, reduceCtorEq, Int.reduceNeg, Int.reduceAdd, hni, hg, q]
        exact ⟨i + 1, ⟨k + 1, by omega, hlt, hR'⟩, by omega, by first | trivial | rfl⟩
      · subst hk'
        simp (disch := omega) only [go_sem, Nat.reduceAdd, Nat.reduceSub, Nat.reduceLT, Nat.reduceLeDiff, Nat.reduceEqDiff, Nat.reduceBEq, Nat.reduceBneDiff, Nat.reduceMul, ↓reduceIte, Int.reduceToNat, reduceCtorEq, Int.reduceNeg, Int.reduceAdd, hni, hg, q, ho, e1, e2, e3, e4, e5, e6, e7, e8, hx2, hfu, her, List.length_append, Int.toNat_zero, m_spec_l2Own]
    · obtain rfl : k = x.binds.length := by omega
      have hk' : x.binds.length = lowI x.binds n := by rw [← hR, List.drop_eq_nil_of_le (Nat.le_refl _)]; simp [lowI]
      rw [hk'] at hni
      simp (disch := omega) only [go_sem, Nat.reduceAdd, Nat.reduceSub, Nat.reduceLT, Nat.reduceLeDiff, Nat.reduceEqDiff, Nat.reduceBEq, Nat.reduceBneDiff, Nat.reduceMul, ↓reduceIte, Int.reduceToNat, reduceCtorEq, Int.reduceNeg, Int.reduceAdd, hni, ho, e1, e2, e3, e4, e5, e6, e7, e8, hx2, hfu, her, List.length_append, Int.toNat_zero, m_spec_l2Own]
theorem insB_len (b : Bd) (xs : List Bd) : (insB xs b).length = xs.length + 1 := by rw [(insB_perm b xs).length_eq]; rfl
theorem put_one (u : Sb) (acc : List Bd) (b : Bd) : (Sb.mk acc).put ⟨b.var, b.term.ap u.look⟩ = ⟨insL acc (match cmpOne u b with | some c => [c] | none => [])⟩ := by
  unfold Sb.put cmpOne
  cases dec ((b.term.ap u.look).name = b.var) with
  | true => rfl
  | false => rfl
theorem put_two {acc : List Bd} {b : Bd} (h : bdOk b = true) : (Sb.mk acc).put b = ⟨insB acc b⟩ := by
  unfold bdOk at h
  rw [Bool.and_eq_true, Bool.and_eq_true, Bool.not_eq_true'] at h
  unfold Sb.put
  rw [h.2.2]; rfl
set_option maxHeartbeats 8000000 in
theorem l4Compose_E (s u : Sb) (hs : s.ok = true) (hu : u.ok = true) (hts : s.tame) (htu : u.tame) : E 51 [s.sv, u.sv] [] = some ((cmpS s u).sv, []) := by
  have hsl := ok_len hs
  have hul := ok_len hu
  have hend : insL [] (cmpAll s u) = (cmpS s u).binds := insL_sort (cmpAll_nodup (Sb.ok_up hs) (Sb.ok_up hu))
  have h00 : ((0 : Int) = 0) = True := eq_self _
  have hsv : (cmpS s u).sv = .agg [.arr ((cmpS s u).binds.map Bd.d)] := rfl
  rw [hsv]
  refine E_walk k_spec_l4Compose m_spec_l4Compose (of_decide_eq_true rfl) ?_
  simp (disch := omega) only [c_spec_l4Compose, go_sem, Nat.reduceAdd, Nat.reduceSub, Nat.reduceLT, Nat.reduceLeDiff, Nat.reduceEqDiff, Nat.reduceBEq, Nat.reduceBneDiff, Nat.reduceMul, ↓reduceIte, Int.reduceToNat, reduceCtorEq, Int.reduceNeg, Int.reduceAdd]
  refine go_loop (α := Int × List Bd) (fun a => ⟨slots 63 0 [(2, .ptr 0 0), (3, .ptr 1 0), (4, .ptr 2 0), (5, .ptr 3 0), (6, .int .i64 a.1)], [.box 28 [.arr (s.binds.map Bd.d)], .box 28 [.arr (u.binds.map Bd.d)], .box 28 [.nil], .box 28 [if a.1 = 0 then .nil else .arr (a.2.map Bd.d)]]⟩) (fun a => ∃ k : Nat, a.1 = k ∧ k ≤ s.binds.length ∧ insL a.2 ((s.binds.drop k).filterMap (cmpOne u)) = insL [] (cmpL1 s u) ∧ a.2.length ≤ k ∧ (k = 0 → a.2 = [])) (fun a => s.binds.length - a.1.toNat) (0, []) ⟨0, rfl, Nat.zero_le _, by rw [List.drop_zero]; rfl, Nat.le_refl _, fun _ => rfl⟩ (by simp (disch := omega) only [go_sem, Nat.reduceAdd, Nat.reduceSub, Nat.reduceLT, Nat.reduceLeDiff, Nat.reduceEqDiff, Nat.reduceBEq, Nat.reduceBneDiff, Nat.reduceMul, ↓reduceIte, Int.reduceToNat, reduceCtorEq, Int.reduceNeg, Int.reduceAdd, h00, if_true]) ?_
  rintro ⟨i, acc⟩ ⟨k, hi, hk, hR, hal, hz⟩
  dsimp only at hi hR hal hz
  have hni : i.toNat = k := by omega
  have hni1 : (i + 1).toNat = k + 1 := by omega
  have hi1 : (i + 1 = 0) = False := eq_false (by omega)
  rcases Nat.lt_or_ge k s.binds.length with hlt | hge
  · have hg := get_at Bd.d hlt
    rw [Bd.d_eq] at hg
    have hval := bdOk_valid (Sb.ok_at hs hlt)
    have hc := l4Apply_E u hu htu s.binds[k].term (by have := valid_nodes hval; omega)
    have hn9 := Sb.look_names hu hval
    have hp := l4Put_E ⟨acc⟩ s.binds[k].var (s.binds[k].term.ap u.look) (by show acc.length ≤ _; omega) (by omega)
    rw [put_one] at hp
    obtain ⟨acc2, ha2⟩ : ∃ acc2, acc2 = insL acc (match cmpOne u s.binds[k] with | some c => [c] | none => []) := ⟨_, rfl⟩
    rw [← ha2] at hp
    have hp : E 67 [.agg [.arr (acc.map Bd.d)], .str s.binds[k].var, (s.binds[k].term.ap u.look).sv] [] = some (.agg [.arr (acc2.map Bd.d)], []) := hp
    have hl2 : acc2.length ≤ k + 1 := by
      rw [ha2, (insL_perm _ acc).length_eq, List.length_append]
      cases cmpOne u s.binds[k] with
      | none => simp only [List.length_nil]; omega
      | some c => simp only [List.length_cons, List.length_nil]; omega
    have hR2 : insL acc2 ((s.binds.drop (k + 1)).filterMap (cmpOne u)) = insL [] (cmpL1 s u) := by
      rw [← hR, List.drop_eq_getElem_cons hlt, List.filterMap_cons, ha2]
      cases cmpOne u s.binds[k] with
      | none => rfl
      | some c => rfl
    rcases Nat.eq_zero_or_pos k with h0 | h0
    · have hi0 : (i = 0) = True := eq_true (by omega)
      obtain rfl := hz h0
      rw [List.map_nil] at hp
      simp (disch := omega) only [go_sem, Nat.reduceAdd, Nat.reduceSub, Nat.reduceLT, Nat.reduceLeDiff, Nat.reduceEqDiff, Nat.reduceBEq, Nat.reduceBneDiff, Nat.reduceMul, ↓reduceIte, Int.reduceToNat, reduceCtorEq, Int.reduceNeg, Int.reduceAdd, hni, hg, hc, hp, hi0, if_true, m_spec_l4Apply, m_spec_l4Put, m_spec_l4Find]
      exact ⟨(i + 1, acc2), ⟨k + 1, by dsimp only; omega, hlt, hR2, by dsimp only; omega, by intro h; omega⟩, by dsimp only; omega, by simp only [hi1, if_false, and_self]⟩
    · have hi0 : (i = 0) = False := eq_false (by omega)
      simp (disch := omega) only [go_sem, Nat.reduceAdd, Nat.reduceSub, Nat.reduceLT, Nat.reduceLeDiff, Nat.reduceEqDiff, Nat.reduceBEq, Nat.reduceBneDiff, Nat.reduceMul, ↓reduceIte, Int.reduceToNat, reduceCtorEq, Int.reduceNeg, Int.reduceAdd, hni, hg, hc, hp, hi0, if_false, m_spec_l4Apply, m_spec_l4Put, m_spec_l4Find]
      exact ⟨(i + 1, acc2), ⟨k + 1, by dsimp only; omega, hlt, hR2, by dsimp only; omega, by intro h; omega⟩, by dsimp only; omega, by simp only [hi1, if_false, and_self]⟩
  rw [List.drop_eq_nil_of_le hge, List.filterMap_nil] at hR
  have hR : acc = insL [] (cmpL1 s u) := hR
  have hor : ∃ fl : Bool, (if i = 0 then SV.nil else SV.arr (acc.map Bd.d)) = (bif fl then SV.arr (acc.map Bd.d) else SV.nil) ∧ (fl = false → acc = []) := by
    rcases Nat.eq_zero_or_pos k with h0 | h0
    · exact ⟨false, by rw [if_pos (by omega)]; rfl, fun _ => hz h0⟩
    · exact ⟨true, by rw [if_neg (by omega)]; rfl, fun h => by cases h⟩
  obtain ⟨fl, hfl, hfz⟩ := hor
  rw [hfl]
  simp (disch := omega) only [go_sem, Nat.reduceAdd, Nat.reduceSub, Nat.reduceLT, Nat.reduceLeDiff, Nat.reduceEqDiff, Nat.reduceBEq, Nat.reduceBneDiff, Nat.reduceMul, ↓reduceIte, Int.reduceToNat, reduceCtorEq, Int.reduceNeg, Int.reduceAdd, hni]
  refine go_loop (α := Int × Bool × List Bd) (fun a => ⟨slots 63 0 [(2, .ptr 0 0), (3, .ptr 1 0), (4, .ptr 2 0), (5, .ptr 3 0), (7, .int .i64 a.1)], [.box 28 [.arr (s.binds.map Bd.d)], .box 28 [.arr (u.binds.map Bd.d)], .box 28 [.nil], .box 28 [bif a.2.1 then .arr (a.2.2.map Bd.d) else .nil]]⟩) (fun a => ∃ k : Nat, a.1 = k ∧ k ≤ u.binds.length ∧ insL a.2.2 ((u.binds.drop k).filter (fun b => !hitB s.binds b.var)) = insL [] (cmpAll s u) ∧ a.2.2.length ≤ 12 + k ∧ (a.2.1 = false → a.2.2 = [])) (fun a => u.binds.length - a.1.toNat) (0, fl, acc) ⟨0, rfl, Nat.zero_le _, by rw [List.drop_zero, hR, ← insL_app]; rfl, by dsimp only; omega, hfz⟩ (by cases fl <;> (simp (disch := omega) only [go_sem, Nat.reduceAdd, Nat.reduceSub, Nat.reduceLT, Nat.reduceLeDiff, Nat.reduceEqDiff, Nat.reduceBEq, Nat.reduceBneDiff, Nat.reduceMul, ↓reduceIte, Int.reduceToNat, reduceCtorEq, Int.reduceNeg, Int.reduceAdd])) ?_
  clear hR hfl hfz hal hz
  rintro ⟨i, fl, acc⟩ ⟨k, hi, hk, hR, hal, hfz⟩
  dsimp only at hi hR hal hfz
  have hni : i.toNat = k := by omega
  have hni1 : (i + 1).toNat = k + 1 := by omega
  rcases Nat.lt_or_ge k u.binds.length with hlt | hge
  · have hg := get_at Bd.d hlt
    rw [Bd.d_eq] at hg
    have hbok := Sb.ok_at hu hlt
    have hval := bdOk_valid hbok
    have hf := l4Find_E s u.binds[k].var (by omega)
    rw [idxP_low (Sb.ok_up hs)] at hf
    rw [List.drop_eq_getElem_cons hlt, List.filter_cons] at hR
    cases hh : hitB s.binds u.binds[k].var with
    | true =>
      rw [hh, if_pos rfl] at hf
      rw [hh, if_neg (by simp)] at hR
      cases fl with
      | false =>
        simp (disch := omega) only [go_sem, Nat.reduceAdd, Nat.reduceSub, Nat.reduceLT, Nat.reduceLeDiff, Nat.reduceEqDiff, Nat.reduceBEq, Nat.reduceBneDiff, Nat.reduceMul, ↓reduceIte, Int.reduceToNat, reduceCtorEq, Int.reduceNeg, Int.reduceAdd, hni, hg, hf, m_spec_l4Apply, m_spec_l4Put, m_spec_l4Find]
        exact ⟨(i + 1, false, acc), ⟨k + 1, by dsimp only; omega, hlt, hR, by dsimp only; omega, hfz⟩, by dsimp only; omega, by first | trivial | rfl⟩
      | true =>
        simp (disch := omega) only [go_sem, Nat.reduceAdd, Nat.reduceSub, Nat.reduceLT, Nat.reduceLeDiff, Nat.reduceEqDiff, Nat.reduceBEq, Nat.reduceBneDiff, Nat.reduceMul, ↓reduceIte, Int.reduceToNat, reduceCtorEq, Int.reduceNeg, Int.reduceAdd, hni, hg, hf, m_spec_l4Apply, m_spec_l4Put, m_spec_l4Find]
        exact ⟨(i + 1, true, acc), ⟨k + 1, by dsimp only; omega, hlt, hR, by dsimp only; omega, hfz⟩, by dsimp only; omega, by first | trivial | rfl⟩
    | false =>
      rw [hh, if_neg (by simp)] at hf
      rw [hh, if_pos (by simp)] at hR
      have hp := l4Put_E ⟨acc⟩ u.binds[k].var u.binds[k].term (by show acc.length ≤ _; omega) (by have := valid_nodes hval; omega)
      have hpt : (Sb.mk acc).put ⟨u.binds[k].var, u.binds[k].term⟩ = ⟨insB acc u.binds[k]⟩ := put_two hbok
      rw [hpt] at hp
      have hp : E 67 [.agg [.arr (acc.map Bd.d)], .str u.binds[k].var, u.binds[k].term.sv] [] = some (.agg [.arr ((insB acc u.binds[k]).map Bd.d)], []) := hp
      have hl2 : (insB acc u.binds[k]).length ≤ 12 + (k + 1) := by rw [insB_len]; omega
      cases fl with
      | false =>
        obtain rfl := hfz rfl
        rw [List.map_nil] at hp
        simp (disch := omega) only [go_sem, Nat.reduceAdd, Nat.reduceSub, Nat.reduceLT, Nat.reduceLeDiff, Nat.reduceEqDiff, Nat.reduceBEq, Nat.reduceBneDiff, Nat.reduceMul, ↓reduceIte, Int.reduceToNat, reduceCtorEq, Int.reduceNeg, Int.reduceAdd, hni, hg, hf, hp, m_spec_l4Apply, m_spec_l4Put, m_spec_l4Find]
        exact ⟨(i + 1, true, insB [] u.binds[k]), ⟨k + 1, by dsimp only; omega, hlt, hR, hl2, by intro h; cases h⟩, by dsimp only; omega, by first | trivial | rfl⟩
      | true =>
        simp (disch := omega) only [go_sem, Nat.reduceAdd, Nat.reduceSub, Nat.reduceLT, Nat.reduceLeDiff, Nat.reduceEqDiff, Nat.reduceBEq, Nat.reduceBneDiff, Nat.reduceMul, ↓reduceIte, Int.reduceToNat, reduceCtorEq, Int.reduceNeg, Int.reduceAdd, hni, hg, hf, hp, m_spec_l4Apply, m_spec_l4Put, m_spec_l4Find]
        exact ⟨(i + 1, true, insB acc u.binds[k]), ⟨k + 1, by dsimp only; omega, hlt, hR, hl2, by intro h; cases h⟩, by dsimp only; omega, by first | trivial | rfl⟩
  · rw [List.drop_eq_nil_of_le hge, List.filter_nil] at hR
    have hR : acc = insL [] (cmpAll s u) := hR
    rw [← hend, ← hR]
    cases fl with
    | false =>
      obtain rfl := hfz rfl
      simp (disch := omega) only [go_sem, Nat.reduceAdd, Nat.reduceSub, Nat.reduceLT, Nat.reduceLeDiff, Nat.reduceEqDiff, Nat.reduceBEq, Nat.reduceBneDiff, Nat.reduceMul, ↓reduceIte, Int.reduceToNat, reduceCtorEq, Int.reduceNeg, Int.reduceAdd, hni, List.map_nil]
    | true =>
      simp (disch := omega) only [go_sem, Nat.reduceAdd, Nat.reduceSub, Nat.reduceLT, Nat.reduceLeDiff, Nat.reduceEqDiff, Nat.reduceBEq, Nat.reduceBneDiff, Nat.reduceMul, ↓reduceIte, Int.reduceToNat, reduceCtorEq, Int.reduceNeg, Int.reduceAdd, hni, List.map_nil]
/-- What ComposeSubstitutions answers. -/
noncomputable def cmOk (s u : Sb) : Bool := s.ok && (u.ok && cmpOk s u)
noncomputable def cmTo (s u : Sb) : Sb := bif cmOk s u then cmpS s u else ⟨[]⟩
set_option maxHeartbeats 4000000 in
theorem specCompose_E (s u : Sb) (hts : s.tame) (htu : u.tame) : E 29 [s.sv, u.sv] [] = some (.tup [(cmTo s u).sv, .bool (cmOk s u)], []) := by
  have h1 := l4Good_E s hts
  have h2 := l4Good_E u htu
  have z1 : (Sb.mk []).osv = .agg [.ref 0] := rfl
  have z2 : (Sb.mk []).obs = [.row 67 3 []] := rfl
  have z3 : (Sb.mk []).sv = .agg [.arr []] := rfl
  cases hs : s.ok with
  | false =>
    have e : cmOk s u = false := by unfold cmOk; rw [hs]; rfl
    rw [hs] at h1
    unfold cmTo
    rw [e]
    simp only [cond_false, z1, z2, z3]
    refine E_walk k_spec_ComposeSubstitutions m_spec_ComposeSubstitutions (of_decide_eq_true rfl) ?_
    simp (disch := omega) only [c_spec_ComposeSubstitutions, go_sem, Nat.reduceAdd, Nat.reduceSub, Nat.reduceLT, Nat.reduceLeDiff, Nat.reduceEqDiff, Nat.reduceBEq, Nat.reduceBneDiff, Nat.reduceMul, ↓reduceIte, Int.reduceToNat, reduceCtorEq, Int.reduceNeg, Int.reduceAdd, h1, h2, m_spec_l4Good]
  | true =>
    rw [hs] at h1
    cases hu : u.ok with
    | false =>
      have e : cmOk s u = false := by unfold cmOk; rw [hu, Bool.false_and, Bool.and_false]
      rw [hu] at h2
      unfold cmTo
      rw [e]
      simp only [cond_false, z1, z2, z3]
      refine E_walk k_spec_ComposeSubstitutions m_spec_ComposeSubstitutions (of_decide_eq_true rfl) ?_
      simp (disch := omega) only [c_spec_ComposeSubstitutions, go_sem, Nat.reduceAdd, Nat.reduceSub, Nat.reduceLT, Nat.reduceLeDiff, Nat.reduceEqDiff, Nat.reduceBEq, Nat.reduceBneDiff, Nat.reduceMul, ↓reduceIte, Int.reduceToNat, reduceCtorEq, Int.reduceNeg, Int.reduceAdd, h1, h2, m_spec_l4Good]
    | true =>
      rw [hu] at h2
      have e : cmOk s u = cmpOk s u := by unfold cmOk; rw [hs, hu]; rfl
      have h3 := l4Compose_E s u hs hu hts htu
      unfold cmTo
      rw [e]
      have h4 := l4Good_E (cmpS s u) (cmpS_tame hs hu)
      have z6 : (cmpS s u).sv = .agg [.arr ((cmpS s u).binds.map Bd.d)] := rfl
      have e2 : cmpOk s u = (cmpS s u).ok := rfl
      rw [← e2] at h4
      rw [z6] at h3 h4
      cases hq : cmpOk s u with
      | false =>
        rw [hq] at h4
        simp only [cond_false, z3]
        refine E_walk k_spec_ComposeSubstitutions m_spec_ComposeSubstitutions (of_decide_eq_true rfl) ?_
        simp (disch := omega) only [c_spec_ComposeSubstitutions, go_sem, Nat.reduceAdd, Nat.reduceSub, Nat.reduceLT, Nat.reduceLeDiff, Nat.reduceEqDiff, Nat.reduceBEq, Nat.reduceBneDiff, Nat.reduceMul, ↓reduceIte, Int.reduceToNat, reduceCtorEq, Int.reduceNeg, Int.reduceAdd, h1, h2, h3, h4, m_spec_l4Good, m_spec_l4Compose]
      | true =>
        rw [hq] at h4
        simp only [cond_true, z6]
        refine E_walk k_spec_ComposeSubstitutions m_spec_ComposeSubstitutions (of_decide_eq_true rfl) ?_
        simp (disch := omega) only [c_spec_ComposeSubstitutions, go_sem, Nat.reduceAdd, Nat.reduceSub, Nat.reduceLT, Nat.reduceLeDiff, Nat.reduceEqDiff, Nat.reduceBEq, Nat.reduceBneDiff, Nat.reduceMul, ↓reduceIte, Int.reduceToNat, reduceCtorEq, Int.reduceNeg, Int.reduceAdd, h1, h2, h3, h4, m_spec_l4Good, m_spec_l4Compose]
end Go.Proofs.YtjafnijgkjjadaaGreat

set_option maxRecDepth 100000
set_option linter.unusedSimpArgs false
set_option linter.unusedVariables false
namespace Go.Proofs.YtjafnijgkjjadaaGreat
open Go.RowKit

/-! Plain: the variables of a term, in the order of the text. -/
mutual
noncomputable def Tm.vs : Tm → List ByteArray
  | .mk name args => bif varB name then [name] else Tm.vsL args
noncomputable def Tm.vsL : List Tm → List ByteArray
  | [] => []
  | x :: xs => Tm.vs x ++ Tm.vsL xs
end
theorem Tm.vs_eq (x : Tm) : x.vs = bif varB x.name then [x.name] else Tm.vsL x.args := by
  obtain ⟨n, a⟩ := x
  rw [Tm.vs]; rfl
theorem Tm.vsL_len : ∀ xs : List Tm, (∀ x ∈ xs, x.vs.length ≤ x.nodes) → (Tm.vsL xs).length ≤ Tm.nodeS xs
  | [], _ => by simp [Tm.vsL]
  | x :: xs, h => by
    have h1 := h x (by simp)
    have h2 := Tm.vsL_len xs fun y hy => h y (by simp [hy])
    rw [Tm.vsL, Tm.nodeS, List.length_append]; omega
theorem Tm.vs_len (x : Tm) : x.vs.length ≤ x.nodes := by
  have h := Tm.vsL_len x.args fun y hy => Tm.vs_len y
  rw [Tm.vs_eq, Tm.nodes_eq]
  cases varB x.name with
  | true => simp
  | false => simp only [cond_false]; omega
termination_by SizeOf.sizeOf x
decreasing_by exact Tm.lt_of_mem hy
/-- A name put behind a list, unless it is there. -/
noncomputable def addU (l : List ByteArray) (n : ByteArray) : List ByteArray := bif dec (n ∈ l) then l else l ++ [n]
theorem addU_len (l : List ByteArray) (n : ByteArray) : (addU l n).length ≤ l.length + 1 := by
  unfold addU
  cases dec (n ∈ l) <;> simp
theorem addU_mem {l : List ByteArray} {n m : ByteArray} : m ∈ addU l n ↔ m ∈ l ∨ m = n := by
  unfold addU
  by_cases h : n ∈ l
  · rw [dec_t h, cond_true]
    exact ⟨.inl, fun h' => h'.elim id fun e => e ▸ h⟩
  · rw [dec_f h, cond_false]
    simp
theorem addU_nodup {l : List ByteArray} {n : ByteArray} (h : l.Nodup) : (addU l n).Nodup := by
  unfold addU
  by_cases k : n ∈ l
  · rw [dec_t k]; exact h
  · rw [dec_f k, cond_false, List.nodup_append]
    exact ⟨h, by simp, fun a ha b hb e => by simp at hb; subst hb; subst e; exact k ha⟩
noncomputable def addA (l ns : List ByteArray) : List ByteArray := ns.foldl addU l
theorem addA_len : ∀ (ns l : List ByteArray), (addA l ns).length ≤ l.length + ns.length
  | [], l => by simp [addA]
  | n :: ns, l => by
    have h := addA_len ns (addU l n)
    have h2 := addU_len l n
    simp only [addA, List.foldl_cons, List.length_cons] at h ⊢
    omega
theorem addA_mem : ∀ {ns l : List ByteArray} {m : ByteArray}, m ∈ addA l ns ↔ m ∈ l ∨ m ∈ ns
  | [], l, m => by simp [addA]
  | n :: ns, l, m => by
    have h := addA_mem (ns := ns) (l := addU l n) (m := m)
    simp only [addA, List.foldl_cons] at h ⊢
    rw [h, addU_mem]
    simp only [List.mem_cons]
    exact or_assoc
theorem addA_nodup : ∀ {ns l : List ByteArray}, l.Nodup → (addA l ns).Nodup
  | [], l, h => h
  | n :: ns, l, h => addA_nodup (ns := ns) (addU_nodup h)
theorem addA_app (l a b : List ByteArray) : addA l (a ++ b) = addA (addA l a) b := List.foldl_append
def c_slices_Index_string_string : SC := (.seq (.reg [⟨(some 4), none, (.mv (.c (.int .i64 0)))⟩]) (.seq (.seq (.reg [⟨(some 6), none, (.mv (.t 0))⟩, ⟨(some 7), none, (.len false (.t 6))⟩, ⟨(some 8), none, (.mv (.c (.int .i64 0)))⟩]) (.block 0 (.loop [1, 1, 0, 0, 0, 0, 0, 1, 1, 0, 0, 0, 0, 0, 0, 0, 0, 0, 0] (.seq (.reg [⟨(some 9), none, (.bin .lss false (.t 8) (.t 7))⟩]) (.seq (.cond (.t 9) .skip (.exit 0)) (.seq (.block 1 (.seq (.reg [⟨(some 10), none, (.mv (.t 8))⟩, ⟨(some 5), none, (.mv (.t 10))⟩]) (.seq (.reg [⟨(some 11), none, (.mv (.t 1))⟩, ⟨(some 12), none, (.mv (.t 0))⟩, ⟨(some 13), none, (.mv (.t 5))⟩, ⟨(some 14), none, (.iaddr 1 (.t 12) (.t 13))⟩, ⟨(some 15), none, (.load false 1 (.t 14))⟩, ⟨(some 16), none, (.bin .eql false (.t 11) (.t 15))⟩]) (.cond (.t 16) (.seq (.reg [⟨(some 17), none, (.mv (.t 5))⟩, ⟨(some 4), none, (.mv (.t 17))⟩]) .ret) .skip)))) (.reg [⟨(some 18), none, (.bin .add false (.t 8) (.c (.int .i64 1)))⟩, ⟨(some 8), none, (.mv (.t 18))⟩]))))))) (.seq (.reg [⟨(some 4), none, (.mv (.c (.int .i64 (-(0 + 1)))))⟩]) .ret)))
theorem k_slices_Index_string_string : codeOf Tryz.prog 105 = some ⟨19, c_slices_Index_string_string, [(.tmp 4)]⟩ := by kernel_rfl
theorem m_slices_Index_string_string : modes 105 = ⟨[], .asis, none, false⟩ := by unfold modes; rfl

def c_slices_Contains_string_string : SC := (.seq (.reg [⟨(some 4), none, (.mv (.c (.bool false)))⟩]) (.seq (.reg [⟨(some 5), none, (.mv (.t 0))⟩, ⟨(some 6), none, (.mv (.t 1))⟩, ⟨(some 7), none, (.call 105 [(.t 5), (.t 6)])⟩, ⟨(some 8), none, (.bin .geq false (.t 7) (.c (.int .i64 0)))⟩, ⟨(some 4), none, (.mv (.t 8))⟩]) .ret))
theorem k_slices_Contains_string_string : codeOf Tryz.prog 90 = some ⟨9, c_slices_Contains_string_string, [(.tmp 4)]⟩ := by kernel_rfl
theorem m_slices_Contains_string_string : modes 90 = ⟨[], .asis, none, false⟩ := by unfold modes; rfl

theorem indexS_E (xs : List ByteArray) (n : ByteArray) (hl : xs.length ≤ 1099511627776) : E 105 [.arr (xs.map fun s => [D.str s]), .str n] [] = some (.int .i64 (idxP (fun s => dec (n = s)) xs 0), []) := by
  refine E_walk k_slices_Index_string_string m_slices_Index_string_string (of_decide_eq_true rfl) ?_
  simp (disch := omega) only [c_slices_Index_string_string, go_sem, Nat.reduceAdd, Nat.reduceSub, Nat.reduceLT, Nat.reduceLeDiff, Nat.reduceEqDiff, Nat.reduceBEq, Nat.reduceBneDiff, Nat.reduceMul, ↓reduceIte, Int.reduceToNat, reduceCtorEq, Int.reduceNeg, Int.reduceAdd]
  refine go_loop (α := Int) (fun a => ⟨slots 19 0 [(0, .arr (xs.map fun s => [D.str s])), (1, .str n), (7, .int .i64 xs.length), (8, .int .i64 a)], []⟩) (fun a => ∃ k : Nat, a = k ∧ k ≤ (xs).length ∧ idxP (fun s => dec (n = s)) (xs.drop k) a = idxP (fun s => dec (n = s)) xs 0) (fun a => (xs).length - (a).toNat) 0 ⟨0, rfl, Nat.zero_le _, by rw [List.drop_zero]⟩ (by simp (disch := omega) only [go_sem, Nat.reduceAdd, Nat.reduceSub, Nat.reduceLT, Nat.reduceLeDiff, Nat.reduceEqDiff, Nat.reduceBEq, Nat.reduceBneDiff, Nat.reduceMul, ↓reduceIte, Int.reduceToNat, reduceCtorEq, Int.reduceNeg, Int.reduceAdd]) ?_
  rintro i ⟨k, hi, hk, hR⟩
  have hni : i.toNat = k := by omega
  have hni1 : (i + 1).toNat = k + 1 := by omega
  rcases Nat.lt_or_ge k (xs).length with hlt | hge
  · have hg := get_at (fun s => [D.str s]) hlt
    rw [List.drop_eq_getElem_cons hlt, idxP] at hR
    cases hp : dec (n = xs[k]) with
    | true =>
      rw [hp] at hR
      simp (disch := omega) only [go_sem, Nat.reduceAdd, Nat.reduceSub, Nat.reduceLT, Nat.reduceLeDiff, Nat.reduceEqDiff, Nat.reduceBEq, Nat.reduceBneDiff, Nat.reduceMul, ↓reduceIte, Int.reduceToNat, reduceCtorEq, Int.reduceNeg, Int.reduceAdd, hni, hg, hp]
      simpa using hR
    | false =>
      rw [hp] at hR
      simp (disch := omega) only [go_sem, Nat.reduceAdd, Nat.reduceSub, Nat.reduceLT, Nat.reduceLeDiff, Nat.reduceEqDiff, Nat.reduceBEq, Nat.reduceBneDiff, Nat.reduceMul, ↓reduceIte, Int.reduceToNat, reduceCtorEq, Int.reduceNeg, Int.reduceAdd, hni, hg, hp]
      exact ⟨i + 1, ⟨k + 1, by omega, hlt, by simpa using hR⟩, by omega, by first | trivial | rfl⟩
  · rw [List.drop_eq_nil_of_le hge, idxP] at hR
    simp (disch := omega) only [go_sem, Nat.reduceAdd, Nat.reduceSub, Nat.reduceLT, Nat.reduceLeDiff, Nat.reduceEqDiff, Nat.reduceBEq, Nat.reduceBneDiff, Nat.reduceMul, ↓reduceIte, Int.reduceToNat, reduceCtorEq, Int.reduceNeg, Int.reduceAdd, hni]
    exact hR
theorem containsS_E (xs : List ByteArray) (n : ByteArray) (hl : xs.length ≤ 1099511627776) : E 90 [.arr (xs.map fun s => [D.str s]), .str n] [] = some (.bool (dec (n ∈ xs)), []) := by
  have h := indexS_E xs n hl
  have e : dec (n ∈ xs) = dec (0 ≤ idxP (fun s => dec (n = s)) xs 0) := by
    rw [idxP_any]
    by_cases hm : n ∈ xs
    · rw [dec_t hm]
      exact (List.any_eq_true.2 ⟨n, hm, dec_t rfl⟩).symm
    · rw [dec_f hm]
      refine Eq.symm (Bool.eq_false_iff.2 fun h => ?_)
      obtain ⟨x, h1, h2⟩ := List.any_eq_true.1 h
      have e := dec_iff.1 h2
      subst e
      exact hm h1
  rw [e]
  refine E_walk k_slices_Contains_string_string m_slices_Contains_string_string (of_decide_eq_true rfl) ?_
  simp (disch := omega) only [c_slices_Contains_string_string, go_sem, Nat.reduceAdd, Nat.reduceSub, Nat.reduceLT, Nat.reduceLeDiff, Nat.reduceEqDiff, Nat.reduceBEq, Nat.reduceBneDiff, Nat.reduceMul, ↓reduceIte, Int.reduceToNat, reduceCtorEq, Int.reduceNeg, Int.reduceAdd, h, m_slices_Index_string_string]
theorem addA_grow : ∀ (ns l : List ByteArray), l.length ≤ (addA l ns).length
  | [], l => by simp [addA]
  | n :: ns, l => by
    have h := addA_grow ns (addU l n)
    have h2 : l.length ≤ (addU l n).length := by unfold addU; cases dec (n ∈ l) <;> simp
    simp only [addA, List.foldl_cons] at h ⊢
    omega
end Go.Proofs.YtjafnijgkjjadaaGreat

set_option maxRecDepth 100000
set_option linter.unusedSimpArgs false
set_option linter.unusedVariables false
namespace Go.Proofs.YtjafnijgkjjadaaGreat
open Go.RowKit

/-- A name put at its place in an ascending list. -/
noncomputable def insU : List ByteArray → ByteArray → List ByteArray
  | [], n => [n]
  | x :: xs, n => bif strLt x n then x :: insU xs n else bif dec (x = n) then x :: xs else n :: x :: xs
noncomputable def lowS : List ByteArray → ByteArray → Nat
  | [], _ => 0
  | x :: xs, n => bif strLt x n then lowS xs n + 1 else 0
theorem insU_mem : ∀ {xs : List ByteArray} {n m : ByteArray}, m ∈ insU xs n ↔ m ∈ xs ∨ m = n
  | [], n, m => by simp [insU]
  | x :: xs, n, m => by
    rw [insU]
    cases strLt x n with
    | true => rw [cond_true, List.mem_cons, insU_mem, List.mem_cons, or_assoc]
    | false =>
      rw [cond_false]
      by_cases h : x = n
      · rw [dec_t h, cond_true]
        exact ⟨.inl, fun h' => h'.elim id fun e => by subst e; subst h; simp⟩
      · rw [dec_f h, cond_false, List.mem_cons]
        exact or_comm
theorem insU_len : ∀ (xs : List ByteArray) (n : ByteArray), (insU xs n).length ≤ xs.length + 1
  | [], n => by simp [insU]
  | x :: xs, n => by
    have h := insU_len xs n
    rw [insU]
    cases strLt x n with
    | true => simp only [cond_true, List.length_cons]; omega
    | false =>
      rw [cond_false]
      cases dec (x = n) with
      | true => simp only [cond_true, List.length_cons]; omega
      | false => simp only [cond_false, List.length_cons]; omega
theorem lowS_le : ∀ (xs : List ByteArray) (n : ByteArray), lowS xs n ≤ xs.length
  | [], n => by simp [lowS]
  | x :: xs, n => by
    have h := lowS_le xs n
    rw [lowS]
    cases strLt x n with
    | true => simp only [cond_true, List.length_cons]; omega
    | false => simp only [cond_false, List.length_cons]; omega
/-- Where the name goes. -/
theorem insU_there : ∀ {xs : List ByteArray} {n : ByteArray} (h : lowS xs n < xs.length), xs[lowS xs n] = n → insU xs n = xs
  | [], n, h, _ => by simp at h
  | x :: xs, n, h, e => by
    rw [insU]
    cases hq : strLt x n with
    | true =>
      simp only [lowS, hq, cond_true, List.length_cons, List.getElem_cons_succ] at h e
      rw [cond_true, insU_there (by omega) e]
    | false =>
      simp only [lowS, hq, cond_false, List.getElem_cons_zero] at e
      rw [cond_false, dec_t e]; rfl
theorem insU_new : ∀ {xs : List ByteArray} {n : ByteArray}, (∀ h : lowS xs n < xs.length, ¬ xs[lowS xs n] = n) → insU xs n = xs.take (lowS xs n) ++ n :: xs.drop (lowS xs n)
  | [], n, _ => by simp [insU, lowS]
  | x :: xs, n, h => by
    rw [insU]
    cases hq : strLt x n with
    | true =>
      simp only [lowS, hq, cond_true, List.length_cons, List.getElem_cons_succ] at h ⊢
      rw [insU_new fun h' => h (by omega)]
      simp
    | false =>
      simp only [lowS, hq, cond_false, List.getElem_cons_zero] at h ⊢
      rw [dec_f (h (by simp))]
      simp
theorem lowS_drop {xs : List ByteArray} {n : ByteArray} {k : Nat} (h : k + lowS (xs.drop k) n = lowS xs n) (hk : k < xs.length) : (strLt xs[k] n = true ∧ k + 1 + lowS (xs.drop (k + 1)) n = lowS xs n) ∨ (strLt xs[k] n = false ∧ k = lowS xs n) := by
  rw [List.drop_eq_getElem_cons hk, lowS] at h
  cases hq : strLt xs[k] n with
  | true => rw [hq, cond_true] at h; exact .inl ⟨rfl, by omega⟩
  | false => rw [hq, cond_false] at h; exact .inr ⟨rfl, by omega⟩
theorem ot_take (xs : List ByteArray) (k : Nat) : ((xs.map fun s => [D.str s]).take k).map (fun x => x.map D.ot) = (xs.take k).map fun s => [OT.str s] := by
  rw [← List.map_take, List.map_map]; rfl
theorem ot_drop (xs : List ByteArray) (k : Nat) : ((xs.map fun s => [D.str s]).drop k).map (fun x => x.map D.ot) = (xs.drop k).map fun s => [OT.str s] := by
  rw [← List.map_drop, List.map_map]; rfl
theorem al_strs (xs : List ByteArray) : ((xs.map fun s => [OT.str s]).all fun l => l.length == 1) = true := by
  rw [List.all_map, List.all_eq_true]
  intro x _; rfl
theorem al_dstrs (xs : List ByteArray) : ((xs.map fun s => [D.str s]).all fun l => l.length == 1) = true := by
  rw [List.all_map, List.all_eq_true]
  intro x _; rfl
def c_spec_l2Put : SC := (.seq (.reg [⟨(some 4), none, (.mv (.c .nil))⟩]) (.seq (.reg [⟨(some 5), none, (.mv (.c (.int .i64 0)))⟩]) (.seq (.block 0 (.loop [1, 1, 0, 0, 0, 1, 0, 0, 0, 0, 0, 0, 0, 0, 0, 0, 0, 0, 0, 0, 0, 0, 0, 0, 0, 0, 0, 0, 0, 0, 0, 0, 0, 0, 0, 0, 0, 0, 0, 0, 0, 0, 0, 0, 0] (.seq (.seq (.reg [⟨(some 6), none, (.mv (.t 5))⟩, ⟨(some 7), none, (.mv (.t 0))⟩, ⟨(some 8), none, (.len false (.t 7))⟩, ⟨(some 9), none, (.bin .lss false (.t 6) (.t 8))⟩, ⟨(some 10), none, (.mv (.t 9))⟩, ⟨(some 11), (some (10, true)), (.mv (.t 0))⟩, ⟨(some 12), (some (10, true)), (.mv (.t 5))⟩, ⟨(some 13), (some (10, true)), (.iaddr 1 (.t 11) (.t 12))⟩, ⟨(some 14), (some (10, true)), (.load false 1 (.t 13))⟩, ⟨(some 15), (some (10, true)), (.mv (.t 1))⟩, ⟨(some 16), (some (10, true)), (.bin .lss false (.t 14) (.t 15))⟩, ⟨(some 17), none, (.pick (.t 10) (.t 16) (.c (.bool false)))⟩]) (.cond (.t 17) .skip (.exit 0))) (.block 1 (.reg [⟨(some 18), none, (.mv (.t 5))⟩, ⟨(some 19), none, (.bin .add false (.t 18) (.c (.int .i64 1)))⟩, ⟨(some 5), none, (.mv (.t 19))⟩]))))) (.seq (.seq (.reg [⟨(some 20), none, (.mv (.t 5))⟩, ⟨(some 21), none, (.mv (.t 0))⟩, ⟨(some 22), none, (.len false (.t 21))⟩, ⟨(some 23), none, (.bin .lss false (.t 20) (.t 22))⟩, ⟨(some 24), none, (.mv (.t 23))⟩, ⟨(some 25), (some (24, true)), (.mv (.t 0))⟩, ⟨(some 26), (some (24, true)), (.mv (.t 5))⟩, ⟨(some 27), (some (24, true)), (.iaddr 1 (.t 25) (.t 26))⟩, ⟨(some 28), (some (24, true)), (.load false 1 (.t 27))⟩, ⟨(some 29), (some (24, true)), (.mv (.t 1))⟩, ⟨(some 30), (some (24, true)), (.bin .eql false (.t 28) (.t 29))⟩, ⟨(some 31), none, (.pick (.t 24) (.t 30) (.c (.bool false)))⟩]) (.cond (.t 31) (.seq (.reg [⟨(some 32), none, (.mv (.t 0))⟩, ⟨(some 4), none, (.mv (.t 32))⟩]) .ret) .skip)) (.seq (.dreg [[], [], [], [1, 2], [0, 3, 1, 2], [], [5], [4, 0, 3, 1, 2, 6, 5], [], [], [8, 9], [7, 4, 0, 3, 1, 2, 6, 5, 10, 8, 9], [11, 7, 4, 0, 3, 1, 2, 6, 5, 10, 8, 9]] [⟨(some 33), none, (.mkrow 9 1 [(.str ⟨#[]⟩)] 0 [])⟩, ⟨(some 34), none, (.mv (.t 0))⟩, ⟨(some 35), none, (.mv (.t 5))⟩, ⟨(some 36), none, (.slice false 1 (.t 34) none (some (.t 35)))⟩, ⟨(some 37), none, (.append 9 1 16 [(.str ⟨#[]⟩)] (.t 33) (.t 36))⟩, ⟨(some 38), none, (.mv (.t 1))⟩, ⟨(some 39), none, (.mkrow 9 1 [(.str ⟨#[]⟩)] 1 [(0, (.t 38))])⟩, ⟨(some 40), none, (.append 9 1 16 [(.str ⟨#[]⟩)] (.t 37) (.t 39))⟩, ⟨(some 41), none, (.mv (.t 0))⟩, ⟨(some 42), none, (.mv (.t 5))⟩, ⟨(some 43), none, (.slice false 1 (.t 41) (some (.t 42)) none)⟩, ⟨(some 44), none, (.append 9 1 16 [(.str ⟨#[]⟩)] (.t 40) (.t 43))⟩, ⟨(some 4), none, (.mv (.t 44))⟩]) .ret)))))
theorem k_spec_l2Put : codeOf Tryz.prog 104 = some ⟨45, c_spec_l2Put, [(.tmp 4)]⟩ := by kernel_rfl
theorem m_spec_l2Put : modes 104 = ⟨[], .frz, none, false⟩ := by unfold modes; rfl

set_option maxHeartbeats 4000000 in
theorem l2Put_E (xs : List ByteArray) (n : ByteArray) (hl : xs.length ≤ 1048576) : E 104 [.arr (xs.map fun s => [D.str s]), .str n] [] = some (.arr ((insU xs n).map fun s => [D.str s]), []) := by
  have e1 := ot_take xs (lowS xs n)
  have e2 := ot_drop xs (lowS xs n)
  have e3 := al_strs (xs.take (lowS xs n))
  have e4 := al_strs (xs.drop (lowS xs n))
  have e5 := al_dstrs xs
  have l1 := lowS_le xs n
  have e6 : (xs.map fun s => [D.str s]).take xs.length = xs.map fun s => [D.str s] := List.take_of_length_le (by simp)
  have e7 : (xs.take (lowS xs n)).length = lowS xs n := by rw [List.length_take]; omega
  have e8 : (xs.drop (lowS xs n)).length = xs.length - lowS xs n := List.length_drop
  have hf : ∀ ys : List ByteArray, ys = insU xs n → (ys.map fun s => [OT.str s]) = (insU xs n).map fun s => [OT.str s] := fun ys h => by rw [h]
  refine E_walk k_spec_l2Put m_spec_l2Put (of_decide_eq_true rfl) ?_
  simp (disch := omega) only [c_spec_l2Put, go_sem, Nat.reduceAdd, Nat.reduceSub, Nat.reduceLT, Nat.reduceLeDiff, Nat.reduceEqDiff, Nat.reduceBEq, Nat.reduceBneDiff, Nat.reduceMul, ↓reduceIte, Int.reduceToNat, reduceCtorEq, Int.reduceNeg, Int.reduceAdd]
  refine go_loop (α := Int) (fun a => ⟨slots 45 0 [(0, .arr (xs.map fun s => [D.str s])), (1, .str n), (5, .int .i64 a)], []⟩) (fun a => ∃ k : Nat, a = k ∧ k ≤ (xs).length ∧ k + lowS (xs.drop k) n = lowS xs n) (fun a => (xs).length - (a).toNat) 0 ⟨0, rfl, Nat.zero_le _, by rw [List.drop_zero, Nat.zero_add]⟩ (by simp (disch := omega) only [go_sem, Nat.reduceAdd, Nat.reduceSub, Nat.reduceLT, Nat.reduceLeDiff, Nat.reduceEqDiff, Nat.reduceBEq, Nat.reduceBneDiff, Nat.reduceMul, ↓reduceIte, Int.reduceToNat, reduceCtorEq, Int.reduceNeg, Int.reduceAdd]) ?_
  rintro i ⟨k, hi, hk, hR⟩
  have hni : i.toNat = k := by omega
  have hni1 : (i + 1).toNat = k + 1 := by omega
  rcases Nat.lt_or_ge k (xs).length with hlt | hge
  · have hg := get_at (fun s => [D.str s]) hlt
    rcases lowS_drop hR hlt with ⟨q, hR'⟩ | ⟨q, hk'⟩
    · simp (disch := omega) only [go_sem, Nat.reduceAdd, Nat.reduceSub, Nat.reduceLT, Nat.reduceLeDiff, Nat.reduceEqDiff, Nat.reduceBEq, Nat.reduceBneDiff, Nat.reduceMul, ↓reduceIte, Int.reduceToNat, reduceCtorEq, Int.reduceNeg, Int.reduceAdd, hni, hg, q]
      exact ⟨i + 1, ⟨k + 1, by omega, hlt, hR'⟩, by omega, by first | trivial | rfl⟩
    · subst hk'
      by_cases h0 : xs[lowS xs n] = n
      · have hi0 := insU_there hlt h0
        rw [hi0]
        simp (disch := omega) only [go_sem, Nat.reduceAdd, Nat.reduceSub, Nat.reduceLT, Nat.reduceLeDiff, Nat.reduceEqDiff, Nat.reduceBEq, Nat.reduceBneDiff, Nat.reduceMul, ↓reduceIte, Int.reduceToNat, reduceCtorEq, Int.reduceNeg, Int.reduceAdd, hni, hg, q, h0, e6, strLt_self, dec_refl]
      · have hi0 := insU_new (fun _ => h0)
        have hx : (xs.take (lowS xs n)).map (fun s => [OT.str s]) ++ ([[OT.str n]] ++ (xs.drop (lowS xs n)).map (fun s => [OT.str s])) = (insU xs n).map fun s => [OT.str s] := by rw [hi0]; simp
        have hx2 : (xs.take (lowS xs n)).map (fun s => [OT.str s]) ++ [[OT.str n]] ++ (xs.drop (lowS xs n)).map (fun s => [OT.str s]) = (insU xs n).map fun s => [OT.str s] := by rw [hi0]; simp
        simp (disch := omega) only [go_sem, Nat.reduceAdd, Nat.reduceSub, Nat.reduceLT, Nat.reduceLeDiff, Nat.reduceEqDiff, Nat.reduceBEq, Nat.reduceBneDiff, Nat.reduceMul, ↓reduceIte, Int.reduceToNat, reduceCtorEq, Int.reduceNeg, Int.reduceAdd, hni, hg, q, h0, e1, e2, e3, e4, e5, e6, e7, e8, hx2, List.length_append, Int.toNat_zero]
  · obtain rfl : k = xs.length := by omega
    have hk' : xs.length = lowS xs n := by rw [← hR, List.drop_eq_nil_of_le (Nat.le_refl _)]; simp [lowS]
    have hi0 := insU_new (xs := xs) (n := n) (fun h => by omega)
    have hx2 : (xs.take (lowS xs n)).map (fun s => [OT.str s]) ++ [[OT.str n]] ++ (xs.drop (lowS xs n)).map (fun s => [OT.str s]) = (insU xs n).map fun s => [OT.str s] := by rw [hi0]; simp
    rw [hk'] at hni
    simp (disch := omega) only [go_sem, Nat.reduceAdd, Nat.reduceSub, Nat.reduceLT, Nat.reduceLeDiff, Nat.reduceEqDiff, Nat.reduceBEq, Nat.reduceBneDiff, Nat.reduceMul, ↓reduceIte, Int.reduceToNat, reduceCtorEq, Int.reduceNeg, Int.reduceAdd, hni, e1, e2, e3, e4, e5, e6, e7, e8, hx2, List.length_append, Int.toNat_zero]
noncomputable def insA (l ns : List ByteArray) : List ByteArray := ns.foldl insU l
theorem insA_len : ∀ (ns l : List ByteArray), (insA l ns).length ≤ l.length + ns.length
  | [], l => by simp [insA]
  | n :: ns, l => by
    have h := insA_len ns (insU l n)
    have h2 := insU_len l n
    simp only [insA, List.foldl_cons, List.length_cons] at h ⊢
    omega
theorem insA_mem : ∀ {ns l : List ByteArray} {m : ByteArray}, m ∈ insA l ns ↔ m ∈ l ∨ m ∈ ns
  | [], l, m => by simp [insA]
  | n :: ns, l, m => by
    have h := insA_mem (ns := ns) (l := insU l n) (m := m)
    simp only [insA, List.foldl_cons] at h ⊢
    rw [h, insU_mem]
    simp only [List.mem_cons]
    exact or_assoc
theorem insA_app (l a b : List ByteArray) : insA l (a ++ b) = insA (insA l a) b := List.foldl_append
def c_spec_l2Into : SC := (.seq (.reg [⟨(some 3), none, (.boxv 33 2 (.t 1))⟩, ⟨(some 4), none, (.mv (.c .nil))⟩]) (.seq (.seq (.reg [⟨(some 6), none, (.faddr 0 (.t 3))⟩, ⟨(some 7), none, (.load false 1 (.t 6))⟩, ⟨(some 8), none, (.call 39 [(.t 7)])⟩]) (.cond (.t 8) (.seq (.reg [⟨(some 9), none, (.mv (.t 0))⟩, ⟨(some 10), none, (.faddr 0 (.t 3))⟩, ⟨(some 11), none, (.load false 1 (.t 10))⟩, ⟨(some 12), none, (.call 104 [(.t 9), (.t 11)])⟩, ⟨(some 4), none, (.mv (.t 12))⟩]) .ret) .skip)) (.seq (.seq (.reg [⟨(some 5), none, (.mv (.c (.int .i64 0)))⟩]) (.block 0 (.loop [1, 0, 0, 1, 0, 1, 0, 0, 0, 0, 0, 0, 0, 0, 0, 0, 0, 0, 0, 0, 0, 0, 0, 0, 0, 0, 0, 0] (.seq (.seq (.reg [⟨(some 13), none, (.mv (.t 5))⟩, ⟨(some 14), none, (.faddr 1 (.t 3))⟩, ⟨(some 15), none, (.load false 1 (.t 14))⟩, ⟨(some 16), none, (.len false (.t 15))⟩, ⟨(some 17), none, (.bin .lss false (.t 13) (.t 16))⟩]) (.cond (.t 17) .skip (.exit 0))) (.seq (.block 1 (.reg [⟨(some 20), none, (.mv (.t 0))⟩, ⟨(some 21), none, (.faddr 1 (.t 3))⟩, ⟨(some 22), none, (.load false 1 (.t 21))⟩, ⟨(some 23), none, (.mv (.t 5))⟩, ⟨(some 24), none, (.iaddr 2 (.t 22) (.t 23))⟩, ⟨(some 25), none, (.load true 2 (.t 24))⟩, ⟨(some 26), none, (.call 86 [(.t 20), (.t 25)])⟩, ⟨(some 0), none, (.mv (.t 26))⟩])) (.reg [⟨(some 18), none, (.mv (.t 5))⟩, ⟨(some 19), none, (.bin .add false (.t 18) (.c (.int .i64 1)))⟩, ⟨(some 5), none, (.mv (.t 19))⟩])))))) (.seq (.reg [⟨(some 27), none, (.mv (.t 0))⟩, ⟨(some 4), none, (.mv (.t 27))⟩]) .ret))))
theorem k_spec_l2Into : codeOf Tryz.prog 86 = some ⟨28, c_spec_l2Into, [(.tmp 4)]⟩ := by kernel_rfl
theorem m_spec_l2Into : modes 86 = ⟨[], .asis, none, false⟩ := by unfold modes; rfl

def c_spec_l2Vars : SC := (.seq (.reg [⟨(some 1), none, (.boxv 33 2 (.t 0))⟩, ⟨(some 2), none, (.mv (.c .nil))⟩]) (.seq (.reg [⟨(some 3), none, (.mkrow 9 1 [(.str ⟨#[]⟩)] 0 [])⟩, ⟨(some 4), none, (.load true 2 (.t 1))⟩, ⟨(some 5), none, (.call 86 [(.t 3), (.t 4)])⟩, ⟨(some 2), none, (.mv (.t 5))⟩]) .ret))
theorem k_spec_l2Vars : codeOf Tryz.prog 66 = some ⟨6, c_spec_l2Vars, [(.tmp 2)]⟩ := by kernel_rfl
theorem m_spec_l2Vars : modes 66 = ⟨[], .frz, none, false⟩ := by unfold modes; rfl

abbrev IntoC (x : Tm) : Prop := ∀ l : List ByteArray, l.length + x.nodes ≤ 1048576 → E 86 [.arr (l.map fun s => [D.str s]), x.sv] [] = some (.arr ((insA l x.vs).map fun s => [D.str s]), [])
set_option maxHeartbeats 4000000 in
theorem l2Into_of (x : Tm) (ih : ∀ y ∈ x.args, IntoC y) : IntoC x := by
  intro l hn
  have hl := Tm.length_le x.args
  have hne := Tm.nodes_eq x
  have hvs := Tm.vs_eq x
  have hp := l2Put_E l x.name (by omega)
  cases hvv : varB x.name with
  | true =>
    rw [hvv] at hvs
    have e : insA l x.vs = insU l x.name := by rw [hvs]; rfl
    rw [e]
    refine E_walk k_spec_l2Into m_spec_l2Into (of_decide_eq_true rfl) ?_
    simp (disch := omega) only [c_spec_l2Into, go_sem, Nat.reduceAdd, Nat.reduceSub, Nat.reduceLT, Nat.reduceLeDiff, Nat.reduceEqDiff, Nat.reduceBEq, Nat.reduceBneDiff, Nat.reduceMul, ↓reduceIte, Int.reduceToNat, reduceCtorEq, Int.reduceNeg, Int.reduceAdd, hvv, hp, m_spec_l2Var, l2Var_E, m_spec_l2Put]
  | false =>
    rw [hvv] at hvs
    simp only [cond_false] at hvs
    rw [hvs]
    refine E_walk k_spec_l2Into m_spec_l2Into (of_decide_eq_true rfl) ?_
    simp (disch := omega) only [c_spec_l2Into, go_sem, Nat.reduceAdd, Nat.reduceSub, Nat.reduceLT, Nat.reduceLeDiff, Nat.reduceEqDiff, Nat.reduceBEq, Nat.reduceBneDiff, Nat.reduceMul, ↓reduceIte, Int.reduceToNat, reduceCtorEq, Int.reduceNeg, Int.reduceAdd, hvv, m_spec_l2Var, l2Var_E]
    refine go_loop (α := Int × (List ByteArray)) (fun a => ⟨slots 28 0 [(0, .arr ((a.2).map fun s => [D.str s])), (3, .ptr 0 0), (5, .int .i64 (a.1))], [.box 33 [.str x.name, .arr (x.args.map Tm.d)]]⟩) (fun a => ∃ k : Nat, a.1 = k ∧ k ≤ (x.args).length ∧ insA (a.2) (Tm.vsL (x.args.drop k)) = insA l (Tm.vsL x.args) ∧ (a.2).length + Tm.nodeS (x.args.drop k) ≤ 1048576) (fun a => (x.args).length - (a.1).toNat) (0, l) ⟨0, rfl, Nat.zero_le _, by rw [List.drop_zero], by rw [List.drop_zero]; dsimp only; omega⟩ (by simp (disch := omega) only [go_sem, Nat.reduceAdd, Nat.reduceSub, Nat.reduceLT, Nat.reduceLeDiff, Nat.reduceEqDiff, Nat.reduceBEq, Nat.reduceBneDiff, Nat.reduceMul, ↓reduceIte, Int.reduceToNat, reduceCtorEq, Int.reduceNeg, Int.reduceAdd]) ?_
    rintro ⟨i, acc⟩ ⟨k, hi, hk, hR⟩
    dsimp only at hi hR
    have hni : i.toNat = k := by omega
    have hni1 : (i + 1).toNat = k + 1 := by omega
    rcases Nat.lt_or_ge k (x.args).length with hlt | hge
    · have hg := get_at Tm.d hlt
      rw [Tm.d_eq] at hg
      obtain ⟨hR1, hR2⟩ := hR
      rw [List.drop_eq_getElem_cons hlt, Tm.vsL, insA_app] at hR1
      rw [List.drop_eq_getElem_cons hlt, Tm.nodeS] at hR2
      have hc := ih x.args[k] (List.getElem_mem hlt) acc (by omega)
      have hlen := insA_len x.args[k].vs acc
      have hvl := Tm.vs_len x.args[k]
      simp (disch := omega) only [go_sem, Nat.reduceAdd, Nat.reduceSub, Nat.reduceLT, Nat.reduceLeDiff, Nat.reduceEqDiff, Nat.reduceBEq, Nat.reduceBneDiff, Nat.reduceMul, ↓reduceIte, Int.reduceToNat, reduceCtorEq, Int.reduceNeg, Int.reduceAdd, hni, hg, hc, m_spec_l2Into]
      exact ⟨(i + 1, insA acc x.args[k].vs), ⟨k + 1, by dsimp only; omega, hlt, hR1, by dsimp only; omega⟩, by dsimp only; omega, by first | trivial | rfl⟩
    · rw [List.drop_eq_nil_of_le hge, Tm.vsL] at hR
      obtain ⟨hR1, hR2⟩ := hR
      have hR1 : acc = insA l (Tm.vsL x.args) := hR1
      rw [← hR1]
      simp (disch := omega) only [go_sem, Nat.reduceAdd, Nat.reduceSub, Nat.reduceLT, Nat.reduceLeDiff, Nat.reduceEqDiff, Nat.reduceBEq, Nat.reduceBneDiff, Nat.reduceMul, ↓reduceIte, Int.reduceToNat, reduceCtorEq, Int.reduceNeg, Int.reduceAdd, hni]
theorem l2Into_E (x : Tm) : IntoC x := l2Into_of x fun y hy => l2Into_E y
termination_by SizeOf.sizeOf x
decreasing_by exact Tm.lt_of_mem hy
theorem l2Vars_E (x : Tm) (hn : x.nodes ≤ 1048576) : E 66 [x.sv] [] = some (.arr ((insA [] x.vs).map fun s => [D.str s]), []) := by
  have h := l2Into_E x [] (by simpa using hn)
  rw [List.map_nil] at h
  refine E_walk k_spec_l2Vars m_spec_l2Vars (of_decide_eq_true rfl) ?_
  simp (disch := omega) only [c_spec_l2Vars, go_sem, Nat.reduceAdd, Nat.reduceSub, Nat.reduceLT, Nat.reduceLeDiff, Nat.reduceEqDiff, Nat.reduceBEq, Nat.reduceBneDiff, Nat.reduceMul, ↓reduceIte, Int.reduceToNat, reduceCtorEq, Int.reduceNeg, Int.reduceAdd, h, m_spec_l2Into]
end Go.Proofs.YtjafnijgkjjadaaGreat
