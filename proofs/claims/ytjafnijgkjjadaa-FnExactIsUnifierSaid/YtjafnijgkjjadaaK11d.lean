/-
  This text holds, one behind the other: This text holds the plain laws of applying a substitution to a term. No condition.
  This text tells what applying a substitution answers in both packages. No condition.
  This text tells what ApplySubstitution answers in both packages. No condition.
  This text tells what the laws' marks answer. No condition.
  This text tells what the laws read of the marks. No condition.
  This text tells what the laws' marks of a record answer. No condition.
  This text tells what the laws' measuring functions answer. No condition.
  This text tells what the laws' copying functions answer. No condition.
  This text tells what the laws' comparing functions answer. No condition.
  This text holds plain laws of the sizes of terms, for the laws of the program. No condition.
  This text tells what the equality of terms answers in both packages. No condition.
  This text tells what the law of IsUnifier answers. No condition.
  This text opens arguments: slices of integers, of structs, of tables: what is read as data lies in memory as our words say. No condition.
  This text opens arguments: what is read as data, terms and formulas, lies in memory as our words say. No condition.
  This text turns a function's answer into a walk of the kit's form, and opens arguments that are clauses. No condition.
-/
import Derived.Test.YtjafnijgkjjadaaK11c
import Derived.ProofKit
import Derived.Deep.Slices
import Derived.Deep.Fields
import Derived.ChangeSame
import Derived.OpenShut
import Derived.ShutString
import Derived.ChangeOld
set_option maxRecDepth 100000
set_option linter.unusedSimpArgs false
set_option linter.unusedVariables false
namespace Go.Proofs.Ytjafnijgkjjadaa
open Go.RowKit

mutual
/-- A term with its variables replaced. -/
noncomputable def Tm.ap (f : ByteArray → Option Tm) : Tm → Tm
  | .mk name args => if varB name then (f name).getD (.mk name []) else .mk name (Tm.apL f args)
noncomputable def Tm.apL (f : ByteArray → Option Tm) : List Tm → List Tm
  | [] => []
  | x :: xs => Tm.ap f x :: Tm.apL f xs
end
theorem Tm.ap_eq (f : ByteArray → Option Tm) (x : Tm) : x.ap f = if varB x.name then (f x.name).getD (.mk x.name []) else .mk x.name (Tm.apL f x.args) := by
  obtain ⟨name, args⟩ := x
  rw [Tm.ap]; rfl
theorem Tm.apL_len (f : ByteArray → Option Tm) : ∀ xs : List Tm, (Tm.apL f xs).length = xs.length
  | [] => by rw [Tm.apL]
  | x :: xs => by rw [Tm.apL]; simp only [List.length_cons, Tm.apL_len f xs]
theorem Tm.apL_map (f : ByteArray → Option Tm) : ∀ xs : List Tm, Tm.apL f xs = xs.map (Tm.ap f)
  | [] => by rw [Tm.apL]; rfl
  | x :: xs => by rw [Tm.apL, Tm.apL_map f xs]; rfl
/-- The terms that replace have valid names. -/
def okF (f : ByteArray → Option Tm) : Prop := ∀ n t, f n = some t → t.names = true ∧ t.nodes ≤ 30
theorem Tm.ap_nameS (f : ByteArray → Option Tm) : ∀ xs : List Tm, (∀ y ∈ xs, (y.ap f).names = true) → Tm.nameS (Tm.apL f xs) = true
  | [], _ => by rw [Tm.apL, Tm.nameS]
  | x :: xs, h => by rw [Tm.apL, Tm.nameS, h x (by simp), Tm.ap_nameS f xs fun y hy => h y (by simp [hy])]; rfl
theorem Tm.ap_names {f : ByteArray → Option Tm} (hf : okF f) (x : Tm) (hx : x.names = true) : (x.ap f).names = true := by
  rw [Tm.ap_eq]
  rw [Tm.names_eq] at hx
  split
  · rename_i hv
    cases hq : f x.name with
    | none =>
      rw [Option.getD_none, Tm.names_eq]
      show (if varB x.name then _ else _) = true
      rw [if_pos hv]; rfl
    | some t => exact (hf _ _ hq).1
  · rename_i hv
    rw [if_neg hv, Bool.and_eq_true, Bool.and_eq_true] at hx
    rw [Tm.names_eq]
    show (if varB x.name then _ else symB x.name && decide ((Tm.apL f x.args).length ≤ 4) && Tm.nameS (Tm.apL f x.args)) = true
    rw [if_neg hv, Tm.apL_len, hx.1.1, hx.1.2, Tm.ap_nameS f x.args fun y hy => Tm.ap_names hf y (by
      have := hx.2
      rw [Tm.nameS_all, List.all_eq_true] at this
      exact this y hy)]
    rfl
termination_by SizeOf.sizeOf x
decreasing_by exact Tm.lt_of_mem hy
theorem Tm.ap_nodeS {f : ByteArray → Option Tm} : ∀ xs : List Tm, (∀ y ∈ xs, (y.ap f).nodes ≤ 30 * y.nodes) → Tm.nodeS (Tm.apL f xs) ≤ 30 * Tm.nodeS xs
  | [], _ => by rw [Tm.apL, Tm.nodeS]; omega
  | x :: xs, h => by
    have h1 := h x (by simp)
    have h2 := Tm.ap_nodeS xs fun y hy => h y (by simp [hy])
    rw [Tm.apL, Tm.nodeS, Tm.nodeS]; omega
theorem Tm.ap_nodes {f : ByteArray → Option Tm} (hf : okF f) (x : Tm) : (x.ap f).nodes ≤ 30 * x.nodes := by
  have hp := Tm.nodes_pos x
  rw [Tm.ap_eq]
  split
  · cases hq : f x.name with
    | none =>
      have : (Tm.mk x.name []).nodes = 1 + Tm.nodeS [] := Tm.nodes_eq (Tm.mk x.name [])
      rw [Tm.nodeS] at this
      rw [Option.getD_none]; omega
    | some t => have := (hf _ _ hq).2; rw [Option.getD_some]; omega
  · have h1 : (Tm.mk x.name (Tm.apL f x.args)).nodes = 1 + Tm.nodeS (Tm.apL f x.args) := Tm.nodes_eq (Tm.mk x.name (Tm.apL f x.args))
    have h2 := Tm.ap_nodeS (f := f) x.args fun y hy => Tm.ap_nodes hf y
    have h3 := Tm.nodes_eq x
    omega
termination_by SizeOf.sizeOf x
decreasing_by exact Tm.lt_of_mem hy
/-- An expression stays one, if it stays small. -/
theorem Tm.ap_any {f : ByteArray → Option Tm} (hf : okF f) (x : Tm) (hx : (x.valid || x.atom) = true) : ((x.ap f).valid || (x.ap f).atom) = (x.ap f).small := by
  cases hs : (x.ap f).small with
  | false =>
    have h1 : (x.ap f).valid = false := by unfold Tm.valid; rw [hs]; rfl
    have h2 : (x.ap f).atom = false := by
      unfold Tm.atom; split
      · rw [hs, Bool.and_false, Bool.false_and]
      · rw [h1, Bool.and_false]
    rw [h1, h2]; rfl
  | true =>
    cases hn : x.names with
    | true =>
      have : (x.ap f).valid = true := by unfold Tm.valid; rw [hs, Tm.ap_names hf x hn]; rfl
      rw [this]; rfl
    | false =>
      have hv : x.valid = false := by unfold Tm.valid; rw [hn, Bool.and_false]
      rw [hv, Bool.false_or] at hx
      unfold Tm.atom at hx
      split at hx
      · rename_i he
        rw [Bool.and_eq_true, Bool.and_eq_true] at hx
        have hname : x.name = ⟨#[61]⟩ := by unfold Tm.eqn at he; exact dec_iff.1 he
        have hnv0 : varB ⟨#[61]⟩ = false := by kernel_rfl
        have hnv : ¬ (varB x.name = true) := by rw [hname, hnv0]; simp
        have e : x.ap f = .mk x.name (Tm.apL f x.args) := by rw [Tm.ap_eq, if_neg hnv]
        have : (x.ap f).atom = true := by
          have he2 : (x.ap f).eqn = true := by rw [e]; exact he
          unfold Tm.atom
          rw [if_pos he2, hs]
          rw [e]
          show ((Tm.apL f x.args).length == 2 && true && Tm.nameS (Tm.apL f x.args)) = true
          rw [Tm.apL_len, hx.1.1, Tm.ap_nameS f x.args fun y hy => Tm.ap_names hf y (by
            have := hx.2
            rw [Tm.nameS_all, List.all_eq_true] at this
            exact this y hy)]
          rfl
        rw [this, Bool.or_true]
      · rw [hv, Bool.and_false] at hx; cases hx
/-- The variables of a term have no arguments. -/
theorem Tm.names_var {x : Tm} (h : x.names = true) (hv : varB x.name = true) : x.args = [] := by
  rw [Tm.names_eq, if_pos hv] at h
  exact List.eq_nil_of_length_eq_zero (by simpa using h)
theorem Tm.names_arg {x : Tm} (h : x.names = true) {y : Tm} (hy : y ∈ x.args) : y.names = true := by
  rw [Tm.names_eq] at h
  split at h
  · have : x.args = [] := List.eq_nil_of_length_eq_zero (by simpa using h)
    rw [this] at hy; cases hy
  · rw [Bool.and_eq_true, Tm.nameS_all, List.all_eq_true] at h
    exact h.2 y hy
end Go.Proofs.Ytjafnijgkjjadaa

set_option maxRecDepth 100000
set_option linter.unusedSimpArgs false
set_option linter.unusedVariables false
namespace Go.Proofs.Ytjafnijgkjjadaa
open Go.RowKit

theorem Sb.ok_at {x : Sb} (h : x.ok = true) {k : Nat} (hk : k < x.binds.length) : bdOk x.binds[k] = true := by
  unfold Sb.ok at h
  rw [Bool.and_eq_true] at h
  exact bdAt_ok hk (bdTo_at h.2 hk)
theorem bdOk_var {x : Bd} (h : bdOk x = true) : varB x.var = true := by unfold bdOk at h; rw [Bool.and_eq_true] at h; exact h.1
theorem bdOk_valid {x : Bd} (h : bdOk x = true) : x.term.valid = true := by unfold bdOk at h; rw [Bool.and_eq_true, Bool.and_eq_true] at h; exact h.2.1
theorem hitB_eq {xs : List Bd} {n : ByteArray} (h : hitB xs n = true) (hlt : lowI xs n < xs.length) : (xs[lowI xs n]).var = n := by
  have hh : hitB xs n = dec (xs[lowI xs n].var = n) := by unfold hitB; rw [List.getElem?_eq_getElem hlt]
  rw [hh] at h
  exact dec_iff.1 h
theorem Sb.look_okF {x : Sb} (h : x.ok = true) : okF x.look := by
  intro n t ht
  unfold Sb.look at ht
  split at ht
  · rename_i hh
    have hv := bdOk_valid (Sb.ok_at h (hitB_lt hh))
    obtain rfl := Option.some.inj ht
    unfold Tm.valid Tm.small at hv
    rw [Bool.and_eq_true, Bool.and_eq_true, decide_eq_true_eq] at hv
    exact ⟨hv.2, hv.1.1⟩
  · cases ht
theorem Sb.look_yes {x : Sb} {n : ByteArray} (h : hitB x.binds n = true) (hlt : lowI x.binds n < x.binds.length) : x.look n = some (x.binds[lowI x.binds n]).term := by
  unfold Sb.look; rw [dif_pos h]
theorem Sb.look_no {x : Sb} {n : ByteArray} (h : hitB x.binds n = false) : x.look n = none := by
  unfold Sb.look; rw [dif_neg (by rw [h]; simp)]

def c_impl_Substitution_apply : SC := (.seq (.reg [⟨(some 2), none, (.boxv 34 1 (.t 0))⟩, ⟨(some 3), none, (.boxv 38 2 (.t 1))⟩, ⟨(some 4), none, (.alloc 38 [(.str ⟨#[]⟩), .nil])⟩]) (.seq (.seq (.reg [⟨(some 10), none, (.faddr 1 (.t 3))⟩, ⟨(some 11), none, (.load false 1 (.t 10))⟩, ⟨(some 12), none, (.len false (.t 11))⟩, ⟨(some 13), none, (.bin .eql false (.t 12) (.c (.int .i64 0)))⟩]) (.cond (.t 13) (.seq (.seq (.reg [⟨(some 15), none, (.load true 1 (.t 2))⟩, ⟨(some 16), none, (.faddr 0 (.t 3))⟩, ⟨(some 17), none, (.load false 1 (.t 16))⟩, ⟨(some 18), none, (.call 40 [(.t 15), (.t 17)])⟩, ⟨(some 14), none, (.mv (.t 18))⟩, ⟨(some 19), none, (.ext (.t 14) 0)⟩, ⟨(some 20), none, (.ext (.t 14) 1)⟩, ⟨(some 5), none, (.alloc 38 [(.str ⟨#[]⟩), .nil])⟩, ⟨none, none, (.store 2 (.t 5) (.t 19))⟩, ⟨(some 6), none, (.mv (.t 20))⟩]) (.seq (.reg [⟨(some 21), none, (.mv (.t 6))⟩]) (.cond (.t 21) (.seq (.reg [⟨(some 22), none, (.load true 2 (.t 5))⟩, ⟨(some 23), none, (.call 68 [(.t 22)])⟩, ⟨none, none, (.store 2 (.t 4) (.t 23))⟩]) .ret) .skip))) (.seq (.reg [⟨(some 24), none, (.faddr 0 (.t 3))⟩, ⟨(some 25), none, (.load false 1 (.t 24))⟩, ⟨(some 26), none, (.build [(.str ⟨#[]⟩), .nil] [(0, (1, (.t 25)))])⟩, ⟨none, none, (.store 2 (.t 4) (.t 26))⟩]) .ret)) .skip)) (.seq (.dreg [[], [0], [], [2], [3, 2], [4, 3, 2], [1, 0, 5, 4, 3, 2], [], [7, 6, 1, 0, 5, 4, 3, 2]] [⟨(some 27), none, (.faddr 0 (.t 3))⟩, ⟨(some 28), none, (.load false 1 (.t 27))⟩, ⟨(some 29), none, (.faddr 1 (.t 3))⟩, ⟨(some 30), none, (.load false 1 (.t 29))⟩, ⟨(some 31), none, (.len false (.t 30))⟩, ⟨(some 32), none, (.mkslice 38 2 40 [(.str ⟨#[]⟩), .nil] (.t 31))⟩, ⟨(some 33), none, (.build [(.str ⟨#[]⟩), .nil] [(0, (1, (.t 28))), (1, (1, (.t 32)))])⟩, ⟨(some 7), none, (.alloc 38 [(.str ⟨#[]⟩), .nil])⟩, ⟨none, none, (.store 2 (.t 7) (.t 33))⟩]) (.seq (.seq (.reg [⟨(some 34), none, (.faddr 1 (.t 3))⟩, ⟨(some 35), none, (.load false 1 (.t 34))⟩, ⟨(some 36), none, (.len false (.t 35))⟩, ⟨(some 37), none, (.mv (.c (.int .i64 0)))⟩]) (.block 0 (.loop [0, 0, 1, 0, 1, 0, 0, 1, 0, 0, 0, 0, 0, 0, 0, 0, 0, 0, 0, 0, 0, 0, 0, 0, 0, 0, 0, 0, 0, 0, 0, 0, 0, 0, 0, 1, 1, 1, 0, 0, 0, 0, 0, 0, 0, 0, 0, 0, 0, 0, 0] (.seq (.reg [⟨(some 38), none, (.bin .lss false (.t 37) (.t 36))⟩]) (.seq (.cond (.t 38) .skip (.exit 0)) (.seq (.block 1 (.seq (.reg [⟨(some 39), none, (.mv (.t 37))⟩, ⟨(some 40), none, (.iaddr 2 (.t 35) (.t 37))⟩, ⟨(some 41), none, (.load true 2 (.t 40))⟩, ⟨(some 9), none, (.alloc 38 [(.str ⟨#[]⟩), .nil])⟩, ⟨(some 8), none, (.mv (.t 39))⟩, ⟨none, none, (.store 2 (.t 9) (.t 41))⟩]) (.dreg [[], [0], [], [], [], [3, 4], [1, 0, 2, 3, 4, 5], [6, 1, 0, 2, 3, 4, 5]] [⟨(some 42), none, (.faddr 1 (.t 7))⟩, ⟨(some 43), none, (.load false 1 (.t 42))⟩, ⟨(some 44), none, (.mv (.t 8))⟩, ⟨(some 45), none, (.load true 1 (.t 2))⟩, ⟨(some 46), none, (.load true 2 (.t 9))⟩, ⟨(some 47), none, (.call 67 [(.t 45), (.t 46)])⟩, ⟨(some 48), none, (.iaddr 2 (.t 43) (.t 44))⟩, ⟨none, none, (.store 2 (.t 48) (.t 47))⟩]))) (.reg [⟨(some 49), none, (.bin .add false (.t 37) (.c (.int .i64 1)))⟩, ⟨(some 37), none, (.mv (.t 49))⟩]))))))) (.seq (.reg [⟨(some 50), none, (.load true 2 (.t 7))⟩, ⟨none, none, (.store 2 (.t 4) (.t 50))⟩]) .ret)))))
theorem k_impl_Substitution_apply : codeOf Try.prog 67 = some ⟨51, c_impl_Substitution_apply, [(.cell 4 true 2)]⟩ := by kernel_rfl
theorem m_impl_Substitution_apply : modes 67 = ⟨[], .own [none, some (38, 2)], none, false⟩ := by unfold modes; rfl

def c_spec_l4Apply : SC := (.seq (.reg [⟨(some 2), none, (.boxv 34 1 (.t 0))⟩, ⟨(some 3), none, (.boxv 38 2 (.t 1))⟩, ⟨(some 4), none, (.alloc 38 [(.str ⟨#[]⟩), .nil])⟩]) (.seq (.seq (.reg [⟨(some 8), none, (.faddr 0 (.t 3))⟩, ⟨(some 9), none, (.load false 1 (.t 8))⟩, ⟨(some 10), none, (.call 57 [(.t 9)])⟩]) (.cond (.t 10) (.seq (.seq (.reg [⟨(some 11), none, (.load true 1 (.t 2))⟩, ⟨(some 12), none, (.faddr 0 (.t 3))⟩, ⟨(some 13), none, (.load false 1 (.t 12))⟩, ⟨(some 14), none, (.call 35 [(.t 11), (.t 13)])⟩, ⟨(some 5), none, (.mv (.t 14))⟩]) (.seq (.reg [⟨(some 15), none, (.mv (.t 5))⟩, ⟨(some 16), none, (.bin .geq false (.t 15) (.c (.int .i64 0)))⟩]) (.cond (.t 16) (.seq (.reg [⟨(some 17), none, (.faddr 0 (.t 2))⟩, ⟨(some 18), none, (.load false 1 (.t 17))⟩, ⟨(some 19), none, (.mv (.t 5))⟩, ⟨(some 20), none, (.iaddr 3 (.t 18) (.t 19))⟩, ⟨(some 21), none, (.faddr 1 (.t 20))⟩, ⟨(some 22), none, (.load true 2 (.t 21))⟩, ⟨(some 23), none, (.call 84 [(.t 22)])⟩, ⟨none, none, (.store 2 (.t 4) (.t 23))⟩]) .ret) .skip))) (.seq (.reg [⟨(some 24), none, (.faddr 0 (.t 3))⟩, ⟨(some 25), none, (.load false 1 (.t 24))⟩, ⟨(some 26), none, (.build [(.str ⟨#[]⟩), .nil] [(0, (1, (.t 25)))])⟩, ⟨none, none, (.store 2 (.t 4) (.t 26))⟩]) .ret)) .skip)) (.seq (.reg [⟨(some 27), none, (.faddr 0 (.t 3))⟩, ⟨(some 28), none, (.load false 1 (.t 27))⟩, ⟨(some 29), none, (.build [(.str ⟨#[]⟩), .nil] [(0, (1, (.t 28)))])⟩, ⟨(some 6), none, (.alloc 38 [(.str ⟨#[]⟩), .nil])⟩, ⟨none, none, (.store 2 (.t 6) (.t 29))⟩]) (.seq (.seq (.reg [⟨(some 7), none, (.mv (.c (.int .i64 0)))⟩]) (.block 0 (.loop [0, 0, 1, 1, 1, 0, 1, 1, 0, 0, 0, 0, 0, 0, 0, 0, 0, 0, 0, 0, 0, 0, 0, 0, 0, 0, 0, 0, 0, 0, 0, 0, 0, 0, 0, 0, 0, 0, 0, 0, 0, 0, 0, 0, 0, 0, 0, 0, 0, 0] (.seq (.seq (.reg [⟨(some 30), none, (.mv (.t 7))⟩, ⟨(some 31), none, (.faddr 1 (.t 3))⟩, ⟨(some 32), none, (.load false 1 (.t 31))⟩, ⟨(some 33), none, (.len false (.t 32))⟩, ⟨(some 34), none, (.bin .lss false (.t 30) (.t 33))⟩]) (.cond (.t 34) .skip (.exit 0))) (.seq (.block 1 (.dreg [[], [0], [], [], [3], [], [4, 3, 5], [6, 4, 3, 5], [2, 7, 6, 4, 3, 5], [8, 2, 7, 6, 4, 3, 5], [1, 0, 9, 8, 2, 7, 6, 4, 3, 5], [0, 1, 2, 3, 4, 5, 6, 7, 8, 9, 10], [11, 0, 1, 2, 3, 4, 5, 6, 7, 8, 9, 10]] [⟨(some 37), none, (.faddr 1 (.t 6))⟩, ⟨(some 38), none, (.load false 1 (.t 37))⟩, ⟨(some 39), none, (.load true 1 (.t 2))⟩, ⟨(some 40), none, (.faddr 1 (.t 3))⟩, ⟨(some 41), none, (.load false 1 (.t 40))⟩, ⟨(some 42), none, (.mv (.t 7))⟩, ⟨(some 43), none, (.iaddr 2 (.t 41) (.t 42))⟩, ⟨(some 44), none, (.load true 2 (.t 43))⟩, ⟨(some 45), none, (.call 51 [(.t 39), (.t 44)])⟩, ⟨(some 46), none, (.mkrow 38 2 [(.str ⟨#[]⟩), .nil] 1 [(0, (.t 45))])⟩, ⟨(some 47), none, (.append 38 2 40 [(.str ⟨#[]⟩), .nil] (.t 38) (.t 46))⟩, ⟨(some 48), none, (.faddr 1 (.t 6))⟩, ⟨none, none, (.store 1 (.t 48) (.t 47))⟩])) (.reg [⟨(some 35), none, (.mv (.t 7))⟩, ⟨(some 36), none, (.bin .add false (.t 35) (.c (.int .i64 1)))⟩, ⟨(some 7), none, (.mv (.t 36))⟩])))))) (.seq (.reg [⟨(some 49), none, (.load true 2 (.t 6))⟩, ⟨none, none, (.store 2 (.t 4) (.t 49))⟩]) .ret)))))
theorem k_spec_l4Apply : codeOf Try.prog 51 = some ⟨50, c_spec_l4Apply, [(.cell 4 true 2)]⟩ := by kernel_rfl
theorem m_spec_l4Apply : modes 51 = ⟨[], .frz, none, false⟩ := by unfold modes; rfl

set_option maxHeartbeats 4000000 in
theorem apply_of (s : Sb) (hs : s.ok = true) (ht : s.tame) (x : Tm) (hx : varB x.name = true → x.args = []) (hn : x.nodes ≤ 1099511627776) (ih : ∀ y ∈ x.args, E 67 [s.sv, y.sv] [] = some ((y.ap s.look).osv, (y.ap s.look).obs)) : E 67 [s.sv, x.sv] [] = some ((x.ap s.look).osv, (x.ap s.look).obs) := by
  have hsl := ht.1
  have hl := Tm.length_le x.args
  have hne := Tm.nodes_eq x
  rcases Nat.eq_zero_or_pos x.args.length with h0 | h0
  · have hx0 : x.args = [] := List.eq_nil_of_length_eq_zero h0
    cases hh : hitB s.binds x.name with
    | true =>
      have hlt := hitB_lt hh
      have hc := term_E_yes s hs x.name hsl hh hlt
      have hd := copyTerm_E (s.binds[lowI s.binds x.name]).term (Sb.tame_at ht hlt)
      have hv : varB x.name = true := by rw [← hitB_eq hh hlt]; exact bdOk_var (Sb.ok_at hs hlt)
      have e : x.ap s.look = (s.binds[lowI s.binds x.name]).term := by rw [Tm.ap_eq, if_pos hv, Sb.look_yes hh hlt]; rfl
      rw [e]
      refine E_walk k_impl_Substitution_apply m_impl_Substitution_apply (of_decide_eq_true rfl) ?_
      simp (disch := omega) only [c_impl_Substitution_apply, go_sem, Nat.reduceAdd, Nat.reduceSub, Nat.reduceLT, Nat.reduceLeDiff, Nat.reduceEqDiff, Nat.reduceBEq, Nat.reduceBneDiff, Nat.reduceMul, ↓reduceIte, Int.reduceToNat, reduceCtorEq, Int.reduceNeg, Int.reduceAdd, hx0, hc, hd, List.map_nil, List.length_nil, m_impl_Substitution_term, m_impl_copyTerm, Tm.osv, Tm.obs]
    | false =>
      have hc := term_E_no s hs x.name hsl hh
      have e : x.ap s.look = .mk x.name [] := by
        rw [Tm.ap_eq, Sb.look_no hh, hx0]
        split
        · rfl
        · rw [Tm.apL]
      rw [e]
      have e1 : (Tm.mk x.name []).osv = .agg [.str x.name, .ref 0] := rfl
      have e2 : (Tm.mk x.name []).obs = [.row 38 2 []] := rfl
      rw [e1, e2]
      refine E_walk k_impl_Substitution_apply m_impl_Substitution_apply (of_decide_eq_true rfl) ?_
      simp (disch := omega) only [c_impl_Substitution_apply, go_sem, Nat.reduceAdd, Nat.reduceSub, Nat.reduceLT, Nat.reduceLeDiff, Nat.reduceEqDiff, Nat.reduceBEq, Nat.reduceBneDiff, Nat.reduceMul, ↓reduceIte, Int.reduceToNat, reduceCtorEq, Int.reduceNeg, Int.reduceAdd, hx0, hc, List.map_nil, List.length_nil, m_impl_Substitution_term]
  · have hv : ¬ varB x.name = true := fun h => by rw [hx h] at h0; simp at h0
    have e : x.ap s.look = .mk x.name (x.args.map (Tm.ap s.look)) := by rw [Tm.ap_eq, if_neg hv, Tm.apL_map]
    rw [e]
    have e1 : (Tm.mk x.name (x.args.map (Tm.ap s.look))).osv = .agg [.str x.name, .ref 0] := rfl
    have e2 : (Tm.mk x.name (x.args.map (Tm.ap s.look))).obs = [.row 38 2 ((x.args.map (Tm.ap s.look)).map Tm.o)] := rfl
    rw [e1, e2]
    have hrl : List.replicate x.args.length ([.str ⟨#[]⟩, .ow []] : List OT) = fillR Tm.o [.str ⟨#[]⟩, .ow []] (x.args.map (Tm.ap s.look)) 0 := by rw [fillR_zero, List.length_map]
    refine E_walk k_impl_Substitution_apply m_impl_Substitution_apply (of_decide_eq_true rfl) ?_
    simp (disch := omega) only [c_impl_Substitution_apply, go_sem, Nat.reduceAdd, Nat.reduceSub, Nat.reduceLT, Nat.reduceLeDiff, Nat.reduceEqDiff, Nat.reduceBEq, Nat.reduceBneDiff, Nat.reduceMul, ↓reduceIte, Int.reduceToNat, reduceCtorEq, Int.reduceNeg, Int.reduceAdd]
    refine go_loop (α := Int) (fun a => ⟨slots 51 0 [(2, .ptr 0 0), (4, .ptr 1 0), (7, .ptr 2 0), (35, .arr (x.args.map Tm.d)), (36, .int .i64 x.args.length), (37, .int .i64 a)], [.box 34 [.arr (s.binds.map Bd.d)], .box 38 [.str ⟨#[]⟩, .nil], .box 38 [.str x.name, .ref 3], .row 38 2 (fillR Tm.o [.str ⟨#[]⟩, .ow []] (x.args.map (Tm.ap s.look)) a.toNat)]⟩) (fun a => ∃ k : Nat, a = k ∧ k ≤ (x.args).length) (fun a => (x.args).length - (a).toNat) 0 ⟨0, rfl, Nat.zero_le _⟩ (by simp (disch := omega) only [go_sem, Nat.reduceAdd, Nat.reduceSub, Nat.reduceLT, Nat.reduceLeDiff, Nat.reduceEqDiff, Nat.reduceBEq, Nat.reduceBneDiff, Nat.reduceMul, ↓reduceIte, Int.reduceToNat, reduceCtorEq, Int.reduceNeg, Int.reduceAdd, hrl, Int.toNat_zero]) ?_
    rintro i ⟨k, hi, hk⟩
    have hni : i.toNat = k := by omega
    have hni1 : (i + 1).toNat = k + 1 := by omega
    rcases Nat.lt_or_ge k (x.args).length with hlt | hge
    · have hg := get_at Tm.d hlt
      rw [Tm.d_eq] at hg
      have hltm : k < (x.args.map (Tm.ap s.look)).length := by rw [List.length_map]; exact hlt
      have hz := fillR_get Tm.o [.str ⟨#[]⟩, .ow []] hltm
      have hc := ih x.args[k] (List.getElem_mem hlt)
      have hse := fillR_set Tm.o [.str ⟨#[]⟩, .ow []] hltm
      rw [Tm.o_eq, List.getElem_map] at hse
      simp (disch := omega) only [go_sem, Nat.reduceAdd, Nat.reduceSub, Nat.reduceLT, Nat.reduceLeDiff, Nat.reduceEqDiff, Nat.reduceBEq, Nat.reduceBneDiff, Nat.reduceMul, ↓reduceIte, Int.reduceToNat, reduceCtorEq, Int.reduceNeg, Int.reduceAdd, hni, hg, hc, hz, fillR_len, List.length_map, m_impl_Substitution_apply, Tm.osv, Tm.obs]
      refine ⟨i + 1, ⟨k + 1, by omega, hlt⟩, by omega, ?_⟩
      simp (disch := omega) only [go_sem, Nat.reduceAdd, Nat.reduceSub, Nat.reduceLT, Nat.reduceLeDiff, Nat.reduceEqDiff, Nat.reduceBEq, Nat.reduceBneDiff, Nat.reduceMul, ↓reduceIte, Int.reduceToNat, reduceCtorEq, Int.reduceNeg, Int.reduceAdd, hni1, hse]
    · obtain rfl : k = x.args.length := by omega
      have hend : fillR Tm.o [.str ⟨#[]⟩, .ow []] (x.args.map (Tm.ap s.look)) x.args.length = (x.args.map (Tm.ap s.look)).map Tm.o := by
        have := fillR_end Tm.o [.str ⟨#[]⟩, .ow []] (xs := x.args.map (Tm.ap s.look))
        rwa [List.length_map] at this
      simp (disch := omega) only [go_sem, Nat.reduceAdd, Nat.reduceSub, Nat.reduceLT, Nat.reduceLeDiff, Nat.reduceEqDiff, Nat.reduceBEq, Nat.reduceBneDiff, Nat.reduceMul, ↓reduceIte, Int.reduceToNat, reduceCtorEq, Int.reduceNeg, Int.reduceAdd, hni, hend]
theorem apply_E (s : Sb) (hs : s.ok = true) (ht : s.tame) (x : Tm) (hx : x.names = true) (hn : x.nodes ≤ 1099511627776) : E 67 [s.sv, x.sv] [] = some ((x.ap s.look).osv, (x.ap s.look).obs) :=
  apply_of s hs ht x (Tm.names_var hx) hn fun y hy => apply_E s hs ht y (Tm.names_arg hx hy) (by have := Tm.nodes_mem hy; have := Tm.nodes_eq x; omega)
termination_by SizeOf.sizeOf x
decreasing_by exact Tm.lt_of_mem hy
set_option maxHeartbeats 4000000 in
theorem l4Apply_of (s : Sb) (hs : s.ok = true) (ht : s.tame) (x : Tm) (hn : x.nodes ≤ 1099511627776) (ih : ∀ y ∈ x.args, E 51 [s.sv, y.sv] [] = some ((y.ap s.look).sv, [])) : E 51 [s.sv, x.sv] [] = some ((x.ap s.look).sv, []) := by
  have hsl := ht.1
  have hl := Tm.length_le x.args
  have hne := Tm.nodes_eq x
  have hf := l4Find_E s x.name hsl
  rw [idxP_low (Sb.ok_up hs)] at hf
  cases hv : varB x.name with
  | true =>
    cases hh : hitB s.binds x.name with
    | true =>
      have hlt := hitB_lt hh
      have hg := get_at Bd.d hlt
      rw [Bd.d_eq] at hg
      have hni : ((lowI s.binds x.name : Nat) : Int).toNat = lowI s.binds x.name := Int.toNat_natCast _
      have hd := l2Own_E (s.binds[lowI s.binds x.name]).term (Sb.tame_at ht hlt)
      have e : x.ap s.look = (s.binds[lowI s.binds x.name]).term := by rw [Tm.ap_eq, if_pos hv, Sb.look_yes hh hlt]; rfl
      rw [hh, if_pos rfl] at hf
      rw [e]
      refine E_walk k_spec_l4Apply m_spec_l4Apply (of_decide_eq_true rfl) ?_
      simp (disch := omega) only [c_spec_l4Apply, go_sem, Nat.reduceAdd, Nat.reduceSub, Nat.reduceLT, Nat.reduceLeDiff, Nat.reduceEqDiff, Nat.reduceBEq, Nat.reduceBneDiff, Nat.reduceMul, ↓reduceIte, Int.reduceToNat, reduceCtorEq, Int.reduceNeg, Int.reduceAdd, hv, hf, hg, hni, hd, m_spec_l4Find, m_spec_l2Var, l2Var_E, m_spec_l2Own]
    | false =>
      have e : x.ap s.look = .mk x.name [] := by rw [Tm.ap_eq, if_pos hv, Sb.look_no hh]; rfl
      rw [hh, if_neg (by simp)] at hf
      rw [e]
      have e1 : (Tm.mk x.name []).sv = .agg [.str x.name, .arr []] := rfl
      rw [e1]
      refine E_walk k_spec_l4Apply m_spec_l4Apply (of_decide_eq_true rfl) ?_
      simp (disch := omega) only [c_spec_l4Apply, go_sem, Nat.reduceAdd, Nat.reduceSub, Nat.reduceLT, Nat.reduceLeDiff, Nat.reduceEqDiff, Nat.reduceBEq, Nat.reduceBneDiff, Nat.reduceMul, ↓reduceIte, Int.reduceToNat, reduceCtorEq, Int.reduceNeg, Int.reduceAdd, hv, hf, m_spec_l4Find, m_spec_l2Var, l2Var_E]
  | false =>
    have e : x.ap s.look = .mk x.name (x.args.map (Tm.ap s.look)) := by rw [Tm.ap_eq, if_neg (by rw [hv]; simp), Tm.apL_map]
    rw [e]
    have e1 : (Tm.mk x.name (x.args.map (Tm.ap s.look))).sv = .agg [.str x.name, .arr ((x.args.map (Tm.ap s.look)).map Tm.d)] := rfl
    rw [e1]
    have h10 : ((1 : Int) = 0) = False := by simp
    have hfu := Tm.osh_full (x.args.map (Tm.ap s.look))
    have her := Tm.osh_er (x.args.map (Tm.ap s.look))
    refine E_walk k_spec_l4Apply m_spec_l4Apply (of_decide_eq_true rfl) ?_
    simp (disch := omega) only [c_spec_l4Apply, go_sem, Nat.reduceAdd, Nat.reduceSub, Nat.reduceLT, Nat.reduceLeDiff, Nat.reduceEqDiff, Nat.reduceBEq, Nat.reduceBneDiff, Nat.reduceMul, ↓reduceIte, Int.reduceToNat, reduceCtorEq, Int.reduceNeg, Int.reduceAdd, hv, m_spec_l4Find, m_spec_l2Var, l2Var_E]
    refine go_loop (α := Int) (fun a => ⟨slots 50 0 [(2, .ptr 0 0), (3, .ptr 1 0), (4, .ptr 2 0), (6, .ptr 3 0), (7, .int .i64 a)], (if a = 0 then [.box 34 [.arr (s.binds.map Bd.d)], .box 38 [.str x.name, .arr (x.args.map Tm.d)], .box 38 [.str ⟨#[]⟩, .nil], .box 38 [.str x.name, .nil]] else [.box 34 [.arr (s.binds.map Bd.d)], .box 38 [.str x.name, .arr (x.args.map Tm.d)], .box 38 [.str ⟨#[]⟩, .nil], .box 38 [.str x.name, .ref 4], .row 38 2 (((x.args.map (Tm.ap s.look)).take a.toNat).map Tm.osh)])⟩) (fun a => ∃ k : Nat, a = k ∧ k ≤ (x.args).length) (fun a => (x.args).length - (a).toNat) 0 ⟨0, rfl, Nat.zero_le _⟩ (by simp (disch := omega) only [go_sem, Nat.reduceAdd, Nat.reduceSub, Nat.reduceLT, Nat.reduceLeDiff, Nat.reduceEqDiff, Nat.reduceBEq, Nat.reduceBneDiff, Nat.reduceMul, ↓reduceIte, Int.reduceToNat, reduceCtorEq, Int.reduceNeg, Int.reduceAdd, eq_self, if_true]) ?_
    rintro i ⟨k, hi, hk⟩
    have hni : i.toNat = k := by omega
    have hni1 : (i + 1).toNat = k + 1 := by omega
    rcases Nat.lt_or_ge k (x.args).length with hlt | hge
    · have hg := get_at Tm.d hlt
      rw [Tm.d_eq] at hg
      have hltm : k < (x.args.map (Tm.ap s.look)).length := by rw [List.length_map]; exact hlt
      have hc := ih x.args[k] (List.getElem_mem hlt)
      have hse := map_snoc Tm.osh hltm
      rw [Tm.osh_eq, List.getElem_map] at hse
      rcases Nat.eq_zero_or_pos k with h0 | h0
      · subst h0
        obtain rfl : i = 0 := hi
        rw [List.take_zero, List.map_nil, List.nil_append] at hse
        simp (disch := omega) only [go_sem, Nat.reduceAdd, Nat.reduceSub, Nat.reduceLT, Nat.reduceLeDiff, Nat.reduceEqDiff, Nat.reduceBEq, Nat.reduceBneDiff, Nat.reduceMul, ↓reduceIte, Int.reduceToNat, reduceCtorEq, Int.reduceNeg, Int.reduceAdd, hni, hg, hc, m_spec_l4Apply, eq_self, if_true]
        refine ⟨1, ⟨1, rfl, hlt⟩, by omega, ?_⟩
        simp (disch := omega) only [go_sem, Nat.reduceAdd, Nat.reduceSub, Nat.reduceLT, Nat.reduceLeDiff, Nat.reduceEqDiff, Nat.reduceBEq, Nat.reduceBneDiff, Nat.reduceMul, ↓reduceIte, Int.reduceToNat, reduceCtorEq, Int.reduceNeg, Int.reduceAdd, h10, if_false, hse]
      · have hi0 : (i = 0) = False := by simp; omega
        have hi1 : (i + 1 = 0) = False := by simp; omega
        have htl : ((x.args.map (Tm.ap s.look)).take k).length = k := by rw [List.length_take]; omega
        simp (disch := omega) only [go_sem, Nat.reduceAdd, Nat.reduceSub, Nat.reduceLT, Nat.reduceLeDiff, Nat.reduceEqDiff, Nat.reduceBEq, Nat.reduceBneDiff, Nat.reduceMul, ↓reduceIte, Int.reduceToNat, reduceCtorEq, Int.reduceNeg, Int.reduceAdd, hni, hg, hc, m_spec_l4Apply, hi0, if_false, htl]
        refine ⟨i + 1, ⟨k + 1, by omega, hlt⟩, by omega, ?_⟩
        simp (disch := omega) only [go_sem, Nat.reduceAdd, Nat.reduceSub, Nat.reduceLT, Nat.reduceLeDiff, Nat.reduceEqDiff, Nat.reduceBEq, Nat.reduceBneDiff, Nat.reduceMul, ↓reduceIte, Int.reduceToNat, reduceCtorEq, Int.reduceNeg, Int.reduceAdd, hni1, hi1, if_false, hse]
    · obtain rfl : k = x.args.length := by omega
      have hta : (x.args.map (Tm.ap s.look)).take x.args.length = x.args.map (Tm.ap s.look) := by
        have := List.take_length (l := x.args.map (Tm.ap s.look))
        rwa [List.length_map] at this
      rcases Nat.eq_zero_or_pos x.args.length with h0 | h0
      · have hx : x.args = [] := List.eq_nil_of_length_eq_zero h0
        obtain rfl : i = 0 := by omega
        simp (disch := omega) only [go_sem, Nat.reduceAdd, Nat.reduceSub, Nat.reduceLT, Nat.reduceLeDiff, Nat.reduceEqDiff, Nat.reduceBEq, Nat.reduceBneDiff, Nat.reduceMul, ↓reduceIte, Int.reduceToNat, reduceCtorEq, Int.reduceNeg, Int.reduceAdd, hni, hx, eq_self, if_true, List.map_nil, List.length_nil]
      · have hi0 : (i = 0) = False := by simp; omega
        simp (disch := omega) only [go_sem, Nat.reduceAdd, Nat.reduceSub, Nat.reduceLT, Nat.reduceLeDiff, Nat.reduceEqDiff, Nat.reduceBEq, Nat.reduceBneDiff, Nat.reduceMul, ↓reduceIte, Int.reduceToNat, reduceCtorEq, Int.reduceNeg, Int.reduceAdd, hni, hi0, if_false, hta, hfu, her]
theorem l4Apply_E (s : Sb) (hs : s.ok = true) (ht : s.tame) (x : Tm) (hn : x.nodes ≤ 1099511627776) : E 51 [s.sv, x.sv] [] = some ((x.ap s.look).sv, []) :=
  l4Apply_of s hs ht x hn fun y hy => l4Apply_E s hs ht y (by have := Tm.nodes_mem hy; have := Tm.nodes_eq x; omega)
termination_by SizeOf.sizeOf x
decreasing_by exact Tm.lt_of_mem hy
end Go.Proofs.Ytjafnijgkjjadaa

set_option maxRecDepth 100000
set_option linter.unusedSimpArgs false
set_option linter.unusedVariables false
namespace Go.Proofs.Ytjafnijgkjjadaa
open Go.RowKit

noncomputable def Tm.expr (x : Tm) : Bool := x.valid || x.atom
theorem Tm.expr_small {x : Tm} (h : x.expr = true) : x.small = true := by
  unfold Tm.expr Tm.atom Tm.valid at h
  cases hs : x.small with
  | true => rfl
  | false =>
    rw [hs] at h
    split at h <;> simp at h
theorem Tm.expr_nodes {x : Tm} (h : x.expr = true) : x.nodes ≤ 30 := by
  have := Tm.expr_small h
  unfold Tm.small at this
  rw [Bool.and_eq_true, decide_eq_true_eq] at this
  exact this.1
theorem Tm.eqn_var {x : Tm} (h : x.eqn = true) : varB x.name = false := by
  unfold Tm.eqn at h
  rw [dec_iff.1 h]
  kernel_rfl
theorem Tm.expr_names {x : Tm} (h : x.expr = true) : x.names = true ∨ (x.eqn = true ∧ Tm.nameS x.args = true) := by
  unfold Tm.expr Tm.valid at h
  cases hn : x.names with
  | true => exact .inl rfl
  | false =>
    rw [hn, Bool.and_false, Bool.false_or] at h
    unfold Tm.atom at h
    split at h
    · rename_i he
      rw [Bool.and_eq_true] at h
      exact .inr ⟨he, h.2⟩
    · unfold Tm.valid at h; rw [hn, Bool.and_false, Bool.and_false] at h; cases h
theorem Tm.expr_var {x : Tm} (h : x.expr = true) : varB x.name = true → x.args = [] := by
  intro hv
  rcases Tm.expr_names h with h1 | ⟨h1, h2⟩
  · exact Tm.names_var h1 hv
  · rw [Tm.eqn_var h1] at hv; cases hv
theorem Tm.expr_arg {x : Tm} (h : x.expr = true) {y : Tm} (hy : y ∈ x.args) : y.names = true := by
  rcases Tm.expr_names h with h1 | ⟨h1, h2⟩
  · exact Tm.names_arg h1 hy
  · rw [Tm.nameS_all, List.all_eq_true] at h2; exact h2 y hy

def c_impl_Substitution_applied : SC := (.seq (.reg [⟨(some 2), none, (.boxv 34 1 (.t 0))⟩, ⟨(some 3), none, (.boxv 38 2 (.t 1))⟩, ⟨(some 4), none, (.alloc 38 [(.str ⟨#[]⟩), .nil])⟩, ⟨(some 5), none, (.mv (.c (.bool false)))⟩]) (.seq (.reg [⟨(some 7), none, (.load true 1 (.t 2))⟩, ⟨(some 8), none, (.load true 2 (.t 3))⟩, ⟨(some 9), none, (.call 67 [(.t 7), (.t 8)])⟩, ⟨(some 6), none, (.alloc 38 [(.str ⟨#[]⟩), .nil])⟩, ⟨none, none, (.store 2 (.t 6) (.t 9))⟩]) (.seq (.seq (.reg [⟨(some 10), none, (.load true 2 (.t 6))⟩, ⟨(some 11), none, (.call 78 [(.t 10)])⟩, ⟨(some 12), none, (.un .not (.t 11))⟩]) (.cond (.t 12) (.seq (.reg [⟨(some 13), none, (.build [(.str ⟨#[]⟩), .nil] [])⟩, ⟨none, none, (.store 2 (.t 4) (.t 13))⟩, ⟨(some 5), none, (.mv (.c (.bool false)))⟩]) .ret) .skip)) (.seq (.reg [⟨(some 14), none, (.load true 2 (.t 6))⟩, ⟨none, none, (.store 2 (.t 4) (.t 14))⟩, ⟨(some 5), none, (.mv (.c (.bool true)))⟩]) .ret))))
theorem k_impl_Substitution_applied : codeOf Try.prog 54 = some ⟨15, c_impl_Substitution_applied, [(.cell 4 true 2), (.tmp 5)]⟩ := by kernel_rfl
theorem m_impl_Substitution_applied : modes 54 = ⟨[], .own [none, some (38, 2), none], none, false⟩ := by unfold modes; rfl

def c_impl_ApplySubstitution : SC := (.seq (.reg [⟨(some 2), none, (.boxv 34 1 (.t 0))⟩, ⟨(some 3), none, (.boxv 38 2 (.t 1))⟩, ⟨(some 4), none, (.alloc 38 [(.str ⟨#[]⟩), .nil])⟩, ⟨(some 5), none, (.mv (.c (.bool false)))⟩]) (.seq (.seq (.reg [⟨(some 6), none, (.load true 1 (.t 2))⟩, ⟨(some 7), none, (.call 36 [(.t 6)])⟩, ⟨(some 8), none, (.un .not (.t 7))⟩, ⟨(some 9), none, (.mv (.t 8))⟩, ⟨(some 10), (some (9, false)), (.load true 2 (.t 3))⟩, ⟨(some 11), (some (9, false)), (.call 53 [(.t 10)])⟩, ⟨(some 12), (some (9, false)), (.un .not (.t 11))⟩, ⟨(some 13), none, (.pick (.t 9) (.c (.bool true)) (.t 12))⟩]) (.cond (.t 13) (.seq (.reg [⟨(some 14), none, (.build [(.str ⟨#[]⟩), .nil] [])⟩, ⟨none, none, (.store 2 (.t 4) (.t 14))⟩, ⟨(some 5), none, (.mv (.c (.bool false)))⟩]) .ret) .skip)) (.seq (.reg [⟨(some 15), none, (.load true 1 (.t 2))⟩, ⟨(some 16), none, (.load true 2 (.t 3))⟩, ⟨(some 17), none, (.call 54 [(.t 15), (.t 16)])⟩, ⟨(some 18), none, (.ext (.t 17) 0)⟩, ⟨(some 19), none, (.ext (.t 17) 1)⟩, ⟨none, none, (.store 2 (.t 4) (.t 18))⟩, ⟨(some 5), none, (.mv (.t 19))⟩]) .ret)))
theorem k_impl_ApplySubstitution : codeOf Try.prog 29 = some ⟨20, c_impl_ApplySubstitution, [(.cell 4 true 2), (.tmp 5)]⟩ := by kernel_rfl
theorem m_impl_ApplySubstitution : modes 29 = ⟨[], .own [none, some (38, 2), none], none, false⟩ := by unfold modes; rfl

def c_spec_ApplySubstitution : SC := (.seq (.reg [⟨(some 2), none, (.boxv 34 1 (.t 0))⟩, ⟨(some 3), none, (.boxv 38 2 (.t 1))⟩, ⟨(some 4), none, (.alloc 38 [(.str ⟨#[]⟩), .nil])⟩, ⟨(some 5), none, (.mv (.c (.bool false)))⟩]) (.seq (.seq (.reg [⟨(some 7), none, (.load true 1 (.t 2))⟩, ⟨(some 8), none, (.call 33 [(.t 7)])⟩, ⟨(some 9), none, (.un .not (.t 8))⟩, ⟨(some 10), none, (.mv (.t 9))⟩, ⟨(some 11), (some (10, false)), (.load true 2 (.t 3))⟩, ⟨(some 12), (some (10, false)), (.call 50 [(.t 11)])⟩, ⟨(some 13), (some (10, false)), (.un .not (.t 12))⟩, ⟨(some 14), none, (.pick (.t 10) (.c (.bool true)) (.t 13))⟩]) (.cond (.t 14) (.seq (.reg [⟨(some 15), none, (.build [(.str ⟨#[]⟩), .nil] [])⟩, ⟨none, none, (.store 2 (.t 4) (.t 15))⟩, ⟨(some 5), none, (.mv (.c (.bool false)))⟩]) .ret) .skip)) (.seq (.reg [⟨(some 16), none, (.load true 1 (.t 2))⟩, ⟨(some 17), none, (.load true 2 (.t 3))⟩, ⟨(some 18), none, (.call 51 [(.t 16), (.t 17)])⟩, ⟨(some 6), none, (.alloc 38 [(.str ⟨#[]⟩), .nil])⟩, ⟨none, none, (.store 2 (.t 6) (.t 18))⟩]) (.seq (.seq (.reg [⟨(some 19), none, (.load true 2 (.t 6))⟩, ⟨(some 20), none, (.call 50 [(.t 19)])⟩, ⟨(some 21), none, (.un .not (.t 20))⟩]) (.cond (.t 21) (.seq (.reg [⟨(some 22), none, (.build [(.str ⟨#[]⟩), .nil] [])⟩, ⟨none, none, (.store 2 (.t 4) (.t 22))⟩, ⟨(some 5), none, (.mv (.c (.bool false)))⟩]) .ret) .skip)) (.seq (.reg [⟨(some 23), none, (.load true 2 (.t 6))⟩, ⟨none, none, (.store 2 (.t 4) (.t 23))⟩, ⟨(some 5), none, (.mv (.c (.bool true)))⟩]) .ret)))))
theorem k_spec_ApplySubstitution : codeOf Try.prog 25 = some ⟨24, c_spec_ApplySubstitution, [(.cell 4 true 2), (.tmp 5)]⟩ := by kernel_rfl
theorem m_spec_ApplySubstitution : modes 25 = ⟨[], .frz, none, false⟩ := by unfold modes; rfl

theorem isExpression_E (x : Tm) (hn : x.nodes ≤ 1099511627776) : E 53 [x.sv] [] = some (.bool x.expr, []) := by
  have h1 := isValidTerm_E x hn
  have h2 := isEquality_E x
  have h3 := isValidAtom_E x hn
  unfold Tm.expr
  cases hv : x.valid with
  | true =>
    rw [hv] at h1
    rw [Bool.true_or]
    refine E_walk k_impl_isExpression m_impl_isExpression (of_decide_eq_true rfl) ?_
    simp (disch := omega) only [c_impl_isExpression, go_sem, Nat.reduceAdd, Nat.reduceSub, Nat.reduceLT, Nat.reduceLeDiff, Nat.reduceEqDiff, Nat.reduceBEq, Nat.reduceBneDiff, Nat.reduceMul, ↓reduceIte, Int.reduceToNat, reduceCtorEq, Int.reduceNeg, Int.reduceAdd, h1, m_impl_IsValidTerm]
  | false =>
    rw [hv] at h1
    rw [Bool.false_or]
    cases he : x.eqn with
    | true =>
      rw [he] at h2
      refine E_walk k_impl_isExpression m_impl_isExpression (of_decide_eq_true rfl) ?_
      simp (disch := omega) only [c_impl_isExpression, go_sem, Nat.reduceAdd, Nat.reduceSub, Nat.reduceLT, Nat.reduceLeDiff, Nat.reduceEqDiff, Nat.reduceBEq, Nat.reduceBneDiff, Nat.reduceMul, ↓reduceIte, Int.reduceToNat, reduceCtorEq, Int.reduceNeg, Int.reduceAdd, h1, h2, h3, m_impl_IsValidTerm, m_impl_isEquality, m_impl_IsValidAtom]
    | false =>
      rw [he] at h2
      have ha : x.atom = false := by unfold Tm.atom; rw [if_neg (by rw [he]; simp), hv, Bool.and_false]
      rw [ha]
      refine E_walk k_impl_isExpression m_impl_isExpression (of_decide_eq_true rfl) ?_
      simp (disch := omega) only [c_impl_isExpression, go_sem, Nat.reduceAdd, Nat.reduceSub, Nat.reduceLT, Nat.reduceLeDiff, Nat.reduceEqDiff, Nat.reduceBEq, Nat.reduceBneDiff, Nat.reduceMul, ↓reduceIte, Int.reduceToNat, reduceCtorEq, Int.reduceNeg, Int.reduceAdd, h1, h2, m_impl_IsValidTerm, m_impl_isEquality]
theorem l2Any_E (x : Tm) (hn : x.nodes ≤ 1099511627776) : E 50 [x.sv] [] = some (.bool x.expr, []) := by
  have h1 := l2Good_E x hn
  have h3 := l2Atom_E x hn
  unfold Tm.expr
  cases hv : x.valid with
  | true =>
    rw [hv] at h1
    rw [Bool.true_or]
    refine E_walk k_spec_l2Any m_spec_l2Any (of_decide_eq_true rfl) ?_
    simp (disch := omega) only [c_spec_l2Any, go_sem, Nat.reduceAdd, Nat.reduceSub, Nat.reduceLT, Nat.reduceLeDiff, Nat.reduceEqDiff, Nat.reduceBEq, Nat.reduceBneDiff, Nat.reduceMul, ↓reduceIte, Int.reduceToNat, reduceCtorEq, Int.reduceNeg, Int.reduceAdd, h1, m_spec_l2Good]
  | false =>
    rw [hv] at h1
    rw [Bool.false_or]
    refine E_walk k_spec_l2Any m_spec_l2Any (of_decide_eq_true rfl) ?_
    simp (disch := omega) only [c_spec_l2Any, go_sem, Nat.reduceAdd, Nat.reduceSub, Nat.reduceLT, Nat.reduceLeDiff, Nat.reduceEqDiff, Nat.reduceBEq, Nat.reduceBneDiff, Nat.reduceMul, ↓reduceIte, Int.reduceToNat, reduceCtorEq, Int.reduceNeg, Int.reduceAdd, h1, h3, m_spec_l2Good, m_spec_l2Atom]
/-- Whether a substitution can be applied; what comes of it. -/
noncomputable def apOk (s : Sb) (x : Tm) : Bool := s.ok && (x.expr && (x.ap s.look).small)
noncomputable def apTo (s : Sb) (x : Tm) : Tm := if apOk s x then x.ap s.look else .mk ⟨#[]⟩ []
theorem apTo_no {s : Sb} {x : Tm} (h : apOk s x = false) : apTo s x = .mk ⟨#[]⟩ [] := by unfold apTo; rw [if_neg (by rw [h]; simp)]
theorem apTo_yes {s : Sb} {x : Tm} (h : apOk s x = true) : apTo s x = x.ap s.look := by unfold apTo; rw [if_pos h]
theorem zero_osv : (Tm.mk ⟨#[]⟩ []).osv = .agg [.str ⟨#[]⟩, .ref 0] := rfl
theorem zero_obs : (Tm.mk ⟨#[]⟩ []).obs = [.row 38 2 []] := rfl
theorem zero_sv : (Tm.mk ⟨#[]⟩ []).sv = .agg [.str ⟨#[]⟩, .arr []] := rfl
theorem apply_any (s : Sb) (hs : s.ok = true) (ht : s.tame) (x : Tm) (hx : x.expr = true) : E 67 [s.sv, x.sv] [] = some ((x.ap s.look).osv, (x.ap s.look).obs) := by
  have hn := Tm.expr_nodes hx
  exact apply_of s hs ht x (Tm.expr_var hx) (by omega) fun y hy => apply_E s hs ht y (Tm.expr_arg hx hy) (by have := Tm.nodes_mem hy; have := Tm.nodes_eq x; omega)
theorem applied_E (s : Sb) (hs : s.ok = true) (ht : s.tame) (x : Tm) (hx : x.expr = true) : E 54 [s.sv, x.sv] [] = some (.tup [(apTo s x).osv, .bool (apOk s x)], (apTo s x).obs) := by
  have hn := Tm.expr_nodes hx
  have hk := Tm.ap_nodes (Sb.look_okF hs) x
  have h1 := apply_any s hs ht x hx
  have h2 := isSmall_E (x.ap s.look) (by omega)
  cases hq : (x.ap s.look).small with
  | true =>
    have ho : apOk s x = true := by unfold apOk; rw [hs, hx, hq]; rfl
    rw [hq] at h2
    rw [apTo_yes ho, ho]
    refine E_walk k_impl_Substitution_applied m_impl_Substitution_applied (of_decide_eq_true rfl) ?_
    simp (disch := omega) only [c_impl_Substitution_applied, go_sem, Nat.reduceAdd, Nat.reduceSub, Nat.reduceLT, Nat.reduceLeDiff, Nat.reduceEqDiff, Nat.reduceBEq, Nat.reduceBneDiff, Nat.reduceMul, ↓reduceIte, Int.reduceToNat, reduceCtorEq, Int.reduceNeg, Int.reduceAdd, h1, h2, Tm.osv, Tm.obs, m_impl_isSmall, m_impl_Substitution_apply]
  | false =>
    have ho : apOk s x = false := by unfold apOk; rw [hq, Bool.and_false, Bool.and_false]
    rw [hq] at h2
    rw [apTo_no ho, ho, zero_osv, zero_obs]
    refine E_walk k_impl_Substitution_applied m_impl_Substitution_applied (of_decide_eq_true rfl) ?_
    simp (disch := omega) only [c_impl_Substitution_applied, go_sem, Nat.reduceAdd, Nat.reduceSub, Nat.reduceLT, Nat.reduceLeDiff, Nat.reduceEqDiff, Nat.reduceBEq, Nat.reduceBneDiff, Nat.reduceMul, ↓reduceIte, Int.reduceToNat, reduceCtorEq, Int.reduceNeg, Int.reduceAdd, h1, h2, Tm.osv, Tm.obs, m_impl_isSmall, m_impl_Substitution_apply]
theorem applySubstitution_E (s : Sb) (ht : s.tame) (x : Tm) (hn : x.nodes ≤ 1099511627776) : E 29 [s.sv, x.sv] [] = some (.tup [(apTo s x).osv, .bool (apOk s x)], (apTo s x).obs) := by
  have h1 := isValidSubstitution_E s ht
  have h2 := isExpression_E x hn
  cases hs : s.ok with
  | false =>
    have ho : apOk s x = false := by unfold apOk; rw [hs]; rfl
    rw [hs] at h1
    rw [apTo_no ho, ho, zero_osv, zero_obs]
    refine E_walk k_impl_ApplySubstitution m_impl_ApplySubstitution (of_decide_eq_true rfl) ?_
    simp (disch := omega) only [c_impl_ApplySubstitution, go_sem, Nat.reduceAdd, Nat.reduceSub, Nat.reduceLT, Nat.reduceLeDiff, Nat.reduceEqDiff, Nat.reduceBEq, Nat.reduceBneDiff, Nat.reduceMul, ↓reduceIte, Int.reduceToNat, reduceCtorEq, Int.reduceNeg, Int.reduceAdd, h1, m_impl_IsValidSubstitution]
  | true =>
    rw [hs] at h1
    cases hx : x.expr with
    | false =>
      have ho : apOk s x = false := by unfold apOk; rw [hx, Bool.false_and, Bool.and_false]
      rw [hx] at h2
      rw [apTo_no ho, ho, zero_osv, zero_obs]
      refine E_walk k_impl_ApplySubstitution m_impl_ApplySubstitution (of_decide_eq_true rfl) ?_
      simp (disch := omega) only [c_impl_ApplySubstitution, go_sem, Nat.reduceAdd, Nat.reduceSub, Nat.reduceLT, Nat.reduceLeDiff, Nat.reduceEqDiff, Nat.reduceBEq, Nat.reduceBneDiff, Nat.reduceMul, ↓reduceIte, Int.reduceToNat, reduceCtorEq, Int.reduceNeg, Int.reduceAdd, h1, h2, m_impl_IsValidSubstitution, m_impl_isExpression]
    | true =>
      rw [hx] at h2
      have h3 := applied_E s hs ht x hx
      refine E_walk k_impl_ApplySubstitution m_impl_ApplySubstitution (of_decide_eq_true rfl) ?_
      simp (disch := omega) only [c_impl_ApplySubstitution, go_sem, Nat.reduceAdd, Nat.reduceSub, Nat.reduceLT, Nat.reduceLeDiff, Nat.reduceEqDiff, Nat.reduceBEq, Nat.reduceBneDiff, Nat.reduceMul, ↓reduceIte, Int.reduceToNat, reduceCtorEq, Int.reduceNeg, Int.reduceAdd, h1, h2, h3, Tm.osv, Tm.obs, m_impl_IsValidSubstitution, m_impl_isExpression, m_impl_Substitution_applied]
theorem l4ApplySubstitution_E (s : Sb) (ht : s.tame) (x : Tm) (hn : x.nodes ≤ 1099511627776) : E 25 [s.sv, x.sv] [] = some (.tup [(apTo s x).sv, .bool (apOk s x)], []) := by
  have h1 := l4Good_E s ht
  have h2 := l2Any_E x hn
  cases hs : s.ok with
  | false =>
    have ho : apOk s x = false := by unfold apOk; rw [hs]; rfl
    rw [hs] at h1
    rw [apTo_no ho, ho, zero_sv]
    refine E_walk k_spec_ApplySubstitution m_spec_ApplySubstitution (of_decide_eq_true rfl) ?_
    simp (disch := omega) only [c_spec_ApplySubstitution, go_sem, Nat.reduceAdd, Nat.reduceSub, Nat.reduceLT, Nat.reduceLeDiff, Nat.reduceEqDiff, Nat.reduceBEq, Nat.reduceBneDiff, Nat.reduceMul, ↓reduceIte, Int.reduceToNat, reduceCtorEq, Int.reduceNeg, Int.reduceAdd, h1, m_spec_l4Good]
  | true =>
    rw [hs] at h1
    cases hx : x.expr with
    | false =>
      have ho : apOk s x = false := by unfold apOk; rw [hx, Bool.false_and, Bool.and_false]
      rw [hx] at h2
      rw [apTo_no ho, ho, zero_sv]
      refine E_walk k_spec_ApplySubstitution m_spec_ApplySubstitution (of_decide_eq_true rfl) ?_
      simp (disch := omega) only [c_spec_ApplySubstitution, go_sem, Nat.reduceAdd, Nat.reduceSub, Nat.reduceLT, Nat.reduceLeDiff, Nat.reduceEqDiff, Nat.reduceBEq, Nat.reduceBneDiff, Nat.reduceMul, ↓reduceIte, Int.reduceToNat, reduceCtorEq, Int.reduceNeg, Int.reduceAdd, h1, h2, m_spec_l4Good, m_spec_l2Any]
    | true =>
      rw [hx] at h2
      have hn := Tm.expr_nodes hx
      have hk := Tm.ap_nodes (Sb.look_okF hs) x
      have h3 := l4Apply_E s hs ht x (by omega)
      have h4 := l2Any_E (x.ap s.look) (by omega)
      have h5 : (x.ap s.look).expr = (x.ap s.look).small := Tm.ap_any (Sb.look_okF hs) x hx
      rw [h5] at h4
      cases hq : (x.ap s.look).small with
      | true =>
        have ho : apOk s x = true := by unfold apOk; rw [hs, hx, hq]; rfl
        rw [hq] at h4
        rw [apTo_yes ho, ho]
        refine E_walk k_spec_ApplySubstitution m_spec_ApplySubstitution (of_decide_eq_true rfl) ?_
        simp (disch := omega) only [c_spec_ApplySubstitution, go_sem, Nat.reduceAdd, Nat.reduceSub, Nat.reduceLT, Nat.reduceLeDiff, Nat.reduceEqDiff, Nat.reduceBEq, Nat.reduceBneDiff, Nat.reduceMul, ↓reduceIte, Int.reduceToNat, reduceCtorEq, Int.reduceNeg, Int.reduceAdd, h1, h2, h3, h4, m_spec_l4Good, m_spec_l2Any, m_spec_l4Apply]
      | false =>
        have ho : apOk s x = false := by unfold apOk; rw [hq, Bool.and_false, Bool.and_false]
        rw [hq] at h4
        rw [apTo_no ho, ho, zero_sv]
        refine E_walk k_spec_ApplySubstitution m_spec_ApplySubstitution (of_decide_eq_true rfl) ?_
        simp (disch := omega) only [c_spec_ApplySubstitution, go_sem, Nat.reduceAdd, Nat.reduceSub, Nat.reduceLT, Nat.reduceLeDiff, Nat.reduceEqDiff, Nat.reduceBEq, Nat.reduceBneDiff, Nat.reduceMul, ↓reduceIte, Int.reduceToNat, reduceCtorEq, Int.reduceNeg, Int.reduceAdd, h1, h2, h3, h4, m_spec_l4Good, m_spec_l2Any, m_spec_l4Apply]
end Go.Proofs.Ytjafnijgkjjadaa

set_option maxRecDepth 100000
set_option linter.unusedSimpArgs false
set_option linter.unusedVariables false
namespace Go.Proofs.Ytjafnijgkjjadaa
open Go.RowKit

mutual
def Tm.wt : Tm → Nat
  | .mk name args => 1 + Tm.wtS args
def Tm.wtS : List Tm → Nat
  | [] => 0
  | x :: xs => Tm.wt x + Tm.wtS xs
end
theorem Tm.wt_eq (x : Tm) : x.wt = 1 + Tm.wtS x.args := by
  obtain ⟨name, args⟩ := x
  rw [Tm.wt]; rfl
mutual
noncomputable def Tm.mk1 : Tm → Int → Tm × Int
  | .mk name args, k => ((Tm.mk (markT k) ((Tm.mkS args (k + 1)).1)), (Tm.mkS args (k + 1)).2)
noncomputable def Tm.mkS : List Tm → Int → List Tm × Int
  | [], k => ([], k)
  | x :: xs, k => ((Tm.mk1 x k).1 :: (Tm.mkS xs (Tm.mk1 x k).2).1, (Tm.mkS xs (Tm.mk1 x k).2).2)
end
theorem Tm.mk1_eq (x : Tm) (k : Int) : x.mk1 k = ((Tm.mk (markT k) ((Tm.mkS x.args (k + 1)).1)), (Tm.mkS x.args (k + 1)).2) := by
  obtain ⟨name, args⟩ := x
  rw [Tm.mk1]; rfl
theorem Tm.mk1_d (x : Tm) (k : Int) : Tm.d (x.mk1 k).1 = [.str (markT k), .arr ((Tm.mkS x.args (k + 1)).1.map Tm.d)] := by
  rw [Tm.mk1_eq, Tm.d_eq]
  try rfl
theorem Tm.mk1_o (x : Tm) (k : Int) : Tm.o (x.mk1 k).1 = [.str (markT k), .ow ((Tm.mkS x.args (k + 1)).1.map Tm.o)] := by
  rw [Tm.mk1_eq, Tm.o_eq]
  try rfl
theorem Tm.mkS_end_of : ∀ (xs : List Tm) (k : Int), (∀ x ∈ xs, ∀ k, (x.mk1 k).2 = k + x.wt) → (Tm.mkS xs k).2 = k + Tm.wtS xs
  | [], k, _ => by simp [Tm.mkS, Tm.wtS]
  | x :: xs, k, h => by
    rw [Tm.mkS, Tm.wtS]
    have h1 := h x (by simp) k
    have h2 := Tm.mkS_end_of xs (x.mk1 k).2 fun y hy => h y (by simp [hy])
    dsimp only
    omega
theorem Tm.mk1_end (x : Tm) (k : Int) : (x.mk1 k).2 = k + x.wt := by
  rw [Tm.mk1_eq, Tm.wt_eq]
  have h := fun k => Tm.mkS_end_of x.args k fun y hy k => Tm.mk1_end y k
  simp only [h]
  omega
termination_by SizeOf.sizeOf x
decreasing_by exact Tm.lt_of_mem hy
theorem Tm.mkS_end (xs : List Tm) (k : Int) : (Tm.mkS xs k).2 = k + Tm.wtS xs := Tm.mkS_end_of xs k fun x _ k => Tm.mk1_end x k
theorem Tm.wtS_of : ∀ xs : List Tm, (∀ x ∈ xs, x.wt ≤ 5 * (1 + x.bulk)) → Tm.wtS xs ≤ 5 * (xs.length + Tm.sumB xs)
  | [], _ => by simp [Tm.wtS]
  | x :: xs, h => by
    have h1 := h x (by simp)
    have h2 := Tm.wtS_of xs fun y hy => h y (by simp [hy])
    rw [Tm.wtS, Tm.sumB]; simp only [List.length_cons]; omega
theorem Tm.wt_bulk (x : Tm) : x.wt ≤ 5 * (1 + x.bulk) := by
  rw [Tm.wt_eq, Tm.bulk_eq]
  have h := Tm.wtS_of x.args fun y hy => Tm.wt_bulk y
  omega
termination_by SizeOf.sizeOf x
decreasing_by exact Tm.lt_of_mem hy
theorem Tm.wtS_bulk (xs : List Tm) : Tm.wtS xs ≤ 5 * (xs.length + Tm.sumB xs) := Tm.wtS_of xs fun x _ => Tm.wt_bulk x
theorem Tm.length_wt : ∀ xs : List Tm, xs.length ≤ Tm.wtS xs
  | [] => Nat.le_refl _
  | x :: xs => by
    have := Tm.length_wt xs
    have := Tm.wt_eq x
    rw [Tm.wtS]; simp only [List.length_cons]; omega
def c_laws_markTermS : SC := (.seq (.reg [⟨(some 4), none, (.mv (.c (.int .i64 0)))⟩]) (.seq (.seq (.reg [⟨(some 5), none, (.mv (.c (.int .i64 0)))⟩]) (.block 0 (.loop [1, 1, 0, 0, 0, 1, 0, 0, 0, 0, 0, 0, 0, 0, 0, 0, 0, 0, 0, 0, 0, 0, 0, 0, 0, 0, 0, 0] (.seq (.seq (.reg [⟨(some 6), none, (.mv (.t 5))⟩, ⟨(some 7), none, (.mv (.t 0))⟩, ⟨(some 8), none, (.len false (.t 7))⟩, ⟨(some 9), none, (.bin .lss false (.t 6) (.t 8))⟩]) (.cond (.t 9) .skip (.exit 0))) (.seq (.block 1 (.seq (.reg [⟨(some 12), none, (.mv (.t 0))⟩, ⟨(some 13), none, (.mv (.t 5))⟩, ⟨(some 14), none, (.mv (.t 1))⟩, ⟨(some 15), none, (.call 71 [(.t 14)])⟩, ⟨(some 16), none, (.iaddr 2 (.t 12) (.t 13))⟩, ⟨(some 17), none, (.faddr 0 (.t 16))⟩, ⟨none, none, (.store 1 (.t 17) (.t 15))⟩]) (.seq (.reg [⟨(some 18), none, (.mv (.t 1))⟩, ⟨(some 19), none, (.bin .add false (.t 18) (.c (.int .i64 1)))⟩, ⟨(some 1), none, (.mv (.t 19))⟩]) (.reg [⟨(some 20), none, (.mv (.t 0))⟩, ⟨(some 21), none, (.mv (.t 5))⟩, ⟨(some 22), none, (.iaddr 2 (.t 20) (.t 21))⟩, ⟨(some 23), none, (.faddr 1 (.t 22))⟩, ⟨(some 24), none, (.load false 1 (.t 23))⟩, ⟨(some 25), none, (.mv (.t 1))⟩, ⟨(some 26), none, (.call 72 [(.t 24), (.t 25)])⟩, ⟨(some 1), none, (.mv (.t 26))⟩])))) (.reg [⟨(some 10), none, (.mv (.t 5))⟩, ⟨(some 11), none, (.bin .add false (.t 10) (.c (.int .i64 1)))⟩, ⟨(some 5), none, (.mv (.t 11))⟩])))))) (.seq (.reg [⟨(some 27), none, (.mv (.t 1))⟩, ⟨(some 4), none, (.mv (.t 27))⟩]) .ret)))
theorem k_laws_markTermS : codeOf Try.prog 72 = some ⟨28, c_laws_markTermS, [(.tmp 4)]⟩ := by kernel_rfl
theorem m_laws_markTermS : modes 72 = ⟨[true], .asis, none, true⟩ := by unfold modes; rfl
abbrev MarkTS_Term (xs : List Tm) : Prop := ∀ (k : Int) (ob : List Ob), 1 ≤ k → k + Tm.wtS xs ≤ 1099511627776 → toTree ob = [.tree (xs.map Tm.o) []] → E 72 [.ref 0, .int .i64 k] ob = some (.int .i64 (Tm.mkS xs k).2, [.tree ((Tm.mkS xs k).1.map Tm.o) []])
set_option maxHeartbeats 2000000 in
theorem markTS_Term_of (xs : List Tm) (ih : ∀ x ∈ xs, MarkTS_Term x.args) : MarkTS_Term xs := by
  intro k0 ob h1 h2 hob
  have hlen : ob.length = 1 := by rw [← toTree_len, hob]; rfl
  have hL := Tm.length_wt xs
  refine E_walk k_laws_markTermS m_laws_markTermS (of_decide_eq_true rfl) ?_
  simp (disch := omega) only [c_laws_markTermS, go_sem, Nat.reduceAdd, Nat.reduceSub, Nat.reduceLT, Nat.reduceLeDiff, Nat.reduceEqDiff, Nat.reduceBEq, Nat.reduceBneDiff, Nat.reduceMul, ↓reduceIte, Int.reduceToNat, reduceCtorEq, Int.reduceNeg, Int.reduceAdd, hob, hlen]
  refine go_loop (α := Int × (Int) × (List Tm)) (fun a => ⟨slots 28 0 [(0, .ref 0), (1, .int .i64 (a.2.1)), (5, .int .i64 (a.1))], [.tree (((a.2.2) ++ xs.drop (a.1).toNat).map Tm.o) []]⟩) (fun a => ∃ k : Nat, a.1 = k ∧ k ≤ (xs).length ∧ (a.2.2).length = k ∧ 1 ≤ (a.2.1) ∧ (a.2.1) + Tm.wtS (xs.drop k) = k0 + Tm.wtS xs ∧ Tm.mkS xs k0 = ((a.2.2) ++ (Tm.mkS (xs.drop k) (a.2.1)).1, (Tm.mkS (xs.drop k) (a.2.1)).2)) (fun a => (xs).length - (a.1).toNat) (0, k0, []) ⟨0, rfl, Nat.zero_le _, rfl, h1, by rw [List.drop_zero], by simp⟩ (by simp (disch := omega) only [go_sem, Nat.reduceAdd, Nat.reduceSub, Nat.reduceLT, Nat.reduceLeDiff, Nat.reduceEqDiff, Nat.reduceBEq, Nat.reduceBneDiff, Nat.reduceMul, ↓reduceIte, Int.reduceToNat, reduceCtorEq, Int.reduceNeg, Int.reduceAdd, Int.toNat_zero]) ?_
  rintro ⟨i, kk, dn⟩ ⟨k, hi, hk, hR⟩
  dsimp only at hi hR
  have hni : i.toNat = k := by omega
  have hni1 : (i + 1).toNat = k + 1 := by omega
  rcases Nat.lt_or_ge k (xs).length with hlt | hge
  · obtain ⟨hd, hk1, hkn, hm⟩ := hR
    have hdr : xs.drop k = xs[k] :: xs.drop (k + 1) := List.drop_eq_getElem_cons hlt
    have hel : (dn ++ xs.drop k).length = xs.length := by simp; omega
    have hg : (List.map Tm.o (dn ++ xs.drop k))[k]? = some [.str xs[k].name, .ow (xs[k].args.map Tm.o)] := by
      rw [← Tm.o_eq, hdr, List.getElem?_map, List.getElem?_append_right (by omega), hd, Nat.sub_self]; rfl
    rw [hdr, Tm.wtS] at hkn
    rw [hdr, Tm.mkS] at hm
    have hn1 := Tm.wt_eq xs[k]
    have e1 := Tm.mkS_end xs[k].args ((kk + 1))
    have t0 := markText_E (k := kk) (by omega) (by omega)
    have c58 := ih xs[k] (List.getElem_mem hlt) ((kk + 1)) [.tree (xs[k].args.map Tm.o) []] (by omega) (by omega) rfl
    have hs := map_set_mid Tm.o dn (xs.drop (k + 1)) xs[k] (xs[k].mk1 kk).1 hd
    rw [Tm.mk1_o, ← hdr] at hs
    have hgs : ∀ a, ((List.map Tm.o (dn ++ xs.drop k)).set k a)[k]? = some a := fun a => List.getElem?_set_self (by rw [List.length_map, hel]; exact hlt)
    have he := Tm.mk1_end xs[k] kk
    have three : ∀ z : Int, dec ((3 : Int) = 0) = false := fun _ => dec_f (by omega)
    simp (disch := omega) only [go_sem, Nat.reduceAdd, Nat.reduceSub, Nat.reduceLT, Nat.reduceLeDiff, Nat.reduceEqDiff, Nat.reduceBEq, Nat.reduceBneDiff, Nat.reduceMul, ↓reduceIte, Int.reduceToNat, reduceCtorEq, Int.reduceNeg, Int.reduceAdd, hni, hel, hg, t0, c58, m_laws_markTermS, m_laws_markText, hgs, List.length_set, List.set_set, hs, three 0]
    refine ⟨(i + 1, (xs[k].mk1 kk).2, dn ++ [(xs[k].mk1 kk).1]), ⟨k + 1, by dsimp only; omega, hlt, by dsimp only; simp [hd], by dsimp only; omega, by dsimp only; omega, by rw [hm]; simp⟩, by dsimp only; omega, ?_⟩
    dsimp only
    rw [hni1, Tm.mk1_eq]
    refine ⟨⟨?_, rfl⟩, rfl⟩
    first | rfl | omega
  · obtain ⟨hd, hk1, hkn, hm⟩ := hR
    have hdr : xs.drop k = [] := List.drop_eq_nil_of_le hge
    rw [hdr, Tm.mkS] at hm
    rw [hm]
    simp (disch := omega) only [go_sem, Nat.reduceAdd, Nat.reduceSub, Nat.reduceLT, Nat.reduceLeDiff, Nat.reduceEqDiff, Nat.reduceBEq, Nat.reduceBneDiff, Nat.reduceMul, ↓reduceIte, Int.reduceToNat, reduceCtorEq, Int.reduceNeg, Int.reduceAdd, hni, hdr, List.append_nil]
theorem markTS1_Term (x : Tm) : MarkTS_Term x.args := markTS_Term_of x.args fun y hy => markTS1_Term y
termination_by SizeOf.sizeOf x
decreasing_by exact Tm.lt_of_mem hy
theorem markTS_Term (xs : List Tm) : MarkTS_Term xs := markTS_Term_of xs fun y _ => markTS1_Term y
def Bd.wt (x : Bd) : Nat := 2 + Tm.wtS x.term.args
theorem Bd.wt_eq (x : Bd) : x.wt = 2 + Tm.wtS x.term.args := rfl
noncomputable def Bd.mk1 (x : Bd) (k : Int) : Bd × Int := ((Bd.mk (markT k) (Tm.mk (markT (k + 1)) ((Tm.mkS x.term.args (k + 1 + 1)).1))), (Tm.mkS x.term.args (k + 1 + 1)).2)
theorem Bd.mk1_eq (x : Bd) (k : Int) : x.mk1 k = ((Bd.mk (markT k) (Tm.mk (markT (k + 1)) ((Tm.mkS x.term.args (k + 1 + 1)).1))), (Tm.mkS x.term.args (k + 1 + 1)).2) := rfl
def Bd.wtS : List Bd → Nat
  | [] => 0
  | x :: xs => Bd.wt x + Bd.wtS xs
noncomputable def Bd.mkS : List Bd → Int → List Bd × Int
  | [], k => ([], k)
  | x :: xs, k => ((Bd.mk1 x k).1 :: (Bd.mkS xs (Bd.mk1 x k).2).1, (Bd.mkS xs (Bd.mk1 x k).2).2)
theorem Bd.mk1_d (x : Bd) (k : Int) : Bd.d (x.mk1 k).1 = [.str (markT k), .str (markT (k + 1)), .arr ((Tm.mkS x.term.args (k + 1 + 1)).1.map Tm.d)] := by
  rw [Bd.mk1_eq, Bd.d_eq]
  try rfl
theorem Bd.mk1_o (x : Bd) (k : Int) : Bd.o (x.mk1 k).1 = [.str (markT k), .str (markT (k + 1)), .ow ((Tm.mkS x.term.args (k + 1 + 1)).1.map Tm.o)] := by
  rw [Bd.mk1_eq, Bd.o_eq]
  try rfl
theorem Bd.mk1_end (x : Bd) (k : Int) : (x.mk1 k).2 = k + x.wt := by
  rw [Bd.mk1_eq, Bd.wt_eq]
  first
    | omega
    | (simp only [Tm.mkS_end]; done)
    | (simp only [Tm.mkS_end]; omega)
    | simp
theorem Bd.mkS_end : ∀ (xs : List Bd) (k : Int), (Bd.mkS xs k).2 = k + Bd.wtS xs
  | [], k => by simp [Bd.mkS, Bd.wtS]
  | x :: xs, k => by
    rw [Bd.mkS, Bd.wtS]
    have h1 := Bd.mk1_end x k
    have h2 := Bd.mkS_end xs (x.mk1 k).2
    dsimp only
    omega
theorem Bd.wt_bulk (x : Bd) : x.wt ≤ 5 * (1 + x.bulk) := by
  rw [Bd.wt_eq, Bd.bulk_eq]
  have h0 := Tm.wtS_bulk x.term.args
  have q1 := Tm.bulk_eq x.term
  omega
theorem Bd.wtS_bulk : ∀ xs : List Bd, Bd.wtS xs ≤ 5 * (xs.length + Bd.sumB xs)
  | [] => by simp [Bd.wtS]
  | x :: xs => by
    have h1 := Bd.wt_bulk x
    have h2 := Bd.wtS_bulk xs
    rw [Bd.wtS, Bd.sumB]; simp only [List.length_cons]; omega
theorem Bd.length_wt : ∀ xs : List Bd, xs.length ≤ Bd.wtS xs
  | [] => Nat.le_refl _
  | x :: xs => by
    have := Bd.length_wt xs
    have := Bd.wt_eq x
    rw [Bd.wtS]; simp only [List.length_cons]; omega
def c_laws_markBindingS : SC := (.seq (.reg [⟨(some 4), none, (.mv (.c (.int .i64 0)))⟩]) (.seq (.seq (.reg [⟨(some 5), none, (.mv (.c (.int .i64 0)))⟩]) (.block 0 (.loop [1, 1, 0, 0, 0, 1, 0, 0, 0, 0, 0, 0, 0, 0, 0, 0, 0, 0, 0, 0, 0, 0, 0, 0, 0, 0, 0, 0, 0, 0, 0, 0, 0, 0, 0, 0, 0, 0] (.seq (.seq (.reg [⟨(some 6), none, (.mv (.t 5))⟩, ⟨(some 7), none, (.mv (.t 0))⟩, ⟨(some 8), none, (.len false (.t 7))⟩, ⟨(some 9), none, (.bin .lss false (.t 6) (.t 8))⟩]) (.cond (.t 9) .skip (.exit 0))) (.seq (.block 1 (.seq (.reg [⟨(some 12), none, (.mv (.t 0))⟩, ⟨(some 13), none, (.mv (.t 5))⟩, ⟨(some 14), none, (.mv (.t 1))⟩, ⟨(some 15), none, (.call 71 [(.t 14)])⟩, ⟨(some 16), none, (.iaddr 3 (.t 12) (.t 13))⟩, ⟨(some 17), none, (.faddr 0 (.t 16))⟩, ⟨none, none, (.store 1 (.t 17) (.t 15))⟩]) (.seq (.reg [⟨(some 18), none, (.mv (.t 1))⟩, ⟨(some 19), none, (.bin .add false (.t 18) (.c (.int .i64 1)))⟩, ⟨(some 1), none, (.mv (.t 19))⟩]) (.seq (.reg [⟨(some 20), none, (.mv (.t 0))⟩, ⟨(some 21), none, (.mv (.t 5))⟩, ⟨(some 22), none, (.mv (.t 1))⟩, ⟨(some 23), none, (.call 71 [(.t 22)])⟩, ⟨(some 24), none, (.iaddr 3 (.t 20) (.t 21))⟩, ⟨(some 25), none, (.faddr 1 (.t 24))⟩, ⟨(some 26), none, (.faddr 0 (.t 25))⟩, ⟨none, none, (.store 1 (.t 26) (.t 23))⟩]) (.seq (.reg [⟨(some 27), none, (.mv (.t 1))⟩, ⟨(some 28), none, (.bin .add false (.t 27) (.c (.int .i64 1)))⟩, ⟨(some 1), none, (.mv (.t 28))⟩]) (.reg [⟨(some 29), none, (.mv (.t 0))⟩, ⟨(some 30), none, (.mv (.t 5))⟩, ⟨(some 31), none, (.iaddr 3 (.t 29) (.t 30))⟩, ⟨(some 32), none, (.faddr 1 (.t 31))⟩, ⟨(some 33), none, (.faddr 1 (.t 32))⟩, ⟨(some 34), none, (.load false 1 (.t 33))⟩, ⟨(some 35), none, (.mv (.t 1))⟩, ⟨(some 36), none, (.call 72 [(.t 34), (.t 35)])⟩, ⟨(some 1), none, (.mv (.t 36))⟩])))))) (.reg [⟨(some 10), none, (.mv (.t 5))⟩, ⟨(some 11), none, (.bin .add false (.t 10) (.c (.int .i64 1)))⟩, ⟨(some 5), none, (.mv (.t 11))⟩])))))) (.seq (.reg [⟨(some 37), none, (.mv (.t 1))⟩, ⟨(some 4), none, (.mv (.t 37))⟩]) .ret)))
theorem k_laws_markBindingS : codeOf Try.prog 43 = some ⟨38, c_laws_markBindingS, [(.tmp 4)]⟩ := by kernel_rfl
theorem m_laws_markBindingS : modes 43 = ⟨[true], .asis, none, true⟩ := by unfold modes; rfl
abbrev MarkTS_Binding (xs : List Bd) : Prop := ∀ (k : Int) (ob : List Ob), 1 ≤ k → k + Bd.wtS xs ≤ 1099511627776 → toTree ob = [.tree (xs.map Bd.o) []] → E 43 [.ref 0, .int .i64 k] ob = some (.int .i64 (Bd.mkS xs k).2, [.tree ((Bd.mkS xs k).1.map Bd.o) []])
set_option maxHeartbeats 2000000 in
theorem markTS_Binding_of (xs : List Bd) : MarkTS_Binding xs := by
  intro k0 ob h1 h2 hob
  have hlen : ob.length = 1 := by rw [← toTree_len, hob]; rfl
  have hL := Bd.length_wt xs
  refine E_walk k_laws_markBindingS m_laws_markBindingS (of_decide_eq_true rfl) ?_
  simp (disch := omega) only [c_laws_markBindingS, go_sem, Nat.reduceAdd, Nat.reduceSub, Nat.reduceLT, Nat.reduceLeDiff, Nat.reduceEqDiff, Nat.reduceBEq, Nat.reduceBneDiff, Nat.reduceMul, ↓reduceIte, Int.reduceToNat, reduceCtorEq, Int.reduceNeg, Int.reduceAdd, hob, hlen]
  refine go_loop (α := Int × (Int) × (List Bd)) (fun a => ⟨slots 38 0 [(0, .ref 0), (1, .int .i64 (a.2.1)), (5, .int .i64 (a.1))], [.tree (((a.2.2) ++ xs.drop (a.1).toNat).map Bd.o) []]⟩) (fun a => ∃ k : Nat, a.1 = k ∧ k ≤ (xs).length ∧ (a.2.2).length = k ∧ 1 ≤ (a.2.1) ∧ (a.2.1) + Bd.wtS (xs.drop k) = k0 + Bd.wtS xs ∧ Bd.mkS xs k0 = ((a.2.2) ++ (Bd.mkS (xs.drop k) (a.2.1)).1, (Bd.mkS (xs.drop k) (a.2.1)).2)) (fun a => (xs).length - (a.1).toNat) (0, k0, []) ⟨0, rfl, Nat.zero_le _, rfl, h1, by rw [List.drop_zero], by simp⟩ (by simp (disch := omega) only [go_sem, Nat.reduceAdd, Nat.reduceSub, Nat.reduceLT, Nat.reduceLeDiff, Nat.reduceEqDiff, Nat.reduceBEq, Nat.reduceBneDiff, Nat.reduceMul, ↓reduceIte, Int.reduceToNat, reduceCtorEq, Int.reduceNeg, Int.reduceAdd, Int.toNat_zero]) ?_
  rintro ⟨i, kk, dn⟩ ⟨k, hi, hk, hR⟩
  dsimp only at hi hR
  have hni : i.toNat = k := by omega
  have hni1 : (i + 1).toNat = k + 1 := by omega
  rcases Nat.lt_or_ge k (xs).length with hlt | hge
  · obtain ⟨hd, hk1, hkn, hm⟩ := hR
    have hdr : xs.drop k = xs[k] :: xs.drop (k + 1) := List.drop_eq_getElem_cons hlt
    have hel : (dn ++ xs.drop k).length = xs.length := by simp; omega
    have hg : (List.map Bd.o (dn ++ xs.drop k))[k]? = some [.str xs[k].var, .str xs[k].term.name, .ow (xs[k].term.args.map Tm.o)] := by
      rw [← Bd.o_eq, hdr, List.getElem?_map, List.getElem?_append_right (by omega), hd, Nat.sub_self]; rfl
    rw [hdr, Bd.wtS] at hkn
    rw [hdr, Bd.mkS] at hm
    have hn1 := Bd.wt_eq xs[k]
    have e2 := Tm.mkS_end xs[k].term.args ((kk + 1 + 1))
    have t0 := markText_E (k := kk) (by omega) (by omega)
    have t58 := markText_E (k := (kk + 1)) (by omega) (by omega)
    have c123 := markTS_Term xs[k].term.args ((kk + 1 + 1)) [.tree (xs[k].term.args.map Tm.o) []] (by omega) (by omega) rfl
    have hs := map_set_mid Bd.o dn (xs.drop (k + 1)) xs[k] (xs[k].mk1 kk).1 hd
    rw [Bd.mk1_o, ← hdr] at hs
    have hgs : ∀ a, ((List.map Bd.o (dn ++ xs.drop k)).set k a)[k]? = some a := fun a => List.getElem?_set_self (by rw [List.length_map, hel]; exact hlt)
    have he := Bd.mk1_end xs[k] kk
    have three : ∀ z : Int, dec ((3 : Int) = 0) = false := fun _ => dec_f (by omega)
    simp (disch := omega) only [go_sem, Nat.reduceAdd, Nat.reduceSub, Nat.reduceLT, Nat.reduceLeDiff, Nat.reduceEqDiff, Nat.reduceBEq, Nat.reduceBneDiff, Nat.reduceMul, ↓reduceIte, Int.reduceToNat, reduceCtorEq, Int.reduceNeg, Int.reduceAdd, hni, hel, hg, t0, t58, c123, m_laws_markTermS, m_laws_markText, hgs, List.length_set, List.set_set, hs, three 0]
    refine ⟨(i + 1, (xs[k].mk1 kk).2, dn ++ [(xs[k].mk1 kk).1]), ⟨k + 1, by dsimp only; omega, hlt, by dsimp only; simp [hd], by dsimp only; omega, by dsimp only; omega, by rw [hm]; simp⟩, by dsimp only; omega, ?_⟩
    dsimp only
    rw [hni1, Bd.mk1_eq]
    refine ⟨⟨?_, rfl⟩, rfl⟩
    first | rfl | omega
  · obtain ⟨hd, hk1, hkn, hm⟩ := hR
    have hdr : xs.drop k = [] := List.drop_eq_nil_of_le hge
    rw [hdr, Bd.mkS] at hm
    rw [hm]
    simp (disch := omega) only [go_sem, Nat.reduceAdd, Nat.reduceSub, Nat.reduceLT, Nat.reduceLeDiff, Nat.reduceEqDiff, Nat.reduceBEq, Nat.reduceBneDiff, Nat.reduceMul, ↓reduceIte, Int.reduceToNat, reduceCtorEq, Int.reduceNeg, Int.reduceAdd, hni, hdr, List.append_nil]
theorem markTS_Binding (xs : List Bd) : MarkTS_Binding xs := markTS_Binding_of xs
end Go.Proofs.Ytjafnijgkjjadaa

set_option maxRecDepth 100000
set_option linter.unusedSimpArgs false
set_option linter.unusedVariables false
namespace Go.Proofs.Ytjafnijgkjjadaa
open Go.RowKit

def c_laws_heldTermS : SC := (.seq (.reg [⟨(some 4), none, (.mv (.c (.int .i64 0)))⟩]) (.seq (.seq (.reg [⟨(some 5), none, (.mv (.c (.int .i64 0)))⟩]) (.block 0 (.loop [1, 1, 0, 0, 0, 1, 0, 0, 0, 0, 0, 0, 0, 0, 0, 0, 0, 0, 0, 0, 0, 0, 0, 0, 0, 0, 0, 0, 0, 0, 0, 0] (.seq (.seq (.reg [⟨(some 6), none, (.mv (.t 5))⟩, ⟨(some 7), none, (.mv (.t 0))⟩, ⟨(some 8), none, (.len false (.t 7))⟩, ⟨(some 9), none, (.bin .lss false (.t 6) (.t 8))⟩]) (.cond (.t 9) .skip (.exit 0))) (.seq (.block 1 (.seq (.seq (.dreg [[], [], [0, 1], [2, 0, 1], [3, 2, 0, 1], [], [5], [4, 3, 2, 0, 1, 6, 5]] [⟨(some 12), none, (.mv (.t 0))⟩, ⟨(some 13), none, (.mv (.t 5))⟩, ⟨(some 14), none, (.iaddr 2 (.t 12) (.t 13))⟩, ⟨(some 15), none, (.faddr 0 (.t 14))⟩, ⟨(some 16), none, (.load false 1 (.t 15))⟩, ⟨(some 17), none, (.mv (.t 1))⟩, ⟨(some 18), none, (.call 71 [(.t 17)])⟩, ⟨(some 19), none, (.bin .neq false (.t 16) (.t 18))⟩]) (.cond (.t 19) (.seq (.reg [⟨(some 4), none, (.mv (.c (.int .i64 (-(0 + 1)))))⟩]) .ret) .skip)) (.seq (.reg [⟨(some 20), none, (.mv (.t 1))⟩, ⟨(some 21), none, (.bin .add false (.t 20) (.c (.int .i64 1)))⟩, ⟨(some 1), none, (.mv (.t 21))⟩]) (.seq (.reg [⟨(some 22), none, (.mv (.t 0))⟩, ⟨(some 23), none, (.mv (.t 5))⟩, ⟨(some 24), none, (.iaddr 2 (.t 22) (.t 23))⟩, ⟨(some 25), none, (.faddr 1 (.t 24))⟩, ⟨(some 26), none, (.load false 1 (.t 25))⟩, ⟨(some 27), none, (.mv (.t 1))⟩, ⟨(some 28), none, (.call 73 [(.t 26), (.t 27)])⟩, ⟨(some 1), none, (.mv (.t 28))⟩]) (.seq (.reg [⟨(some 29), none, (.mv (.t 1))⟩, ⟨(some 30), none, (.bin .lss false (.t 29) (.c (.int .i64 0)))⟩]) (.cond (.t 30) (.seq (.reg [⟨(some 4), none, (.mv (.c (.int .i64 (-(0 + 1)))))⟩]) .ret) .skip)))))) (.reg [⟨(some 10), none, (.mv (.t 5))⟩, ⟨(some 11), none, (.bin .add false (.t 10) (.c (.int .i64 1)))⟩, ⟨(some 5), none, (.mv (.t 11))⟩])))))) (.seq (.reg [⟨(some 31), none, (.mv (.t 1))⟩, ⟨(some 4), none, (.mv (.t 31))⟩]) .ret)))
theorem k_laws_heldTermS : codeOf Try.prog 73 = some ⟨32, c_laws_heldTermS, [(.tmp 4)]⟩ := by kernel_rfl
theorem m_laws_heldTermS : modes 73 = ⟨[], .asis, none, false⟩ := by unfold modes; rfl
theorem Tm.mkS_len : ∀ (xs : List Tm) (k : Int), (Tm.mkS xs k).1.length = xs.length
  | [], k => by rw [Tm.mkS]
  | x :: xs, k => by rw [Tm.mkS]; simp only [List.length_cons]; rw [Tm.mkS_len xs]
abbrev HeldTS_Term (xs : List Tm) : Prop := ∀ k : Int, 1 ≤ k → k + Tm.wtS xs ≤ 1099511627776 → E 73 [.arr ((Tm.mkS xs k).1.map Tm.d), .int .i64 k] [] = some (.int .i64 (Tm.mkS xs k).2, [])
set_option maxHeartbeats 2000000 in
theorem heldTS_Term_of (xs : List Tm) (ih : ∀ x ∈ xs, HeldTS_Term x.args) : HeldTS_Term xs := by
  intro k0 h1 h2
  obtain ⟨ys, hys⟩ : ∃ ys, ys = (Tm.mkS xs k0).1 := ⟨_, rfl⟩
  have hyl : ys.length = xs.length := by rw [hys, Tm.mkS_len]
  rw [← hys]
  have hL := Tm.length_wt xs
  refine E_walk k_laws_heldTermS m_laws_heldTermS (of_decide_eq_true rfl) ?_
  simp (disch := omega) only [c_laws_heldTermS, go_sem, Nat.reduceAdd, Nat.reduceSub, Nat.reduceLT, Nat.reduceLeDiff, Nat.reduceEqDiff, Nat.reduceBEq, Nat.reduceBneDiff, Nat.reduceMul, ↓reduceIte, Int.reduceToNat, reduceCtorEq, Int.reduceNeg, Int.reduceAdd]
  refine go_loop (α := Int × (Int)) (fun a => ⟨slots 32 0 [(0, .arr (ys.map Tm.d)), (1, .int .i64 (a.2)), (5, .int .i64 (a.1))], []⟩) (fun a => ∃ k : Nat, a.1 = k ∧ k ≤ (ys).length ∧ 1 ≤ (a.2) ∧ (a.2) + Tm.wtS (xs.drop k) = k0 + Tm.wtS xs ∧ ys.drop k = (Tm.mkS (xs.drop k) (a.2)).1 ∧ (Tm.mkS xs k0).2 = (Tm.mkS (xs.drop k) (a.2)).2) (fun a => (ys).length - (a.1).toNat) (0, k0) ⟨0, rfl, Nat.zero_le _, h1, by rw [List.drop_zero], by rw [List.drop_zero, List.drop_zero, hys], by rw [List.drop_zero]⟩ (by simp (disch := omega) only [go_sem, Nat.reduceAdd, Nat.reduceSub, Nat.reduceLT, Nat.reduceLeDiff, Nat.reduceEqDiff, Nat.reduceBEq, Nat.reduceBneDiff, Nat.reduceMul, ↓reduceIte, Int.reduceToNat, reduceCtorEq, Int.reduceNeg, Int.reduceAdd]) ?_
  rintro ⟨i, kk⟩ ⟨k, hi, hk, hR⟩
  dsimp only at hi hR
  have hni : i.toNat = k := by omega
  have hni1 : (i + 1).toNat = k + 1 := by omega
  rcases Nat.lt_or_ge k (ys).length with hlt | hge
  · obtain ⟨hk1, hkn, hy, hm⟩ := hR
    have hlx : k < xs.length := by omega
    have hdr : xs.drop k = xs[k] :: xs.drop (k + 1) := List.drop_eq_getElem_cons hlx
    have hdy := List.drop_eq_getElem_cons hlt
    rw [hdr, Tm.wtS] at hkn
    rw [hdr, Tm.mkS] at hm
    rw [hdr, Tm.mkS, hdy] at hy
    dsimp only at hy hm
    obtain ⟨hy1, hy2⟩ := List.cons.inj hy
    have hg := get_at Tm.d hlt
    rw [hy1, Tm.mk1_d] at hg
    have hn1 := Tm.wt_eq xs[k]
    have e1 := Tm.mkS_end xs[k].args ((kk + 1))
    have t0 := markText_E (k := kk) (by omega) (by omega)
    have c58 := ih xs[k] (List.getElem_mem hlx) ((kk + 1)) (by omega) (by omega)
    have he := Tm.mk1_end xs[k] kk
    simp (disch := omega) only [go_sem, Nat.reduceAdd, Nat.reduceSub, Nat.reduceLT, Nat.reduceLeDiff, Nat.reduceEqDiff, Nat.reduceBEq, Nat.reduceBneDiff, Nat.reduceMul, ↓reduceIte, Int.reduceToNat, reduceCtorEq, Int.reduceNeg, Int.reduceAdd, hni, hg, m_laws_markText, dec_refl, t0, c58, m_laws_heldTermS]
    refine ⟨(i + 1, (xs[k].mk1 kk).2), ⟨k + 1, by dsimp only; omega, hlt, by dsimp only; omega, by dsimp only; omega, hy2, hm⟩, by dsimp only; omega, ?_⟩
    dsimp only
    rw [Tm.mk1_eq]
    simp only [and_self, and_true, true_and]
    try omega
  · obtain ⟨hk1, hkn, hy, hm⟩ := hR
    have hdr : xs.drop k = [] := List.drop_eq_nil_of_le (by omega)
    rw [hdr, Tm.mkS] at hm
    rw [hm]
    simp (disch := omega) only [go_sem, Nat.reduceAdd, Nat.reduceSub, Nat.reduceLT, Nat.reduceLeDiff, Nat.reduceEqDiff, Nat.reduceBEq, Nat.reduceBneDiff, Nat.reduceMul, ↓reduceIte, Int.reduceToNat, reduceCtorEq, Int.reduceNeg, Int.reduceAdd, hni]
theorem heldTS1_Term (x : Tm) : HeldTS_Term x.args := heldTS_Term_of x.args fun y hy => heldTS1_Term y
termination_by SizeOf.sizeOf x
decreasing_by exact Tm.lt_of_mem hy
theorem heldTS_Term (xs : List Tm) : HeldTS_Term xs := heldTS_Term_of xs fun y _ => heldTS1_Term y
def c_laws_heldBindingS : SC := (.seq (.reg [⟨(some 4), none, (.mv (.c (.int .i64 0)))⟩]) (.seq (.seq (.reg [⟨(some 5), none, (.mv (.c (.int .i64 0)))⟩]) (.block 0 (.loop [1, 1, 0, 0, 0, 1, 0, 0, 0, 0, 0, 0, 0, 0, 0, 0, 0, 0, 0, 0, 0, 0, 0, 0, 0, 0, 0, 0, 0, 0, 0, 0, 0, 0, 0, 0, 0, 0, 0, 0, 0, 0, 0, 0] (.seq (.seq (.reg [⟨(some 6), none, (.mv (.t 5))⟩, ⟨(some 7), none, (.mv (.t 0))⟩, ⟨(some 8), none, (.len false (.t 7))⟩, ⟨(some 9), none, (.bin .lss false (.t 6) (.t 8))⟩]) (.cond (.t 9) .skip (.exit 0))) (.seq (.block 1 (.seq (.seq (.dreg [[], [], [0, 1], [2, 0, 1], [3, 2, 0, 1], [], [5], [4, 3, 2, 0, 1, 6, 5]] [⟨(some 12), none, (.mv (.t 0))⟩, ⟨(some 13), none, (.mv (.t 5))⟩, ⟨(some 14), none, (.iaddr 3 (.t 12) (.t 13))⟩, ⟨(some 15), none, (.faddr 0 (.t 14))⟩, ⟨(some 16), none, (.load false 1 (.t 15))⟩, ⟨(some 17), none, (.mv (.t 1))⟩, ⟨(some 18), none, (.call 71 [(.t 17)])⟩, ⟨(some 19), none, (.bin .neq false (.t 16) (.t 18))⟩]) (.cond (.t 19) (.seq (.reg [⟨(some 4), none, (.mv (.c (.int .i64 (-(0 + 1)))))⟩]) .ret) .skip)) (.seq (.reg [⟨(some 20), none, (.mv (.t 1))⟩, ⟨(some 21), none, (.bin .add false (.t 20) (.c (.int .i64 1)))⟩, ⟨(some 1), none, (.mv (.t 21))⟩]) (.seq (.seq (.dreg [[], [], [0, 1], [2, 0, 1], [3, 2, 0, 1], [4, 3, 2, 0, 1], [], [6], [5, 4, 3, 2, 0, 1, 7, 6]] [⟨(some 22), none, (.mv (.t 0))⟩, ⟨(some 23), none, (.mv (.t 5))⟩, ⟨(some 24), none, (.iaddr 3 (.t 22) (.t 23))⟩, ⟨(some 25), none, (.faddr 1 (.t 24))⟩, ⟨(some 26), none, (.faddr 0 (.t 25))⟩, ⟨(some 27), none, (.load false 1 (.t 26))⟩, ⟨(some 28), none, (.mv (.t 1))⟩, ⟨(some 29), none, (.call 71 [(.t 28)])⟩, ⟨(some 30), none, (.bin .neq false (.t 27) (.t 29))⟩]) (.cond (.t 30) (.seq (.reg [⟨(some 4), none, (.mv (.c (.int .i64 (-(0 + 1)))))⟩]) .ret) .skip)) (.seq (.reg [⟨(some 31), none, (.mv (.t 1))⟩, ⟨(some 32), none, (.bin .add false (.t 31) (.c (.int .i64 1)))⟩, ⟨(some 1), none, (.mv (.t 32))⟩]) (.seq (.reg [⟨(some 33), none, (.mv (.t 0))⟩, ⟨(some 34), none, (.mv (.t 5))⟩, ⟨(some 35), none, (.iaddr 3 (.t 33) (.t 34))⟩, ⟨(some 36), none, (.faddr 1 (.t 35))⟩, ⟨(some 37), none, (.faddr 1 (.t 36))⟩, ⟨(some 38), none, (.load false 1 (.t 37))⟩, ⟨(some 39), none, (.mv (.t 1))⟩, ⟨(some 40), none, (.call 73 [(.t 38), (.t 39)])⟩, ⟨(some 1), none, (.mv (.t 40))⟩]) (.seq (.reg [⟨(some 41), none, (.mv (.t 1))⟩, ⟨(some 42), none, (.bin .lss false (.t 41) (.c (.int .i64 0)))⟩]) (.cond (.t 42) (.seq (.reg [⟨(some 4), none, (.mv (.c (.int .i64 (-(0 + 1)))))⟩]) .ret) .skip)))))))) (.reg [⟨(some 10), none, (.mv (.t 5))⟩, ⟨(some 11), none, (.bin .add false (.t 10) (.c (.int .i64 1)))⟩, ⟨(some 5), none, (.mv (.t 11))⟩])))))) (.seq (.reg [⟨(some 43), none, (.mv (.t 1))⟩, ⟨(some 4), none, (.mv (.t 43))⟩]) .ret)))
theorem k_laws_heldBindingS : codeOf Try.prog 44 = some ⟨44, c_laws_heldBindingS, [(.tmp 4)]⟩ := by kernel_rfl
theorem m_laws_heldBindingS : modes 44 = ⟨[], .asis, none, false⟩ := by unfold modes; rfl
theorem Bd.mkS_len : ∀ (xs : List Bd) (k : Int), (Bd.mkS xs k).1.length = xs.length
  | [], k => by rw [Bd.mkS]
  | x :: xs, k => by rw [Bd.mkS]; simp only [List.length_cons]; rw [Bd.mkS_len xs]
abbrev HeldTS_Binding (xs : List Bd) : Prop := ∀ k : Int, 1 ≤ k → k + Bd.wtS xs ≤ 1099511627776 → E 44 [.arr ((Bd.mkS xs k).1.map Bd.d), .int .i64 k] [] = some (.int .i64 (Bd.mkS xs k).2, [])
set_option maxHeartbeats 2000000 in
theorem heldTS_Binding_of (xs : List Bd) : HeldTS_Binding xs := by
  intro k0 h1 h2
  obtain ⟨ys, hys⟩ : ∃ ys, ys = (Bd.mkS xs k0).1 := ⟨_, rfl⟩
  have hyl : ys.length = xs.length := by rw [hys, Bd.mkS_len]
  rw [← hys]
  have hL := Bd.length_wt xs
  refine E_walk k_laws_heldBindingS m_laws_heldBindingS (of_decide_eq_true rfl) ?_
  simp (disch := omega) only [c_laws_heldBindingS, go_sem, Nat.reduceAdd, Nat.reduceSub, Nat.reduceLT, Nat.reduceLeDiff, Nat.reduceEqDiff, Nat.reduceBEq, Nat.reduceBneDiff, Nat.reduceMul, ↓reduceIte, Int.reduceToNat, reduceCtorEq, Int.reduceNeg, Int.reduceAdd]
  refine go_loop (α := Int × (Int)) (fun a => ⟨slots 44 0 [(0, .arr (ys.map Bd.d)), (1, .int .i64 (a.2)), (5, .int .i64 (a.1))], []⟩) (fun a => ∃ k : Nat, a.1 = k ∧ k ≤ (ys).length ∧ 1 ≤ (a.2) ∧ (a.2) + Bd.wtS (xs.drop k) = k0 + Bd.wtS xs ∧ ys.drop k = (Bd.mkS (xs.drop k) (a.2)).1 ∧ (Bd.mkS xs k0).2 = (Bd.mkS (xs.drop k) (a.2)).2) (fun a => (ys).length - (a.1).toNat) (0, k0) ⟨0, rfl, Nat.zero_le _, h1, by rw [List.drop_zero], by rw [List.drop_zero, List.drop_zero, hys], by rw [List.drop_zero]⟩ (by simp (disch := omega) only [go_sem, Nat.reduceAdd, Nat.reduceSub, Nat.reduceLT, Nat.reduceLeDiff, Nat.reduceEqDiff, Nat.reduceBEq, Nat.reduceBneDiff, Nat.reduceMul, ↓reduceIte, Int.reduceToNat, reduceCtorEq, Int.reduceNeg, Int.reduceAdd]) ?_
  rintro ⟨i, kk⟩ ⟨k, hi, hk, hR⟩
  dsimp only at hi hR
  have hni : i.toNat = k := by omega
  have hni1 : (i + 1).toNat = k + 1 := by omega
  rcases Nat.lt_or_ge k (ys).length with hlt | hge
  · obtain ⟨hk1, hkn, hy, hm⟩ := hR
    have hlx : k < xs.length := by omega
    have hdr : xs.drop k = xs[k] :: xs.drop (k + 1) := List.drop_eq_getElem_cons hlx
    have hdy := List.drop_eq_getElem_cons hlt
    rw [hdr, Bd.wtS] at hkn
    rw [hdr, Bd.mkS] at hm
    rw [hdr, Bd.mkS, hdy] at hy
    dsimp only at hy hm
    obtain ⟨hy1, hy2⟩ := List.cons.inj hy
    have hg := get_at Bd.d hlt
    rw [hy1, Bd.mk1_d] at hg
    have hn1 := Bd.wt_eq xs[k]
    have e2 := Tm.mkS_end xs[k].term.args ((kk + 1 + 1))
    have t0 := markText_E (k := kk) (by omega) (by omega)
    have t58 := markText_E (k := (kk + 1)) (by omega) (by omega)
    have c123 := heldTS_Term xs[k].term.args ((kk + 1 + 1)) (by omega) (by omega)
    have he := Bd.mk1_end xs[k] kk
    simp (disch := omega) only [go_sem, Nat.reduceAdd, Nat.reduceSub, Nat.reduceLT, Nat.reduceLeDiff, Nat.reduceEqDiff, Nat.reduceBEq, Nat.reduceBneDiff, Nat.reduceMul, ↓reduceIte, Int.reduceToNat, reduceCtorEq, Int.reduceNeg, Int.reduceAdd, hni, hg, m_laws_markText, dec_refl, t0, t58, c123, m_laws_heldTermS]
    refine ⟨(i + 1, (xs[k].mk1 kk).2), ⟨k + 1, by dsimp only; omega, hlt, by dsimp only; omega, by dsimp only; omega, hy2, hm⟩, by dsimp only; omega, ?_⟩
    dsimp only
    rw [Bd.mk1_eq]
    simp only [and_self, and_true, true_and]
    try omega
  · obtain ⟨hk1, hkn, hy, hm⟩ := hR
    have hdr : xs.drop k = [] := List.drop_eq_nil_of_le (by omega)
    rw [hdr, Bd.mkS] at hm
    rw [hm]
    simp (disch := omega) only [go_sem, Nat.reduceAdd, Nat.reduceSub, Nat.reduceLT, Nat.reduceLeDiff, Nat.reduceEqDiff, Nat.reduceBEq, Nat.reduceBneDiff, Nat.reduceMul, ↓reduceIte, Int.reduceToNat, reduceCtorEq, Int.reduceNeg, Int.reduceAdd, hni]
theorem heldTS_Binding (xs : List Bd) : HeldTS_Binding xs := heldTS_Binding_of xs
end Go.Proofs.Ytjafnijgkjjadaa

set_option maxRecDepth 100000
set_option linter.unusedSimpArgs false
set_option linter.unusedVariables false
namespace Go.Proofs.Ytjafnijgkjjadaa
open Go.RowKit

theorem toTree1 {o : Ob} {es : List (List OT)} (h : toTree [o] = [.tree es []]) : (∃ a b, o = .row a b es) ∨ o = .tree es [] := by
  cases o with
  | row a b e => obtain ⟨h1, h2⟩ := List.cons.inj h; cases h1; exact .inl ⟨a, b, rfl⟩
  | tree e hs => obtain ⟨h1, h2⟩ := List.cons.inj h; cases h1; exact .inr rfl
  | _ => simp [toTree] at h

noncomputable def Sb.mkr (x : Sb) (k : Int) : Sb × Int := ((Sb.mk ((Bd.mkS x.binds k).1)), (Bd.mkS x.binds k).2)
def c_laws_markSubstitution : SC := (.seq (.reg [⟨(some 2), none, (.boxv 34 1 (.t 0))⟩, ⟨(some 4), none, (.mv (.c (.int .i64 0)))⟩]) (.seq (.reg [⟨(some 5), none, (.faddr 0 (.t 2))⟩, ⟨(some 6), none, (.load false 1 (.t 5))⟩, ⟨(some 7), none, (.mv (.t 1))⟩, ⟨(some 8), none, (.call 43 [(.t 6), (.t 7)])⟩, ⟨(some 1), none, (.mv (.t 8))⟩]) (.seq (.reg [⟨(some 9), none, (.mv (.t 1))⟩, ⟨(some 4), none, (.mv (.t 9))⟩]) .ret)))
theorem k_laws_markSubstitution : codeOf Try.prog 19 = some ⟨10, c_laws_markSubstitution, [(.tmp 4)]⟩ := by kernel_rfl
theorem m_laws_markSubstitution : modes 19 = ⟨[true], .asis, none, false⟩ := by unfold modes; rfl
set_option maxHeartbeats 1000000 in
theorem markT_Substitution (x : Sb) (k : Int) (o0 : Ob) (h1 : 1 ≤ k) (h2 : k + (Bd.wtS x.binds : Nat) ≤ 1099511627776) (t0 : toTree [o0] = [.tree (x.binds.map Bd.o) []]) : E 19 [.agg [.ref 0], .int .i64 k] [o0] = some (.int .i64 (x.mkr k).2, [.tree ((Bd.mkS x.binds k).1.map Bd.o) []]) := by
  have e0 := Bd.mkS_end x.binds k
  rw [Sb.mkr]
  dsimp only
  have c0 := markTS_Binding x.binds k [o0] (by omega) (by omega) t0
  rcases toTree1 t0 with ⟨a0, b0, rfl⟩ | rfl <;>
   (
    refine E_walk k_laws_markSubstitution m_laws_markSubstitution (of_decide_eq_true rfl) ?_
    simp (disch := omega) only [c_laws_markSubstitution, go_sem, Nat.reduceAdd, Nat.reduceSub, Nat.reduceLT, Nat.reduceLeDiff, Nat.reduceEqDiff, Nat.reduceBEq, Nat.reduceBneDiff, Nat.reduceMul, ↓reduceIte, Int.reduceToNat, reduceCtorEq, Int.reduceNeg, Int.reduceAdd, c0, m_laws_markBindingS])
def c_laws_heldSubstitution : SC := (.seq (.reg [⟨(some 2), none, (.boxv 34 1 (.t 0))⟩, ⟨(some 4), none, (.mv (.c (.int .i64 0)))⟩]) (.seq (.reg [⟨(some 5), none, (.faddr 0 (.t 2))⟩, ⟨(some 6), none, (.load false 1 (.t 5))⟩, ⟨(some 7), none, (.mv (.t 1))⟩, ⟨(some 8), none, (.call 44 [(.t 6), (.t 7)])⟩, ⟨(some 1), none, (.mv (.t 8))⟩]) (.seq (.seq (.reg [⟨(some 9), none, (.mv (.t 1))⟩, ⟨(some 10), none, (.bin .lss false (.t 9) (.c (.int .i64 0)))⟩]) (.cond (.t 10) (.seq (.reg [⟨(some 4), none, (.mv (.c (.int .i64 (-(0 + 1)))))⟩]) .ret) .skip)) (.seq (.reg [⟨(some 11), none, (.mv (.t 1))⟩, ⟨(some 4), none, (.mv (.t 11))⟩]) .ret))))
theorem k_laws_heldSubstitution : codeOf Try.prog 20 = some ⟨12, c_laws_heldSubstitution, [(.tmp 4)]⟩ := by kernel_rfl
theorem m_laws_heldSubstitution : modes 20 = ⟨[], .asis, none, false⟩ := by unfold modes; rfl
set_option maxHeartbeats 1000000 in
theorem heldT_Substitution (x : Sb) (k : Int) (h1 : 1 ≤ k) (h2 : k + (Bd.wtS x.binds : Nat) ≤ 1099511627776) : E 20 [.agg [.arr ((Bd.mkS x.binds k).1.map Bd.d)], .int .i64 k] [] = some (.int .i64 (x.mkr k).2, []) := by
  have e0 := Bd.mkS_end x.binds k
  rw [Sb.mkr]
  dsimp only
  have c0 := heldTS_Binding x.binds k (by omega) (by omega)
  refine E_walk k_laws_heldSubstitution m_laws_heldSubstitution (of_decide_eq_true rfl) ?_
  simp (disch := omega) only [c_laws_heldSubstitution, go_sem, Nat.reduceAdd, Nat.reduceSub, Nat.reduceLT, Nat.reduceLeDiff, Nat.reduceEqDiff, Nat.reduceBEq, Nat.reduceBneDiff, Nat.reduceMul, ↓reduceIte, Int.reduceToNat, reduceCtorEq, Int.reduceNeg, Int.reduceAdd, c0, m_laws_heldBindingS]
end Go.Proofs.Ytjafnijgkjjadaa

set_option maxRecDepth 100000
set_option linter.unusedSimpArgs false
set_option linter.unusedVariables false
namespace Go.Proofs.Ytjafnijgkjjadaa
open Go.RowKit

def c_laws_szTerm : SC := (.seq (.reg [⟨(some 2), none, (.boxv 27 2 (.t 0))⟩, ⟨(some 4), none, (.mv (.c (.int .i64 0)))⟩]) (.seq (.reg [⟨(some 5), none, (.mv (.t 1))⟩, ⟨(some 6), none, (.faddr 0 (.t 2))⟩, ⟨(some 7), none, (.load false 1 (.t 6))⟩, ⟨(some 8), none, (.len true (.t 7))⟩, ⟨(some 9), none, (.bin .sub false (.t 5) (.t 8))⟩, ⟨(some 1), none, (.mv (.t 9))⟩]) (.seq (.seq (.reg [⟨(some 10), none, (.mv (.t 1))⟩, ⟨(some 11), none, (.bin .lss false (.t 10) (.c (.int .i64 0)))⟩]) (.cond (.t 11) (.seq (.reg [⟨(some 4), none, (.mv (.c (.int .i64 (-(0 + 1)))))⟩]) .ret) .skip)) (.seq (.reg [⟨(some 12), none, (.faddr 1 (.t 2))⟩, ⟨(some 13), none, (.load false 1 (.t 12))⟩, ⟨(some 14), none, (.mv (.t 1))⟩, ⟨(some 15), none, (.call 24 [(.t 13), (.t 14)])⟩, ⟨(some 1), none, (.mv (.t 15))⟩]) (.seq (.seq (.reg [⟨(some 16), none, (.mv (.t 1))⟩, ⟨(some 17), none, (.bin .lss false (.t 16) (.c (.int .i64 0)))⟩]) (.cond (.t 17) (.seq (.reg [⟨(some 4), none, (.mv (.c (.int .i64 (-(0 + 1)))))⟩]) .ret) .skip)) (.seq (.reg [⟨(some 18), none, (.mv (.t 1))⟩, ⟨(some 4), none, (.mv (.t 18))⟩]) .ret))))))
theorem k_laws_szTerm : codeOf Try.prog 8 = some ⟨19, c_laws_szTerm, [(.tmp 4)]⟩ := by kernel_rfl
theorem m_laws_szTerm : modes 8 = ⟨[], .asis, none, false⟩ := by unfold modes; rfl
def c_laws_szTermS : SC := (.seq (.reg [⟨(some 4), none, (.mv (.c (.int .i64 0)))⟩]) (.seq (.reg [⟨(some 6), none, (.mv (.t 1))⟩, ⟨(some 7), none, (.mv (.t 0))⟩, ⟨(some 8), none, (.len false (.t 7))⟩, ⟨(some 9), none, (.bin .sub false (.t 6) (.t 8))⟩, ⟨(some 1), none, (.mv (.t 9))⟩]) (.seq (.seq (.reg [⟨(some 10), none, (.mv (.t 1))⟩, ⟨(some 11), none, (.bin .lss false (.t 10) (.c (.int .i64 0)))⟩]) (.cond (.t 11) (.seq (.reg [⟨(some 4), none, (.mv (.c (.int .i64 (-(0 + 1)))))⟩]) .ret) .skip)) (.seq (.seq (.reg [⟨(some 5), none, (.mv (.c (.int .i64 0)))⟩]) (.block 0 (.loop [1, 1, 0, 0, 0, 1, 0, 0, 0, 0, 0, 0, 0, 0, 0, 0, 0, 0, 0, 0, 0, 0, 0, 0, 0, 0, 0] (.seq (.seq (.reg [⟨(some 12), none, (.mv (.t 5))⟩, ⟨(some 13), none, (.mv (.t 0))⟩, ⟨(some 14), none, (.len false (.t 13))⟩, ⟨(some 15), none, (.bin .lss false (.t 12) (.t 14))⟩]) (.cond (.t 15) .skip (.exit 0))) (.seq (.block 1 (.seq (.reg [⟨(some 18), none, (.mv (.t 0))⟩, ⟨(some 19), none, (.mv (.t 5))⟩, ⟨(some 20), none, (.iaddr 2 (.t 18) (.t 19))⟩, ⟨(some 21), none, (.load true 2 (.t 20))⟩, ⟨(some 22), none, (.mv (.t 1))⟩, ⟨(some 23), none, (.call 8 [(.t 21), (.t 22)])⟩, ⟨(some 1), none, (.mv (.t 23))⟩]) (.seq (.reg [⟨(some 24), none, (.mv (.t 1))⟩, ⟨(some 25), none, (.bin .lss false (.t 24) (.c (.int .i64 0)))⟩]) (.cond (.t 25) (.seq (.reg [⟨(some 4), none, (.mv (.c (.int .i64 (-(0 + 1)))))⟩]) .ret) .skip)))) (.reg [⟨(some 16), none, (.mv (.t 5))⟩, ⟨(some 17), none, (.bin .add false (.t 16) (.c (.int .i64 1)))⟩, ⟨(some 5), none, (.mv (.t 17))⟩])))))) (.seq (.reg [⟨(some 26), none, (.mv (.t 1))⟩, ⟨(some 4), none, (.mv (.t 26))⟩]) .ret)))))
theorem k_laws_szTermS : codeOf Try.prog 24 = some ⟨27, c_laws_szTermS, [(.tmp 4)]⟩ := by kernel_rfl
theorem m_laws_szTermS : modes 24 = ⟨[], .asis, none, false⟩ := by unfold modes; rfl
abbrev SzT_Term (x : Tm) : Prop := D.fits x.d → ∀ left : Int, 0 ≤ left → left ≤ 1048576 → E 8 [x.sv, .int .i64 left] [] = some (.int .i64 (szR left x.bulk), [])
abbrev SzTS_Term (xs : List Tm) : Prop := D.fit (.arr (xs.map Tm.d)) → ∀ left : Int, 0 ≤ left → left ≤ 1048576 → E 24 [.arr (xs.map Tm.d), .int .i64 left] [] = some (.int .i64 (szR left (xs.length + Tm.sumB xs : Nat)), [])
set_option maxHeartbeats 1000000 in
theorem szTS_Term_of (xs : List Tm) (h : ∀ x ∈ xs, SzT_Term x) : SzTS_Term xs := by
  intro hfit left h0 h1
  simp only [D.fit, List.length_map] at hfit
  have q0 := szR_spec left (xs.length + Tm.sumB xs)
  refine E_walk k_laws_szTermS m_laws_szTermS (of_decide_eq_true rfl) ?_
  simp (disch := omega) only [c_laws_szTermS, go_sem, Nat.reduceAdd, Nat.reduceSub, Nat.reduceLT, Nat.reduceLeDiff, Nat.reduceEqDiff, Nat.reduceBEq, Nat.reduceBneDiff, Nat.reduceMul, ↓reduceIte, Int.reduceToNat, reduceCtorEq, Int.reduceNeg, Int.reduceAdd]
  repeat' (refine boolP_split (fun hq => ?_) (fun hq => ?_) <;> (first | replace hq := dec_iff.1 hq | replace hq := dec_not.1 hq) <;> (try simp (disch := omega) only [go_sem, Nat.reduceAdd, Nat.reduceSub, Nat.reduceLT, Nat.reduceLeDiff, Nat.reduceEqDiff, Nat.reduceBEq, Nat.reduceBneDiff, Nat.reduceMul, ↓reduceIte, Int.reduceToNat, reduceCtorEq, Int.reduceNeg, Int.reduceAdd]))
  · omega
  refine go_loop (α := Int × Int) (fun a => ⟨slots 27 0 [(0, .arr (xs.map Tm.d)), (1, .int .i64 a.2), (5, .int .i64 a.1)], []⟩) (fun a => ∃ k : Nat, a.1 = k ∧ k ≤ xs.length ∧ 0 ≤ a.2 ∧ a.2 ≤ 1048576 ∧ szR a.2 (Tm.sumB (xs.drop k)) = szR left (xs.length + Tm.sumB xs : Nat)) (fun a => xs.length - a.1.toNat) (0, left - xs.length) ⟨0, rfl, Nat.zero_le _, by omega, by omega, ?_⟩ (by simp (disch := omega) only [go_sem, Nat.reduceAdd, Nat.reduceSub, Nat.reduceLT, Nat.reduceLeDiff, Nat.reduceEqDiff, Nat.reduceBEq, Nat.reduceBneDiff, Nat.reduceMul, ↓reduceIte, Int.reduceToNat, reduceCtorEq, Int.reduceNeg, Int.reduceAdd]) ?_
  · have q1 := szR_spec (left - xs.length) (Tm.sumB xs)
    rw [List.drop_zero]
    dsimp only
    omega
  · rintro ⟨i, l⟩ ⟨k, hi, hk, hl0, hl1, hs⟩
    dsimp only at hi hl0 hl1 hs
    rcases Nat.lt_or_ge k xs.length with hlt | hge
    · have hg := get_at Tm.d hlt
      rw [Tm.d_eq] at hg
      have hd : Tm.sumB (xs.drop k) = xs[k].bulk + Tm.sumB (xs.drop (k + 1)) := by rw [List.drop_eq_getElem_cons hlt, Tm.sumB]
      rw [hd] at hs
      have hc := h xs[k] (List.getElem_mem hlt) (D.fitss_mem hfit.2 _ (List.getElem_mem hlt)) l hl0 hl1
      have q1 := szR_spec l xs[k].bulk
      have q2 := szR_spec l (xs[k].bulk + Tm.sumB (xs.drop (k + 1)))
      have q3 := szR_spec (l - xs[k].bulk) (Tm.sumB (xs.drop (k + 1)))
      have hn : i.toNat = k := by omega
      simp (disch := omega) only [go_sem, Nat.reduceAdd, Nat.reduceSub, Nat.reduceLT, Nat.reduceLeDiff, Nat.reduceEqDiff, Nat.reduceBEq, Nat.reduceBneDiff, Nat.reduceMul, ↓reduceIte, Int.reduceToNat, reduceCtorEq, Int.reduceNeg, Int.reduceAdd, hn, hg, hc, m_laws_szTerm]
      repeat' (refine boolP_split (fun hq => ?_) (fun hq => ?_) <;> (first | replace hq := dec_iff.1 hq | replace hq := dec_not.1 hq) <;> (try simp (disch := omega) only [go_sem, Nat.reduceAdd, Nat.reduceSub, Nat.reduceLT, Nat.reduceLeDiff, Nat.reduceEqDiff, Nat.reduceBEq, Nat.reduceBneDiff, Nat.reduceMul, ↓reduceIte, Int.reduceToNat, reduceCtorEq, Int.reduceNeg, Int.reduceAdd]))
      · omega
      · refine ⟨(i + 1, l - xs[k].bulk), ⟨k + 1, by dsimp only; omega, hlt, by dsimp only; omega, by dsimp only; omega, by dsimp only; omega⟩, by dsimp only; omega, ?_⟩
        have e : szR l xs[k].bulk = l - xs[k].bulk := by omega
        simp only [e, and_self]
    · have hd : xs.drop k = [] := List.drop_eq_nil_of_le hge
      rw [hd] at hs
      have q1 := szR_spec l (Tm.sumB [])
      simp only [Tm.sumB] at hs q1
      simp (disch := omega) only [go_sem, Nat.reduceAdd, Nat.reduceSub, Nat.reduceLT, Nat.reduceLeDiff, Nat.reduceEqDiff, Nat.reduceBEq, Nat.reduceBneDiff, Nat.reduceMul, ↓reduceIte, Int.reduceToNat, reduceCtorEq, Int.reduceNeg, Int.reduceAdd]
      omega
set_option maxHeartbeats 1000000 in
theorem szT_Term_of (x : Tm) (h_args : SzTS_Term x.args) : SzT_Term x := by
  intro hfit left h0 h1
  rw [Tm.d_eq] at hfit
  simp only [D.fits, D.fit] at hfit
  replace h_args := h_args (by simp only [D.fit, List.length_map]; simp only [List.length_map] at hfit; simp only [hfit, and_self])
  have q := szR_spec left x.bulk
  have qb := Tm.bulk_eq x
  have q0 := szR_spec (left - (x.name.size : Int)) ((x.args.length + Tm.sumB x.args))
  refine E_walk k_laws_szTerm m_laws_szTerm (of_decide_eq_true rfl) ?_
  simp (disch := omega) only [c_laws_szTerm, go_sem, Nat.reduceAdd, Nat.reduceSub, Nat.reduceLT, Nat.reduceLeDiff, Nat.reduceEqDiff, Nat.reduceBEq, Nat.reduceBneDiff, Nat.reduceMul, ↓reduceIte, Int.reduceToNat, reduceCtorEq, Int.reduceNeg, Int.reduceAdd, h_args, m_laws_szTermS]
  repeat' (refine boolP_split (fun hq => ?_) (fun hq => ?_) <;> (first | replace hq := dec_iff.1 hq | replace hq := dec_not.1 hq) <;> (try simp (disch := omega) only [go_sem, Nat.reduceAdd, Nat.reduceSub, Nat.reduceLT, Nat.reduceLeDiff, Nat.reduceEqDiff, Nat.reduceBEq, Nat.reduceBneDiff, Nat.reduceMul, ↓reduceIte, Int.reduceToNat, reduceCtorEq, Int.reduceNeg, Int.reduceAdd, h_args, m_laws_szTermS]))
  all_goals omega
theorem szT_Term (x : Tm) : SzT_Term x := szT_Term_of x (szTS_Term_of x.args fun y hy => szT_Term y)
termination_by SizeOf.sizeOf x
decreasing_by exact Tm.lt_of_mem hy
theorem szTS_Term (xs : List Tm) : SzTS_Term xs := szTS_Term_of xs fun x _ => szT_Term x
def c_laws_szBinding : SC := (.seq (.reg [⟨(some 2), none, (.boxv 75 3 (.t 0))⟩, ⟨(some 4), none, (.mv (.c (.int .i64 0)))⟩]) (.seq (.reg [⟨(some 5), none, (.mv (.t 1))⟩, ⟨(some 6), none, (.faddr 0 (.t 2))⟩, ⟨(some 7), none, (.load false 1 (.t 6))⟩, ⟨(some 8), none, (.len true (.t 7))⟩, ⟨(some 9), none, (.bin .sub false (.t 5) (.t 8))⟩, ⟨(some 1), none, (.mv (.t 9))⟩]) (.seq (.seq (.reg [⟨(some 10), none, (.mv (.t 1))⟩, ⟨(some 11), none, (.bin .lss false (.t 10) (.c (.int .i64 0)))⟩]) (.cond (.t 11) (.seq (.reg [⟨(some 4), none, (.mv (.c (.int .i64 (-(0 + 1)))))⟩]) .ret) .skip)) (.seq (.reg [⟨(some 12), none, (.faddr 1 (.t 2))⟩, ⟨(some 13), none, (.load true 2 (.t 12))⟩, ⟨(some 14), none, (.mv (.t 1))⟩, ⟨(some 15), none, (.call 8 [(.t 13), (.t 14)])⟩, ⟨(some 1), none, (.mv (.t 15))⟩]) (.seq (.seq (.reg [⟨(some 16), none, (.mv (.t 1))⟩, ⟨(some 17), none, (.bin .lss false (.t 16) (.c (.int .i64 0)))⟩]) (.cond (.t 17) (.seq (.reg [⟨(some 4), none, (.mv (.c (.int .i64 (-(0 + 1)))))⟩]) .ret) .skip)) (.seq (.reg [⟨(some 18), none, (.mv (.t 1))⟩, ⟨(some 4), none, (.mv (.t 18))⟩]) .ret))))))
theorem k_laws_szBinding : codeOf Try.prog 49 = some ⟨19, c_laws_szBinding, [(.tmp 4)]⟩ := by kernel_rfl
theorem m_laws_szBinding : modes 49 = ⟨[], .asis, none, false⟩ := by unfold modes; rfl
def c_laws_szBindingS : SC := (.seq (.reg [⟨(some 4), none, (.mv (.c (.int .i64 0)))⟩]) (.seq (.reg [⟨(some 6), none, (.mv (.t 1))⟩, ⟨(some 7), none, (.mv (.t 0))⟩, ⟨(some 8), none, (.len false (.t 7))⟩, ⟨(some 9), none, (.bin .sub false (.t 6) (.t 8))⟩, ⟨(some 1), none, (.mv (.t 9))⟩]) (.seq (.seq (.reg [⟨(some 10), none, (.mv (.t 1))⟩, ⟨(some 11), none, (.bin .lss false (.t 10) (.c (.int .i64 0)))⟩]) (.cond (.t 11) (.seq (.reg [⟨(some 4), none, (.mv (.c (.int .i64 (-(0 + 1)))))⟩]) .ret) .skip)) (.seq (.seq (.reg [⟨(some 5), none, (.mv (.c (.int .i64 0)))⟩]) (.block 0 (.loop [1, 1, 0, 0, 0, 1, 0, 0, 0, 0, 0, 0, 0, 0, 0, 0, 0, 0, 0, 0, 0, 0, 0, 0, 0, 0, 0] (.seq (.seq (.reg [⟨(some 12), none, (.mv (.t 5))⟩, ⟨(some 13), none, (.mv (.t 0))⟩, ⟨(some 14), none, (.len false (.t 13))⟩, ⟨(some 15), none, (.bin .lss false (.t 12) (.t 14))⟩]) (.cond (.t 15) .skip (.exit 0))) (.seq (.block 1 (.seq (.reg [⟨(some 18), none, (.mv (.t 0))⟩, ⟨(some 19), none, (.mv (.t 5))⟩, ⟨(some 20), none, (.iaddr 3 (.t 18) (.t 19))⟩, ⟨(some 21), none, (.load true 3 (.t 20))⟩, ⟨(some 22), none, (.mv (.t 1))⟩, ⟨(some 23), none, (.call 49 [(.t 21), (.t 22)])⟩, ⟨(some 1), none, (.mv (.t 23))⟩]) (.seq (.reg [⟨(some 24), none, (.mv (.t 1))⟩, ⟨(some 25), none, (.bin .lss false (.t 24) (.c (.int .i64 0)))⟩]) (.cond (.t 25) (.seq (.reg [⟨(some 4), none, (.mv (.c (.int .i64 (-(0 + 1)))))⟩]) .ret) .skip)))) (.reg [⟨(some 16), none, (.mv (.t 5))⟩, ⟨(some 17), none, (.bin .add false (.t 16) (.c (.int .i64 1)))⟩, ⟨(some 5), none, (.mv (.t 17))⟩])))))) (.seq (.reg [⟨(some 26), none, (.mv (.t 1))⟩, ⟨(some 4), none, (.mv (.t 26))⟩]) .ret)))))
theorem k_laws_szBindingS : codeOf Try.prog 23 = some ⟨27, c_laws_szBindingS, [(.tmp 4)]⟩ := by kernel_rfl
theorem m_laws_szBindingS : modes 23 = ⟨[], .asis, none, false⟩ := by unfold modes; rfl
abbrev SzT_Binding (x : Bd) : Prop := D.fits x.d → ∀ left : Int, 0 ≤ left → left ≤ 1048576 → E 49 [x.sv, .int .i64 left] [] = some (.int .i64 (szR left x.bulk), [])
abbrev SzTS_Binding (xs : List Bd) : Prop := D.fit (.arr (xs.map Bd.d)) → ∀ left : Int, 0 ≤ left → left ≤ 1048576 → E 23 [.arr (xs.map Bd.d), .int .i64 left] [] = some (.int .i64 (szR left (xs.length + Bd.sumB xs : Nat)), [])
set_option maxHeartbeats 1000000 in
theorem szTS_Binding_of (xs : List Bd) (h : ∀ x ∈ xs, SzT_Binding x) : SzTS_Binding xs := by
  intro hfit left h0 h1
  simp only [D.fit, List.length_map] at hfit
  have q0 := szR_spec left (xs.length + Bd.sumB xs)
  refine E_walk k_laws_szBindingS m_laws_szBindingS (of_decide_eq_true rfl) ?_
  simp (disch := omega) only [c_laws_szBindingS, go_sem, Nat.reduceAdd, Nat.reduceSub, Nat.reduceLT, Nat.reduceLeDiff, Nat.reduceEqDiff, Nat.reduceBEq, Nat.reduceBneDiff, Nat.reduceMul, ↓reduceIte, Int.reduceToNat, reduceCtorEq, Int.reduceNeg, Int.reduceAdd]
  repeat' (refine boolP_split (fun hq => ?_) (fun hq => ?_) <;> (first | replace hq := dec_iff.1 hq | replace hq := dec_not.1 hq) <;> (try simp (disch := omega) only [go_sem, Nat.reduceAdd, Nat.reduceSub, Nat.reduceLT, Nat.reduceLeDiff, Nat.reduceEqDiff, Nat.reduceBEq, Nat.reduceBneDiff, Nat.reduceMul, ↓reduceIte, Int.reduceToNat, reduceCtorEq, Int.reduceNeg, Int.reduceAdd]))
  · omega
  refine go_loop (α := Int × Int) (fun a => ⟨slots 27 0 [(0, .arr (xs.map Bd.d)), (1, .int .i64 a.2), (5, .int .i64 a.1)], []⟩) (fun a => ∃ k : Nat, a.1 = k ∧ k ≤ xs.length ∧ 0 ≤ a.2 ∧ a.2 ≤ 1048576 ∧ szR a.2 (Bd.sumB (xs.drop k)) = szR left (xs.length + Bd.sumB xs : Nat)) (fun a => xs.length - a.1.toNat) (0, left - xs.length) ⟨0, rfl, Nat.zero_le _, by omega, by omega, ?_⟩ (by simp (disch := omega) only [go_sem, Nat.reduceAdd, Nat.reduceSub, Nat.reduceLT, Nat.reduceLeDiff, Nat.reduceEqDiff, Nat.reduceBEq, Nat.reduceBneDiff, Nat.reduceMul, ↓reduceIte, Int.reduceToNat, reduceCtorEq, Int.reduceNeg, Int.reduceAdd]) ?_
  · have q1 := szR_spec (left - xs.length) (Bd.sumB xs)
    rw [List.drop_zero]
    dsimp only
    omega
  · rintro ⟨i, l⟩ ⟨k, hi, hk, hl0, hl1, hs⟩
    dsimp only at hi hl0 hl1 hs
    rcases Nat.lt_or_ge k xs.length with hlt | hge
    · have hg := get_at Bd.d hlt
      rw [Bd.d_eq] at hg
      have hd : Bd.sumB (xs.drop k) = xs[k].bulk + Bd.sumB (xs.drop (k + 1)) := by rw [List.drop_eq_getElem_cons hlt, Bd.sumB]
      rw [hd] at hs
      have hc := h xs[k] (List.getElem_mem hlt) (D.fitss_mem hfit.2 _ (List.getElem_mem hlt)) l hl0 hl1
      have q1 := szR_spec l xs[k].bulk
      have q2 := szR_spec l (xs[k].bulk + Bd.sumB (xs.drop (k + 1)))
      have q3 := szR_spec (l - xs[k].bulk) (Bd.sumB (xs.drop (k + 1)))
      have hn : i.toNat = k := by omega
      simp (disch := omega) only [go_sem, Nat.reduceAdd, Nat.reduceSub, Nat.reduceLT, Nat.reduceLeDiff, Nat.reduceEqDiff, Nat.reduceBEq, Nat.reduceBneDiff, Nat.reduceMul, ↓reduceIte, Int.reduceToNat, reduceCtorEq, Int.reduceNeg, Int.reduceAdd, hn, hg, hc, m_laws_szBinding]
      repeat' (refine boolP_split (fun hq => ?_) (fun hq => ?_) <;> (first | replace hq := dec_iff.1 hq | replace hq := dec_not.1 hq) <;> (try simp (disch := omega) only [go_sem, Nat.reduceAdd, Nat.reduceSub, Nat.reduceLT, Nat.reduceLeDiff, Nat.reduceEqDiff, Nat.reduceBEq, Nat.reduceBneDiff, Nat.reduceMul, ↓reduceIte, Int.reduceToNat, reduceCtorEq, Int.reduceNeg, Int.reduceAdd]))
      · omega
      · refine ⟨(i + 1, l - xs[k].bulk), ⟨k + 1, by dsimp only; omega, hlt, by dsimp only; omega, by dsimp only; omega, by dsimp only; omega⟩, by dsimp only; omega, ?_⟩
        have e : szR l xs[k].bulk = l - xs[k].bulk := by omega
        simp only [e, and_self]
    · have hd : xs.drop k = [] := List.drop_eq_nil_of_le hge
      rw [hd] at hs
      have q1 := szR_spec l (Bd.sumB [])
      simp only [Bd.sumB] at hs q1
      simp (disch := omega) only [go_sem, Nat.reduceAdd, Nat.reduceSub, Nat.reduceLT, Nat.reduceLeDiff, Nat.reduceEqDiff, Nat.reduceBEq, Nat.reduceBneDiff, Nat.reduceMul, ↓reduceIte, Int.reduceToNat, reduceCtorEq, Int.reduceNeg, Int.reduceAdd]
      omega
set_option maxHeartbeats 1000000 in
theorem szT_Binding_of (x : Bd) (h_term : SzT_Term x.term) : SzT_Binding x := by
  intro hfit left h0 h1
  rw [Bd.d_eq] at hfit
  simp only [D.fits, D.fit] at hfit
  replace h_term := h_term (by rw [Tm.d_eq]; simp only [D.fits, D.fit, hfit, and_self])
  have q := szR_spec left x.bulk
  have qb := Bd.bulk_eq x
  have q0 := szR_spec (left - (x.var.size : Int)) (x.term.bulk)
  refine E_walk k_laws_szBinding m_laws_szBinding (of_decide_eq_true rfl) ?_
  simp (disch := omega) only [c_laws_szBinding, go_sem, Nat.reduceAdd, Nat.reduceSub, Nat.reduceLT, Nat.reduceLeDiff, Nat.reduceEqDiff, Nat.reduceBEq, Nat.reduceBneDiff, Nat.reduceMul, ↓reduceIte, Int.reduceToNat, reduceCtorEq, Int.reduceNeg, Int.reduceAdd, h_term, m_laws_szTerm]
  repeat' (refine boolP_split (fun hq => ?_) (fun hq => ?_) <;> (first | replace hq := dec_iff.1 hq | replace hq := dec_not.1 hq) <;> (try simp (disch := omega) only [go_sem, Nat.reduceAdd, Nat.reduceSub, Nat.reduceLT, Nat.reduceLeDiff, Nat.reduceEqDiff, Nat.reduceBEq, Nat.reduceBneDiff, Nat.reduceMul, ↓reduceIte, Int.reduceToNat, reduceCtorEq, Int.reduceNeg, Int.reduceAdd, h_term, m_laws_szTerm]))
  all_goals omega
theorem szT_Binding (x : Bd) : SzT_Binding x := szT_Binding_of x (szT_Term x.term)
theorem szTS_Binding (xs : List Bd) : SzTS_Binding xs := szTS_Binding_of xs fun x _ => szT_Binding x
def c_laws_szSubstitution : SC := (.seq (.reg [⟨(some 2), none, (.boxv 24 1 (.t 0))⟩, ⟨(some 4), none, (.mv (.c (.int .i64 0)))⟩]) (.seq (.reg [⟨(some 5), none, (.faddr 0 (.t 2))⟩, ⟨(some 6), none, (.load false 1 (.t 5))⟩, ⟨(some 7), none, (.mv (.t 1))⟩, ⟨(some 8), none, (.call 23 [(.t 6), (.t 7)])⟩, ⟨(some 1), none, (.mv (.t 8))⟩]) (.seq (.seq (.reg [⟨(some 9), none, (.mv (.t 1))⟩, ⟨(some 10), none, (.bin .lss false (.t 9) (.c (.int .i64 0)))⟩]) (.cond (.t 10) (.seq (.reg [⟨(some 4), none, (.mv (.c (.int .i64 (-(0 + 1)))))⟩]) .ret) .skip)) (.seq (.reg [⟨(some 11), none, (.mv (.t 1))⟩, ⟨(some 4), none, (.mv (.t 11))⟩]) .ret))))
theorem k_laws_szSubstitution : codeOf Try.prog 7 = some ⟨12, c_laws_szSubstitution, [(.tmp 4)]⟩ := by kernel_rfl
theorem m_laws_szSubstitution : modes 7 = ⟨[], .asis, none, false⟩ := by unfold modes; rfl
abbrev SzT_Substitution (x : Sb) : Prop := D.fits x.d → ∀ left : Int, 0 ≤ left → left ≤ 1048576 → E 7 [x.sv, .int .i64 left] [] = some (.int .i64 (szR left x.bulk), [])
set_option maxHeartbeats 1000000 in
theorem szT_Substitution_of (x : Sb) (h_binds : SzTS_Binding x.binds) : SzT_Substitution x := by
  intro hfit left h0 h1
  rw [Sb.d_eq] at hfit
  simp only [D.fits, D.fit] at hfit
  replace h_binds := h_binds (by simp only [D.fit, List.length_map]; simp only [List.length_map] at hfit; simp only [hfit, and_self])
  have q := szR_spec left x.bulk
  have qb := Sb.bulk_eq x
  have q0 := szR_spec left ((x.binds.length + Bd.sumB x.binds))
  refine E_walk k_laws_szSubstitution m_laws_szSubstitution (of_decide_eq_true rfl) ?_
  simp (disch := omega) only [c_laws_szSubstitution, go_sem, Nat.reduceAdd, Nat.reduceSub, Nat.reduceLT, Nat.reduceLeDiff, Nat.reduceEqDiff, Nat.reduceBEq, Nat.reduceBneDiff, Nat.reduceMul, ↓reduceIte, Int.reduceToNat, reduceCtorEq, Int.reduceNeg, Int.reduceAdd, h_binds, m_laws_szBindingS]
  repeat' (refine boolP_split (fun hq => ?_) (fun hq => ?_) <;> (first | replace hq := dec_iff.1 hq | replace hq := dec_not.1 hq) <;> (try simp (disch := omega) only [go_sem, Nat.reduceAdd, Nat.reduceSub, Nat.reduceLT, Nat.reduceLeDiff, Nat.reduceEqDiff, Nat.reduceBEq, Nat.reduceBneDiff, Nat.reduceMul, ↓reduceIte, Int.reduceToNat, reduceCtorEq, Int.reduceNeg, Int.reduceAdd, h_binds, m_laws_szBindingS]))
  all_goals omega
theorem szT_Substitution (x : Sb) : SzT_Substitution x := szT_Substitution_of x (szTS_Binding_of x.binds fun y hy => szT_Binding y)
end Go.Proofs.Ytjafnijgkjjadaa

set_option maxRecDepth 100000
set_option linter.unusedSimpArgs false
set_option linter.unusedVariables false
namespace Go.Proofs.Ytjafnijgkjjadaa
open Go.RowKit

def c_laws_toTerm : SC := (.seq (.reg [⟨(some 1), none, (.boxv 27 2 (.t 0))⟩, ⟨(some 2), none, (.alloc 38 [(.str ⟨#[]⟩), .nil])⟩]) (.seq (.reg [⟨(some 3), none, (.alloc 38 [(.str ⟨#[]⟩), .nil])⟩]) (.seq (.reg [⟨(some 4), none, (.faddr 0 (.t 1))⟩, ⟨(some 5), none, (.load false 1 (.t 4))⟩, ⟨(some 6), none, (.faddr 0 (.t 3))⟩, ⟨none, none, (.store 1 (.t 6) (.t 5))⟩]) (.seq (.reg [⟨(some 7), none, (.faddr 1 (.t 1))⟩, ⟨(some 8), none, (.load false 1 (.t 7))⟩, ⟨(some 9), none, (.call 28 [(.t 8)])⟩, ⟨(some 10), none, (.faddr 1 (.t 3))⟩, ⟨none, none, (.store 1 (.t 10) (.t 9))⟩]) (.seq (.reg [⟨(some 11), none, (.load true 2 (.t 3))⟩, ⟨none, none, (.store 2 (.t 2) (.t 11))⟩]) .ret)))))
theorem k_laws_toTerm : codeOf Try.prog 11 = some ⟨12, c_laws_toTerm, [(.cell 2 true 2)]⟩ := by kernel_rfl
theorem m_laws_toTerm : modes 11 = ⟨[], .asis, none, false⟩ := by unfold modes; rfl
def c_laws_toTermS : SC := (.seq (.reg [⟨(some 2), none, (.mv (.c .nil))⟩]) (.seq (.reg [⟨(some 5), none, (.mv (.t 0))⟩, ⟨(some 6), none, (.len false (.t 5))⟩, ⟨(some 7), none, (.mkslice 38 2 40 [(.str ⟨#[]⟩), .nil] (.t 6))⟩, ⟨(some 3), none, (.mv (.t 7))⟩]) (.seq (.seq (.reg [⟨(some 4), none, (.mv (.c (.int .i64 0)))⟩]) (.block 0 (.loop [1, 0, 0, 1, 1, 0, 0, 0, 0, 0, 0, 0, 0, 0, 0, 0, 0, 0, 0, 0, 0, 0, 0] (.seq (.seq (.reg [⟨(some 8), none, (.mv (.t 4))⟩, ⟨(some 9), none, (.mv (.t 0))⟩, ⟨(some 10), none, (.len false (.t 9))⟩, ⟨(some 11), none, (.bin .lss false (.t 8) (.t 10))⟩]) (.cond (.t 11) .skip (.exit 0))) (.seq (.block 1 (.reg [⟨(some 14), none, (.mv (.t 3))⟩, ⟨(some 15), none, (.mv (.t 4))⟩, ⟨(some 16), none, (.mv (.t 0))⟩, ⟨(some 17), none, (.mv (.t 4))⟩, ⟨(some 18), none, (.iaddr 2 (.t 16) (.t 17))⟩, ⟨(some 19), none, (.load true 2 (.t 18))⟩, ⟨(some 20), none, (.call 11 [(.t 19)])⟩, ⟨(some 21), none, (.iaddr 2 (.t 14) (.t 15))⟩, ⟨none, none, (.store 2 (.t 21) (.t 20))⟩])) (.reg [⟨(some 12), none, (.mv (.t 4))⟩, ⟨(some 13), none, (.bin .add false (.t 12) (.c (.int .i64 1)))⟩, ⟨(some 4), none, (.mv (.t 13))⟩])))))) (.seq (.reg [⟨(some 22), none, (.mv (.t 3))⟩, ⟨(some 2), none, (.mv (.t 22))⟩]) .ret))))
theorem k_laws_toTermS : codeOf Try.prog 28 = some ⟨23, c_laws_toTermS, [(.tmp 2)]⟩ := by kernel_rfl
theorem m_laws_toTermS : modes 28 = ⟨[], .asis, none, false⟩ := by unfold modes; rfl
abbrev ToT_Term (x : Tm) : Prop := x.bulk ≤ 1048576 → E 11 [x.sv] [] = some (x.osv, x.obs)
abbrev ToTS_Term (xs : List Tm) : Prop := xs.length + Tm.sumB xs ≤ 1048576 → E 28 [.arr (xs.map Tm.d)] [] = some (.ref 0, [.row 38 2 (xs.map Tm.o)])
set_option maxHeartbeats 1000000 in
theorem toTS_Term_of (xs : List Tm) (h : ∀ x ∈ xs, ToT_Term x) : ToTS_Term xs := by
  intro hb
  refine E_walk k_laws_toTermS m_laws_toTermS (of_decide_eq_true rfl) ?_
  simp (disch := omega) only [c_laws_toTermS, go_sem, Nat.reduceAdd, Nat.reduceSub, Nat.reduceLT, Nat.reduceLeDiff, Nat.reduceEqDiff, Nat.reduceBEq, Nat.reduceBneDiff, Nat.reduceMul, ↓reduceIte, Int.reduceToNat, reduceCtorEq, Int.reduceNeg, Int.reduceAdd]
  refine go_loop (α := Int) (fun i => ⟨slots 23 0 [(0, .arr (xs.map Tm.d)), (3, .ref 0), (4, .int .i64 i)], [.row 38 2 (fillR Tm.o [.str ⟨#[]⟩, .ow []] xs i.toNat)]⟩) (fun i => ∃ k : Nat, i = k ∧ k ≤ xs.length) (fun i => xs.length - i.toNat) 0 ⟨0, rfl, Nat.zero_le _⟩ (by simp (disch := omega) only [go_sem, Nat.reduceAdd, Nat.reduceSub, Nat.reduceLT, Nat.reduceLeDiff, Nat.reduceEqDiff, Nat.reduceBEq, Nat.reduceBneDiff, Nat.reduceMul, ↓reduceIte, Int.reduceToNat, reduceCtorEq, Int.reduceNeg, Int.reduceAdd, fillR_zero, Int.toNat_zero]) ?_
  · rintro i ⟨k, rfl, hk⟩
    obtain ⟨i, hi⟩ : ∃ i : Int, i = (k : Int) := ⟨_, rfl⟩
    rw [← hi]
    have hn : i.toNat = k := by omega
    have hn1 : (i + 1).toNat = k + 1 := by omega
    rcases Nat.lt_or_ge k xs.length with hlt | hge
    · have hg := get_at Tm.d hlt
      rw [Tm.d_eq] at hg
      have hz := fillR_get Tm.o [.str ⟨#[]⟩, .ow []] hlt
      have hle := Tm.bulk_le xs k hlt
      have hc := h xs[k] (List.getElem_mem hlt) (by omega)
      have hs := fillR_set Tm.o [.str ⟨#[]⟩, .ow []] hlt
      rw [Tm.o_eq] at hs
      simp (disch := omega) only [go_sem, Nat.reduceAdd, Nat.reduceSub, Nat.reduceLT, Nat.reduceLeDiff, Nat.reduceEqDiff, Nat.reduceBEq, Nat.reduceBneDiff, Nat.reduceMul, ↓reduceIte, Int.reduceToNat, reduceCtorEq, Int.reduceNeg, Int.reduceAdd, hn, hg, hc, hz, fillR_len, m_laws_toTerm, Tm.osv, Tm.obs]
      refine ⟨i + 1, ⟨k + 1, by omega, hlt⟩, by omega, ?_⟩
      simp (disch := omega) only [go_sem, Nat.reduceAdd, Nat.reduceSub, Nat.reduceLT, Nat.reduceLeDiff, Nat.reduceEqDiff, Nat.reduceBEq, Nat.reduceBneDiff, Nat.reduceMul, ↓reduceIte, Int.reduceToNat, reduceCtorEq, Int.reduceNeg, Int.reduceAdd, hn1, hs]
    · obtain rfl : k = xs.length := by omega
      simp (disch := omega) only [go_sem, Nat.reduceAdd, Nat.reduceSub, Nat.reduceLT, Nat.reduceLeDiff, Nat.reduceEqDiff, Nat.reduceBEq, Nat.reduceBneDiff, Nat.reduceMul, ↓reduceIte, Int.reduceToNat, reduceCtorEq, Int.reduceNeg, Int.reduceAdd, hn, fillR_end]
set_option maxHeartbeats 1000000 in
theorem toT_Term_of (x : Tm) (h_args : ToTS_Term x.args) : ToT_Term x := by
  intro hb
  have qb := Tm.bulk_eq x
  replace h_args := h_args (by omega)
  refine E_walk k_laws_toTerm m_laws_toTerm (of_decide_eq_true rfl) ?_
  simp (disch := omega) only [c_laws_toTerm, go_sem, Nat.reduceAdd, Nat.reduceSub, Nat.reduceLT, Nat.reduceLeDiff, Nat.reduceEqDiff, Nat.reduceBEq, Nat.reduceBneDiff, Nat.reduceMul, ↓reduceIte, Int.reduceToNat, reduceCtorEq, Int.reduceNeg, Int.reduceAdd, h_args, m_laws_toTermS]
theorem toT_Term (x : Tm) : ToT_Term x := toT_Term_of x (toTS_Term_of x.args fun y hy => toT_Term y)
termination_by SizeOf.sizeOf x
decreasing_by exact Tm.lt_of_mem hy
theorem toTS_Term (xs : List Tm) : ToTS_Term xs := toTS_Term_of xs fun x _ => toT_Term x
def c_laws_toBinding : SC := (.seq (.reg [⟨(some 1), none, (.boxv 75 3 (.t 0))⟩, ⟨(some 2), none, (.alloc 64 [(.str ⟨#[]⟩), (.str ⟨#[]⟩), .nil])⟩]) (.seq (.reg [⟨(some 3), none, (.alloc 64 [(.str ⟨#[]⟩), (.str ⟨#[]⟩), .nil])⟩]) (.seq (.reg [⟨(some 4), none, (.faddr 0 (.t 1))⟩, ⟨(some 5), none, (.load false 1 (.t 4))⟩, ⟨(some 6), none, (.faddr 0 (.t 3))⟩, ⟨none, none, (.store 1 (.t 6) (.t 5))⟩]) (.seq (.reg [⟨(some 7), none, (.faddr 1 (.t 1))⟩, ⟨(some 8), none, (.load true 2 (.t 7))⟩, ⟨(some 9), none, (.call 11 [(.t 8)])⟩, ⟨(some 10), none, (.faddr 1 (.t 3))⟩, ⟨none, none, (.store 2 (.t 10) (.t 9))⟩]) (.seq (.reg [⟨(some 11), none, (.load true 3 (.t 3))⟩, ⟨none, none, (.store 3 (.t 2) (.t 11))⟩]) .ret)))))
theorem k_laws_toBinding : codeOf Try.prog 52 = some ⟨12, c_laws_toBinding, [(.cell 2 true 3)]⟩ := by kernel_rfl
theorem m_laws_toBinding : modes 52 = ⟨[], .asis, none, false⟩ := by unfold modes; rfl
def c_laws_toBindingS : SC := (.seq (.reg [⟨(some 2), none, (.mv (.c .nil))⟩]) (.seq (.reg [⟨(some 5), none, (.mv (.t 0))⟩, ⟨(some 6), none, (.len false (.t 5))⟩, ⟨(some 7), none, (.mkslice 64 3 56 [(.str ⟨#[]⟩), (.str ⟨#[]⟩), .nil] (.t 6))⟩, ⟨(some 3), none, (.mv (.t 7))⟩]) (.seq (.seq (.reg [⟨(some 4), none, (.mv (.c (.int .i64 0)))⟩]) (.block 0 (.loop [1, 0, 0, 1, 1, 0, 0, 0, 0, 0, 0, 0, 0, 0, 0, 0, 0, 0, 0, 0, 0, 0, 0] (.seq (.seq (.reg [⟨(some 8), none, (.mv (.t 4))⟩, ⟨(some 9), none, (.mv (.t 0))⟩, ⟨(some 10), none, (.len false (.t 9))⟩, ⟨(some 11), none, (.bin .lss false (.t 8) (.t 10))⟩]) (.cond (.t 11) .skip (.exit 0))) (.seq (.block 1 (.reg [⟨(some 14), none, (.mv (.t 3))⟩, ⟨(some 15), none, (.mv (.t 4))⟩, ⟨(some 16), none, (.mv (.t 0))⟩, ⟨(some 17), none, (.mv (.t 4))⟩, ⟨(some 18), none, (.iaddr 3 (.t 16) (.t 17))⟩, ⟨(some 19), none, (.load true 3 (.t 18))⟩, ⟨(some 20), none, (.call 52 [(.t 19)])⟩, ⟨(some 21), none, (.iaddr 3 (.t 14) (.t 15))⟩, ⟨none, none, (.store 3 (.t 21) (.t 20))⟩])) (.reg [⟨(some 12), none, (.mv (.t 4))⟩, ⟨(some 13), none, (.bin .add false (.t 12) (.c (.int .i64 1)))⟩, ⟨(some 4), none, (.mv (.t 13))⟩])))))) (.seq (.reg [⟨(some 22), none, (.mv (.t 3))⟩, ⟨(some 2), none, (.mv (.t 22))⟩]) .ret))))
theorem k_laws_toBindingS : codeOf Try.prog 27 = some ⟨23, c_laws_toBindingS, [(.tmp 2)]⟩ := by kernel_rfl
theorem m_laws_toBindingS : modes 27 = ⟨[], .asis, none, false⟩ := by unfold modes; rfl
abbrev ToT_Binding (x : Bd) : Prop := x.bulk ≤ 1048576 → E 52 [x.sv] [] = some (x.osv, x.obs)
abbrev ToTS_Binding (xs : List Bd) : Prop := xs.length + Bd.sumB xs ≤ 1048576 → E 27 [.arr (xs.map Bd.d)] [] = some (.ref 0, [.row 64 3 (xs.map Bd.o)])
set_option maxHeartbeats 1000000 in
theorem toTS_Binding_of (xs : List Bd) (h : ∀ x ∈ xs, ToT_Binding x) : ToTS_Binding xs := by
  intro hb
  refine E_walk k_laws_toBindingS m_laws_toBindingS (of_decide_eq_true rfl) ?_
  simp (disch := omega) only [c_laws_toBindingS, go_sem, Nat.reduceAdd, Nat.reduceSub, Nat.reduceLT, Nat.reduceLeDiff, Nat.reduceEqDiff, Nat.reduceBEq, Nat.reduceBneDiff, Nat.reduceMul, ↓reduceIte, Int.reduceToNat, reduceCtorEq, Int.reduceNeg, Int.reduceAdd]
  refine go_loop (α := Int) (fun i => ⟨slots 23 0 [(0, .arr (xs.map Bd.d)), (3, .ref 0), (4, .int .i64 i)], [.row 64 3 (fillR Bd.o [.str ⟨#[]⟩, .str ⟨#[]⟩, .ow []] xs i.toNat)]⟩) (fun i => ∃ k : Nat, i = k ∧ k ≤ xs.length) (fun i => xs.length - i.toNat) 0 ⟨0, rfl, Nat.zero_le _⟩ (by simp (disch := omega) only [go_sem, Nat.reduceAdd, Nat.reduceSub, Nat.reduceLT, Nat.reduceLeDiff, Nat.reduceEqDiff, Nat.reduceBEq, Nat.reduceBneDiff, Nat.reduceMul, ↓reduceIte, Int.reduceToNat, reduceCtorEq, Int.reduceNeg, Int.reduceAdd, fillR_zero, Int.toNat_zero]) ?_
  · rintro i ⟨k, rfl, hk⟩
    obtain ⟨i, hi⟩ : ∃ i : Int, i = (k : Int) := ⟨_, rfl⟩
    rw [← hi]
    have hn : i.toNat = k := by omega
    have hn1 : (i + 1).toNat = k + 1 := by omega
    rcases Nat.lt_or_ge k xs.length with hlt | hge
    · have hg := get_at Bd.d hlt
      rw [Bd.d_eq] at hg
      have hz := fillR_get Bd.o [.str ⟨#[]⟩, .str ⟨#[]⟩, .ow []] hlt
      have hle := Bd.bulk_le xs k hlt
      have hc := h xs[k] (List.getElem_mem hlt) (by omega)
      have hs := fillR_set Bd.o [.str ⟨#[]⟩, .str ⟨#[]⟩, .ow []] hlt
      rw [Bd.o_eq] at hs
      simp (disch := omega) only [go_sem, Nat.reduceAdd, Nat.reduceSub, Nat.reduceLT, Nat.reduceLeDiff, Nat.reduceEqDiff, Nat.reduceBEq, Nat.reduceBneDiff, Nat.reduceMul, ↓reduceIte, Int.reduceToNat, reduceCtorEq, Int.reduceNeg, Int.reduceAdd, hn, hg, hc, hz, fillR_len, m_laws_toBinding, Bd.osv, Bd.obs]
      refine ⟨i + 1, ⟨k + 1, by omega, hlt⟩, by omega, ?_⟩
      simp (disch := omega) only [go_sem, Nat.reduceAdd, Nat.reduceSub, Nat.reduceLT, Nat.reduceLeDiff, Nat.reduceEqDiff, Nat.reduceBEq, Nat.reduceBneDiff, Nat.reduceMul, ↓reduceIte, Int.reduceToNat, reduceCtorEq, Int.reduceNeg, Int.reduceAdd, hn1, hs]
    · obtain rfl : k = xs.length := by omega
      simp (disch := omega) only [go_sem, Nat.reduceAdd, Nat.reduceSub, Nat.reduceLT, Nat.reduceLeDiff, Nat.reduceEqDiff, Nat.reduceBEq, Nat.reduceBneDiff, Nat.reduceMul, ↓reduceIte, Int.reduceToNat, reduceCtorEq, Int.reduceNeg, Int.reduceAdd, hn, fillR_end]
set_option maxHeartbeats 1000000 in
theorem toT_Binding_of (x : Bd) (h_term : ToT_Term x.term) : ToT_Binding x := by
  intro hb
  have qb := Bd.bulk_eq x
  replace h_term := h_term (by omega)
  refine E_walk k_laws_toBinding m_laws_toBinding (of_decide_eq_true rfl) ?_
  simp (disch := omega) only [c_laws_toBinding, go_sem, Nat.reduceAdd, Nat.reduceSub, Nat.reduceLT, Nat.reduceLeDiff, Nat.reduceEqDiff, Nat.reduceBEq, Nat.reduceBneDiff, Nat.reduceMul, ↓reduceIte, Int.reduceToNat, reduceCtorEq, Int.reduceNeg, Int.reduceAdd, h_term, m_laws_toTerm]
theorem toT_Binding (x : Bd) : ToT_Binding x := toT_Binding_of x (toT_Term x.term)
theorem toTS_Binding (xs : List Bd) : ToTS_Binding xs := toTS_Binding_of xs fun x _ => toT_Binding x
def c_laws_toSubstitution : SC := (.seq (.reg [⟨(some 1), none, (.boxv 24 1 (.t 0))⟩, ⟨(some 2), none, (.alloc 34 [.nil])⟩]) (.seq (.reg [⟨(some 3), none, (.alloc 34 [.nil])⟩]) (.seq (.reg [⟨(some 4), none, (.faddr 0 (.t 1))⟩, ⟨(some 5), none, (.load false 1 (.t 4))⟩, ⟨(some 6), none, (.call 27 [(.t 5)])⟩, ⟨(some 7), none, (.faddr 0 (.t 3))⟩, ⟨none, none, (.store 1 (.t 7) (.t 6))⟩]) (.seq (.reg [⟨(some 8), none, (.load true 1 (.t 3))⟩, ⟨none, none, (.store 1 (.t 2) (.t 8))⟩]) .ret))))
theorem k_laws_toSubstitution : codeOf Try.prog 10 = some ⟨9, c_laws_toSubstitution, [(.cell 2 true 1)]⟩ := by kernel_rfl
theorem m_laws_toSubstitution : modes 10 = ⟨[], .asis, none, false⟩ := by unfold modes; rfl
abbrev ToT_Substitution (x : Sb) : Prop := x.bulk ≤ 1048576 → E 10 [x.sv] [] = some (x.osv, x.obs)
set_option maxHeartbeats 1000000 in
theorem toT_Substitution_of (x : Sb) (h_binds : ToTS_Binding x.binds) : ToT_Substitution x := by
  intro hb
  have qb := Sb.bulk_eq x
  replace h_binds := h_binds (by omega)
  refine E_walk k_laws_toSubstitution m_laws_toSubstitution (of_decide_eq_true rfl) ?_
  simp (disch := omega) only [c_laws_toSubstitution, go_sem, Nat.reduceAdd, Nat.reduceSub, Nat.reduceLT, Nat.reduceLeDiff, Nat.reduceEqDiff, Nat.reduceBEq, Nat.reduceBneDiff, Nat.reduceMul, ↓reduceIte, Int.reduceToNat, reduceCtorEq, Int.reduceNeg, Int.reduceAdd, h_binds, m_laws_toBindingS]
theorem toT_Substitution (x : Sb) : ToT_Substitution x := toT_Substitution_of x (toTS_Binding_of x.binds fun y hy => toT_Binding y)
end Go.Proofs.Ytjafnijgkjjadaa

set_option maxRecDepth 100000
set_option linter.unusedSimpArgs false
set_option linter.unusedVariables false
namespace Go.Proofs.Ytjafnijgkjjadaa
open Go.RowKit

def c_laws_eqTerm : SC := (.seq (.reg [⟨(some 2), none, (.boxv 38 2 (.t 0))⟩, ⟨(some 3), none, (.boxv 38 2 (.t 1))⟩, ⟨(some 4), none, (.mv (.c (.bool false)))⟩]) (.seq (.seq (.reg [⟨(some 5), none, (.faddr 0 (.t 2))⟩, ⟨(some 6), none, (.load false 1 (.t 5))⟩, ⟨(some 7), none, (.faddr 0 (.t 3))⟩, ⟨(some 8), none, (.load false 1 (.t 7))⟩, ⟨(some 9), none, (.bin .neq false (.t 6) (.t 8))⟩]) (.cond (.t 9) (.seq (.reg [⟨(some 4), none, (.mv (.c (.bool false)))⟩]) .ret) .skip)) (.seq (.seq (.reg [⟨(some 10), none, (.faddr 1 (.t 2))⟩, ⟨(some 11), none, (.load false 1 (.t 10))⟩, ⟨(some 12), none, (.faddr 1 (.t 3))⟩, ⟨(some 13), none, (.load false 1 (.t 12))⟩, ⟨(some 14), none, (.call 32 [(.t 11), (.t 13)])⟩, ⟨(some 15), none, (.un .not (.t 14))⟩]) (.cond (.t 15) (.seq (.reg [⟨(some 4), none, (.mv (.c (.bool false)))⟩]) .ret) .skip)) (.seq (.reg [⟨(some 4), none, (.mv (.c (.bool true)))⟩]) .ret))))
theorem k_laws_eqTerm : codeOf Try.prog 14 = some ⟨16, c_laws_eqTerm, [(.tmp 4)]⟩ := by kernel_rfl
theorem m_laws_eqTerm : modes 14 = ⟨[], .asis, none, false⟩ := by unfold modes; rfl
def c_laws_eqTermS : SC := (.seq (.reg [⟨(some 4), none, (.mv (.c (.bool false)))⟩]) (.seq (.seq (.reg [⟨(some 6), none, (.mv (.t 0))⟩, ⟨(some 7), none, (.len false (.t 6))⟩, ⟨(some 8), none, (.mv (.t 1))⟩, ⟨(some 9), none, (.len false (.t 8))⟩, ⟨(some 10), none, (.bin .neq false (.t 7) (.t 9))⟩]) (.cond (.t 10) (.seq (.reg [⟨(some 4), none, (.mv (.c (.bool false)))⟩]) .ret) .skip)) (.seq (.seq (.reg [⟨(some 5), none, (.mv (.c (.int .i64 0)))⟩]) (.block 0 (.loop [1, 1, 0, 0, 0, 1, 0, 0, 0, 0, 0, 0, 0, 0, 0, 0, 0, 0, 0, 0, 0, 0, 0, 0, 0, 0, 0] (.seq (.seq (.reg [⟨(some 11), none, (.mv (.t 5))⟩, ⟨(some 12), none, (.mv (.t 0))⟩, ⟨(some 13), none, (.len false (.t 12))⟩, ⟨(some 14), none, (.bin .lss false (.t 11) (.t 13))⟩]) (.cond (.t 14) .skip (.exit 0))) (.seq (.block 1 (.seq (.dreg [[], [], [0, 1], [2, 0, 1], [], [], [4, 5], [6, 4, 5], [3, 2, 0, 1, 7, 6, 4, 5], [8, 3, 2, 0, 1, 7, 6, 4, 5]] [⟨(some 17), none, (.mv (.t 0))⟩, ⟨(some 18), none, (.mv (.t 5))⟩, ⟨(some 19), none, (.iaddr 2 (.t 17) (.t 18))⟩, ⟨(some 20), none, (.load true 2 (.t 19))⟩, ⟨(some 21), none, (.mv (.t 1))⟩, ⟨(some 22), none, (.mv (.t 5))⟩, ⟨(some 23), none, (.iaddr 2 (.t 21) (.t 22))⟩, ⟨(some 24), none, (.load true 2 (.t 23))⟩, ⟨(some 25), none, (.call 14 [(.t 20), (.t 24)])⟩, ⟨(some 26), none, (.un .not (.t 25))⟩]) (.cond (.t 26) (.seq (.reg [⟨(some 4), none, (.mv (.c (.bool false)))⟩]) .ret) .skip))) (.reg [⟨(some 15), none, (.mv (.t 5))⟩, ⟨(some 16), none, (.bin .add false (.t 15) (.c (.int .i64 1)))⟩, ⟨(some 5), none, (.mv (.t 16))⟩])))))) (.seq (.reg [⟨(some 4), none, (.mv (.c (.bool true)))⟩]) .ret))))
theorem k_laws_eqTermS : codeOf Try.prog 32 = some ⟨27, c_laws_eqTermS, [(.tmp 4)]⟩ := by kernel_rfl
theorem m_laws_eqTermS : modes 32 = ⟨[], .asis, none, false⟩ := by unfold modes; rfl
abbrev EqT_Term (x : Tm) : Prop := x.bulk ≤ 1048576 → E 14 [x.sv, x.sv] [] = some (.bool true, [])
abbrev EqTS_Term (xs : List Tm) : Prop := xs.length + Tm.sumB xs ≤ 1048576 → E 32 [.arr (xs.map Tm.d), .arr (xs.map Tm.d)] [] = some (.bool true, [])
set_option maxHeartbeats 1000000 in
theorem eqTS_Term_of (xs : List Tm) (h : ∀ x ∈ xs, EqT_Term x) : EqTS_Term xs := by
  intro hb
  refine E_walk k_laws_eqTermS m_laws_eqTermS (of_decide_eq_true rfl) ?_
  simp (disch := omega) only [c_laws_eqTermS, go_sem, Nat.reduceAdd, Nat.reduceSub, Nat.reduceLT, Nat.reduceLeDiff, Nat.reduceEqDiff, Nat.reduceBEq, Nat.reduceBneDiff, Nat.reduceMul, ↓reduceIte, Int.reduceToNat, reduceCtorEq, Int.reduceNeg, Int.reduceAdd]
  refine go_loop (α := Int) (fun i => ⟨slots 27 0 [(0, .arr (xs.map Tm.d)), (1, .arr (xs.map Tm.d)), (5, .int .i64 i)], []⟩) (fun i => ∃ k : Nat, i = k ∧ k ≤ xs.length) (fun i => xs.length - i.toNat) 0 ⟨0, rfl, Nat.zero_le _⟩ (by simp (disch := omega) only [go_sem, Nat.reduceAdd, Nat.reduceSub, Nat.reduceLT, Nat.reduceLeDiff, Nat.reduceEqDiff, Nat.reduceBEq, Nat.reduceBneDiff, Nat.reduceMul, ↓reduceIte, Int.reduceToNat, reduceCtorEq, Int.reduceNeg, Int.reduceAdd]) ?_
  · rintro i ⟨k, rfl, hk⟩
    obtain ⟨i, hi⟩ : ∃ i : Int, i = (k : Int) := ⟨_, rfl⟩
    rw [← hi]
    have hn : i.toNat = k := by omega
    rcases Nat.lt_or_ge k xs.length with hlt | hge
    · have hg := get_at Tm.d hlt
      rw [Tm.d_eq] at hg
      have hle := Tm.bulk_le xs k hlt
      have hc := h xs[k] (List.getElem_mem hlt) (by omega)
      simp (disch := omega) only [go_sem, Nat.reduceAdd, Nat.reduceSub, Nat.reduceLT, Nat.reduceLeDiff, Nat.reduceEqDiff, Nat.reduceBEq, Nat.reduceBneDiff, Nat.reduceMul, ↓reduceIte, Int.reduceToNat, reduceCtorEq, Int.reduceNeg, Int.reduceAdd, hn, hg, hc, m_laws_eqTerm]
      refine ⟨i + 1, ⟨k + 1, by omega, hlt⟩, by omega, ?_⟩
      trivial
    · obtain rfl : k = xs.length := by omega
      simp (disch := omega) only [go_sem, Nat.reduceAdd, Nat.reduceSub, Nat.reduceLT, Nat.reduceLeDiff, Nat.reduceEqDiff, Nat.reduceBEq, Nat.reduceBneDiff, Nat.reduceMul, ↓reduceIte, Int.reduceToNat, reduceCtorEq, Int.reduceNeg, Int.reduceAdd, hn]
set_option maxHeartbeats 1000000 in
theorem eqT_Term_of (x : Tm) (h_args : EqTS_Term x.args) : EqT_Term x := by
  intro hb
  have qb := Tm.bulk_eq x
  replace h_args := h_args (by omega)
  refine E_walk k_laws_eqTerm m_laws_eqTerm (of_decide_eq_true rfl) ?_
  simp (disch := omega) only [c_laws_eqTerm, go_sem, Nat.reduceAdd, Nat.reduceSub, Nat.reduceLT, Nat.reduceLeDiff, Nat.reduceEqDiff, Nat.reduceBEq, Nat.reduceBneDiff, Nat.reduceMul, ↓reduceIte, Int.reduceToNat, reduceCtorEq, Int.reduceNeg, Int.reduceAdd, h_args, m_laws_eqTermS, dec_refl]
theorem eqT_Term (x : Tm) : EqT_Term x := eqT_Term_of x (eqTS_Term_of x.args fun y hy => eqT_Term y)
termination_by SizeOf.sizeOf x
decreasing_by exact Tm.lt_of_mem hy
theorem eqTS_Term (xs : List Tm) : EqTS_Term xs := eqTS_Term_of xs fun x _ => eqT_Term x
def c_laws_eqBinding : SC := (.seq (.reg [⟨(some 2), none, (.boxv 64 3 (.t 0))⟩, ⟨(some 3), none, (.boxv 64 3 (.t 1))⟩, ⟨(some 4), none, (.mv (.c (.bool false)))⟩]) (.seq (.seq (.reg [⟨(some 5), none, (.faddr 0 (.t 2))⟩, ⟨(some 6), none, (.load false 1 (.t 5))⟩, ⟨(some 7), none, (.faddr 0 (.t 3))⟩, ⟨(some 8), none, (.load false 1 (.t 7))⟩, ⟨(some 9), none, (.bin .neq false (.t 6) (.t 8))⟩]) (.cond (.t 9) (.seq (.reg [⟨(some 4), none, (.mv (.c (.bool false)))⟩]) .ret) .skip)) (.seq (.seq (.reg [⟨(some 10), none, (.faddr 1 (.t 2))⟩, ⟨(some 11), none, (.load true 2 (.t 10))⟩, ⟨(some 12), none, (.faddr 1 (.t 3))⟩, ⟨(some 13), none, (.load true 2 (.t 12))⟩, ⟨(some 14), none, (.call 14 [(.t 11), (.t 13)])⟩, ⟨(some 15), none, (.un .not (.t 14))⟩]) (.cond (.t 15) (.seq (.reg [⟨(some 4), none, (.mv (.c (.bool false)))⟩]) .ret) .skip)) (.seq (.reg [⟨(some 4), none, (.mv (.c (.bool true)))⟩]) .ret))))
theorem k_laws_eqBinding : codeOf Try.prog 56 = some ⟨16, c_laws_eqBinding, [(.tmp 4)]⟩ := by kernel_rfl
theorem m_laws_eqBinding : modes 56 = ⟨[], .asis, none, false⟩ := by unfold modes; rfl
def c_laws_eqBindingS : SC := (.seq (.reg [⟨(some 4), none, (.mv (.c (.bool false)))⟩]) (.seq (.seq (.reg [⟨(some 6), none, (.mv (.t 0))⟩, ⟨(some 7), none, (.len false (.t 6))⟩, ⟨(some 8), none, (.mv (.t 1))⟩, ⟨(some 9), none, (.len false (.t 8))⟩, ⟨(some 10), none, (.bin .neq false (.t 7) (.t 9))⟩]) (.cond (.t 10) (.seq (.reg [⟨(some 4), none, (.mv (.c (.bool false)))⟩]) .ret) .skip)) (.seq (.seq (.reg [⟨(some 5), none, (.mv (.c (.int .i64 0)))⟩]) (.block 0 (.loop [1, 1, 0, 0, 0, 1, 0, 0, 0, 0, 0, 0, 0, 0, 0, 0, 0, 0, 0, 0, 0, 0, 0, 0, 0, 0, 0] (.seq (.seq (.reg [⟨(some 11), none, (.mv (.t 5))⟩, ⟨(some 12), none, (.mv (.t 0))⟩, ⟨(some 13), none, (.len false (.t 12))⟩, ⟨(some 14), none, (.bin .lss false (.t 11) (.t 13))⟩]) (.cond (.t 14) .skip (.exit 0))) (.seq (.block 1 (.seq (.dreg [[], [], [0, 1], [2, 0, 1], [], [], [4, 5], [6, 4, 5], [3, 2, 0, 1, 7, 6, 4, 5], [8, 3, 2, 0, 1, 7, 6, 4, 5]] [⟨(some 17), none, (.mv (.t 0))⟩, ⟨(some 18), none, (.mv (.t 5))⟩, ⟨(some 19), none, (.iaddr 3 (.t 17) (.t 18))⟩, ⟨(some 20), none, (.load true 3 (.t 19))⟩, ⟨(some 21), none, (.mv (.t 1))⟩, ⟨(some 22), none, (.mv (.t 5))⟩, ⟨(some 23), none, (.iaddr 3 (.t 21) (.t 22))⟩, ⟨(some 24), none, (.load true 3 (.t 23))⟩, ⟨(some 25), none, (.call 56 [(.t 20), (.t 24)])⟩, ⟨(some 26), none, (.un .not (.t 25))⟩]) (.cond (.t 26) (.seq (.reg [⟨(some 4), none, (.mv (.c (.bool false)))⟩]) .ret) .skip))) (.reg [⟨(some 15), none, (.mv (.t 5))⟩, ⟨(some 16), none, (.bin .add false (.t 15) (.c (.int .i64 1)))⟩, ⟨(some 5), none, (.mv (.t 16))⟩])))))) (.seq (.reg [⟨(some 4), none, (.mv (.c (.bool true)))⟩]) .ret))))
theorem k_laws_eqBindingS : codeOf Try.prog 31 = some ⟨27, c_laws_eqBindingS, [(.tmp 4)]⟩ := by kernel_rfl
theorem m_laws_eqBindingS : modes 31 = ⟨[], .asis, none, false⟩ := by unfold modes; rfl
abbrev EqT_Binding (x : Bd) : Prop := x.bulk ≤ 1048576 → E 56 [x.sv, x.sv] [] = some (.bool true, [])
abbrev EqTS_Binding (xs : List Bd) : Prop := xs.length + Bd.sumB xs ≤ 1048576 → E 31 [.arr (xs.map Bd.d), .arr (xs.map Bd.d)] [] = some (.bool true, [])
set_option maxHeartbeats 1000000 in
theorem eqTS_Binding_of (xs : List Bd) (h : ∀ x ∈ xs, EqT_Binding x) : EqTS_Binding xs := by
  intro hb
  refine E_walk k_laws_eqBindingS m_laws_eqBindingS (of_decide_eq_true rfl) ?_
  simp (disch := omega) only [c_laws_eqBindingS, go_sem, Nat.reduceAdd, Nat.reduceSub, Nat.reduceLT, Nat.reduceLeDiff, Nat.reduceEqDiff, Nat.reduceBEq, Nat.reduceBneDiff, Nat.reduceMul, ↓reduceIte, Int.reduceToNat, reduceCtorEq, Int.reduceNeg, Int.reduceAdd]
  refine go_loop (α := Int) (fun i => ⟨slots 27 0 [(0, .arr (xs.map Bd.d)), (1, .arr (xs.map Bd.d)), (5, .int .i64 i)], []⟩) (fun i => ∃ k : Nat, i = k ∧ k ≤ xs.length) (fun i => xs.length - i.toNat) 0 ⟨0, rfl, Nat.zero_le _⟩ (by simp (disch := omega) only [go_sem, Nat.reduceAdd, Nat.reduceSub, Nat.reduceLT, Nat.reduceLeDiff, Nat.reduceEqDiff, Nat.reduceBEq, Nat.reduceBneDiff, Nat.reduceMul, ↓reduceIte, Int.reduceToNat, reduceCtorEq, Int.reduceNeg, Int.reduceAdd]) ?_
  · rintro i ⟨k, rfl, hk⟩
    obtain ⟨i, hi⟩ : ∃ i : Int, i = (k : Int) := ⟨_, rfl⟩
    rw [← hi]
    have hn : i.toNat = k := by omega
    rcases Nat.lt_or_ge k xs.length with hlt | hge
    · have hg := get_at Bd.d hlt
      rw [Bd.d_eq] at hg
      have hle := Bd.bulk_le xs k hlt
      have hc := h xs[k] (List.getElem_mem hlt) (by omega)
      simp (disch := omega) only [go_sem, Nat.reduceAdd, Nat.reduceSub, Nat.reduceLT, Nat.reduceLeDiff, Nat.reduceEqDiff, Nat.reduceBEq, Nat.reduceBneDiff, Nat.reduceMul, ↓reduceIte, Int.reduceToNat, reduceCtorEq, Int.reduceNeg, Int.reduceAdd, hn, hg, hc, m_laws_eqBinding]
      refine ⟨i + 1, ⟨k + 1, by omega, hlt⟩, by omega, ?_⟩
      trivial
    · obtain rfl : k = xs.length := by omega
      simp (disch := omega) only [go_sem, Nat.reduceAdd, Nat.reduceSub, Nat.reduceLT, Nat.reduceLeDiff, Nat.reduceEqDiff, Nat.reduceBEq, Nat.reduceBneDiff, Nat.reduceMul, ↓reduceIte, Int.reduceToNat, reduceCtorEq, Int.reduceNeg, Int.reduceAdd, hn]
set_option maxHeartbeats 1000000 in
theorem eqT_Binding_of (x : Bd) (h_term : EqT_Term x.term) : EqT_Binding x := by
  intro hb
  have qb := Bd.bulk_eq x
  replace h_term := h_term (by omega)
  refine E_walk k_laws_eqBinding m_laws_eqBinding (of_decide_eq_true rfl) ?_
  simp (disch := omega) only [c_laws_eqBinding, go_sem, Nat.reduceAdd, Nat.reduceSub, Nat.reduceLT, Nat.reduceLeDiff, Nat.reduceEqDiff, Nat.reduceBEq, Nat.reduceBneDiff, Nat.reduceMul, ↓reduceIte, Int.reduceToNat, reduceCtorEq, Int.reduceNeg, Int.reduceAdd, h_term, m_laws_eqTerm, dec_refl]
theorem eqT_Binding (x : Bd) : EqT_Binding x := eqT_Binding_of x (eqT_Term x.term)
theorem eqTS_Binding (xs : List Bd) : EqTS_Binding xs := eqTS_Binding_of xs fun x _ => eqT_Binding x
def c_laws_eqSubstitution : SC := (.seq (.reg [⟨(some 2), none, (.boxv 34 1 (.t 0))⟩, ⟨(some 3), none, (.boxv 34 1 (.t 1))⟩, ⟨(some 4), none, (.mv (.c (.bool false)))⟩]) (.seq (.seq (.reg [⟨(some 5), none, (.faddr 0 (.t 2))⟩, ⟨(some 6), none, (.load false 1 (.t 5))⟩, ⟨(some 7), none, (.faddr 0 (.t 3))⟩, ⟨(some 8), none, (.load false 1 (.t 7))⟩, ⟨(some 9), none, (.call 31 [(.t 6), (.t 8)])⟩, ⟨(some 10), none, (.un .not (.t 9))⟩]) (.cond (.t 10) (.seq (.reg [⟨(some 4), none, (.mv (.c (.bool false)))⟩]) .ret) .skip)) (.seq (.reg [⟨(some 4), none, (.mv (.c (.bool true)))⟩]) .ret)))
theorem k_laws_eqSubstitution : codeOf Try.prog 13 = some ⟨11, c_laws_eqSubstitution, [(.tmp 4)]⟩ := by kernel_rfl
theorem m_laws_eqSubstitution : modes 13 = ⟨[], .asis, none, false⟩ := by unfold modes; rfl
abbrev EqT_Substitution (x : Sb) : Prop := x.bulk ≤ 1048576 → E 13 [x.sv, x.sv] [] = some (.bool true, [])
set_option maxHeartbeats 1000000 in
theorem eqT_Substitution_of (x : Sb) (h_binds : EqTS_Binding x.binds) : EqT_Substitution x := by
  intro hb
  have qb := Sb.bulk_eq x
  replace h_binds := h_binds (by omega)
  refine E_walk k_laws_eqSubstitution m_laws_eqSubstitution (of_decide_eq_true rfl) ?_
  simp (disch := omega) only [c_laws_eqSubstitution, go_sem, Nat.reduceAdd, Nat.reduceSub, Nat.reduceLT, Nat.reduceLeDiff, Nat.reduceEqDiff, Nat.reduceBEq, Nat.reduceBneDiff, Nat.reduceMul, ↓reduceIte, Int.reduceToNat, reduceCtorEq, Int.reduceNeg, Int.reduceAdd, h_binds, m_laws_eqBindingS, dec_refl]
theorem eqT_Substitution (x : Sb) : EqT_Substitution x := eqT_Substitution_of x (eqTS_Binding_of x.binds fun y hy => eqT_Binding y)
end Go.Proofs.Ytjafnijgkjjadaa

set_option maxRecDepth 100000
set_option linter.unusedSimpArgs false
set_option linter.unusedVariables false
namespace Go.Proofs.Ytjafnijgkjjadaa
open Go.RowKit

theorem Tm.nodeS_sumB : ∀ xs : List Tm, (∀ x ∈ xs, x.nodes ≤ 1 + x.bulk) → Tm.nodeS xs ≤ xs.length + Tm.sumB xs
  | [], _ => by simp [Tm.nodeS]
  | x :: xs, h => by
    have h1 := h x (by simp)
    have h2 := Tm.nodeS_sumB xs fun y hy => h y (by simp [hy])
    rw [Tm.nodeS, Tm.sumB]; simp only [List.length_cons]; omega
theorem Tm.nodes_bulk (x : Tm) : x.nodes ≤ 1 + x.bulk := by
  rw [Tm.nodes_eq, Tm.bulk_eq]
  have := Tm.nodeS_sumB x.args fun y hy => Tm.nodes_bulk y
  omega
termination_by SizeOf.sizeOf x
decreasing_by exact Tm.lt_of_mem hy
theorem Sb.tame_of {x : Sb} (h : x.bulk ≤ 1048576) : x.tame := by
  rw [Sb.bulk_eq] at h
  refine ⟨by omega, fun y hy => ?_⟩
  obtain ⟨k, hk, rfl⟩ := List.getElem_of_mem hy
  have h1 := Bd.bulk_le x.binds k hk
  have h2 := Tm.nodes_bulk x.binds[k].term
  have h3 := Bd.bulk_eq x.binds[k]
  omega
theorem varB_size {s : ByteArray} (h : varB s = true) : s.size ≤ 6 := by
  unfold varB inB at h
  simp at h
  omega
theorem symB_size {s : ByteArray} (h : symB s = true) : s.size ≤ 6 := by
  unfold symB inB at h
  simp at h
  omega
theorem Tm.sumB_nodes : ∀ xs : List Tm, (∀ x ∈ xs, x.bulk + 1 ≤ 8 * x.nodes) → xs.length + Tm.sumB xs ≤ 8 * Tm.nodeS xs
  | [], _ => by simp [Tm.nodeS, Tm.sumB]
  | x :: xs, h => by
    have h1 := h x (by simp)
    have h2 := Tm.sumB_nodes xs fun y hy => h y (by simp [hy])
    rw [Tm.nodeS, Tm.sumB]; simp only [List.length_cons]; omega
theorem Tm.names_bulk (x : Tm) (h : x.names = true) : x.bulk + 1 ≤ 8 * x.nodes := by
  have h1 := Tm.sumB_nodes x.args fun y hy => Tm.names_bulk y (Tm.names_arg h hy)
  have h2 : x.name.size ≤ 6 := by
    rw [Tm.names_eq] at h
    split at h
    · rename_i hv; exact varB_size hv
    · rw [Bool.and_eq_true, Bool.and_eq_true] at h; exact symB_size h.1.1
  rw [Tm.nodes_eq, Tm.bulk_eq]
  omega
termination_by SizeOf.sizeOf x
decreasing_by exact Tm.lt_of_mem hy
theorem Tm.expr_bulk {x : Tm} (h : x.expr = true) : x.bulk ≤ 1048576 := by
  have hn := Tm.expr_nodes h
  have h1 := Tm.sumB_nodes x.args fun y hy => Tm.names_bulk y (Tm.expr_arg h hy)
  have h2 : x.name.size ≤ 6 := by
    rcases Tm.expr_names h with h3 | ⟨h3, _⟩
    · rw [Tm.names_eq] at h3
      split at h3
      · rename_i hv; exact varB_size hv
      · rw [Bool.and_eq_true, Bool.and_eq_true] at h3; exact symB_size h3.1.1
    · unfold Tm.eqn at h3
      rw [dec_iff.1 h3]; decide
  rw [Tm.nodes_eq] at hn
  rw [Tm.bulk_eq]
  omega
theorem apTo_bulk (s : Sb) (x : Tm) : (apTo s x).bulk ≤ 1048576 := by
  cases h : apOk s x with
  | false =>
    rw [apTo_no h, Tm.bulk_eq]
    show 0 + _ ≤ _
    simp [Tm.args, Tm.sumB]
  | true =>
    rw [apTo_yes h]
    unfold apOk at h
    rw [Bool.and_eq_true, Bool.and_eq_true] at h
    refine Tm.expr_bulk ?_
    exact (Tm.ap_any (Sb.look_okF h.1) x h.2.1).trans h.2.2
end Go.Proofs.Ytjafnijgkjjadaa

set_option maxRecDepth 100000
set_option linter.unusedSimpArgs false
set_option linter.unusedVariables false
namespace Go.Proofs.Ytjafnijgkjjadaa
open Go.RowKit

theorem dec_or {p q : Prop} : dec (p ∨ q) = (dec p || dec q) := by
  by_cases h : p
  · rw [dec_t h, dec_t (.inl h)]; rfl
  · rw [dec_f h, Bool.false_or]
    by_cases k : q
    · rw [dec_t k, dec_t (.inr k)]
    · rw [dec_f k, dec_f (fun x => x.elim h k)]
theorem dec_ii {p q : Prop} (h : p ↔ q) : dec p = dec q := by rw [propext h]
def c_slices_EqualFunc_impl_Term_impl_Term_impl_Term_impl_Term : SC := (.seq (.reg [⟨(some 6), none, (.mv (.c (.bool false)))⟩]) (.seq (.seq (.reg [⟨(some 10), none, (.mv (.t 0))⟩, ⟨(some 11), none, (.len false (.t 10))⟩, ⟨(some 12), none, (.mv (.t 1))⟩, ⟨(some 13), none, (.len false (.t 12))⟩, ⟨(some 14), none, (.bin .neq false (.t 11) (.t 13))⟩]) (.cond (.t 14) (.seq (.reg [⟨(some 6), none, (.mv (.c (.bool false)))⟩]) .ret) .skip)) (.seq (.seq (.reg [⟨(some 15), none, (.mv (.t 0))⟩, ⟨(some 16), none, (.len false (.t 15))⟩, ⟨(some 17), none, (.mv (.c (.int .i64 0)))⟩]) (.block 0 (.loop [0, 1, 1, 0, 0, 0, 0, 0, 0, 0, 0, 0, 0, 0, 0, 1, 1, 1, 0, 0, 0, 0, 0, 0, 0, 0, 0, 0, 0, 0, 0, 0] (.seq (.reg [⟨(some 18), none, (.bin .lss false (.t 17) (.t 16))⟩]) (.seq (.cond (.t 18) .skip (.exit 0)) (.seq (.block 1 (.seq (.reg [⟨(some 19), none, (.mv (.t 17))⟩, ⟨(some 20), none, (.iaddr 2 (.t 15) (.t 17))⟩, ⟨(some 21), none, (.load true 2 (.t 20))⟩, ⟨(some 8), none, (.alloc 38 [(.str ⟨#[]⟩), .nil])⟩, ⟨(some 7), none, (.mv (.t 19))⟩, ⟨none, none, (.store 2 (.t 8) (.t 21))⟩]) (.seq (.reg [⟨(some 22), none, (.mv (.t 1))⟩, ⟨(some 23), none, (.mv (.t 7))⟩, ⟨(some 24), none, (.iaddr 2 (.t 22) (.t 23))⟩, ⟨(some 25), none, (.load true 2 (.t 24))⟩, ⟨(some 9), none, (.alloc 38 [(.str ⟨#[]⟩), .nil])⟩, ⟨none, none, (.store 2 (.t 9) (.t 25))⟩]) (.seq (.reg [⟨(some 26), none, (.mv (.t 2))⟩, ⟨(some 27), none, (.load true 2 (.t 8))⟩, ⟨(some 28), none, (.load true 2 (.t 9))⟩, ⟨(some 29), none, (.callv (.t 26) [(.t 27), (.t 28)])⟩, ⟨(some 30), none, (.un .not (.t 29))⟩]) (.cond (.t 30) (.seq (.reg [⟨(some 6), none, (.mv (.c (.bool false)))⟩]) .ret) .skip))))) (.reg [⟨(some 31), none, (.bin .add false (.t 17) (.c (.int .i64 1)))⟩, ⟨(some 17), none, (.mv (.t 31))⟩]))))))) (.seq (.reg [⟨(some 6), none, (.mv (.c (.bool true)))⟩]) .ret))))
theorem k_slices_EqualFunc_impl_Term_impl_Term_impl_Term_impl_Term : codeOf Try.prog 55 = some ⟨32, c_slices_EqualFunc_impl_Term_impl_Term_impl_Term_impl_Term, [(.tmp 6)]⟩ := by kernel_rfl
theorem m_slices_EqualFunc_impl_Term_impl_Term_impl_Term_impl_Term : modes 55 = ⟨[], .asis, none, false⟩ := by unfold modes; rfl

def c_impl_EqualTerms : SC := (.seq (.reg [⟨(some 2), none, (.boxv 38 2 (.t 0))⟩, ⟨(some 3), none, (.boxv 38 2 (.t 1))⟩, ⟨(some 4), none, (.mv (.c (.bool false)))⟩]) (.seq (.reg [⟨(some 5), none, (.faddr 0 (.t 2))⟩, ⟨(some 6), none, (.load false 1 (.t 5))⟩, ⟨(some 7), none, (.faddr 0 (.t 3))⟩, ⟨(some 8), none, (.load false 1 (.t 7))⟩, ⟨(some 9), none, (.bin .eql false (.t 6) (.t 8))⟩, ⟨(some 10), none, (.mv (.t 9))⟩, ⟨(some 11), (some (10, true)), (.faddr 1 (.t 2))⟩, ⟨(some 12), (some (10, true)), (.load false 1 (.t 11))⟩, ⟨(some 13), (some (10, true)), (.faddr 1 (.t 3))⟩, ⟨(some 14), (some (10, true)), (.load false 1 (.t 13))⟩, ⟨(some 15), (some (10, true)), (.call 55 [(.t 12), (.t 14), (.c (.fn 30 []))])⟩, ⟨(some 16), none, (.pick (.t 10) (.t 15) (.c (.bool false)))⟩, ⟨(some 4), none, (.mv (.t 16))⟩]) .ret))
theorem k_impl_EqualTerms : codeOf Try.prog 30 = some ⟨17, c_impl_EqualTerms, [(.tmp 4)]⟩ := by kernel_rfl
theorem m_impl_EqualTerms : modes 30 = ⟨[], .asis, none, false⟩ := by unfold modes; rfl

theorem g_impl_EqualTerms : goFn Try.prog 30 = true := by kernel_rfl

def c_spec_l2Same : SC := (.seq (.reg [⟨(some 2), none, (.boxv 38 2 (.t 0))⟩, ⟨(some 3), none, (.boxv 38 2 (.t 1))⟩, ⟨(some 4), none, (.mv (.c (.bool false)))⟩]) (.seq (.seq (.reg [⟨(some 6), none, (.faddr 0 (.t 2))⟩, ⟨(some 7), none, (.load false 1 (.t 6))⟩, ⟨(some 8), none, (.faddr 0 (.t 3))⟩, ⟨(some 9), none, (.load false 1 (.t 8))⟩, ⟨(some 10), none, (.bin .neq false (.t 7) (.t 9))⟩, ⟨(some 11), none, (.mv (.t 10))⟩, ⟨(some 12), (some (11, false)), (.faddr 1 (.t 2))⟩, ⟨(some 13), (some (11, false)), (.load false 1 (.t 12))⟩, ⟨(some 14), (some (11, false)), (.len false (.t 13))⟩, ⟨(some 15), (some (11, false)), (.faddr 1 (.t 3))⟩, ⟨(some 16), (some (11, false)), (.load false 1 (.t 15))⟩, ⟨(some 17), (some (11, false)), (.len false (.t 16))⟩, ⟨(some 18), (some (11, false)), (.bin .neq false (.t 14) (.t 17))⟩, ⟨(some 19), none, (.pick (.t 11) (.c (.bool true)) (.t 18))⟩]) (.cond (.t 19) (.seq (.reg [⟨(some 4), none, (.mv (.c (.bool false)))⟩]) .ret) .skip)) (.seq (.seq (.reg [⟨(some 5), none, (.mv (.c (.int .i64 0)))⟩]) (.block 0 (.loop [0, 0, 1, 1, 0, 1, 0, 0, 0, 0, 0, 0, 0, 0, 0, 0, 0, 0, 0, 0, 0, 0, 0, 0, 0, 0, 0, 0, 0, 0, 0, 0, 0, 0, 0, 0, 0, 0, 0] (.seq (.seq (.reg [⟨(some 20), none, (.mv (.t 5))⟩, ⟨(some 21), none, (.faddr 1 (.t 2))⟩, ⟨(some 22), none, (.load false 1 (.t 21))⟩, ⟨(some 23), none, (.len false (.t 22))⟩, ⟨(some 24), none, (.bin .lss false (.t 20) (.t 23))⟩]) (.cond (.t 24) .skip (.exit 0))) (.seq (.block 1 (.seq (.dreg [[], [0], [], [1, 0, 2], [3, 1, 0, 2], [], [5], [], [6, 5, 7], [8, 6, 5, 7], [4, 3, 1, 0, 2, 9, 8, 6, 5, 7], [10, 4, 3, 1, 0, 2, 9, 8, 6, 5, 7]] [⟨(some 27), none, (.faddr 1 (.t 2))⟩, ⟨(some 28), none, (.load false 1 (.t 27))⟩, ⟨(some 29), none, (.mv (.t 5))⟩, ⟨(some 30), none, (.iaddr 2 (.t 28) (.t 29))⟩, ⟨(some 31), none, (.load true 2 (.t 30))⟩, ⟨(some 32), none, (.faddr 1 (.t 3))⟩, ⟨(some 33), none, (.load false 1 (.t 32))⟩, ⟨(some 34), none, (.mv (.t 5))⟩, ⟨(some 35), none, (.iaddr 2 (.t 33) (.t 34))⟩, ⟨(some 36), none, (.load true 2 (.t 35))⟩, ⟨(some 37), none, (.call 26 [(.t 31), (.t 36)])⟩, ⟨(some 38), none, (.un .not (.t 37))⟩]) (.cond (.t 38) (.seq (.reg [⟨(some 4), none, (.mv (.c (.bool false)))⟩]) .ret) .skip))) (.reg [⟨(some 25), none, (.mv (.t 5))⟩, ⟨(some 26), none, (.bin .add false (.t 25) (.c (.int .i64 1)))⟩, ⟨(some 5), none, (.mv (.t 26))⟩])))))) (.seq (.reg [⟨(some 4), none, (.mv (.c (.bool true)))⟩]) .ret))))
theorem k_spec_l2Same : codeOf Try.prog 26 = some ⟨39, c_spec_l2Same, [(.tmp 4)]⟩ := by kernel_rfl
theorem m_spec_l2Same : modes 26 = ⟨[], .asis, none, false⟩ := by unfold modes; rfl

theorem drop_eq_iff {α : Type} {xs ys : List α} {k : Nat} (hx : k < xs.length) (hy : k < ys.length) : xs.drop k = ys.drop k ↔ xs[k] = ys[k] ∧ xs.drop (k + 1) = ys.drop (k + 1) := by
  rw [List.drop_eq_getElem_cons hx, List.drop_eq_getElem_cons hy, List.cons.injEq]
set_option maxHeartbeats 1000000 in
theorem equalFunc_E (fid : Nat) (xs ys : List Tm) (hl : xs.length ≤ 1099511627776) (hl' : ys.length ≤ 1099511627776) (hg : goFn Try.prog fid = true) (hm : (modes fid).hand = []) (hE : ∀ x ∈ xs, ∀ y ∈ ys, E fid [x.sv, y.sv] [] = some (.bool (dec (x = y)), [])) : E 55 [.arr (xs.map Tm.d), .arr (ys.map Tm.d), .fn fid []] [] = some (.bool (dec (xs = ys)), []) := by
  by_cases hlen : xs.length = ys.length
  · have hq : ((xs.length : Int) = (ys.length : Int)) = True := by first | exact eq_true (by omega) | exact eq_false (by omega)
    refine E_walk k_slices_EqualFunc_impl_Term_impl_Term_impl_Term_impl_Term m_slices_EqualFunc_impl_Term_impl_Term_impl_Term_impl_Term (of_decide_eq_true rfl) ?_
    simp (disch := omega) only [c_slices_EqualFunc_impl_Term_impl_Term_impl_Term_impl_Term, go_sem, Nat.reduceAdd, Nat.reduceSub, Nat.reduceLT, Nat.reduceLeDiff, Nat.reduceEqDiff, Nat.reduceBEq, Nat.reduceBneDiff, Nat.reduceMul, ↓reduceIte, Int.reduceToNat, reduceCtorEq, Int.reduceNeg, Int.reduceAdd, hq]
    refine go_loop (α := Int) (fun a => ⟨slots 32 0 [(1, .arr (ys.map Tm.d)), (2, .fn fid []), (15, .arr (xs.map Tm.d)), (16, .int .i64 xs.length), (17, .int .i64 a)], []⟩) (fun a => ∃ k : Nat, a = k ∧ k ≤ (xs).length ∧ dec (xs.drop k = ys.drop k) = dec (xs = ys)) (fun a => (xs).length - (a).toNat) 0 ⟨0, rfl, Nat.zero_le _, by rw [List.drop_zero, List.drop_zero]⟩ (by simp (disch := omega) only [go_sem, Nat.reduceAdd, Nat.reduceSub, Nat.reduceLT, Nat.reduceLeDiff, Nat.reduceEqDiff, Nat.reduceBEq, Nat.reduceBneDiff, Nat.reduceMul, ↓reduceIte, Int.reduceToNat, reduceCtorEq, Int.reduceNeg, Int.reduceAdd]) ?_
    rintro i ⟨k, hi, hk, hR⟩
    have hni : i.toNat = k := by omega
    have hni1 : (i + 1).toNat = k + 1 := by omega
    rcases Nat.lt_or_ge k (xs).length with hlt | hge
    · have hgx := get_at Tm.d hlt
      rw [Tm.d_eq] at hgx
      have hlt' : k < ys.length := by omega
      have hgy := get_at Tm.d hlt'
      rw [Tm.d_eq] at hgy
      have hc := hE xs[k] (List.getElem_mem hlt) ys[k] (List.getElem_mem hlt')
      rw [dec_ii (drop_eq_iff hlt hlt')] at hR
      by_cases h0 : xs[k] = ys[k]
      · rw [dec_t h0] at hc
        rw [dec_ii (and_iff_right h0)] at hR
        simp (disch := omega) only [go_sem, Nat.reduceAdd, Nat.reduceSub, Nat.reduceLT, Nat.reduceLeDiff, Nat.reduceEqDiff, Nat.reduceBEq, Nat.reduceBneDiff, Nat.reduceMul, ↓reduceIte, Int.reduceToNat, reduceCtorEq, Int.reduceNeg, Int.reduceAdd, hni, hgx, hgy, hc, hg, hm]
        exact ⟨i + 1, ⟨k + 1, by omega, hlt, hR⟩, by omega, by first | trivial | rfl⟩
      · rw [dec_f h0] at hc
        rw [dec_f (fun h => h0 h.1)] at hR
        simp (disch := omega) only [go_sem, Nat.reduceAdd, Nat.reduceSub, Nat.reduceLT, Nat.reduceLeDiff, Nat.reduceEqDiff, Nat.reduceBEq, Nat.reduceBneDiff, Nat.reduceMul, ↓reduceIte, Int.reduceToNat, reduceCtorEq, Int.reduceNeg, Int.reduceAdd, hni, hgx, hgy, hc, hg, hm]
        exact hR
    · rw [List.drop_eq_nil_of_le hge, List.drop_eq_nil_of_le (by omega), dec_refl] at hR
      simp (disch := omega) only [go_sem, Nat.reduceAdd, Nat.reduceSub, Nat.reduceLT, Nat.reduceLeDiff, Nat.reduceEqDiff, Nat.reduceBEq, Nat.reduceBneDiff, Nat.reduceMul, ↓reduceIte, Int.reduceToNat, reduceCtorEq, Int.reduceNeg, Int.reduceAdd, hni]
      exact hR
  · have hq : ((xs.length : Int) = (ys.length : Int)) = False := by first | exact eq_true (by omega) | exact eq_false (by omega)
    have he : dec (xs = ys) = false := dec_f fun h => hlen (by rw [h])
    rw [he]
    refine E_walk k_slices_EqualFunc_impl_Term_impl_Term_impl_Term_impl_Term m_slices_EqualFunc_impl_Term_impl_Term_impl_Term_impl_Term (of_decide_eq_true rfl) ?_
    simp (disch := omega) only [c_slices_EqualFunc_impl_Term_impl_Term_impl_Term_impl_Term, go_sem, Nat.reduceAdd, Nat.reduceSub, Nat.reduceLT, Nat.reduceLeDiff, Nat.reduceEqDiff, Nat.reduceBEq, Nat.reduceBneDiff, Nat.reduceMul, ↓reduceIte, Int.reduceToNat, reduceCtorEq, Int.reduceNeg, Int.reduceAdd, hq]
theorem Tm.eq_iff (x y : Tm) : x = y ↔ x.name = y.name ∧ x.args = y.args := by
  obtain ⟨n, a⟩ := x
  obtain ⟨m, b⟩ := y
  rw [Tm.mk.injEq]; rfl
theorem equalTerms_of (x : Tm) (y : Tm) (hnx : x.nodes ≤ 1099511627776) (hny : y.nodes ≤ 1099511627776) (ih : ∀ x' ∈ x.args, ∀ y' : Tm, x'.nodes ≤ 1099511627776 → y'.nodes ≤ 1099511627776 → E 30 [x'.sv, y'.sv] [] = some (.bool (dec (x' = y')), [])) : E 30 [x.sv, y.sv] [] = some (.bool (dec (x = y)), []) := by
  have lx := Tm.length_le x.args
  have ly := Tm.length_le y.args
  have nx := Tm.nodes_eq x
  have ny := Tm.nodes_eq y
  have h6 := equalFunc_E 30 x.args y.args (by omega) (by omega) g_impl_EqualTerms (by rw [m_impl_EqualTerms]) fun x' hx' y' hy' => ih x' hx' y' (by have := Tm.nodes_mem hx'; omega) (by have := Tm.nodes_mem hy'; omega)
  rw [dec_ii (Tm.eq_iff x y)]
  by_cases h0 : x.name = y.name
  · rw [dec_ii (and_iff_right h0)]
    have hq : (x.name = y.name) = True := by simp [h0]
    refine E_walk k_impl_EqualTerms m_impl_EqualTerms (of_decide_eq_true rfl) ?_
    simp (disch := omega) only [c_impl_EqualTerms, go_sem, Nat.reduceAdd, Nat.reduceSub, Nat.reduceLT, Nat.reduceLeDiff, Nat.reduceEqDiff, Nat.reduceBEq, Nat.reduceBneDiff, Nat.reduceMul, ↓reduceIte, Int.reduceToNat, reduceCtorEq, Int.reduceNeg, Int.reduceAdd, hq, h6, m_slices_EqualFunc_impl_Term_impl_Term_impl_Term_impl_Term]
  · have hq : (x.name = y.name) = False := by simp [h0]
    rw [dec_f (fun h => h0 h.1)]
    refine E_walk k_impl_EqualTerms m_impl_EqualTerms (of_decide_eq_true rfl) ?_
    simp (disch := omega) only [c_impl_EqualTerms, go_sem, Nat.reduceAdd, Nat.reduceSub, Nat.reduceLT, Nat.reduceLeDiff, Nat.reduceEqDiff, Nat.reduceBEq, Nat.reduceBneDiff, Nat.reduceMul, ↓reduceIte, Int.reduceToNat, reduceCtorEq, Int.reduceNeg, Int.reduceAdd, hq]
theorem equalTerms_E (x y : Tm) (hnx : x.nodes ≤ 1099511627776) (hny : y.nodes ≤ 1099511627776) : E 30 [x.sv, y.sv] [] = some (.bool (dec (x = y)), []) :=
  equalTerms_of x y hnx hny fun x' hx' y' h h' => equalTerms_E x' y' h h'
termination_by SizeOf.sizeOf x
decreasing_by exact Tm.lt_of_mem hx'
set_option maxHeartbeats 1000000 in
theorem l2Same_of (x : Tm) (y : Tm) (hnx : x.nodes ≤ 1099511627776) (hny : y.nodes ≤ 1099511627776) (ih : ∀ x' ∈ x.args, ∀ y' : Tm, x'.nodes ≤ 1099511627776 → y'.nodes ≤ 1099511627776 → E 26 [x'.sv, y'.sv] [] = some (.bool (dec (x' = y')), [])) : E 26 [x.sv, y.sv] [] = some (.bool (dec (x = y)), []) := by
  have lx := Tm.length_le x.args
  have ly := Tm.length_le y.args
  have nx := Tm.nodes_eq x
  have ny := Tm.nodes_eq y
  rw [dec_ii (Tm.eq_iff x y)]
  by_cases h0 : x.name = y.name
  · rw [dec_ii (and_iff_right h0)]
    have hq : (x.name = y.name) = True := by simp [h0]
    by_cases hlen : x.args.length = y.args.length
    · have hq2 : ((x.args.length : Int) = (y.args.length : Int)) = True := by first | exact eq_true (by omega) | exact eq_false (by omega)
      refine E_walk k_spec_l2Same m_spec_l2Same (of_decide_eq_true rfl) ?_
      simp (disch := omega) only [c_spec_l2Same, go_sem, Nat.reduceAdd, Nat.reduceSub, Nat.reduceLT, Nat.reduceLeDiff, Nat.reduceEqDiff, Nat.reduceBEq, Nat.reduceBneDiff, Nat.reduceMul, ↓reduceIte, Int.reduceToNat, reduceCtorEq, Int.reduceNeg, Int.reduceAdd, hq, hq2]
      refine go_loop (α := Int) (fun a => ⟨slots 39 0 [(2, .ptr 0 0), (3, .ptr 1 0), (5, .int .i64 a)], [.box 38 [.str x.name, .arr (x.args.map Tm.d)], .box 38 [.str y.name, .arr (y.args.map Tm.d)]]⟩) (fun a => ∃ k : Nat, a = k ∧ k ≤ (x.args).length ∧ dec (x.args.drop k = y.args.drop k) = dec (x.args = y.args)) (fun a => (x.args).length - (a).toNat) 0 ⟨0, rfl, Nat.zero_le _, by rw [List.drop_zero, List.drop_zero]⟩ (by simp (disch := omega) only [go_sem, Nat.reduceAdd, Nat.reduceSub, Nat.reduceLT, Nat.reduceLeDiff, Nat.reduceEqDiff, Nat.reduceBEq, Nat.reduceBneDiff, Nat.reduceMul, ↓reduceIte, Int.reduceToNat, reduceCtorEq, Int.reduceNeg, Int.reduceAdd]) ?_
      rintro i ⟨k, hi, hk, hR⟩
      have hni : i.toNat = k := by omega
      have hni1 : (i + 1).toNat = k + 1 := by omega
      rcases Nat.lt_or_ge k (x.args).length with hlt | hge
      · have hgx := get_at Tm.d hlt
        rw [Tm.d_eq] at hgx
        have hlt' : k < y.args.length := by omega
        have hgy := get_at Tm.d hlt'
        rw [Tm.d_eq] at hgy
        have hc := ih x.args[k] (List.getElem_mem hlt) y.args[k] (by have := Tm.nodes_mem (List.getElem_mem hlt); omega) (by have := Tm.nodes_mem (List.getElem_mem hlt'); omega)
        rw [dec_ii (drop_eq_iff hlt hlt')] at hR
        by_cases h0 : x.args[k] = y.args[k]
        · rw [dec_t h0] at hc
          rw [dec_ii (and_iff_right h0)] at hR
          simp (disch := omega) only [go_sem, Nat.reduceAdd, Nat.reduceSub, Nat.reduceLT, Nat.reduceLeDiff, Nat.reduceEqDiff, Nat.reduceBEq, Nat.reduceBneDiff, Nat.reduceMul, ↓reduceIte, Int.reduceToNat, reduceCtorEq, Int.reduceNeg, Int.reduceAdd, hni, hgx, hgy, hc, m_spec_l2Same]
          exact ⟨i + 1, ⟨k + 1, by omega, hlt, hR⟩, by omega, by first | trivial | rfl⟩
        · rw [dec_f h0] at hc
          rw [dec_f (fun h => h0 h.1)] at hR
          simp (disch := omega) only [go_sem, Nat.reduceAdd, Nat.reduceSub, Nat.reduceLT, Nat.reduceLeDiff, Nat.reduceEqDiff, Nat.reduceBEq, Nat.reduceBneDiff, Nat.reduceMul, ↓reduceIte, Int.reduceToNat, reduceCtorEq, Int.reduceNeg, Int.reduceAdd, hni, hgx, hgy, hc, m_spec_l2Same]
          exact hR
      · rw [List.drop_eq_nil_of_le hge, List.drop_eq_nil_of_le (by omega), dec_refl] at hR
        simp (disch := omega) only [go_sem, Nat.reduceAdd, Nat.reduceSub, Nat.reduceLT, Nat.reduceLeDiff, Nat.reduceEqDiff, Nat.reduceBEq, Nat.reduceBneDiff, Nat.reduceMul, ↓reduceIte, Int.reduceToNat, reduceCtorEq, Int.reduceNeg, Int.reduceAdd, hni]
        exact hR
    · have hq2 : ((x.args.length : Int) = (y.args.length : Int)) = False := by first | exact eq_true (by omega) | exact eq_false (by omega)
      have he : dec (x.args = y.args) = false := dec_f fun h => hlen (by rw [h])
      rw [he]
      refine E_walk k_spec_l2Same m_spec_l2Same (of_decide_eq_true rfl) ?_
      simp (disch := omega) only [c_spec_l2Same, go_sem, Nat.reduceAdd, Nat.reduceSub, Nat.reduceLT, Nat.reduceLeDiff, Nat.reduceEqDiff, Nat.reduceBEq, Nat.reduceBneDiff, Nat.reduceMul, ↓reduceIte, Int.reduceToNat, reduceCtorEq, Int.reduceNeg, Int.reduceAdd, hq, hq2]
  · have hq : (x.name = y.name) = False := by simp [h0]
    rw [dec_f (fun h => h0 h.1)]
    refine E_walk k_spec_l2Same m_spec_l2Same (of_decide_eq_true rfl) ?_
    simp (disch := omega) only [c_spec_l2Same, go_sem, Nat.reduceAdd, Nat.reduceSub, Nat.reduceLT, Nat.reduceLeDiff, Nat.reduceEqDiff, Nat.reduceBEq, Nat.reduceBneDiff, Nat.reduceMul, ↓reduceIte, Int.reduceToNat, reduceCtorEq, Int.reduceNeg, Int.reduceAdd, hq]
theorem l2Same_E (x y : Tm) (hnx : x.nodes ≤ 1099511627776) (hny : y.nodes ≤ 1099511627776) : E 26 [x.sv, y.sv] [] = some (.bool (dec (x = y)), []) :=
  l2Same_of x y hnx hny fun x' hx' y' h h' => l2Same_E x' y' h h'
termination_by SizeOf.sizeOf x
decreasing_by exact Tm.lt_of_mem hx'
end Go.Proofs.Ytjafnijgkjjadaa

set_option maxRecDepth 100000
set_option linter.unusedSimpArgs false
set_option linter.unusedVariables false
namespace Go.Proofs.Ytjafnijgkjjadaa
open Go.RowKit

def c_impl_IsUnifier : SC := (.seq (.reg [⟨(some 3), none, (.boxv 34 1 (.t 0))⟩, ⟨(some 4), none, (.boxv 38 2 (.t 1))⟩, ⟨(some 5), none, (.boxv 38 2 (.t 2))⟩, ⟨(some 6), none, (.mv (.c (.bool false)))⟩, ⟨(some 7), none, (.mv (.c (.bool false)))⟩]) (.seq (.reg [⟨(some 13), none, (.load true 1 (.t 3))⟩, ⟨(some 14), none, (.load true 2 (.t 4))⟩, ⟨(some 15), none, (.call 29 [(.t 13), (.t 14)])⟩, ⟨(some 12), none, (.mv (.t 15))⟩, ⟨(some 16), none, (.ext (.t 12) 0)⟩, ⟨(some 17), none, (.ext (.t 12) 1)⟩, ⟨(some 8), none, (.alloc 38 [(.str ⟨#[]⟩), .nil])⟩, ⟨none, none, (.store 2 (.t 8) (.t 16))⟩, ⟨(some 9), none, (.mv (.t 17))⟩]) (.seq (.reg [⟨(some 19), none, (.load true 1 (.t 3))⟩, ⟨(some 20), none, (.load true 2 (.t 5))⟩, ⟨(some 21), none, (.call 29 [(.t 19), (.t 20)])⟩, ⟨(some 18), none, (.mv (.t 21))⟩, ⟨(some 22), none, (.ext (.t 18) 0)⟩, ⟨(some 23), none, (.ext (.t 18) 1)⟩, ⟨(some 10), none, (.alloc 38 [(.str ⟨#[]⟩), .nil])⟩, ⟨none, none, (.store 2 (.t 10) (.t 22))⟩, ⟨(some 11), none, (.mv (.t 23))⟩]) (.seq (.seq (.reg [⟨(some 24), none, (.mv (.t 9))⟩, ⟨(some 25), none, (.un .not (.t 24))⟩, ⟨(some 26), none, (.mv (.t 25))⟩, ⟨(some 27), (some (26, false)), (.mv (.t 11))⟩, ⟨(some 28), (some (26, false)), (.un .not (.t 27))⟩, ⟨(some 29), none, (.pick (.t 26) (.c (.bool true)) (.t 28))⟩]) (.cond (.t 29) (.seq (.reg [⟨(some 6), none, (.mv (.c (.bool false)))⟩, ⟨(some 7), none, (.mv (.c (.bool false)))⟩]) .ret) .skip)) (.seq (.reg [⟨(some 30), none, (.load true 2 (.t 8))⟩, ⟨(some 31), none, (.load true 2 (.t 10))⟩, ⟨(some 32), none, (.call 30 [(.t 30), (.t 31)])⟩, ⟨(some 6), none, (.mv (.t 32))⟩, ⟨(some 7), none, (.mv (.c (.bool true)))⟩]) .ret)))))
theorem k_impl_IsUnifier : codeOf Try.prog 12 = some ⟨33, c_impl_IsUnifier, [(.tmp 6), (.tmp 7)]⟩ := by kernel_rfl
theorem m_impl_IsUnifier : modes 12 = ⟨[], .asis, none, false⟩ := by unfold modes; rfl

def c_spec_IsUnifier : SC := (.seq (.reg [⟨(some 3), none, (.boxv 34 1 (.t 0))⟩, ⟨(some 4), none, (.boxv 38 2 (.t 1))⟩, ⟨(some 5), none, (.boxv 38 2 (.t 2))⟩, ⟨(some 6), none, (.mv (.c (.bool false)))⟩, ⟨(some 7), none, (.mv (.c (.bool false)))⟩]) (.seq (.reg [⟨(some 13), none, (.load true 1 (.t 3))⟩, ⟨(some 14), none, (.load true 2 (.t 4))⟩, ⟨(some 15), none, (.call 25 [(.t 13), (.t 14)])⟩, ⟨(some 12), none, (.mv (.t 15))⟩, ⟨(some 16), none, (.ext (.t 12) 0)⟩, ⟨(some 17), none, (.ext (.t 12) 1)⟩, ⟨(some 8), none, (.alloc 38 [(.str ⟨#[]⟩), .nil])⟩, ⟨none, none, (.store 2 (.t 8) (.t 16))⟩, ⟨(some 9), none, (.mv (.t 17))⟩]) (.seq (.reg [⟨(some 19), none, (.load true 1 (.t 3))⟩, ⟨(some 20), none, (.load true 2 (.t 5))⟩, ⟨(some 21), none, (.call 25 [(.t 19), (.t 20)])⟩, ⟨(some 18), none, (.mv (.t 21))⟩, ⟨(some 22), none, (.ext (.t 18) 0)⟩, ⟨(some 23), none, (.ext (.t 18) 1)⟩, ⟨(some 10), none, (.alloc 38 [(.str ⟨#[]⟩), .nil])⟩, ⟨none, none, (.store 2 (.t 10) (.t 22))⟩, ⟨(some 11), none, (.mv (.t 23))⟩]) (.seq (.seq (.reg [⟨(some 24), none, (.mv (.t 9))⟩, ⟨(some 25), none, (.un .not (.t 24))⟩, ⟨(some 26), none, (.mv (.t 25))⟩, ⟨(some 27), (some (26, false)), (.mv (.t 11))⟩, ⟨(some 28), (some (26, false)), (.un .not (.t 27))⟩, ⟨(some 29), none, (.pick (.t 26) (.c (.bool true)) (.t 28))⟩]) (.cond (.t 29) (.seq (.reg [⟨(some 6), none, (.mv (.c (.bool false)))⟩, ⟨(some 7), none, (.mv (.c (.bool false)))⟩]) .ret) .skip)) (.seq (.reg [⟨(some 30), none, (.load true 2 (.t 8))⟩, ⟨(some 31), none, (.load true 2 (.t 10))⟩, ⟨(some 32), none, (.call 26 [(.t 30), (.t 31)])⟩, ⟨(some 6), none, (.mv (.t 32))⟩, ⟨(some 7), none, (.mv (.c (.bool true)))⟩]) .ret)))))
theorem k_spec_IsUnifier : codeOf Try.prog 9 = some ⟨33, c_spec_IsUnifier, [(.tmp 6), (.tmp 7)]⟩ := by kernel_rfl
theorem m_spec_IsUnifier : modes 9 = ⟨[], .asis, none, false⟩ := by unfold modes; rfl

def c_laws_FnExactIsUnifier : SC := (.seq (.reg [⟨(some 3), none, (.boxv 24 1 (.t 0))⟩, ⟨(some 4), none, (.boxv 27 2 (.t 1))⟩, ⟨(some 5), none, (.boxv 27 2 (.t 2))⟩, ⟨(some 6), none, (.mv (.c (.bool false)))⟩]) (.seq (.reg [⟨(some 7), none, (.mv (.c (.int .i64 1048576)))⟩]) (.seq (.reg [⟨(some 15), none, (.load true 1 (.t 3))⟩, ⟨(some 16), none, (.mv (.t 7))⟩, ⟨(some 17), none, (.call 7 [(.t 15), (.t 16)])⟩, ⟨(some 7), none, (.mv (.t 17))⟩]) (.seq (.seq (.reg [⟨(some 18), none, (.mv (.t 7))⟩, ⟨(some 19), none, (.bin .lss false (.t 18) (.c (.int .i64 0)))⟩]) (.cond (.t 19) (.seq (.reg [⟨(some 6), none, (.mv (.c (.bool true)))⟩]) .ret) .skip)) (.seq (.reg [⟨(some 20), none, (.load true 2 (.t 4))⟩, ⟨(some 21), none, (.mv (.t 7))⟩, ⟨(some 22), none, (.call 8 [(.t 20), (.t 21)])⟩, ⟨(some 7), none, (.mv (.t 22))⟩]) (.seq (.seq (.reg [⟨(some 23), none, (.mv (.t 7))⟩, ⟨(some 24), none, (.bin .lss false (.t 23) (.c (.int .i64 0)))⟩]) (.cond (.t 24) (.seq (.reg [⟨(some 6), none, (.mv (.c (.bool true)))⟩]) .ret) .skip)) (.seq (.reg [⟨(some 25), none, (.load true 2 (.t 5))⟩, ⟨(some 26), none, (.mv (.t 7))⟩, ⟨(some 27), none, (.call 8 [(.t 25), (.t 26)])⟩, ⟨(some 7), none, (.mv (.t 27))⟩]) (.seq (.seq (.reg [⟨(some 28), none, (.mv (.t 7))⟩, ⟨(some 29), none, (.bin .lss false (.t 28) (.c (.int .i64 0)))⟩]) (.cond (.t 29) (.seq (.reg [⟨(some 6), none, (.mv (.c (.bool true)))⟩]) .ret) .skip)) (.seq (.dreg [[], [0], [], [2, 1, 0], [], [4, 3, 2, 1, 0], [1, 0, 3, 2, 5, 4], [6, 1, 0, 3, 2, 5, 4], [7, 6, 1, 0, 3, 2, 5, 4], [7, 6, 1, 0, 3, 2, 5, 4], [8, 7, 6, 1, 0, 3, 2, 5, 4], [9, 7, 6, 1, 0, 3, 2, 5, 4, 10, 8]] [⟨(some 31), none, (.load true 1 (.t 3))⟩, ⟨(some 32), none, (.call 10 [(.t 31)])⟩, ⟨(some 33), none, (.load true 2 (.t 4))⟩, ⟨(some 34), none, (.call 11 [(.t 33)])⟩, ⟨(some 35), none, (.load true 2 (.t 5))⟩, ⟨(some 36), none, (.call 11 [(.t 35)])⟩, ⟨(some 37), none, (.call 9 [(.t 32), (.t 34), (.t 36)])⟩, ⟨(some 30), none, (.mv (.t 37))⟩, ⟨(some 38), none, (.ext (.t 30) 0)⟩, ⟨(some 39), none, (.ext (.t 30) 1)⟩, ⟨(some 8), none, (.mv (.t 38))⟩, ⟨(some 9), none, (.mv (.t 39))⟩]) (.seq (.reg [⟨(some 40), none, (.load true 1 (.t 3))⟩, ⟨(some 41), none, (.call 10 [(.t 40)])⟩, ⟨(some 10), none, (.alloc 34 [.nil])⟩, ⟨none, none, (.store 1 (.t 10) (.t 41))⟩]) (.seq (.reg [⟨(some 42), none, (.load true 2 (.t 4))⟩, ⟨(some 43), none, (.call 11 [(.t 42)])⟩, ⟨(some 11), none, (.alloc 38 [(.str ⟨#[]⟩), .nil])⟩, ⟨none, none, (.store 2 (.t 11) (.t 43))⟩]) (.seq (.reg [⟨(some 44), none, (.load true 2 (.t 5))⟩, ⟨(some 45), none, (.call 11 [(.t 44)])⟩, ⟨(some 12), none, (.alloc 38 [(.str ⟨#[]⟩), .nil])⟩, ⟨none, none, (.store 2 (.t 12) (.t 45))⟩]) (.seq (.reg [⟨(some 47), none, (.load true 1 (.t 10))⟩, ⟨(some 48), none, (.load true 2 (.t 11))⟩, ⟨(some 49), none, (.load true 2 (.t 12))⟩, ⟨(some 50), none, (.call 12 [(.t 47), (.t 48), (.t 49)])⟩, ⟨(some 46), none, (.mv (.t 50))⟩, ⟨(some 51), none, (.ext (.t 46) 0)⟩, ⟨(some 52), none, (.ext (.t 46) 1)⟩, ⟨(some 13), none, (.mv (.t 51))⟩, ⟨(some 14), none, (.mv (.t 52))⟩]) (.seq (.seq (.reg [⟨(some 53), none, (.mv (.t 13))⟩, ⟨(some 54), none, (.mv (.t 8))⟩, ⟨(some 55), none, (.bin .neq true (.t 53) (.t 54))⟩, ⟨(some 56), none, (.mv (.t 55))⟩, ⟨(some 57), (some (56, false)), (.mv (.t 14))⟩, ⟨(some 58), (some (56, false)), (.mv (.t 9))⟩, ⟨(some 59), (some (56, false)), (.bin .neq true (.t 57) (.t 58))⟩, ⟨(some 60), none, (.pick (.t 56) (.c (.bool true)) (.t 59))⟩]) (.cond (.t 60) (.seq (.reg [⟨(some 6), none, (.mv (.c (.bool false)))⟩]) .ret) .skip)) (.seq (.seq (.dreg [[], [], [1], [0, 2, 1], [3, 0, 2, 1]] [⟨(some 61), none, (.load true 1 (.t 10))⟩, ⟨(some 62), none, (.load true 1 (.t 3))⟩, ⟨(some 63), none, (.call 10 [(.t 62)])⟩, ⟨(some 64), none, (.call 13 [(.t 61), (.t 63)])⟩, ⟨(some 65), none, (.un .not (.t 64))⟩]) (.cond (.t 65) (.seq (.reg [⟨(some 6), none, (.mv (.c (.bool false)))⟩]) .ret) .skip)) (.seq (.seq (.dreg [[], [], [1], [0, 2, 1], [3, 0, 2, 1]] [⟨(some 66), none, (.load true 2 (.t 11))⟩, ⟨(some 67), none, (.load true 2 (.t 4))⟩, ⟨(some 68), none, (.call 11 [(.t 67)])⟩, ⟨(some 69), none, (.call 14 [(.t 66), (.t 68)])⟩, ⟨(some 70), none, (.un .not (.t 69))⟩]) (.cond (.t 70) (.seq (.reg [⟨(some 6), none, (.mv (.c (.bool false)))⟩]) .ret) .skip)) (.seq (.seq (.dreg [[], [], [1], [0, 2, 1], [3, 0, 2, 1]] [⟨(some 71), none, (.load true 2 (.t 12))⟩, ⟨(some 72), none, (.load true 2 (.t 5))⟩, ⟨(some 73), none, (.call 11 [(.t 72)])⟩, ⟨(some 74), none, (.call 14 [(.t 71), (.t 73)])⟩, ⟨(some 75), none, (.un .not (.t 74))⟩]) (.cond (.t 75) (.seq (.reg [⟨(some 6), none, (.mv (.c (.bool false)))⟩]) .ret) .skip)) (.seq (.reg [⟨(some 6), none, (.mv (.c (.bool true)))⟩]) .ret))))))))))))))))))
theorem k_laws_FnExactIsUnifier : codeOf Try.prog 3 = some ⟨76, c_laws_FnExactIsUnifier, [(.tmp 6)]⟩ := by kernel_rfl
theorem m_laws_FnExactIsUnifier : modes 3 = ⟨[], .asis, none, false⟩ := by unfold modes; rfl

noncomputable def unOk (s : Sb) (x y : Tm) : Bool := apOk s x && apOk s y
noncomputable def unIs (s : Sb) (x y : Tm) : Bool := unOk s x y && dec (apTo s x = apTo s y)
theorem apTo_nodes (s : Sb) (x : Tm) : (apTo s x).nodes ≤ 30 := by
  cases h : apOk s x with
  | false => rw [apTo_no h, Tm.nodes_eq]; simp [Tm.args, Tm.nodeS]
  | true =>
    rw [apTo_yes h]
    unfold apOk at h
    rw [Bool.and_eq_true, Bool.and_eq_true] at h
    exact Tm.expr_nodes ((Tm.ap_any (Sb.look_okF h.1) x h.2.1).trans h.2.2)
set_option maxHeartbeats 4000000 in
theorem isUnifier_E (s : Sb) (ht : s.tame) (x y : Tm) (hx : x.nodes ≤ 1099511627776) (hy : y.nodes ≤ 1099511627776) : E 12 [s.sv, x.sv, y.sv] [] = some (.tup [.bool (unIs s x y), .bool (unOk s x y)], []) := by
  have h1 := applySubstitution_E s ht x hx
  have h2 := applySubstitution_E s ht y hy
  have n1 := apTo_nodes s x
  have n2 := apTo_nodes s y
  have h3 := equalTerms_E (apTo s x) (apTo s y) (by omega) (by omega)
  unfold unIs unOk
  cases ho : apOk s x with
  | false =>
    rw [ho] at h1
    rw [Bool.false_and, Bool.false_and]
    refine E_walk k_impl_IsUnifier m_impl_IsUnifier (of_decide_eq_true rfl) ?_
    simp (disch := omega) only [c_impl_IsUnifier, go_sem, Nat.reduceAdd, Nat.reduceSub, Nat.reduceLT, Nat.reduceLeDiff, Nat.reduceEqDiff, Nat.reduceBEq, Nat.reduceBneDiff, Nat.reduceMul, ↓reduceIte, Int.reduceToNat, reduceCtorEq, Int.reduceNeg, Int.reduceAdd, h1, h2, h3, m_impl_ApplySubstitution, m_impl_EqualTerms, Tm.osv, Tm.obs, Tm.erss, Tm.noss]
  | true =>
    rw [ho] at h1
    cases ho2 : apOk s y with
    | false =>
      rw [ho2] at h2
      rw [Bool.and_false, Bool.false_and]
      refine E_walk k_impl_IsUnifier m_impl_IsUnifier (of_decide_eq_true rfl) ?_
      simp (disch := omega) only [c_impl_IsUnifier, go_sem, Nat.reduceAdd, Nat.reduceSub, Nat.reduceLT, Nat.reduceLeDiff, Nat.reduceEqDiff, Nat.reduceBEq, Nat.reduceBneDiff, Nat.reduceMul, ↓reduceIte, Int.reduceToNat, reduceCtorEq, Int.reduceNeg, Int.reduceAdd, h1, h2, h3, m_impl_ApplySubstitution, m_impl_EqualTerms, Tm.osv, Tm.obs, Tm.erss, Tm.noss]
    | true =>
      rw [ho2] at h2
      rw [Bool.and_true, Bool.true_and]
      refine E_walk k_impl_IsUnifier m_impl_IsUnifier (of_decide_eq_true rfl) ?_
      simp (disch := omega) only [c_impl_IsUnifier, go_sem, Nat.reduceAdd, Nat.reduceSub, Nat.reduceLT, Nat.reduceLeDiff, Nat.reduceEqDiff, Nat.reduceBEq, Nat.reduceBneDiff, Nat.reduceMul, ↓reduceIte, Int.reduceToNat, reduceCtorEq, Int.reduceNeg, Int.reduceAdd, h1, h2, h3, m_impl_ApplySubstitution, m_impl_EqualTerms, Tm.osv, Tm.obs, Tm.erss, Tm.noss]
set_option maxHeartbeats 4000000 in
theorem l5IsUnifier_E (s : Sb) (ht : s.tame) (x y : Tm) (hx : x.nodes ≤ 1099511627776) (hy : y.nodes ≤ 1099511627776) : E 9 [s.sv, x.sv, y.sv] [] = some (.tup [.bool (unIs s x y), .bool (unOk s x y)], []) := by
  have h1 := l4ApplySubstitution_E s ht x hx
  have h2 := l4ApplySubstitution_E s ht y hy
  have n1 := apTo_nodes s x
  have n2 := apTo_nodes s y
  have h3 := l2Same_E (apTo s x) (apTo s y) (by omega) (by omega)
  unfold unIs unOk
  cases ho : apOk s x with
  | false =>
    rw [ho] at h1
    rw [Bool.false_and, Bool.false_and]
    refine E_walk k_spec_IsUnifier m_spec_IsUnifier (of_decide_eq_true rfl) ?_
    simp (disch := omega) only [c_spec_IsUnifier, go_sem, Nat.reduceAdd, Nat.reduceSub, Nat.reduceLT, Nat.reduceLeDiff, Nat.reduceEqDiff, Nat.reduceBEq, Nat.reduceBneDiff, Nat.reduceMul, ↓reduceIte, Int.reduceToNat, reduceCtorEq, Int.reduceNeg, Int.reduceAdd, h1, h2, h3, m_spec_ApplySubstitution, m_spec_l2Same, Tm.osv, Tm.obs, Tm.erss, Tm.noss]
  | true =>
    rw [ho] at h1
    cases ho2 : apOk s y with
    | false =>
      rw [ho2] at h2
      rw [Bool.and_false, Bool.false_and]
      refine E_walk k_spec_IsUnifier m_spec_IsUnifier (of_decide_eq_true rfl) ?_
      simp (disch := omega) only [c_spec_IsUnifier, go_sem, Nat.reduceAdd, Nat.reduceSub, Nat.reduceLT, Nat.reduceLeDiff, Nat.reduceEqDiff, Nat.reduceBEq, Nat.reduceBneDiff, Nat.reduceMul, ↓reduceIte, Int.reduceToNat, reduceCtorEq, Int.reduceNeg, Int.reduceAdd, h1, h2, h3, m_spec_ApplySubstitution, m_spec_l2Same, Tm.osv, Tm.obs, Tm.erss, Tm.noss]
    | true =>
      rw [ho2] at h2
      rw [Bool.and_true, Bool.true_and]
      refine E_walk k_spec_IsUnifier m_spec_IsUnifier (of_decide_eq_true rfl) ?_
      simp (disch := omega) only [c_spec_IsUnifier, go_sem, Nat.reduceAdd, Nat.reduceSub, Nat.reduceLT, Nat.reduceLeDiff, Nat.reduceEqDiff, Nat.reduceBEq, Nat.reduceBneDiff, Nat.reduceMul, ↓reduceIte, Int.reduceToNat, reduceCtorEq, Int.reduceNeg, Int.reduceAdd, h1, h2, h3, m_spec_ApplySubstitution, m_spec_l2Same, Tm.osv, Tm.obs, Tm.erss, Tm.noss]
set_option maxHeartbeats 8000000 in
theorem law11_E (s : Sb) (x y : Tm) (hfs : D.fits s.d) (hfx : D.fits x.d) (hfy : D.fits y.d) : E 3 [s.sv, x.sv, y.sv] [] = some (.bool true, []) := by
  have h1 := szT_Substitution s hfs 1048576 (by omega) (by omega)
  have q := szR_spec 1048576 s.bulk
  obtain ⟨l, hl⟩ : ∃ l, l = szR 1048576 s.bulk := ⟨_, rfl⟩
  rw [← hl] at h1 q
  rcases Int.lt_or_le l 0 with h0 | h0
  · refine E_walk k_laws_FnExactIsUnifier m_laws_FnExactIsUnifier (of_decide_eq_true rfl) ?_
    simp (disch := omega) only [c_laws_FnExactIsUnifier, go_sem, Nat.reduceAdd, Nat.reduceSub, Nat.reduceLT, Nat.reduceLeDiff, Nat.reduceEqDiff, Nat.reduceBEq, Nat.reduceBneDiff, Nat.reduceMul, ↓reduceIte, Int.reduceToNat, reduceCtorEq, Int.reduceNeg, Int.reduceAdd, h1, m_laws_szSubstitution]
  have h2 := szT_Term x hfx l h0 (by omega)
  have q2 := szR_spec l x.bulk
  obtain ⟨l2, hl2⟩ : ∃ l2, l2 = szR l x.bulk := ⟨_, rfl⟩
  rw [← hl2] at h2 q2
  rcases Int.lt_or_le l2 0 with h02 | h02
  · refine E_walk k_laws_FnExactIsUnifier m_laws_FnExactIsUnifier (of_decide_eq_true rfl) ?_
    simp (disch := omega) only [c_laws_FnExactIsUnifier, go_sem, Nat.reduceAdd, Nat.reduceSub, Nat.reduceLT, Nat.reduceLeDiff, Nat.reduceEqDiff, Nat.reduceBEq, Nat.reduceBneDiff, Nat.reduceMul, ↓reduceIte, Int.reduceToNat, reduceCtorEq, Int.reduceNeg, Int.reduceAdd, h1, h2, m_laws_szSubstitution, m_laws_szTerm]
  have h3 := szT_Term y hfy l2 h02 (by omega)
  have q3 := szR_spec l2 y.bulk
  obtain ⟨l3, hl3⟩ : ∃ l3, l3 = szR l2 y.bulk := ⟨_, rfl⟩
  rw [← hl3] at h3 q3
  rcases Int.lt_or_le l3 0 with h03 | h03
  · refine E_walk k_laws_FnExactIsUnifier m_laws_FnExactIsUnifier (of_decide_eq_true rfl) ?_
    simp (disch := omega) only [c_laws_FnExactIsUnifier, go_sem, Nat.reduceAdd, Nat.reduceSub, Nat.reduceLT, Nat.reduceLeDiff, Nat.reduceEqDiff, Nat.reduceBEq, Nat.reduceBneDiff, Nat.reduceMul, ↓reduceIte, Int.reduceToNat, reduceCtorEq, Int.reduceNeg, Int.reduceAdd, h1, h2, h3, m_laws_szSubstitution, m_laws_szTerm]
  have hbs : s.bulk ≤ 1048576 := by omega
  have hbx : x.bulk ≤ 1048576 := by omega
  have hby : y.bulk ≤ 1048576 := by omega
  have hts := Sb.tame_of hbs
  have hnx := Tm.nodes_bulk x
  have hny := Tm.nodes_bulk y
  have t1 := toT_Substitution s hbs
  have t2 := toT_Term x hbx
  have t3 := toT_Term y hby
  have a1 := l5IsUnifier_E s hts x y (by omega) (by omega)
  have a2 := isUnifier_E s hts x y (by omega) (by omega)
  obtain ⟨r, hr⟩ : ∃ r, r = unIs s x y := ⟨_, rfl⟩
  obtain ⟨o, ho⟩ : ∃ o, o = unOk s x y := ⟨_, rfl⟩
  rw [← hr, ← ho] at a1 a2
  have e1 := eqT_Substitution s hbs
  have e2 := eqT_Term x hbx
  have e3 := eqT_Term y hby
  refine E_walk k_laws_FnExactIsUnifier m_laws_FnExactIsUnifier (of_decide_eq_true rfl) ?_
  simp (disch := omega) only [c_laws_FnExactIsUnifier, go_sem, Nat.reduceAdd, Nat.reduceSub, Nat.reduceLT, Nat.reduceLeDiff, Nat.reduceEqDiff, Nat.reduceBEq, Nat.reduceBneDiff, Nat.reduceMul, ↓reduceIte, Int.reduceToNat, reduceCtorEq, Int.reduceNeg, Int.reduceAdd, h1, h2, h3, t1, t2, t3, a1, a2, e1, e2, e3, dec_refl, m_laws_szSubstitution, m_laws_szTerm, m_laws_toSubstitution, m_laws_toTerm, m_spec_IsUnifier, m_impl_IsUnifier, m_laws_eqTerm, m_laws_eqSubstitution, Sb.osv, Sb.obs, Tm.osv, Tm.obs, Bd.erss, Bd.noss, Tm.erss, Tm.noss]
end Go.Proofs.Ytjafnijgkjjadaa

set_option maxRecDepth 100000
set_option linter.unusedSimpArgs false
set_option linter.unusedVariables false
namespace Go.Proofs.Ytjafnijgkjjadaa
open Go.RowKit Go.ChangeShapes Go.WideShapes Go.ChangeAt Go.Deep

section
variable {H : Type} {enc : TypeId × Value → H} {P : Program} {w : World} {base : Nat} {spare : Nat → Bool} {held : Bool}

theorem addr_add_plain {b o k : Nat} : (⟨b, o, none⟩ : Addr).add k = ⟨b, o + k, none⟩ := by
  unfold Addr.add; split
  · subst_vars; rfl
  · rfl
theorem cell_lt {a : Addr} {v : Value} (h : w.cell? a = some v) : a.block < w.heap.size := by
  unfold World.cell? at h
  cases hb : w.heap[a.block]? with
  | none => rw [hb] at h; cases h
  | some o => exact (Array.getElem?_eq_some_iff.1 hb).1

/-- A slice that is read: its cells, and each element's own reading. -/
theorem open_sl {t e : TypeId} {fuel : Nat} {cs : List Value} {x : DataW H × List MemPlace} (sz : Nat) (hsz : P.cellsOf e = sz) (h0 : 0 < sz) (ht : P.underlying t = some (.slice e)) (h : DataW.trod enc P w base spare held fuel t cs = some x) :
    ∃ (a : Option Addr) (len cap : Nat) (f : Nat → Nat → Value), cs = [.slice a len cap] ∧ len ≤ cap ∧ cap ≤ 9223372036854775807 ∧ SlA w 0 sz len f a ∧
      ∀ i, i < len → ∃ n x', DataW.trod enc P w base spare held n e ((List.range sz).map (f i)) = some x' := by
  rcases open_slice ht h with ⟨hcs, _⟩ | ⟨a, len, cap, m, n, D, Pl, hcs, hb, hl, hm, hmm, hx, hi⟩
  · exact ⟨none, 0, 0, fun _ _ => undef, hcs, Nat.le_refl _, by omega, .inl rfl, fun i hi => absurd hi (by omega)⟩
  · have hlm : len ≤ m := by rw [hmm]; split <;> omega
    have hcell : ∀ i j, i < len → j < sz → ∃ v, w.cell? (a.add (i * sz + j)) = some v := by
      intro i j hil hj
      obtain ⟨cs', hc, _⟩ := hi i (by omega)
      rw [hsz] at hc
      obtain ⟨_, hcl, hat⟩ := World.cells?_some hc
      have h1 := hat j hj
      rw [Go.Deep.add_add, List.getElem?_eq_getElem (by omega)] at h1
      exact ⟨_, h1⟩
    refine ⟨some a, len, cap, fun i j => (w.cell? (a.add (i * sz + j))).getD undef, hcs, hl, hm, ?_, ?_⟩
    · rcases Nat.eq_zero_or_pos len with h | h
      · exact .inl h
      · obtain ⟨v, hv⟩ := hcell 0 0 h h0
        rw [Nat.zero_mul, Nat.zero_add] at hv
        have hsp : a.spot = none := by simpa [Addr.add] using World.cell?_spot hv
        have hlt := cell_lt hv
        obtain ⟨b, off, spot⟩ := a
        simp only at hsp
        subst hsp
        refine .inr ⟨b, off, rfl, Nat.zero_le _, by simpa [Addr.add] using hlt, fun i j hil hj => ?_⟩
        obtain ⟨v', hv'⟩ := hcell i j hil hj
        rw [addr_add_plain] at hv'
        show _ = some ((w.cell? ((⟨b, off, none⟩ : Addr).add (i * sz + j))).getD undef)
        rw [addr_add_plain, Nat.add_assoc, hv']
        rfl
    · intro i hil
      obtain ⟨cs', hc, ht'⟩ := hi i (by omega)
      rw [hsz] at hc
      obtain ⟨_, hcl, hat⟩ := World.cells?_some hc
      refine ⟨n, (D i, Pl i), ?_⟩
      · have hcs' : (List.range sz).map (fun j => (w.cell? (a.add (i * sz + j))).getD undef) = cs' := by
          apply List.ext_getElem?
          intro j
          by_cases hj : j < sz
          · rw [List.getElem?_map, List.getElem?_range hj]
            have h1 := hat j hj
            rw [Go.Deep.add_add] at h1
            rw [List.getElem?_eq_getElem (by omega : j < cs'.length)] at h1 ⊢
            simp [h1]
          · rw [List.getElem?_eq_none (by simp; omega), List.getElem?_eq_none (by omega)]
        rw [hcs']
        exact ht'

/-- A struct of one-cell fields: each field's own reading. -/
theorem open_fields {e : TypeId} {fs : Array Field} {n sz : Nat} {g : Nat → Value} {x : DataW H × List MemPlace} (he : P.underlying e = some (.struct fs)) (hone : oneCellFields P fs = true) (hs : fs.size = sz)
    (h : DataW.trod enc P w base spare held n e ((List.range sz).map g) = some x) (j : Nat) (f : Field) (hj : fs[j]? = some f) :
    ∃ n' y, DataW.trod enc P w base spare held n' f.type [g j] = some y := by
  obtain ⟨xs, n', hn, hx, hlen, hxl, hf⟩ := DataW.trod_struct he h
  obtain ⟨ho, hk⟩ := hone_of hone j f hj
  have hjl : j < fs.size := (Array.getElem?_eq_some_iff.1 hj).1
  have h1 := hf j f hj
  rw [ho, hk] at h1
  have e1 : ((((List.range sz).map g).drop j).take 1) = [g j] := by
    rw [List.drop_eq_getElem_cons (by simp; omega)]
    simp
  rw [e1, List.getElem?_eq_getElem (by omega : j < xs.length)] at h1
  exact ⟨n', _, h1⟩

theorem open_intsAt {t e : TypeId} {fuel : Nat} {v : Value} {x : DataW H × List MemPlace} (ht : P.underlying t = some (.slice e)) (he : P.underlying e = some (.int .i64)) (hc : P.cellsOf e = 1)
    (h : DataW.trod enc P w base spare held fuel t [v] = some x) : ∃ xs, IntsAt w 0 v xs ∧ ∀ n ∈ xs, (Lit.int .i64 n).wf = true := by
  obtain ⟨a, len, cap, f, hcs, hl, hm, hS, hr⟩ := open_sl 1 hc (by omega) ht h
  simp only [List.cons.injEq, and_true] at hcs
  subst hcs
  have hint : ∀ i, i < len → ∃ z, f i 0 = .int .i64 z ∧ (Lit.int .i64 z).wf = true := by
    intro i hi
    obtain ⟨n, x', h1⟩ := hr i hi
    obtain ⟨z, hz, _, hw⟩ := DataW.trod_int he h1
    simp at hz
    exact ⟨z, hz, hw⟩
  let g : Nat → Int := fun i => match f i 0 with | .int _ z => z | _ => 0
  have hg : ∀ i, i < len → f i 0 = .int .i64 (g i) ∧ (Lit.int .i64 (g i)).wf = true := by
    intro i hi
    obtain ⟨z, hz, hw⟩ := hint i hi
    have : g i = z := by show (match f i 0 with | .int _ z => z | _ => 0) = z; rw [hz]
    rw [this]; exact ⟨hz, hw⟩
  refine ⟨(List.range len).map g, ⟨a, cap, by simp, by simpa using hl, hm, ?_⟩, ?_⟩
  · have : ((List.range len).map g).length = len := by simp
    rw [this]
    refine hS.congr fun i j hi hj => ?_
    obtain rfl : j = 0 := by omega
    rw [(hg i hi).1, atZ_get (by simpa using hi)]
    simp
  · intro n hn
    simp only [List.mem_map, List.mem_range] at hn
    obtain ⟨i, hi, rfl⟩ := hn
    exact (hg i hi).2
end

section
variable {H : Type} {enc : TypeId × Value → H} {w : World} {base : Nat} {spare : Nat → Bool} {held : Bool}

end
end Go.Proofs.Ytjafnijgkjjadaa

set_option maxRecDepth 100000
set_option linter.unusedSimpArgs false
set_option linter.unusedVariables false
namespace Go.Proofs.Ytjafnijgkjjadaa
open Go.RowKit Go.ChangeShapes Go.WideShapes Go.ChangeAt Go.Deep

section
variable {H : Type} {enc : TypeId × Value → H} {P : Program} {w : World} {base : Nat} {spare : Nat → Bool} {held : Bool}

/-- A slice that is read: its cells, and each element's own reading, with less fuel. -/
theorem open_sl' {t e : TypeId} {fuel : Nat} {v : Value} {x : DataW H × List MemPlace} (sz : Nat) (hsz : P.cellsOf e = sz) (h0 : 0 < sz) (ht : P.underlying t = some (.slice e)) (h : DataW.trod enc P w base spare held fuel t [v] = some x) :
    ∃ (a : Option Addr) (len cap : Nat) (f : Nat → Nat → Value), v = .slice a len cap ∧ len ≤ cap ∧ cap ≤ 9223372036854775807 ∧ SlA w 0 sz len f a ∧
      ∀ i, i < len → ∃ n x', n < fuel ∧ DataW.trod enc P w base spare held n e ((List.range sz).map (f i)) = some x' := by
  rcases DataW.trod_slice ht h with ⟨hcs, _⟩ | ⟨a, len, cap, elems, rest, n, hf, hcs, hx, hb, hl, hm, hlen, hel, _, _⟩
  · simp only [List.cons.injEq, and_true] at hcs
    exact ⟨none, 0, 0, fun _ _ => undef, hcs, Nat.le_refl _, by omega, .inl rfl, fun i hi => absurd hi (by omega)⟩
  · have hi : ∀ i, i < len → ∃ cs' x', w.cells? base (a.add (i * sz)) sz = some cs' ∧ DataW.trod enc P w base spare held n e cs' = some x' := by
      intro i hi
      have h1 := hel i hi
      rw [hsz, List.getElem?_eq_getElem (by omega)] at h1
      obtain ⟨cs', h2, h3⟩ := Option.bind_eq_some_iff.1 h1
      exact ⟨cs', _, h2, h3⟩
    have hcell : ∀ i j, i < len → j < sz → ∃ v, w.cell? (a.add (i * sz + j)) = some v := by
      intro i j hil hj
      obtain ⟨cs', x', hc, _⟩ := hi i hil
      obtain ⟨_, hcl, hat⟩ := World.cells?_some hc
      have h1 := hat j hj
      rw [Go.Deep.add_add, List.getElem?_eq_getElem (by omega)] at h1
      exact ⟨_, h1⟩
    simp only [List.cons.injEq, and_true] at hcs
    refine ⟨some a, len, cap, fun i j => (w.cell? (a.add (i * sz + j))).getD undef, hcs, hl, hm, ?_, ?_⟩
    · rcases Nat.eq_zero_or_pos len with h | h
      · exact .inl h
      · obtain ⟨v, hv⟩ := hcell 0 0 h h0
        rw [Nat.zero_mul, Nat.zero_add] at hv
        have hsp : a.spot = none := by simpa [Addr.add] using World.cell?_spot hv
        have hlt := cell_lt hv
        obtain ⟨b, off, spot⟩ := a
        simp only at hsp
        subst hsp
        refine .inr ⟨b, off, rfl, Nat.zero_le _, by simpa [Addr.add] using hlt, fun i j hil hj => ?_⟩
        obtain ⟨v', hv'⟩ := hcell i j hil hj
        rw [addr_add_plain] at hv'
        show _ = some ((w.cell? ((⟨b, off, none⟩ : Addr).add (i * sz + j))).getD undef)
        rw [addr_add_plain, Nat.add_assoc, hv']
        rfl
    · intro i hil
      obtain ⟨cs', x', hc, ht'⟩ := hi i hil
      obtain ⟨_, hcl, hat⟩ := World.cells?_some hc
      refine ⟨n, x', by omega, ?_⟩
      have hcs' : (List.range sz).map (fun j => (w.cell? (a.add (i * sz + j))).getD undef) = cs' := by
        apply List.ext_getElem?
        intro j
        by_cases hj : j < sz
        · rw [List.getElem?_map, List.getElem?_range hj]
          have h1 := hat j hj
          rw [Go.Deep.add_add] at h1
          rw [List.getElem?_eq_getElem (by omega : j < cs'.length)] at h1 ⊢
          simp [h1]
        · rw [List.getElem?_eq_none (by simp; omega), List.getElem?_eq_none (by omega)]
      rw [hcs']
      exact ht'
/-- A struct that is read: each field's own reading, with less fuel. -/
theorem open_st' {t : TypeId} {fs : Array Field} {fuel : Nat} {cs : List Value} {x : DataW H × List MemPlace} (ht : P.underlying t = some (.struct fs)) (h : DataW.trod enc P w base spare held fuel t cs = some x) :
    ∃ n, n < fuel ∧ cs.length = P.cellsOf t ∧ ∀ (i : Nat) (f : Field), fs[i]? = some f → ∃ y, DataW.trod enc P w base spare held n f.type ((cs.drop f.offset).take (P.cellsOf f.type)) = some y := by
  obtain ⟨xs, n, hn, hx, hlen, hxl, hf⟩ := DataW.trod_struct ht h
  refine ⟨n, by omega, hlen, fun i f hi => ?_⟩
  have hil : i < fs.size := (Array.getElem?_eq_some_iff.1 hi).1
  have h1 := hf i f hi
  rw [List.getElem?_eq_getElem (by omega : i < xs.length)] at h1
  exact ⟨_, h1⟩
end

/-- Leaves that are read, one by one. -/
inductive Lvs (w : World) : List D → List Value → Prop
  | nil : Lvs w [] []
  | cons {d : D} {v : Value} {ds : List D} {vs : List Value} (h : DAt w d v) (hs : Lvs w ds vs) : Lvs w (d :: ds) (v :: vs)
theorem Lvs.len {w : World} {ds : List D} {vs : List Value} (h : Lvs w ds vs) : ds.length = vs.length := by
  induction h with
  | nil => rfl
  | cons h hs ih => simp [ih]
theorem Lvs.get {w : World} {ds : List D} {vs : List Value} (h : Lvs w ds vs) : ∀ j (h1 : j < ds.length) (h2 : j < vs.length), DAt w ds[j] vs[j] := by
  induction h with
  | nil => intro j h1; simp at h1
  | cons h hs ih =>
    intro j h1 h2
    cases j with
    | zero => exact h
    | succ j => exact ih j (by simpa using h1) (by simpa using h2)
theorem open_arr {α : Type} [Inhabited α] (dd : α → List D) {w : World} {m len cap : Nat} {f : Nat → Nat → Value} {a : Option Addr} (hl : len ≤ cap) (hm : cap ≤ 9223372036854775807) (hS : SlA w 0 m len f a)
    (hel : ∀ i, i < len → ∃ X : α, Lvs w (dd X) ((List.range m).map (f i))) : ∃ xs : List α, DAt w (.arr (xs.map dd)) (.slice a len cap) := by
  obtain ⟨g, hg⟩ : ∃ g : Nat → α, ∀ i, i < len → Lvs w (dd (g i)) ((List.range m).map (f i)) :=
    ⟨fun i => if h : i < len then (hel i h).choose else default, fun i hi => by simp only [hi, dif_pos]; exact (hel i hi).choose_spec⟩
  refine ⟨(List.range len).map g, ?_⟩
  have hlen : (((List.range len).map g).map dd).length = len := by simp
  have := DAt.arr_mk (w := w) (es := ((List.range len).map g).map dd) (sz := m) (cap := cap) (a := a) (f := f) (by rw [hlen]; exact hl) hm (by rw [hlen]; exact hS) (fun i hi => by
    rw [hlen] at hi
    have := (hg i hi).len
    simpa using this) (fun i j hi hj => by
    rw [hlen] at hi
    have h1 := hg i hi
    have h2 := h1.len
    simp only [List.length_map, List.length_range] at h2
    simp only [List.getElem_map, List.getElem_range] at hj ⊢
    have := h1.get j hj (by simp; omega)
    simpa using this)
  rw [hlen] at this
  exact this
instance : Inhabited Tm := ⟨Tm.zero⟩
instance : Inhabited Fm := ⟨Fm.zero⟩

section
variable {H : Type} {enc : TypeId × Value → H} {w : World} {base : Nat} {spare : Nat → Bool} {held : Bool}
theorem open_term_of {fuel : Nat} (ih : ∀ n, n < fuel → ∀ v x, DataW.trod enc Try.prog w base spare held n 25 [v] = some x → ∃ xs, TmsAt w xs v) {cs : List Value} {x : DataW H × List MemPlace}
    (h : DataW.trod enc Try.prog w base spare held fuel 27 cs = some x) : ∃ X : Tm, Lvs w X.d cs := by
  obtain ⟨n, hn, hlen, hf⟩ := open_st' Try.underlying27 h
  rw [show Try.prog.cellsOf 27 = 2 by kernel_rfl] at hlen
  match cs, hlen with
  | [c0, c1], _ =>
    obtain ⟨y0, k0⟩ := hf 0 _ rfl
    obtain ⟨y1, k1⟩ := hf 1 _ rfl
    obtain ⟨s, hs, _, hsz⟩ := DataW.trod_string Try.underlying9 k0
    have e1 : (([c0, c1].drop 1).take (Try.prog.cellsOf 25)) = [c1] := by rw [show Try.prog.cellsOf 25 = 1 by kernel_rfl]; rfl
    have e0 : (([c0, c1].drop 0).take (Try.prog.cellsOf 9)) = [c0] := by rw [show Try.prog.cellsOf 9 = 1 by kernel_rfl]; rfl
    obtain ⟨xs, hxs⟩ := ih n hn c1 y1 (by rw [← e1]; exact k1)
    have hs' : c0 = .string s := by
      have : [c0] = [.string s] := by rw [← e0]; exact hs
      simpa using this
    subst hs'
    exact ⟨.mk s xs, by rw [Tm.d_eq]; exact .cons (.str _ s hsz) (.cons hxs .nil)⟩
theorem open_terms_all : ∀ (fuel : Nat) (v : Value) (x : DataW H × List MemPlace), DataW.trod enc Try.prog w base spare held fuel 25 [v] = some x → ∃ xs, TmsAt w xs v := by
  intro fuel
  induction fuel using Nat.strongRecOn with
  | _ fuel ih =>
    intro v x h
    obtain ⟨a, len, cap, f, rfl, hl, hm, hS, hr⟩ := open_sl' (P := Try.prog) 2 (by kernel_rfl) (by omega) Try.underlying25 h
    exact open_arr Tm.d hl hm hS fun i hi => by
      obtain ⟨n, x', hn, h1⟩ := hr i hi
      exact open_term_of (fun n' hn' => ih n' (by omega)) h1
theorem open_term {fuel : Nat} {cs : List Value} {x : DataW H × List MemPlace} (h : DataW.trod enc Try.prog w base spare held fuel 27 cs = some x) : ∃ X : Tm, Lvs w X.d cs :=
  open_term_of (fun n _ => open_terms_all n) h
end
end Go.Proofs.Ytjafnijgkjjadaa

set_option maxRecDepth 100000
set_option linter.unusedSimpArgs false
set_option linter.unusedVariables false
namespace Go.Proofs.Ytjafnijgkjjadaa
open Go.RowKit

theorem DRep.lt_ {own : Bool} {w : World} {S : Nat → Prop} {d : D} {v : Value} (h : DRep own w S d v) : DRep own w (fun b => S b ∧ b < w.heap.size) d v := by
  induction h with
  | int S n => exact .int _ n
  | bool S b => exact .bool _ b
  | str S s h => exact .str _ s h
  | arr S sz es a cap f Sub h1 h2 h3 h4 h5 h6 h7 ih =>
    refine .arr _ sz es a cap f (fun i j x => Sub i j x ∧ x < w.heap.size) h1 h2 ?_ h4 (fun i j x h => ⟨h5 i j x h.1, h.2⟩) (fun ho i j i' j' x h h' => h6 ho i j i' j' x h.1 h'.1) ih
    rcases h3 with h3 | ⟨b, off, ha, hS, hl, hc, ho⟩
    · exact .inl h3
    · exact .inr ⟨b, off, ha, ⟨hS, hl⟩, hl, hc, fun h => ⟨fun i j hx => (ho h).1 i j hx.1, (ho h).2⟩⟩
theorem DAt.rep {w : World} {es : List (List D)} {v : Value} (h : DAt w (.arr es) v) : RepV w (fun b => b < w.heap.size) (fun _ => none) (.arr es) v := by
  simp only [RepV]
  exact (DRep.lt_ h).up fun b hb => hb.2
/-- A law's function that says yes. -/
theorem Fun.yes {f : FuncId} {args : List SV} (h : Fun Try.prog f args [] (.bool true) []) {w : World} {vs : List Value} (hvs : RepVs w (fun b => b < w.heap.size) (fun _ => none) args vs) : Calls Try.prog f vs.toArray w (Ret w (.bool true)) := by
  have nl : ∀ g, ¬ (geto [] g).live := fun g hg => by simp [geto, Ob.live] at hg
  refine (h w (fun b => b < w.heap.size) (fun _ => none) (fun _ _ => False) vs ⟨fun b hb => hb, fun g hg => absurd hg (nl g), fun g b hg => absurd hg (nl g), fun g b hg => absurd hg (nl g), fun g g' b hg => absurd hg (nl g), fun g _ => rfl⟩ hvs).mono ?_
  rintro e w' ⟨v, I', V', B', rfl, hr, hp⟩
  simp only [RepV] at hr
  subst hr
  exact ⟨rfl, hp.fr.os, hp.fr.tape, hp.fr.output, hp.fr.size, fun b hb => hp.fr.block b hb fun ⟨g, hg, _⟩ => absurd hg (nl g)⟩

theorem lvs_cons {w : World} {d : D} {ds : List D} {v : Value} {vs : List Value} (h : Lvs w (d :: ds) (v :: vs)) : DAt w d v ∧ Lvs w ds vs := by
  cases h with
  | cons h1 h2 => exact ⟨h1, h2⟩
theorem DAt.rep_sv {w : World} {d : D} {v : Value} (h : DAt w d v) : RepV w (fun b => b < w.heap.size) (fun _ => none) d.sv v :=
  D.rep_sv ((DRep.lt_ h).up fun b hb => hb.2)
theorem Lvs.reps {w : World} {ds : List D} {vs : List Value} (h : Lvs w ds vs) : RepVs w (fun b => b < w.heap.size) (fun _ => none) (ds.map D.sv) vs := by
  induction h with
  | nil => simp [RepVs]
  | cons h hs ih => simp only [List.map_cons, RepVs]; exact ⟨_, _, rfl, h.rep_sv, ih⟩
theorem Lvs.agg {w : World} {ds : List D} {vs : List Value} (h : Lvs w ds vs) : RepV w (fun b => b < w.heap.size) (fun _ => none) (.agg (ds.map D.sv)) (.agg vs.toArray) := by
  simp only [RepV]; exact ⟨vs, rfl, h.reps⟩
theorem Lvs.fits {w : World} {ds : List D} {vs : List Value} (h : Lvs w ds vs) : D.fits ds := by
  induction h with
  | nil => trivial
  | cons h hs ih => exact ⟨DRep.fit h, ih⟩
theorem DAt.fit {w : World} {d : D} {v : Value} (h : DAt w d v) : D.fit d := DRep.fit h
theorem args_nil {w : World} {I : Nat → Prop} {V : Nat → Option Value} : RepVs w I V [] [] := by simp [RepVs]
theorem args_more {w : World} {I : Nat → Prop} {V : Nat → Option Value} {x : SV} {xs : List SV} {v : Value} {vs : List Value} (h : RepV w I V x v) (hs : RepVs w I V xs vs) : RepVs w I V (x :: xs) (v :: vs) := by
  simp only [RepVs]; exact ⟨v, vs, rfl, h, hs⟩
instance : Inhabited Bd := ⟨Bd.zero⟩
section
variable {H : Type} {enc : TypeId × Value → H} {w : World} {base : Nat} {spare : Nat → Bool} {held : Bool}
theorem opn_Term_of {fuel : Nat} (ih : ∀ n, n < fuel → ∀ v x, DataW.trod enc Try.prog w base spare held n 25 [v] = some x → ∃ xs : List Tm, DAt w (.arr (xs.map Tm.d)) v) {cs : List Value} {x : DataW H × List MemPlace} (h : DataW.trod enc Try.prog w base spare held fuel 27 cs = some x) : ∃ X : Tm, Lvs w X.d cs := by
  obtain ⟨n, hn, hlen, hf⟩ := open_st' Try.underlying27 h
  rw [show Try.prog.cellsOf 27 = 2 by kernel_rfl] at hlen
  match cs, hlen with
  | [c0, c1], _ =>
    obtain ⟨y0, k0⟩ := hf 0 _ rfl
    have e0 : (([c0, c1].drop 0).take (Try.prog.cellsOf 9)) = [c0] := by rw [show Try.prog.cellsOf 9 = 1 by kernel_rfl]; rfl
    obtain ⟨z0, q0, _, s0⟩ := DataW.trod_string Try.underlying9 k0
    have q0' : c0 = .string z0 := by
      have : [c0] = [.string z0] := by rw [← e0]; exact q0
      simpa using this
    obtain ⟨y1, k1⟩ := hf 1 _ rfl
    have e1 : (([c0, c1].drop 1).take (Try.prog.cellsOf 25)) = [c1] := by rw [show Try.prog.cellsOf 25 = 1 by kernel_rfl]; rfl
    have k1' : DataW.trod enc Try.prog w base spare held n 25 [c1] = some y1 := by rw [← e1]; exact k1
    obtain ⟨z1, g1⟩ := ih n hn c1 y1 k1'
    subst q0'
    exact ⟨.mk z0 z1, by rw [Tm.d_eq]; exact (.cons (.str _ z0 s0) (.cons g1 .nil))⟩
theorem opnS_Term_all : ∀ (fuel : Nat) (v : Value) (x : DataW H × List MemPlace), DataW.trod enc Try.prog w base spare held fuel 25 [v] = some x → ∃ xs : List Tm, DAt w (.arr (xs.map Tm.d)) v := by
  intro fuel
  induction fuel using Nat.strongRecOn with
  | _ fuel ih =>
    intro v x h
    obtain ⟨a, len, cap, f, rfl, hl, hm, hS, hr⟩ := open_sl' (P := Try.prog) 2 (by kernel_rfl) (by omega) Try.underlying25 h
    exact open_arr Tm.d hl hm hS fun i hi => by
      obtain ⟨n, x', hn, h1⟩ := hr i hi
      exact opn_Term_of (fun n' hn' => ih n' (by omega)) h1
theorem opn_Term {fuel : Nat} {cs : List Value} {x : DataW H × List MemPlace} (h : DataW.trod enc Try.prog w base spare held fuel 27 cs = some x) : ∃ X : Tm, Lvs w X.d cs :=
  opn_Term_of (fun n _ => opnS_Term_all n) h
theorem opnS_Term {fuel : Nat} {v : Value} {x : DataW H × List MemPlace} (h : DataW.trod enc Try.prog w base spare held fuel 25 [v] = some x) : ∃ xs : List Tm, DAt w (.arr (xs.map Tm.d)) v := by
  exact opnS_Term_all fuel v x h
theorem opn_Binding {fuel : Nat} {cs : List Value} {x : DataW H × List MemPlace} (h : DataW.trod enc Try.prog w base spare held fuel 75 cs = some x) : ∃ X : Bd, Lvs w X.d cs := by
  obtain ⟨n, hn, hlen, hf⟩ := open_st' Try.underlying75 h
  rw [show Try.prog.cellsOf 75 = 3 by kernel_rfl] at hlen
  match cs, hlen with
  | [c0, c1, c2], _ =>
    obtain ⟨y0, k0⟩ := hf 0 _ rfl
    have e0 : (([c0, c1, c2].drop 0).take (Try.prog.cellsOf 9)) = [c0] := by rw [show Try.prog.cellsOf 9 = 1 by kernel_rfl]; rfl
    obtain ⟨z0, q0, _, s0⟩ := DataW.trod_string Try.underlying9 k0
    have q0' : c0 = .string z0 := by
      have : [c0] = [.string z0] := by rw [← e0]; exact q0
      simpa using this
    obtain ⟨y1, k1⟩ := hf 1 _ rfl
    have e1 : (([c0, c1, c2].drop 1).take (Try.prog.cellsOf 27)) = [c1, c2] := by rw [show Try.prog.cellsOf 27 = 2 by kernel_rfl]; rfl
    have k1' : DataW.trod enc Try.prog w base spare held n 27 [c1, c2] = some y1 := by rw [← e1]; exact k1
    obtain ⟨z1, g1⟩ := opn_Term k1'
    rw [Tm.d_eq] at g1
    obtain ⟨g1_0, g1⟩ := lvs_cons g1
    obtain ⟨g1_1, g1⟩ := lvs_cons g1
    subst q0'
    exact ⟨⟨z0, z1⟩, by rw [Bd.d_eq]; exact (.cons (.str _ z0 s0) (.cons g1_0 (.cons g1_1 .nil)))⟩
theorem opnS_Binding {fuel : Nat} {v : Value} {x : DataW H × List MemPlace} (h : DataW.trod enc Try.prog w base spare held fuel 22 [v] = some x) : ∃ xs : List Bd, DAt w (.arr (xs.map Bd.d)) v := by
  obtain ⟨a, len, cap, f, rfl, hl, hm, hS, hr⟩ := open_sl' (P := Try.prog) 3 (by kernel_rfl) (by omega) Try.underlying22 h
  exact open_arr Bd.d hl hm hS fun i hi => by
    obtain ⟨n, x', hn, h1⟩ := hr i hi
    exact opn_Binding h1
theorem opn_Substitution {fuel : Nat} {cs : List Value} {x : DataW H × List MemPlace} (h : DataW.trod enc Try.prog w base spare held fuel 24 cs = some x) : ∃ X : Sb, Lvs w X.d cs := by
  obtain ⟨n, hn, hlen, hf⟩ := open_st' Try.underlying24 h
  rw [show Try.prog.cellsOf 24 = 1 by kernel_rfl] at hlen
  match cs, hlen with
  | [c0], _ =>
    obtain ⟨y0, k0⟩ := hf 0 _ rfl
    have e0 : (([c0].drop 0).take (Try.prog.cellsOf 22)) = [c0] := by rw [show Try.prog.cellsOf 22 = 1 by kernel_rfl]; rfl
    have k0' : DataW.trod enc Try.prog w base spare held n 22 [c0] = some y0 := by rw [← e0]; exact k0
    obtain ⟨z0, g0⟩ := opnS_Binding k0'
    exact ⟨⟨z0⟩, by rw [Sb.d_eq]; exact (.cons g0 .nil)⟩
end
end Go.Proofs.Ytjafnijgkjjadaa
