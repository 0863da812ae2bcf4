/-
  This text holds, one behind the other: This text holds plain laws of terms: sizes, depths, names, validity. No condition.
  This text holds the plain laws of applying a substitution to a term. No condition.
  This text tells what the functions of terms answer in both packages: sizes, depths. No condition.
  This text tells what the functions of terms answer in both packages: depths, names. No condition.
  This text tells what the functions of terms answer in both packages: names, validity. No condition.
  This text tells what the functions of terms answer in both packages: valid terms and atoms. No condition.
  This text holds plain laws of expressions and of the sizes of terms. No condition.
  This text tells what the order of terms answers in both packages. No condition.
  This text holds plain laws of interpretations: validity, values of terms, truth of atoms. No condition.
  This text holds plain laws of the order of names. No condition.
  This text holds plain laws of interpretations: assignments as maps, values of terms and atoms. No condition.
  This text holds a rule for runs of which a part of the answer is left open. No condition.
  This text tells what the validity of interpretations answers in both packages. No condition.
  This text tells what the reference's validity of interpretations answers. No condition.
  This text tells what assignments and values of terms answer in both packages. No condition.
  This text tells what values of terms and EvaluateTerm answer in both packages. No condition.
  This text tells what EvaluateTerm answers in both packages. No condition.
-/
import Derived.Test.YtpmeabbfpabglaaK15c
set_option maxRecDepth 100000
set_option linter.unusedSimpArgs false
set_option linter.unusedVariables false
namespace Go.Proofs.Ytpmeabbfpabglaa
open Go.RowKit

theorem dec_ii {p q : Prop} (h : p ↔ q) : dec p = dec q := by rw [propext h]
mutual
def Tm.nodes : Tm → Nat
  | .mk _ args => 1 + Tm.nodeS args
def Tm.nodeS : List Tm → Nat
  | [] => 0
  | x :: xs => Tm.nodes x + Tm.nodeS xs
end
theorem Tm.nodes_eq (x : Tm) : x.nodes = 1 + Tm.nodeS x.args := by
  obtain ⟨name, args⟩ := x
  rw [Tm.nodes]; rfl
theorem Tm.nodes_pos (x : Tm) : 1 ≤ x.nodes := by rw [Tm.nodes_eq]; omega
theorem Tm.nodes_le : ∀ (xs : List Tm) (k : Nat) (h : k < xs.length), xs[k].nodes ≤ Tm.nodeS xs
  | [], k, h => absurd h (by simp)
  | x :: xs, 0, _ => by rw [Tm.nodeS]; simp
  | x :: xs, k + 1, h => by
    have := Tm.nodes_le xs k (by simpa using h)
    rw [Tm.nodeS]; simp only [List.getElem_cons_succ]; omega
theorem Tm.nodeS_take : ∀ (xs : List Tm) (k : Nat) (h : k < xs.length), Tm.nodeS (xs.take (k + 1)) = Tm.nodeS (xs.take k) + xs[k].nodes
  | [], k, h => absurd h (by simp)
  | x :: xs, 0, _ => by simp [Tm.nodeS]
  | x :: xs, k + 1, h => by
    have := Tm.nodeS_take xs k (by simpa using h)
    simp only [List.take_succ_cons, Tm.nodeS, List.getElem_cons_succ, this]; omega
theorem Tm.nodeS_take_le (xs : List Tm) (k : Nat) : Tm.nodeS (xs.take k) ≤ Tm.nodeS xs := by
  induction xs generalizing k with
  | nil => simp [Tm.nodeS]
  | cons x xs ih =>
    cases k with
    | zero => simp [Tm.nodeS]
    | succ k => simp only [List.take_succ_cons, Tm.nodeS]; have := ih k; omega
mutual
def Tm.deep : Tm → Nat
  | .mk _ args => Tm.deepS args + 1
def Tm.deepS : List Tm → Nat
  | [] => 0
  | x :: xs => max (Tm.deep x) (Tm.deepS xs)
end
theorem Tm.deep_eq (x : Tm) : x.deep = Tm.deepS x.args + 1 := by
  obtain ⟨name, args⟩ := x
  rw [Tm.deep]; rfl
theorem Tm.deepS_le_nodes : ∀ xs : List Tm, (∀ y ∈ xs, y.deep ≤ y.nodes) → Tm.deepS xs ≤ Tm.nodeS xs
  | [], _ => by simp [Tm.deepS]
  | x :: xs, h => by
    have h1 := h x (by simp)
    have h2 := Tm.deepS_le_nodes xs fun y hy => h y (by simp [hy])
    rw [Tm.deepS, Tm.nodeS]; omega
theorem Tm.deep_le_nodes (x : Tm) : x.deep ≤ x.nodes := by
  rw [Tm.deep_eq, Tm.nodes_eq]
  have := Tm.deepS_le_nodes x.args fun y hy => Tm.deep_le_nodes y
  omega
termination_by SizeOf.sizeOf x
decreasing_by exact Tm.lt_of_mem hy
theorem Tm.deepS_take : ∀ (xs : List Tm) (k : Nat) (h : k < xs.length), Tm.deepS (xs.take (k + 1)) = max (Tm.deepS (xs.take k)) xs[k].deep
  | [], k, h => absurd h (by simp)
  | x :: xs, 0, _ => by simp [Tm.deepS]
  | x :: xs, k + 1, h => by
    have := Tm.deepS_take xs k (by simpa using h)
    simp only [List.take_succ_cons, Tm.deepS, List.getElem_cons_succ, this]; omega

mutual
def Tm.names : Tm → Bool
  | .mk name args => if varB name then args.length == 0 else symB name && decide (args.length ≤ 4) && Tm.nameS args
def Tm.nameS : List Tm → Bool
  | [] => true
  | x :: xs => Tm.names x && Tm.nameS xs
end
theorem Tm.names_eq (x : Tm) : x.names = if varB x.name then x.args.length == 0 else symB x.name && decide (x.args.length ≤ 4) && Tm.nameS x.args := by
  obtain ⟨name, args⟩ := x
  rw [Tm.names]; rfl
theorem Tm.nameS_all : ∀ xs : List Tm, Tm.nameS xs = xs.all Tm.names
  | [] => rfl
  | x :: xs => by rw [Tm.nameS, Tm.nameS_all xs]; rfl
theorem Tm.nameS_take {xs : List Tm} {k : Nat} (h : k < xs.length) : Tm.nameS (xs.take (k + 1)) = (Tm.nameS (xs.take k) && xs[k].names) := by
  rw [Tm.nameS_all, Tm.nameS_all, ← List.take_append_getElem h, List.all_append]; simp
theorem Tm.nameS_no {xs : List Tm} {k : Nat} (h : k < xs.length) (hn : xs[k].names = false) : Tm.nameS xs = false := by
  rw [Tm.nameS_all, List.all_eq_false]; exact ⟨xs[k], List.getElem_mem h, by simp [hn]⟩


theorem Tm.length_le : ∀ xs : List Tm, xs.length ≤ Tm.nodeS xs
  | [] => Nat.le_refl _
  | x :: xs => by
    have := Tm.length_le xs
    have := Tm.nodes_pos x
    rw [Tm.nodeS]; simp only [List.length_cons]; omega
theorem Tm.nodes_mem {xs : List Tm} {y : Tm} (h : y ∈ xs) : y.nodes ≤ Tm.nodeS xs := by
  obtain ⟨k, hk, rfl⟩ := List.getElem_of_mem h
  exact Tm.nodes_le xs k hk
def Tm.small (x : Tm) : Bool := decide (x.nodes ≤ 30) && decide (x.deep ≤ 8)
def Tm.valid (x : Tm) : Bool := x.small && x.names
noncomputable def Tm.eqn (x : Tm) : Bool := dec (x.name = ⟨#[61]⟩)
noncomputable def Tm.atom (x : Tm) : Bool := if x.eqn then x.args.length == 2 && x.small && Tm.nameS x.args else symB x.name && x.valid
theorem nameS_two {xs : List Tm} (h : xs.length = 2) : Tm.nameS xs = ((xs[0]'(by omega)).names && (xs[1]'(by omega)).names) := by
  match xs, h with
  | [a, b], _ => simp [Tm.nameS]
/-! Sizes up to a bound. -/
mutual
def Tm.cap : Tm → Int
  | .mk _ xs => Tm.capL xs 1
def Tm.capL : List Tm → Int → Int
  | [], n => n
  | x :: xs, n => if 30 < n then n else Tm.capL xs (n + Tm.cap x)
end
theorem Tm.cap_eq (x : Tm) : x.cap = Tm.capL x.args 1 := by
  obtain ⟨n, xs⟩ := x
  rw [Tm.cap]; rfl
theorem Tm.capL_spec : ∀ (xs : List Tm) (n : Int), (∀ x ∈ xs, 1 ≤ x.cap ∧ x.cap ≤ x.nodes ∧ (x.cap ≤ 30 → x.cap = x.nodes)) → 1 ≤ n → n ≤ Tm.capL xs n ∧ Tm.capL xs n ≤ n + Tm.nodeS xs ∧ (Tm.capL xs n ≤ 30 → Tm.capL xs n = n + Tm.nodeS xs)
  | [], n, _, h => by simp [Tm.capL, Tm.nodeS]
  | x :: xs, n, hx, h => by
    rw [Tm.capL, Tm.nodeS]
    have h1 := hx x (by simp)
    split
    · omega
    · have := Tm.capL_spec xs (n + x.cap) (fun y hy => hx y (by simp [hy])) (by omega)
      omega
theorem Tm.cap_spec (x : Tm) : 1 ≤ x.cap ∧ x.cap ≤ x.nodes ∧ (x.cap ≤ 30 → x.cap = x.nodes) := by
  rw [Tm.cap_eq, Tm.nodes_eq]
  have := Tm.capL_spec x.args 1 (fun y hy => Tm.cap_spec y) (by omega)
  omega
termination_by SizeOf.sizeOf x
decreasing_by exact Tm.lt_of_mem hy
mutual
def Tm.many : Tm → Int → Int
  | .mk _ xs, m => Tm.manyL xs m 1
def Tm.manyL : List Tm → Int → Int → Int
  | [], _, n => n
  | x :: xs, m, n => if n ≤ m then Tm.manyL xs m (n + Tm.many x (m - n)) else n
end
theorem Tm.many_eq (x : Tm) (m : Int) : x.many m = Tm.manyL x.args m 1 := by
  obtain ⟨n, xs⟩ := x
  rw [Tm.many]; rfl
theorem Tm.manyL_spec (m : Int) : ∀ (xs : List Tm) (n : Int), (∀ x ∈ xs, ∀ m, 0 ≤ m → 1 ≤ x.many m ∧ x.many m ≤ x.nodes ∧ (x.many m ≤ m → x.many m = x.nodes)) → 1 ≤ n → n ≤ Tm.manyL xs m n ∧ Tm.manyL xs m n ≤ n + Tm.nodeS xs ∧ (Tm.manyL xs m n ≤ m → Tm.manyL xs m n = n + Tm.nodeS xs)
  | [], n, _, h => by simp [Tm.manyL, Tm.nodeS]
  | x :: xs, n, hx, h => by
    rw [Tm.manyL, Tm.nodeS]
    split
    · have h1 := hx x (by simp) (m - n) (by omega)
      have := Tm.manyL_spec m xs (n + x.many (m - n)) (fun y hy => hx y (by simp [hy])) (by omega)
      omega
    · omega
theorem Tm.many_spec (x : Tm) (m : Int) : 1 ≤ x.many m ∧ x.many m ≤ x.nodes ∧ (x.many m ≤ m → x.many m = x.nodes) := by
  rw [Tm.many_eq, Tm.nodes_eq]
  have := Tm.manyL_spec m x.args 1 (fun y hy m _ => Tm.many_spec y m) (by omega)
  omega
termination_by SizeOf.sizeOf x
decreasing_by exact Tm.lt_of_mem hy
end Go.Proofs.Ytpmeabbfpabglaa

set_option maxRecDepth 100000
set_option linter.unusedSimpArgs false
set_option linter.unusedVariables false
namespace Go.Proofs.Ytpmeabbfpabglaa
open Go.RowKit

mutual
/-- A term with its variables replaced. -/
noncomputable def Tm.ap (f : ByteArray → Option Tm) : Tm → Tm
  | .mk name args => if varB name then (f name).getD (.mk name []) else .mk name (Tm.apL f args)
noncomputable def Tm.apL (f : ByteArray → Option Tm) : List Tm → List Tm
  | [] => []
  | x :: xs => Tm.ap f x :: Tm.apL f xs
end
theorem Tm.ap_eq (f : ByteArray → Option Tm) (x : Tm) : x.ap f = if varB x.name then (f x.name).getD (.mk x.name []) else .mk x.name (Tm.apL f x.args) := by
  obtain ⟨name, args⟩ := x
  rw [Tm.ap]; rfl
theorem Tm.apL_len (f : ByteArray → Option Tm) : ∀ xs : List Tm, (Tm.apL f xs).length = xs.length
  | [] => by rw [Tm.apL]
  | x :: xs => by rw [Tm.apL]; simp only [List.length_cons, Tm.apL_len f xs]
theorem Tm.apL_map (f : ByteArray → Option Tm) : ∀ xs : List Tm, Tm.apL f xs = xs.map (Tm.ap f)
  | [] => by rw [Tm.apL]; rfl
  | x :: xs => by rw [Tm.apL, Tm.apL_map f xs]; rfl
/-- The terms that replace have valid names. -/
def okF (f : ByteArray → Option Tm) : Prop := ∀ n t, f n = some t → t.names = true ∧ t.nodes ≤ 30
theorem Tm.ap_nameS (f : ByteArray → Option Tm) : ∀ xs : List Tm, (∀ y ∈ xs, (y.ap f).names = true) → Tm.nameS (Tm.apL f xs) = true
  | [], _ => by rw [Tm.apL, Tm.nameS]
  | x :: xs, h => by rw [Tm.apL, Tm.nameS, h x (by simp), Tm.ap_nameS f xs fun y hy => h y (by simp [hy])]; rfl
theorem Tm.ap_names {f : ByteArray → Option Tm} (hf : okF f) (x : Tm) (hx : x.names = true) : (x.ap f).names = true := by
  rw [Tm.ap_eq]
  rw [Tm.names_eq] at hx
  split
  · rename_i hv
    cases hq : f x.name with
    | none =>
      rw [Option.getD_none, Tm.names_eq]
      show (if varB x.name then _ else _) = true
      rw [if_pos hv]; rfl
    | some t => exact (hf _ _ hq).1
  · rename_i hv
    rw [if_neg hv, Bool.and_eq_true, Bool.and_eq_true] at hx
    rw [Tm.names_eq]
    show (if varB x.name then _ else symB x.name && decide ((Tm.apL f x.args).length ≤ 4) && Tm.nameS (Tm.apL f x.args)) = true
    rw [if_neg hv, Tm.apL_len, hx.1.1, hx.1.2, Tm.ap_nameS f x.args fun y hy => Tm.ap_names hf y (by
      have := hx.2
      rw [Tm.nameS_all, List.all_eq_true] at this
      exact this y hy)]
    rfl
termination_by SizeOf.sizeOf x
decreasing_by exact Tm.lt_of_mem hy
theorem Tm.ap_nodeS {f : ByteArray → Option Tm} : ∀ xs : List Tm, (∀ y ∈ xs, (y.ap f).nodes ≤ 30 * y.nodes) → Tm.nodeS (Tm.apL f xs) ≤ 30 * Tm.nodeS xs
  | [], _ => by rw [Tm.apL, Tm.nodeS]; omega
  | x :: xs, h => by
    have h1 := h x (by simp)
    have h2 := Tm.ap_nodeS xs fun y hy => h y (by simp [hy])
    rw [Tm.apL, Tm.nodeS, Tm.nodeS]; omega
theorem Tm.ap_nodes {f : ByteArray → Option Tm} (hf : okF f) (x : Tm) : (x.ap f).nodes ≤ 30 * x.nodes := by
  have hp := Tm.nodes_pos x
  rw [Tm.ap_eq]
  split
  · cases hq : f x.name with
    | none =>
      have : (Tm.mk x.name []).nodes = 1 + Tm.nodeS [] := Tm.nodes_eq (Tm.mk x.name [])
      rw [Tm.nodeS] at this
      rw [Option.getD_none]; omega
    | some t => have := (hf _ _ hq).2; rw [Option.getD_some]; omega
  · have h1 : (Tm.mk x.name (Tm.apL f x.args)).nodes = 1 + Tm.nodeS (Tm.apL f x.args) := Tm.nodes_eq (Tm.mk x.name (Tm.apL f x.args))
    have h2 := Tm.ap_nodeS (f := f) x.args fun y hy => Tm.ap_nodes hf y
    have h3 := Tm.nodes_eq x
    omega
termination_by SizeOf.sizeOf x
decreasing_by exact Tm.lt_of_mem hy
/-- An expression stays one, if it stays small. -/
theorem Tm.ap_any {f : ByteArray → Option Tm} (hf : okF f) (x : Tm) (hx : (x.valid || x.atom) = true) : ((x.ap f).valid || (x.ap f).atom) = (x.ap f).small := by
  cases hs : (x.ap f).small with
  | false =>
    have h1 : (x.ap f).valid = false := by unfold Tm.valid; rw [hs]; rfl
    have h2 : (x.ap f).atom = false := by
      unfold Tm.atom; split
      · rw [hs, Bool.and_false, Bool.false_and]
      · rw [h1, Bool.and_false]
    rw [h1, h2]; rfl
  | true =>
    cases hn : x.names with
    | true =>
      have : (x.ap f).valid = true := by unfold Tm.valid; rw [hs, Tm.ap_names hf x hn]; rfl
      rw [this]; rfl
    | false =>
      have hv : x.valid = false := by unfold Tm.valid; rw [hn, Bool.and_false]
      rw [hv, Bool.false_or] at hx
      unfold Tm.atom at hx
      split at hx
      · rename_i he
        rw [Bool.and_eq_true, Bool.and_eq_true] at hx
        have hname : x.name = ⟨#[61]⟩ := by unfold Tm.eqn at he; exact dec_iff.1 he
        have hnv0 : varB ⟨#[61]⟩ = false := by kernel_rfl
        have hnv : ¬ (varB x.name = true) := by rw [hname, hnv0]; simp
        have e : x.ap f = .mk x.name (Tm.apL f x.args) := by rw [Tm.ap_eq, if_neg hnv]
        have : (x.ap f).atom = true := by
          have he2 : (x.ap f).eqn = true := by rw [e]; exact he
          unfold Tm.atom
          rw [if_pos he2, hs]
          rw [e]
          show ((Tm.apL f x.args).length == 2 && true && Tm.nameS (Tm.apL f x.args)) = true
          rw [Tm.apL_len, hx.1.1, Tm.ap_nameS f x.args fun y hy => Tm.ap_names hf y (by
            have := hx.2
            rw [Tm.nameS_all, List.all_eq_true] at this
            exact this y hy)]
          rfl
        rw [this, Bool.or_true]
      · rw [hv, Bool.and_false] at hx; cases hx
/-- The variables of a term have no arguments. -/
theorem Tm.names_var {x : Tm} (h : x.names = true) (hv : varB x.name = true) : x.args = [] := by
  rw [Tm.names_eq, if_pos hv] at h
  exact List.eq_nil_of_length_eq_zero (by simpa using h)
theorem Tm.names_arg {x : Tm} (h : x.names = true) {y : Tm} (hy : y ∈ x.args) : y.names = true := by
  rw [Tm.names_eq] at h
  split at h
  · have : x.args = [] := List.eq_nil_of_length_eq_zero (by simpa using h)
    rw [this] at hy; cases hy
  · rw [Bool.and_eq_true, Tm.nameS_all, List.all_eq_true] at h
    exact h.2 y hy
end Go.Proofs.Ytpmeabbfpabglaa

set_option maxRecDepth 100000
set_option linter.unusedSimpArgs false
set_option linter.unusedVariables false
namespace Go.Proofs.Ytpmeabbfpabglaa
open Go.RowKit

def c_impl_size : SC := (.seq (.reg [⟨(some 1), none, (.boxv 42 2 (.t 0))⟩, ⟨(some 2), none, (.mv (.c (.int .i64 0)))⟩]) (.seq (.reg [⟨(some 3), none, (.mv (.c (.int .i64 1)))⟩]) (.seq (.seq (.reg [⟨(some 6), none, (.faddr 1 (.t 1))⟩, ⟨(some 7), none, (.load false 1 (.t 6))⟩, ⟨(some 8), none, (.len false (.t 7))⟩, ⟨(some 9), none, (.mv (.c (.int .i64 0)))⟩]) (.block 0 (.loop [0, 0, 0, 1, 0, 0, 0, 1, 1, 1, 0, 0, 0, 0, 0, 0, 0, 0, 0, 0, 0, 0] (.seq (.reg [⟨(some 10), none, (.bin .lss false (.t 9) (.t 8))⟩]) (.seq (.cond (.t 10) .skip (.exit 0)) (.seq (.block 1 (.seq (.reg [⟨(some 11), none, (.iaddr 2 (.t 7) (.t 9))⟩, ⟨(some 12), none, (.load true 2 (.t 11))⟩, ⟨(some 5), none, (.alloc 42 [(.str ⟨#[]⟩), .nil])⟩, ⟨none, none, (.store 2 (.t 5) (.t 12))⟩]) (.seq (.seq (.reg [⟨(some 13), none, (.mv (.t 3))⟩, ⟨(some 14), none, (.bin .gtr false (.t 13) (.c (.int .i64 30)))⟩]) (.cond (.t 14) (.seq (.reg [⟨(some 15), none, (.mv (.t 3))⟩, ⟨(some 2), none, (.mv (.t 15))⟩]) .ret) .skip)) (.reg [⟨(some 16), none, (.mv (.t 3))⟩, ⟨(some 17), none, (.load true 2 (.t 5))⟩, ⟨(some 18), none, (.call 109 [(.t 17)])⟩, ⟨(some 19), none, (.bin .add false (.t 16) (.t 18))⟩, ⟨(some 3), none, (.mv (.t 19))⟩])))) (.reg [⟨(some 20), none, (.bin .add false (.t 9) (.c (.int .i64 1)))⟩, ⟨(some 9), none, (.mv (.t 20))⟩]))))))) (.seq (.reg [⟨(some 21), none, (.mv (.t 3))⟩, ⟨(some 2), none, (.mv (.t 21))⟩]) .ret))))
theorem k_impl_size : codeOf Try.prog 109 = some ⟨22, c_impl_size, [(.tmp 2)]⟩ := by kernel_rfl
theorem m_impl_size : modes 109 = ⟨[], .asis, none, false⟩ := by unfold modes; rfl

set_option maxHeartbeats 1000000 in
theorem size_of (x : Tm) (hn : x.nodes ≤ 1099511627776) (ih : ∀ y ∈ x.args, E 109 [y.sv] [] = some (.int .i64 y.cap, [])) : E 109 [x.sv] [] = some (.int .i64 x.cap, []) := by
  have hl := Tm.length_le x.args
  have hx := Tm.nodes_eq x
  rw [Tm.cap_eq]
  refine E_walk k_impl_size m_impl_size (of_decide_eq_true rfl) ?_
  simp (disch := omega) only [c_impl_size, go_sem, go_cond, Nat.reduceAdd, Nat.reduceSub, Nat.reduceLT, Nat.reduceLeDiff, Nat.reduceEqDiff, Nat.reduceBEq, Nat.reduceBneDiff, Nat.reduceMul, ↓reduceIte, Int.reduceToNat, reduceCtorEq, Int.reduceNeg, Int.reduceAdd]
  refine go_loop (α := Int × Int) (fun a => ⟨slots 22 0 [(3, .int .i64 a.2), (7, .arr (x.args.map Tm.d)), (8, .int .i64 x.args.length), (9, .int .i64 a.1)], []⟩) (fun a => ∃ k : Nat, a.1 = k ∧ k ≤ x.args.length ∧ 1 ≤ a.2 ∧ a.2 + Tm.nodeS (x.args.drop k) ≤ x.nodes ∧ Tm.capL (x.args.drop k) a.2 = Tm.capL x.args 1) (fun a => x.args.length - a.1.toNat) (0, 1) ⟨0, rfl, Nat.zero_le _, by dsimp only; omega, by rw [List.drop_zero]; dsimp only; omega, rfl⟩ (by simp (disch := omega) only [go_sem, go_cond, Nat.reduceAdd, Nat.reduceSub, Nat.reduceLT, Nat.reduceLeDiff, Nat.reduceEqDiff, Nat.reduceBEq, Nat.reduceBneDiff, Nat.reduceMul, ↓reduceIte, Int.reduceToNat, reduceCtorEq, Int.reduceNeg, Int.reduceAdd]) ?_
  rintro ⟨i, n⟩ ⟨k, hi, hk, hn0, hn1, hs⟩
  dsimp only at hi hn0 hn1 hs
  have hni : i.toNat = k := by omega
  rcases Nat.lt_or_ge k x.args.length with hlt | hge
  · have hg := get_at Tm.d hlt
    rw [Tm.d_eq] at hg
    have hd : x.args.drop k = x.args[k] :: x.args.drop (k + 1) := List.drop_eq_getElem_cons hlt
    have hc := ih x.args[k] (List.getElem_mem hlt)
    have hp := Tm.cap_spec x.args[k]
    rw [hd, Tm.capL] at hs
    rw [hd, Tm.nodeS] at hn1
    rcases Int.lt_or_le 30 n with h30 | h30
    · rw [if_pos h30] at hs
      simp (disch := omega) only [go_sem, go_cond, Nat.reduceAdd, Nat.reduceSub, Nat.reduceLT, Nat.reduceLeDiff, Nat.reduceEqDiff, Nat.reduceBEq, Nat.reduceBneDiff, Nat.reduceMul, ↓reduceIte, Int.reduceToNat, reduceCtorEq, Int.reduceNeg, Int.reduceAdd, hni, hg, hc, m_impl_size]
      exact hs
    · rw [if_neg (by omega)] at hs
      simp (disch := omega) only [go_sem, go_cond, Nat.reduceAdd, Nat.reduceSub, Nat.reduceLT, Nat.reduceLeDiff, Nat.reduceEqDiff, Nat.reduceBEq, Nat.reduceBneDiff, Nat.reduceMul, ↓reduceIte, Int.reduceToNat, reduceCtorEq, Int.reduceNeg, Int.reduceAdd, hni, hg, hc, m_impl_size]
      refine ⟨(i + 1, n + x.args[k].cap), ⟨k + 1, by dsimp only; omega, hlt, by dsimp only; omega, by dsimp only; omega, hs⟩, by dsimp only; omega, ?_⟩
      simp only [and_self]
  · have hd : x.args.drop k = [] := List.drop_eq_nil_of_le hge
    rw [hd, Tm.capL] at hs
    simp (disch := omega) only [go_sem, go_cond, Nat.reduceAdd, Nat.reduceSub, Nat.reduceLT, Nat.reduceLeDiff, Nat.reduceEqDiff, Nat.reduceBEq, Nat.reduceBneDiff, Nat.reduceMul, ↓reduceIte, Int.reduceToNat, reduceCtorEq, Int.reduceNeg, Int.reduceAdd, hni]
    exact hs
theorem size_E (x : Tm) (hn : x.nodes ≤ 1099511627776) : E 109 [x.sv] [] = some (.int .i64 x.cap, []) :=
  size_of x hn fun y hy => size_E y (by have := Tm.nodes_mem hy; have := Tm.nodes_eq x; omega)
termination_by SizeOf.sizeOf x
decreasing_by exact Tm.lt_of_mem hy

def c_spec_l2Many : SC := (.seq (.reg [⟨(some 2), none, (.boxv 42 2 (.t 0))⟩, ⟨(some 4), none, (.mv (.c (.int .i64 0)))⟩]) (.seq (.reg [⟨(some 5), none, (.mv (.c (.int .i64 1)))⟩]) (.seq (.seq (.reg [⟨(some 6), none, (.mv (.c (.int .i64 0)))⟩]) (.block 0 (.loop [0, 1, 1, 0, 0, 1, 1, 0, 0, 0, 0, 0, 0, 0, 0, 0, 0, 0, 0, 0, 0, 0, 0, 0, 0, 0, 0, 0, 0, 0, 0] (.seq (.seq (.reg [⟨(some 7), none, (.mv (.t 6))⟩, ⟨(some 8), none, (.faddr 1 (.t 2))⟩, ⟨(some 9), none, (.load false 1 (.t 8))⟩, ⟨(some 10), none, (.len false (.t 9))⟩, ⟨(some 11), none, (.bin .lss false (.t 7) (.t 10))⟩, ⟨(some 12), none, (.mv (.t 11))⟩, ⟨(some 13), (some (12, true)), (.mv (.t 5))⟩, ⟨(some 14), (some (12, true)), (.mv (.t 1))⟩, ⟨(some 15), (some (12, true)), (.bin .leq false (.t 13) (.t 14))⟩, ⟨(some 16), none, (.pick (.t 12) (.t 15) (.c (.bool false)))⟩]) (.cond (.t 16) .skip (.exit 0))) (.seq (.block 1 (.reg [⟨(some 19), none, (.mv (.t 5))⟩, ⟨(some 20), none, (.faddr 1 (.t 2))⟩, ⟨(some 21), none, (.load false 1 (.t 20))⟩, ⟨(some 22), none, (.mv (.t 6))⟩, ⟨(some 23), none, (.iaddr 2 (.t 21) (.t 22))⟩, ⟨(some 24), none, (.load true 2 (.t 23))⟩, ⟨(some 25), none, (.mv (.t 1))⟩, ⟨(some 26), none, (.mv (.t 5))⟩, ⟨(some 27), none, (.bin .sub false (.t 25) (.t 26))⟩, ⟨(some 28), none, (.call 99 [(.t 24), (.t 27)])⟩, ⟨(some 29), none, (.bin .add false (.t 19) (.t 28))⟩, ⟨(some 5), none, (.mv (.t 29))⟩])) (.reg [⟨(some 17), none, (.mv (.t 6))⟩, ⟨(some 18), none, (.bin .add false (.t 17) (.c (.int .i64 1)))⟩, ⟨(some 6), none, (.mv (.t 18))⟩])))))) (.seq (.reg [⟨(some 30), none, (.mv (.t 5))⟩, ⟨(some 4), none, (.mv (.t 30))⟩]) .ret))))
theorem k_spec_l2Many : codeOf Try.prog 99 = some ⟨31, c_spec_l2Many, [(.tmp 4)]⟩ := by kernel_rfl
theorem m_spec_l2Many : modes 99 = ⟨[], .asis, none, false⟩ := by unfold modes; rfl

set_option maxHeartbeats 1000000 in
theorem many_of (x : Tm) (m : Int) (hm : 0 ≤ m) (hm1 : m ≤ 1099511627776) (hn : x.nodes ≤ 1099511627776) (ih : ∀ y ∈ x.args, ∀ m : Int, 0 ≤ m → m ≤ 1099511627776 → E 99 [y.sv, .int .i64 m] [] = some (.int .i64 (y.many m), [])) : E 99 [x.sv, .int .i64 m] [] = some (.int .i64 (x.many m), []) := by
  have hl := Tm.length_le x.args
  have hx := Tm.nodes_eq x
  rw [Tm.many_eq]
  refine E_walk k_spec_l2Many m_spec_l2Many (of_decide_eq_true rfl) ?_
  simp (disch := omega) only [c_spec_l2Many, go_sem, go_cond, Nat.reduceAdd, Nat.reduceSub, Nat.reduceLT, Nat.reduceLeDiff, Nat.reduceEqDiff, Nat.reduceBEq, Nat.reduceBneDiff, Nat.reduceMul, ↓reduceIte, Int.reduceToNat, reduceCtorEq, Int.reduceNeg, Int.reduceAdd]
  refine go_loop (α := Int × Int) (fun a => ⟨slots 31 0 [(1, .int .i64 m), (2, .ptr 0 0), (5, .int .i64 a.2), (6, .int .i64 a.1)], [.box 42 [.str x.name, .arr (x.args.map Tm.d)]]⟩) (fun a => ∃ k : Nat, a.1 = k ∧ k ≤ x.args.length ∧ 1 ≤ a.2 ∧ a.2 + Tm.nodeS (x.args.drop k) ≤ x.nodes ∧ Tm.manyL (x.args.drop k) m a.2 = Tm.manyL x.args m 1) (fun a => x.args.length - a.1.toNat) (0, 1) ⟨0, rfl, Nat.zero_le _, by dsimp only; omega, by rw [List.drop_zero]; dsimp only; omega, rfl⟩ (by simp (disch := omega) only [go_sem, go_cond, Nat.reduceAdd, Nat.reduceSub, Nat.reduceLT, Nat.reduceLeDiff, Nat.reduceEqDiff, Nat.reduceBEq, Nat.reduceBneDiff, Nat.reduceMul, ↓reduceIte, Int.reduceToNat, reduceCtorEq, Int.reduceNeg, Int.reduceAdd]) ?_
  rintro ⟨i, n⟩ ⟨k, hi, hk, hn0, hn1, hs⟩
  dsimp only at hi hn0 hn1 hs
  have hni : i.toNat = k := by omega
  rcases Nat.lt_or_ge k x.args.length with hlt | hge
  · have hg := get_at Tm.d hlt
    rw [Tm.d_eq] at hg
    have hd : x.args.drop k = x.args[k] :: x.args.drop (k + 1) := List.drop_eq_getElem_cons hlt
    rw [hd, Tm.manyL] at hs
    rw [hd, Tm.nodeS] at hn1
    rcases Int.lt_or_le m n with h30 | h30
    · rw [if_neg (by omega)] at hs
      simp (disch := omega) only [go_sem, go_cond, Nat.reduceAdd, Nat.reduceSub, Nat.reduceLT, Nat.reduceLeDiff, Nat.reduceEqDiff, Nat.reduceBEq, Nat.reduceBneDiff, Nat.reduceMul, ↓reduceIte, Int.reduceToNat, reduceCtorEq, Int.reduceNeg, Int.reduceAdd, hni, hg, m_spec_l2Many]
      exact hs
    · rw [if_pos h30] at hs
      have hc := ih x.args[k] (List.getElem_mem hlt) (m - n) (by omega) (by omega)
      have hp := Tm.many_spec x.args[k] (m - n)
      simp (disch := omega) only [go_sem, go_cond, Nat.reduceAdd, Nat.reduceSub, Nat.reduceLT, Nat.reduceLeDiff, Nat.reduceEqDiff, Nat.reduceBEq, Nat.reduceBneDiff, Nat.reduceMul, ↓reduceIte, Int.reduceToNat, reduceCtorEq, Int.reduceNeg, Int.reduceAdd, hni, hg, hc, m_spec_l2Many]
      refine ⟨(i + 1, n + x.args[k].many (m - n)), ⟨k + 1, by dsimp only; omega, hlt, by dsimp only; omega, by dsimp only; omega, hs⟩, by dsimp only; omega, ?_⟩
      simp only [and_self]
  · have hd : x.args.drop k = [] := List.drop_eq_nil_of_le hge
    rw [hd, Tm.manyL] at hs
    simp (disch := omega) only [go_sem, go_cond, Nat.reduceAdd, Nat.reduceSub, Nat.reduceLT, Nat.reduceLeDiff, Nat.reduceEqDiff, Nat.reduceBEq, Nat.reduceBneDiff, Nat.reduceMul, ↓reduceIte, Int.reduceToNat, reduceCtorEq, Int.reduceNeg, Int.reduceAdd, hni]
    exact hs
theorem many_E (x : Tm) (m : Int) (hm : 0 ≤ m) (hm1 : m ≤ 1099511627776) (hn : x.nodes ≤ 1099511627776) : E 99 [x.sv, .int .i64 m] [] = some (.int .i64 (x.many m), []) :=
  many_of x m hm hm1 hn fun y hy m hm hm1 => many_E y m hm hm1 (by have := Tm.nodes_mem hy; have := Tm.nodes_eq x; omega)
termination_by SizeOf.sizeOf x
decreasing_by exact Tm.lt_of_mem hy
end Go.Proofs.Ytpmeabbfpabglaa

set_option maxRecDepth 100000
set_option linter.unusedSimpArgs false
set_option linter.unusedVariables false
namespace Go.Proofs.Ytpmeabbfpabglaa
open Go.RowKit

def c_impl_depth : SC := (.seq (.reg [⟨(some 1), none, (.boxv 42 2 (.t 0))⟩, ⟨(some 2), none, (.mv (.c (.int .i64 0)))⟩]) (.seq (.reg [⟨(some 3), none, (.mv (.c (.int .i64 0)))⟩]) (.seq (.seq (.reg [⟨(some 6), none, (.faddr 1 (.t 1))⟩, ⟨(some 7), none, (.load false 1 (.t 6))⟩, ⟨(some 8), none, (.len false (.t 7))⟩, ⟨(some 9), none, (.mv (.c (.int .i64 0)))⟩]) (.block 0 (.loop [0, 0, 0, 1, 0, 0, 0, 1, 1, 1, 0, 0, 0, 0, 0, 0, 0, 0, 0, 0] (.seq (.reg [⟨(some 10), none, (.bin .lss false (.t 9) (.t 8))⟩]) (.seq (.cond (.t 10) .skip (.exit 0)) (.seq (.block 1 (.seq (.reg [⟨(some 11), none, (.iaddr 2 (.t 7) (.t 9))⟩, ⟨(some 12), none, (.load true 2 (.t 11))⟩, ⟨(some 5), none, (.alloc 42 [(.str ⟨#[]⟩), .nil])⟩, ⟨none, none, (.store 2 (.t 5) (.t 12))⟩]) (.reg [⟨(some 13), none, (.mv (.t 3))⟩, ⟨(some 14), none, (.load true 2 (.t 5))⟩, ⟨(some 15), none, (.call 110 [(.t 14)])⟩, ⟨(some 16), none, (.minmax true (.t 13) (.t 15))⟩, ⟨(some 3), none, (.mv (.t 16))⟩]))) (.reg [⟨(some 17), none, (.bin .add false (.t 9) (.c (.int .i64 1)))⟩, ⟨(some 9), none, (.mv (.t 17))⟩]))))))) (.seq (.reg [⟨(some 18), none, (.mv (.t 3))⟩, ⟨(some 19), none, (.bin .add false (.t 18) (.c (.int .i64 1)))⟩, ⟨(some 2), none, (.mv (.t 19))⟩]) .ret))))
theorem k_impl_depth : codeOf Try.prog 110 = some ⟨20, c_impl_depth, [(.tmp 2)]⟩ := by kernel_rfl
theorem m_impl_depth : modes 110 = ⟨[], .asis, none, false⟩ := by unfold modes; rfl

def c_spec_l1Most : SC := (.seq (.reg [⟨(some 4), none, (.mv (.c (.int .i64 0)))⟩]) (.seq (.seq (.reg [⟨(some 5), none, (.mv (.t 0))⟩, ⟨(some 6), none, (.mv (.t 1))⟩, ⟨(some 7), none, (.bin .gtr false (.t 5) (.t 6))⟩]) (.cond (.t 7) (.seq (.reg [⟨(some 8), none, (.mv (.t 0))⟩, ⟨(some 4), none, (.mv (.t 8))⟩]) .ret) .skip)) (.seq (.reg [⟨(some 9), none, (.mv (.t 1))⟩, ⟨(some 4), none, (.mv (.t 9))⟩]) .ret)))
theorem k_spec_l1Most : codeOf Try.prog 128 = some ⟨10, c_spec_l1Most, [(.tmp 4)]⟩ := by kernel_rfl
theorem m_spec_l1Most : modes 128 = ⟨[], .asis, none, false⟩ := by unfold modes; rfl

def c_spec_l2Depth : SC := (.seq (.reg [⟨(some 1), none, (.boxv 42 2 (.t 0))⟩, ⟨(some 2), none, (.mv (.c (.int .i64 0)))⟩]) (.seq (.reg [⟨(some 3), none, (.mv (.c (.int .i64 0)))⟩]) (.seq (.seq (.reg [⟨(some 4), none, (.mv (.c (.int .i64 0)))⟩]) (.block 0 (.loop [0, 1, 0, 1, 1, 0, 0, 0, 0, 0, 0, 0, 0, 0, 0, 0, 0, 0, 0, 0, 0, 0] (.seq (.seq (.reg [⟨(some 5), none, (.mv (.t 4))⟩, ⟨(some 6), none, (.faddr 1 (.t 1))⟩, ⟨(some 7), none, (.load false 1 (.t 6))⟩, ⟨(some 8), none, (.len false (.t 7))⟩, ⟨(some 9), none, (.bin .lss false (.t 5) (.t 8))⟩]) (.cond (.t 9) .skip (.exit 0))) (.seq (.block 1 (.reg [⟨(some 12), none, (.mv (.t 3))⟩, ⟨(some 13), none, (.faddr 1 (.t 1))⟩, ⟨(some 14), none, (.load false 1 (.t 13))⟩, ⟨(some 15), none, (.mv (.t 4))⟩, ⟨(some 16), none, (.iaddr 2 (.t 14) (.t 15))⟩, ⟨(some 17), none, (.load true 2 (.t 16))⟩, ⟨(some 18), none, (.call 100 [(.t 17)])⟩, ⟨(some 19), none, (.call 128 [(.t 12), (.t 18)])⟩, ⟨(some 3), none, (.mv (.t 19))⟩])) (.reg [⟨(some 10), none, (.mv (.t 4))⟩, ⟨(some 11), none, (.bin .add false (.t 10) (.c (.int .i64 1)))⟩, ⟨(some 4), none, (.mv (.t 11))⟩])))))) (.seq (.reg [⟨(some 20), none, (.mv (.t 3))⟩, ⟨(some 21), none, (.bin .add false (.t 20) (.c (.int .i64 1)))⟩, ⟨(some 2), none, (.mv (.t 21))⟩]) .ret))))
theorem k_spec_l2Depth : codeOf Try.prog 100 = some ⟨22, c_spec_l2Depth, [(.tmp 2)]⟩ := by kernel_rfl
theorem m_spec_l2Depth : modes 100 = ⟨[], .asis, none, false⟩ := by unfold modes; rfl


theorem l1Most_E (a b : Int) : E 128 [.int .i64 a, .int .i64 b] [] = some (.int .i64 (max a b), []) := by
  refine E_walk k_spec_l1Most m_spec_l1Most (of_decide_eq_true rfl) ?_
  simp (disch := omega) only [c_spec_l1Most, go_sem, go_cond, Nat.reduceAdd, Nat.reduceSub, Nat.reduceLT, Nat.reduceLeDiff, Nat.reduceEqDiff, Nat.reduceBEq, Nat.reduceBneDiff, Nat.reduceMul, ↓reduceIte, Int.reduceToNat, reduceCtorEq, Int.reduceNeg, Int.reduceAdd]
  repeat' (refine boolP_split (fun hq => ?_) (fun hq => ?_) <;> (first | replace hq := dec_iff.1 hq | replace hq := dec_not.1 hq) <;> (try simp (disch := omega) only [go_sem, go_cond, Nat.reduceAdd, Nat.reduceSub, Nat.reduceLT, Nat.reduceLeDiff, Nat.reduceEqDiff, Nat.reduceBEq, Nat.reduceBneDiff, Nat.reduceMul, ↓reduceIte, Int.reduceToNat, reduceCtorEq, Int.reduceNeg, Int.reduceAdd]))
  all_goals omega
set_option maxHeartbeats 1000000 in
theorem depth_of (x : Tm) (hn : x.nodes ≤ 1099511627776) (ih : ∀ y ∈ x.args, E 110 [y.sv] [] = some (.int .i64 y.deep, [])) : E 110 [x.sv] [] = some (.int .i64 x.deep, []) := by
  have hl := Tm.length_le x.args
  have hx := Tm.nodes_eq x
  have hd1 := Tm.deep_eq x
  have hd2 := Tm.deep_le_nodes x
  refine E_walk k_impl_depth m_impl_depth (of_decide_eq_true rfl) ?_
  simp (disch := omega) only [c_impl_depth, go_sem, go_cond, Nat.reduceAdd, Nat.reduceSub, Nat.reduceLT, Nat.reduceLeDiff, Nat.reduceEqDiff, Nat.reduceBEq, Nat.reduceBneDiff, Nat.reduceMul, ↓reduceIte, Int.reduceToNat, reduceCtorEq, Int.reduceNeg, Int.reduceAdd]
  refine go_loop (α := Int × (Int)) (fun a => ⟨slots 20 0 [(3, .int .i64 (a.2)), (7, .arr (x.args.map Tm.d)), (8, .int .i64 x.args.length), (9, .int .i64 (a.1))], []⟩) (fun a => ∃ k : Nat, a.1 = k ∧ k ≤ (x.args).length ∧ 0 ≤ (a.2) ∧ max (a.2) (Tm.deepS (x.args.drop k) : Nat) = (Tm.deepS x.args : Nat)) (fun a => (x.args).length - (a.1).toNat) (0, 0) ⟨0, rfl, Nat.zero_le _, by dsimp only; omega, by rw [List.drop_zero]; dsimp only; omega⟩ (by simp (disch := omega) only [go_sem, go_cond, Nat.reduceAdd, Nat.reduceSub, Nat.reduceLT, Nat.reduceLeDiff, Nat.reduceEqDiff, Nat.reduceBEq, Nat.reduceBneDiff, Nat.reduceMul, ↓reduceIte, Int.reduceToNat, reduceCtorEq, Int.reduceNeg, Int.reduceAdd]) ?_
  rintro ⟨i, n⟩ ⟨k, hi, hk, hR⟩
  dsimp only at hi hR
  have hni : i.toNat = k := by omega
  have hni1 : (i + 1).toNat = k + 1 := by omega
  rcases Nat.lt_or_ge k (x.args).length with hlt | hge
  · have hg := get_at Tm.d hlt
    rw [Tm.d_eq] at hg
    have hc := ih x.args[k] (List.getElem_mem hlt)
    rw [List.drop_eq_getElem_cons hlt, Tm.deepS] at hR
    simp (disch := omega) only [go_sem, go_cond, Nat.reduceAdd, Nat.reduceSub, Nat.reduceLT, Nat.reduceLeDiff, Nat.reduceEqDiff, Nat.reduceBEq, Nat.reduceBneDiff, Nat.reduceMul, ↓reduceIte, Int.reduceToNat, reduceCtorEq, Int.reduceNeg, Int.reduceAdd, hni, hg, hc, m_impl_depth, max_bif]
    refine ⟨(i + 1, max n (x.args[k].deep : Int)), ⟨k + 1, by dsimp only; omega, hlt, by dsimp only; omega⟩, by dsimp only; omega, ?_⟩
    simp only [and_self]
  · rw [List.drop_eq_nil_of_le hge, Tm.deepS] at hR
    simp (disch := omega) only [go_sem, go_cond, Nat.reduceAdd, Nat.reduceSub, Nat.reduceLT, Nat.reduceLeDiff, Nat.reduceEqDiff, Nat.reduceBEq, Nat.reduceBneDiff, Nat.reduceMul, ↓reduceIte, Int.reduceToNat, reduceCtorEq, Int.reduceNeg, Int.reduceAdd, hni]
    omega
theorem depth_E (x : Tm) (hn : x.nodes ≤ 1099511627776) : E 110 [x.sv] [] = some (.int .i64 x.deep, []) :=
  depth_of x hn fun y hy => depth_E y (by have := Tm.nodes_mem hy; have := Tm.nodes_eq x; omega)
termination_by SizeOf.sizeOf x
decreasing_by exact Tm.lt_of_mem hy
set_option maxHeartbeats 1000000 in
theorem l2Depth_of (x : Tm) (hn : x.nodes ≤ 1099511627776) (ih : ∀ y ∈ x.args, E 100 [y.sv] [] = some (.int .i64 y.deep, [])) : E 100 [x.sv] [] = some (.int .i64 x.deep, []) := by
  have hl := Tm.length_le x.args
  have hx := Tm.nodes_eq x
  have hd1 := Tm.deep_eq x
  have hd2 := Tm.deep_le_nodes x
  refine E_walk k_spec_l2Depth m_spec_l2Depth (of_decide_eq_true rfl) ?_
  simp (disch := omega) only [c_spec_l2Depth, go_sem, go_cond, Nat.reduceAdd, Nat.reduceSub, Nat.reduceLT, Nat.reduceLeDiff, Nat.reduceEqDiff, Nat.reduceBEq, Nat.reduceBneDiff, Nat.reduceMul, ↓reduceIte, Int.reduceToNat, reduceCtorEq, Int.reduceNeg, Int.reduceAdd]
  refine go_loop (α := Int × (Int)) (fun a => ⟨slots 22 0 [(1, .ptr 0 0), (3, .int .i64 (a.2)), (4, .int .i64 (a.1))], [.box 42 [.str x.name, .arr (x.args.map Tm.d)]]⟩) (fun a => ∃ k : Nat, a.1 = k ∧ k ≤ (x.args).length ∧ 0 ≤ (a.2) ∧ max (a.2) (Tm.deepS (x.args.drop k) : Nat) = (Tm.deepS x.args : Nat)) (fun a => (x.args).length - (a.1).toNat) (0, 0) ⟨0, rfl, Nat.zero_le _, by dsimp only; omega, by rw [List.drop_zero]; dsimp only; omega⟩ (by simp (disch := omega) only [go_sem, go_cond, Nat.reduceAdd, Nat.reduceSub, Nat.reduceLT, Nat.reduceLeDiff, Nat.reduceEqDiff, Nat.reduceBEq, Nat.reduceBneDiff, Nat.reduceMul, ↓reduceIte, Int.reduceToNat, reduceCtorEq, Int.reduceNeg, Int.reduceAdd]) ?_
  rintro ⟨i, n⟩ ⟨k, hi, hk, hR⟩
  dsimp only at hi hR
  have hni : i.toNat = k := by omega
  have hni1 : (i + 1).toNat = k + 1 := by omega
  rcases Nat.lt_or_ge k (x.args).length with hlt | hge
  · have hg := get_at Tm.d hlt
    rw [Tm.d_eq] at hg
    have hc := ih x.args[k] (List.getElem_mem hlt)
    rw [List.drop_eq_getElem_cons hlt, Tm.deepS] at hR
    simp (disch := omega) only [go_sem, go_cond, Nat.reduceAdd, Nat.reduceSub, Nat.reduceLT, Nat.reduceLeDiff, Nat.reduceEqDiff, Nat.reduceBEq, Nat.reduceBneDiff, Nat.reduceMul, ↓reduceIte, Int.reduceToNat, reduceCtorEq, Int.reduceNeg, Int.reduceAdd, hni, hg, hc, m_spec_l2Depth, l1Most_E, m_spec_l1Most]
    refine ⟨(i + 1, max n (x.args[k].deep : Int)), ⟨k + 1, by dsimp only; omega, hlt, by dsimp only; omega⟩, by dsimp only; omega, ?_⟩
    simp only [and_self]
  · rw [List.drop_eq_nil_of_le hge, Tm.deepS] at hR
    simp (disch := omega) only [go_sem, go_cond, Nat.reduceAdd, Nat.reduceSub, Nat.reduceLT, Nat.reduceLeDiff, Nat.reduceEqDiff, Nat.reduceBEq, Nat.reduceBneDiff, Nat.reduceMul, ↓reduceIte, Int.reduceToNat, reduceCtorEq, Int.reduceNeg, Int.reduceAdd, hni]
    omega
theorem l2Depth_E (x : Tm) (hn : x.nodes ≤ 1099511627776) : E 100 [x.sv] [] = some (.int .i64 x.deep, []) :=
  l2Depth_of x hn fun y hy => l2Depth_E y (by have := Tm.nodes_mem hy; have := Tm.nodes_eq x; omega)
termination_by SizeOf.sizeOf x
decreasing_by exact Tm.lt_of_mem hy
end Go.Proofs.Ytpmeabbfpabglaa

set_option maxRecDepth 100000
set_option linter.unusedSimpArgs false
set_option linter.unusedVariables false
namespace Go.Proofs.Ytpmeabbfpabglaa
open Go.RowKit

def c_slices_IndexFunc_impl_Term_impl_Term : SC := (.seq (.reg [⟨(some 4), none, (.mv (.c (.int .i64 0)))⟩]) (.seq (.seq (.reg [⟨(some 6), none, (.mv (.t 0))⟩, ⟨(some 7), none, (.len false (.t 6))⟩, ⟨(some 8), none, (.mv (.c (.int .i64 0)))⟩]) (.block 0 (.loop [1, 1, 0, 0, 0, 0, 0, 1, 1, 0, 0, 0, 0, 0, 0, 0, 0, 0, 0] (.seq (.reg [⟨(some 9), none, (.bin .lss false (.t 8) (.t 7))⟩]) (.seq (.cond (.t 9) .skip (.exit 0)) (.seq (.block 1 (.seq (.reg [⟨(some 10), none, (.mv (.t 8))⟩, ⟨(some 5), none, (.mv (.t 10))⟩]) (.seq (.reg [⟨(some 11), none, (.mv (.t 1))⟩, ⟨(some 12), none, (.mv (.t 0))⟩, ⟨(some 13), none, (.mv (.t 5))⟩, ⟨(some 14), none, (.iaddr 2 (.t 12) (.t 13))⟩, ⟨(some 15), none, (.load true 2 (.t 14))⟩, ⟨(some 16), none, (.callv (.t 11) [(.t 15)])⟩]) (.cond (.t 16) (.seq (.reg [⟨(some 17), none, (.mv (.t 5))⟩, ⟨(some 4), none, (.mv (.t 17))⟩]) .ret) .skip)))) (.reg [⟨(some 18), none, (.bin .add false (.t 8) (.c (.int .i64 1)))⟩, ⟨(some 8), none, (.mv (.t 18))⟩]))))))) (.seq (.reg [⟨(some 4), none, (.mv (.c (.int .i64 (-(0 + 1)))))⟩]) .ret)))
theorem k_slices_IndexFunc_impl_Term_impl_Term : codeOf Try.prog 134 = some ⟨19, c_slices_IndexFunc_impl_Term_impl_Term, [(.tmp 4)]⟩ := by kernel_rfl
theorem m_slices_IndexFunc_impl_Term_impl_Term : modes 134 = ⟨[], .asis, none, false⟩ := by unfold modes; rfl
def c_slices_ContainsFunc_impl_Term_impl_Term : SC := (.seq (.reg [⟨(some 4), none, (.mv (.c (.bool false)))⟩]) (.seq (.reg [⟨(some 5), none, (.mv (.t 0))⟩, ⟨(some 6), none, (.mv (.t 1))⟩, ⟨(some 7), none, (.call 134 [(.t 5), (.t 6)])⟩, ⟨(some 8), none, (.bin .geq false (.t 7) (.c (.int .i64 0)))⟩, ⟨(some 4), none, (.mv (.t 8))⟩]) .ret))
theorem k_slices_ContainsFunc_impl_Term_impl_Term : codeOf Try.prog 111 = some ⟨9, c_slices_ContainsFunc_impl_Term_impl_Term, [(.tmp 4)]⟩ := by kernel_rfl
theorem m_slices_ContainsFunc_impl_Term_impl_Term : modes 111 = ⟨[], .asis, none, false⟩ := by unfold modes; rfl
/-- The place of the first hit, or -1. -/
theorem indexFunc_terms (fid : Nat) (p : Tm → Bool) (xs : List Tm) (hl : xs.length ≤ 1099511627776) (hg : goFn Try.prog fid = true) (hm : (modes fid).hand = []) (hE : ∀ x ∈ xs, E fid [x.sv] [] = some (.bool (p x), [])) : E 134 [.arr (xs.map Tm.d), .fn fid []] [] = some (.int .i64 (idxP p xs 0), []) := by
  refine E_walk k_slices_IndexFunc_impl_Term_impl_Term m_slices_IndexFunc_impl_Term_impl_Term (of_decide_eq_true rfl) ?_
  simp (disch := omega) only [c_slices_IndexFunc_impl_Term_impl_Term, go_sem, go_cond, Nat.reduceAdd, Nat.reduceSub, Nat.reduceLT, Nat.reduceLeDiff, Nat.reduceEqDiff, Nat.reduceBEq, Nat.reduceBneDiff, Nat.reduceMul, ↓reduceIte, Int.reduceToNat, reduceCtorEq, Int.reduceNeg, Int.reduceAdd]
  refine go_loop (α := Int) (fun a => ⟨slots 19 0 [(0, .arr (xs.map Tm.d)), (1, .fn fid []), (7, .int .i64 xs.length), (8, .int .i64 a)], []⟩) (fun a => ∃ k : Nat, a = k ∧ k ≤ (xs).length ∧ idxP p (xs.drop k) a = idxP p xs 0) (fun a => (xs).length - (a).toNat) 0 ⟨0, rfl, Nat.zero_le _, by rw [List.drop_zero]⟩ (by simp (disch := omega) only [go_sem, go_cond, Nat.reduceAdd, Nat.reduceSub, Nat.reduceLT, Nat.reduceLeDiff, Nat.reduceEqDiff, Nat.reduceBEq, Nat.reduceBneDiff, Nat.reduceMul, ↓reduceIte, Int.reduceToNat, reduceCtorEq, Int.reduceNeg, Int.reduceAdd]) ?_
  rintro i ⟨k, hi, hk, hR⟩
  have hni : i.toNat = k := by omega
  have hni1 : (i + 1).toNat = k + 1 := by omega
  rcases Nat.lt_or_ge k (xs).length with hlt | hge
  · have hg' := get_at Tm.d hlt
    rw [Tm.d_eq] at hg'
    have hc := hE xs[k] (List.getElem_mem hlt)
    rw [List.drop_eq_getElem_cons hlt, idxP] at hR
    cases hp : p xs[k] with
    | true =>
      rw [hp] at hc hR
      simp (disch := omega) only [go_sem, go_cond, Nat.reduceAdd, Nat.reduceSub, Nat.reduceLT, Nat.reduceLeDiff, Nat.reduceEqDiff, Nat.reduceBEq, Nat.reduceBneDiff, Nat.reduceMul, ↓reduceIte, Int.reduceToNat, reduceCtorEq, Int.reduceNeg, Int.reduceAdd, hni, hg', hc, hg, hm]
      simpa using hR
    | false =>
      rw [hp] at hc hR
      simp (disch := omega) only [go_sem, go_cond, Nat.reduceAdd, Nat.reduceSub, Nat.reduceLT, Nat.reduceLeDiff, Nat.reduceEqDiff, Nat.reduceBEq, Nat.reduceBneDiff, Nat.reduceMul, ↓reduceIte, Int.reduceToNat, reduceCtorEq, Int.reduceNeg, Int.reduceAdd, hni, hg', hc, hg, hm]
      exact ⟨i + 1, ⟨k + 1, by omega, hlt, by simpa using hR⟩, by omega, by first | trivial | rfl⟩
  · rw [List.drop_eq_nil_of_le hge, idxP] at hR
    simp (disch := omega) only [go_sem, go_cond, Nat.reduceAdd, Nat.reduceSub, Nat.reduceLT, Nat.reduceLeDiff, Nat.reduceEqDiff, Nat.reduceBEq, Nat.reduceBneDiff, Nat.reduceMul, ↓reduceIte, Int.reduceToNat, reduceCtorEq, Int.reduceNeg, Int.reduceAdd, hni]
    exact hR
theorem containsFunc_terms (fid : Nat) (p : Tm → Bool) (xs : List Tm) (hl : xs.length ≤ 1099511627776) (hg : goFn Try.prog fid = true) (hm : (modes fid).hand = []) (hE : ∀ x ∈ xs, E fid [x.sv] [] = some (.bool (p x), [])) : E 111 [.arr (xs.map Tm.d), .fn fid []] [] = some (.bool (xs.any p), []) := by
  have h := indexFunc_terms fid p xs hl hg hm hE
  refine E_walk k_slices_ContainsFunc_impl_Term_impl_Term m_slices_ContainsFunc_impl_Term_impl_Term (of_decide_eq_true rfl) ?_
  simp (disch := omega) only [c_slices_ContainsFunc_impl_Term_impl_Term, go_sem, go_cond, Nat.reduceAdd, Nat.reduceSub, Nat.reduceLT, Nat.reduceLeDiff, Nat.reduceEqDiff, Nat.reduceBEq, Nat.reduceBneDiff, Nat.reduceMul, ↓reduceIte, Int.reduceToNat, reduceCtorEq, Int.reduceNeg, Int.reduceAdd, h, m_slices_IndexFunc_impl_Term_impl_Term]
  rw [idxP_any]

def c_impl_hasNames : SC := (.seq (.reg [⟨(some 1), none, (.boxv 42 2 (.t 0))⟩, ⟨(some 2), none, (.mv (.c (.bool false)))⟩]) (.seq (.seq (.reg [⟨(some 3), none, (.faddr 0 (.t 1))⟩, ⟨(some 4), none, (.load false 1 (.t 3))⟩, ⟨(some 5), none, (.call 59 [(.t 4)])⟩]) (.cond (.t 5) (.seq (.reg [⟨(some 6), none, (.faddr 1 (.t 1))⟩, ⟨(some 7), none, (.load false 1 (.t 6))⟩, ⟨(some 8), none, (.len false (.t 7))⟩, ⟨(some 9), none, (.bin .eql false (.t 8) (.c (.int .i64 0)))⟩, ⟨(some 2), none, (.mv (.t 9))⟩]) .ret) .skip)) (.seq (.reg [⟨(some 10), none, (.faddr 0 (.t 1))⟩, ⟨(some 11), none, (.load false 1 (.t 10))⟩, ⟨(some 12), none, (.call 105 [(.t 11)])⟩, ⟨(some 13), none, (.mv (.t 12))⟩, ⟨(some 14), (some (13, true)), (.faddr 1 (.t 1))⟩, ⟨(some 15), (some (13, true)), (.load false 1 (.t 14))⟩, ⟨(some 16), (some (13, true)), (.len false (.t 15))⟩, ⟨(some 17), (some (13, true)), (.bin .leq false (.t 16) (.c (.int .i64 4)))⟩, ⟨(some 18), none, (.pick (.t 13) (.t 17) (.c (.bool false)))⟩, ⟨(some 19), none, (.mv (.t 18))⟩, ⟨(some 20), (some (19, true)), (.faddr 1 (.t 1))⟩, ⟨(some 21), (some (19, true)), (.load false 1 (.t 20))⟩, ⟨(some 22), (some (19, true)), (.call 111 [(.t 21), (.c (.fn 112 []))])⟩, ⟨(some 23), (some (19, true)), (.un .not (.t 22))⟩, ⟨(some 24), none, (.pick (.t 19) (.t 23) (.c (.bool false)))⟩, ⟨(some 2), none, (.mv (.t 24))⟩]) .ret)))
theorem k_impl_hasNames : codeOf Try.prog 69 = some ⟨25, c_impl_hasNames, [(.tmp 2)]⟩ := by kernel_rfl
theorem m_impl_hasNames : modes 69 = ⟨[], .asis, none, false⟩ := by unfold modes; rfl

def c_impl_hasNames_1 : SC := (.seq (.reg [⟨(some 1), none, (.boxv 42 2 (.t 0))⟩, ⟨(some 2), none, (.mv (.c (.bool false)))⟩]) (.seq (.reg [⟨(some 3), none, (.load true 2 (.t 1))⟩, ⟨(some 4), none, (.call 69 [(.t 3)])⟩, ⟨(some 5), none, (.un .not (.t 4))⟩, ⟨(some 2), none, (.mv (.t 5))⟩]) .ret))
theorem k_impl_hasNames_1 : codeOf Try.prog 112 = some ⟨6, c_impl_hasNames_1, [(.tmp 2)]⟩ := by kernel_rfl
theorem m_impl_hasNames_1 : modes 112 = ⟨[], .asis, none, false⟩ := by unfold modes; rfl

theorem g_impl_hasNames_1 : goFn Try.prog 112 = true := by kernel_rfl

theorem Tm.any_not (xs : List Tm) : (!xs.any fun y => !y.names) = Tm.nameS xs := by
  rw [Tm.nameS_all]
  induction xs with
  | nil => rfl
  | cons x xs ih => simp only [List.any_cons, List.all_cons, Bool.not_or, Bool.not_not, ih]
set_option maxHeartbeats 1000000 in
theorem hasNames_of (x : Tm) (hn : x.nodes ≤ 1099511627776) (ih : ∀ y ∈ x.args, E 69 [y.sv] [] = some (.bool y.names, [])) : E 69 [x.sv] [] = some (.bool x.names, []) := by
  have hl := Tm.length_le x.args
  have hx := Tm.nodes_eq x
  have h1 : ∀ y ∈ x.args, E 112 [y.sv] [] = some (.bool (!y.names), []) := fun y hy => by
    have h := ih y hy
    refine E_walk k_impl_hasNames_1 m_impl_hasNames_1 (of_decide_eq_true rfl) ?_
    simp (disch := omega) only [c_impl_hasNames_1, go_sem, go_cond, Nat.reduceAdd, Nat.reduceSub, Nat.reduceLT, Nat.reduceLeDiff, Nat.reduceEqDiff, Nat.reduceBEq, Nat.reduceBneDiff, Nat.reduceMul, ↓reduceIte, Int.reduceToNat, reduceCtorEq, Int.reduceNeg, Int.reduceAdd, h, m_impl_hasNames]
  have h2 := containsFunc_terms 112 (fun y => !y.names) x.args (by omega) g_impl_hasNames_1 (by rw [m_impl_hasNames_1]) h1
  rw [Tm.names_eq, ← Tm.any_not]
  cases hv : varB x.name with
  | true =>
    have h3 := isVariable_E x.name
    rw [hv] at h3
    refine E_walk k_impl_hasNames m_impl_hasNames (of_decide_eq_true rfl) ?_
    simp (disch := omega) only [c_impl_hasNames, go_sem, go_cond, Nat.reduceAdd, Nat.reduceSub, Nat.reduceLT, Nat.reduceLeDiff, Nat.reduceEqDiff, Nat.reduceBEq, Nat.reduceBneDiff, Nat.reduceMul, ↓reduceIte, Int.reduceToNat, reduceCtorEq, Int.reduceNeg, Int.reduceAdd, h3, m_impl_isVariable]
    rw [dec_of]; cases x.args <;> simp <;> omega
  | false =>
    have h3 := isVariable_E x.name
    rw [hv] at h3
    have h4 := isSymbol_E x.name
    cases hs : symB x.name with
    | false =>
      rw [hs] at h4
      refine E_walk k_impl_hasNames m_impl_hasNames (of_decide_eq_true rfl) ?_
      simp (disch := omega) only [c_impl_hasNames, go_sem, go_cond, Nat.reduceAdd, Nat.reduceSub, Nat.reduceLT, Nat.reduceLeDiff, Nat.reduceEqDiff, Nat.reduceBEq, Nat.reduceBneDiff, Nat.reduceMul, ↓reduceIte, Int.reduceToNat, reduceCtorEq, Int.reduceNeg, Int.reduceAdd, h2, h3, h4, m_impl_isVariable, m_impl_isSymbol]
    | true =>
      rw [hs] at h4
      rcases Nat.lt_or_ge 4 x.args.length with h5 | h5
      · refine E_walk k_impl_hasNames m_impl_hasNames (of_decide_eq_true rfl) ?_
        simp (disch := omega) only [c_impl_hasNames, go_sem, go_cond, Nat.reduceAdd, Nat.reduceSub, Nat.reduceLT, Nat.reduceLeDiff, Nat.reduceEqDiff, Nat.reduceBEq, Nat.reduceBneDiff, Nat.reduceMul, ↓reduceIte, Int.reduceToNat, reduceCtorEq, Int.reduceNeg, Int.reduceAdd, h2, h3, h4, m_impl_isVariable, m_impl_isSymbol]
        simp; omega
      · refine E_walk k_impl_hasNames m_impl_hasNames (of_decide_eq_true rfl) ?_
        simp (disch := omega) only [c_impl_hasNames, go_sem, go_cond, Nat.reduceAdd, Nat.reduceSub, Nat.reduceLT, Nat.reduceLeDiff, Nat.reduceEqDiff, Nat.reduceBEq, Nat.reduceBneDiff, Nat.reduceMul, ↓reduceIte, Int.reduceToNat, reduceCtorEq, Int.reduceNeg, Int.reduceAdd, h2, h3, h4, m_impl_isVariable, m_impl_isSymbol, m_slices_ContainsFunc_impl_Term_impl_Term]
        simp [h5]
theorem hasNames_E (x : Tm) (hn : x.nodes ≤ 1099511627776) : E 69 [x.sv] [] = some (.bool x.names, []) :=
  hasNames_of x hn fun y hy => hasNames_E y (by have := Tm.nodes_mem hy; have := Tm.nodes_eq x; omega)
termination_by SizeOf.sizeOf x
decreasing_by exact Tm.lt_of_mem hy

def c_spec_l2Nodes : SC := (.seq (.reg [⟨(some 1), none, (.boxv 42 2 (.t 0))⟩, ⟨(some 2), none, (.mv (.c (.bool false)))⟩]) (.seq (.seq (.reg [⟨(some 4), none, (.faddr 0 (.t 1))⟩, ⟨(some 5), none, (.load false 1 (.t 4))⟩, ⟨(some 6), none, (.call 54 [(.t 5)])⟩]) (.cond (.t 6) (.seq (.reg [⟨(some 7), none, (.faddr 1 (.t 1))⟩, ⟨(some 8), none, (.load false 1 (.t 7))⟩, ⟨(some 9), none, (.len false (.t 8))⟩, ⟨(some 10), none, (.bin .eql false (.t 9) (.c (.int .i64 0)))⟩, ⟨(some 2), none, (.mv (.t 10))⟩]) .ret) .skip)) (.seq (.seq (.reg [⟨(some 11), none, (.faddr 0 (.t 1))⟩, ⟨(some 12), none, (.load false 1 (.t 11))⟩, ⟨(some 13), none, (.call 97 [(.t 12)])⟩, ⟨(some 14), none, (.un .not (.t 13))⟩, ⟨(some 15), none, (.mv (.t 14))⟩, ⟨(some 16), (some (15, false)), (.faddr 1 (.t 1))⟩, ⟨(some 17), (some (15, false)), (.load false 1 (.t 16))⟩, ⟨(some 18), (some (15, false)), (.len false (.t 17))⟩, ⟨(some 19), (some (15, false)), (.bin .gtr false (.t 18) (.c (.int .i64 4)))⟩, ⟨(some 20), none, (.pick (.t 15) (.c (.bool true)) (.t 19))⟩]) (.cond (.t 20) (.seq (.reg [⟨(some 2), none, (.mv (.c (.bool false)))⟩]) .ret) .skip)) (.seq (.seq (.reg [⟨(some 3), none, (.mv (.c (.int .i64 0)))⟩]) (.block 0 (.loop [0, 1, 0, 1, 0, 0, 0, 0, 0, 0, 0, 0, 0, 0, 0, 0, 0, 0, 0, 0, 0, 0, 0, 0, 0, 0, 0, 0, 0, 0, 0, 0, 0, 0, 0] (.seq (.seq (.reg [⟨(some 21), none, (.mv (.t 3))⟩, ⟨(some 22), none, (.faddr 1 (.t 1))⟩, ⟨(some 23), none, (.load false 1 (.t 22))⟩, ⟨(some 24), none, (.len false (.t 23))⟩, ⟨(some 25), none, (.bin .lss false (.t 21) (.t 24))⟩]) (.cond (.t 25) .skip (.exit 0))) (.seq (.block 1 (.seq (.reg [⟨(some 28), none, (.faddr 1 (.t 1))⟩, ⟨(some 29), none, (.load false 1 (.t 28))⟩, ⟨(some 30), none, (.mv (.t 3))⟩, ⟨(some 31), none, (.iaddr 2 (.t 29) (.t 30))⟩, ⟨(some 32), none, (.load true 2 (.t 31))⟩, ⟨(some 33), none, (.call 56 [(.t 32)])⟩, ⟨(some 34), none, (.un .not (.t 33))⟩]) (.cond (.t 34) (.seq (.reg [⟨(some 2), none, (.mv (.c (.bool false)))⟩]) .ret) .skip))) (.reg [⟨(some 26), none, (.mv (.t 3))⟩, ⟨(some 27), none, (.bin .add false (.t 26) (.c (.int .i64 1)))⟩, ⟨(some 3), none, (.mv (.t 27))⟩])))))) (.seq (.reg [⟨(some 2), none, (.mv (.c (.bool true)))⟩]) .ret)))))
theorem k_spec_l2Nodes : codeOf Try.prog 56 = some ⟨35, c_spec_l2Nodes, [(.tmp 2)]⟩ := by kernel_rfl
theorem m_spec_l2Nodes : modes 56 = ⟨[], .asis, none, false⟩ := by unfold modes; rfl

set_option maxHeartbeats 1000000 in
theorem l2Nodes_of (x : Tm) (hn : x.nodes ≤ 1099511627776) (ih : ∀ y ∈ x.args, E 56 [y.sv] [] = some (.bool y.names, [])) : E 56 [x.sv] [] = some (.bool x.names, []) := by
  have hl := Tm.length_le x.args
  have hx := Tm.nodes_eq x
  have h3 := l2Var_E x.name
  have h4 := l2Symbol_E x.name
  rw [Tm.names_eq]
  cases hv : varB x.name with
  | true =>
    rw [hv] at h3
    refine E_walk k_spec_l2Nodes m_spec_l2Nodes (of_decide_eq_true rfl) ?_
    simp (disch := omega) only [c_spec_l2Nodes, go_sem, go_cond, Nat.reduceAdd, Nat.reduceSub, Nat.reduceLT, Nat.reduceLeDiff, Nat.reduceEqDiff, Nat.reduceBEq, Nat.reduceBneDiff, Nat.reduceMul, ↓reduceIte, Int.reduceToNat, reduceCtorEq, Int.reduceNeg, Int.reduceAdd, h3, m_spec_l2Var]
    rw [dec_of]; cases x.args <;> simp <;> omega
  | false =>
    rw [hv] at h3
    cases hs : symB x.name with
    | false =>
      rw [hs] at h4
      refine E_walk k_spec_l2Nodes m_spec_l2Nodes (of_decide_eq_true rfl) ?_
      simp (disch := omega) only [c_spec_l2Nodes, go_sem, go_cond, Nat.reduceAdd, Nat.reduceSub, Nat.reduceLT, Nat.reduceLeDiff, Nat.reduceEqDiff, Nat.reduceBEq, Nat.reduceBneDiff, Nat.reduceMul, ↓reduceIte, Int.reduceToNat, reduceCtorEq, Int.reduceNeg, Int.reduceAdd, h3, h4, m_spec_l2Var, m_spec_l2Symbol]
    | true =>
      rw [hs] at h4
      rcases Nat.lt_or_ge 4 x.args.length with h5 | h5
      · refine E_walk k_spec_l2Nodes m_spec_l2Nodes (of_decide_eq_true rfl) ?_
        simp (disch := omega) only [c_spec_l2Nodes, go_sem, go_cond, Nat.reduceAdd, Nat.reduceSub, Nat.reduceLT, Nat.reduceLeDiff, Nat.reduceEqDiff, Nat.reduceBEq, Nat.reduceBneDiff, Nat.reduceMul, ↓reduceIte, Int.reduceToNat, reduceCtorEq, Int.reduceNeg, Int.reduceAdd, h3, h4, m_spec_l2Var, m_spec_l2Symbol]
        simp; omega
      · refine E_walk k_spec_l2Nodes m_spec_l2Nodes (of_decide_eq_true rfl) ?_
        simp (disch := omega) only [c_spec_l2Nodes, go_sem, go_cond, Nat.reduceAdd, Nat.reduceSub, Nat.reduceLT, Nat.reduceLeDiff, Nat.reduceEqDiff, Nat.reduceBEq, Nat.reduceBneDiff, Nat.reduceMul, ↓reduceIte, Int.reduceToNat, reduceCtorEq, Int.reduceNeg, Int.reduceAdd, h3, h4, m_spec_l2Var, m_spec_l2Symbol]
        refine go_loop (α := Int) (fun a => ⟨slots 35 0 [(1, .ptr 0 0), (3, .int .i64 a)], [.box 42 [.str x.name, .arr (x.args.map Tm.d)]]⟩) (fun a => ∃ k : Nat, a = k ∧ k ≤ (x.args).length ∧ Tm.nameS (x.args.drop k) = Tm.nameS x.args) (fun a => (x.args).length - (a).toNat) 0 ⟨0, rfl, Nat.zero_le _, by rw [List.drop_zero]⟩ (by simp (disch := omega) only [go_sem, go_cond, Nat.reduceAdd, Nat.reduceSub, Nat.reduceLT, Nat.reduceLeDiff, Nat.reduceEqDiff, Nat.reduceBEq, Nat.reduceBneDiff, Nat.reduceMul, ↓reduceIte, Int.reduceToNat, reduceCtorEq, Int.reduceNeg, Int.reduceAdd]) ?_
        rintro i ⟨k, hi, hk, hR⟩
        have hni : i.toNat = k := by omega
        have hni1 : (i + 1).toNat = k + 1 := by omega
        rcases Nat.lt_or_ge k (x.args).length with hlt | hge
        · have hg := get_at Tm.d hlt
          rw [Tm.d_eq] at hg
          have hc := ih x.args[k] (List.getElem_mem hlt)
          rw [List.drop_eq_getElem_cons hlt, Tm.nameS] at hR
          cases hp : x.args[k].names with
          | true =>
            rw [hp] at hc hR
            simp (disch := omega) only [go_sem, go_cond, Nat.reduceAdd, Nat.reduceSub, Nat.reduceLT, Nat.reduceLeDiff, Nat.reduceEqDiff, Nat.reduceBEq, Nat.reduceBneDiff, Nat.reduceMul, ↓reduceIte, Int.reduceToNat, reduceCtorEq, Int.reduceNeg, Int.reduceAdd, hni, hg, hc, m_spec_l2Nodes]
            exact ⟨i + 1, ⟨k + 1, by omega, hlt, by simpa using hR⟩, by omega, by first | trivial | rfl⟩
          | false =>
            rw [hp] at hc hR
            simp (disch := omega) only [go_sem, go_cond, Nat.reduceAdd, Nat.reduceSub, Nat.reduceLT, Nat.reduceLeDiff, Nat.reduceEqDiff, Nat.reduceBEq, Nat.reduceBneDiff, Nat.reduceMul, ↓reduceIte, Int.reduceToNat, reduceCtorEq, Int.reduceNeg, Int.reduceAdd, hni, hg, hc, m_spec_l2Nodes]
            simp at hR ⊢; exact fun _ => hR
        · rw [List.drop_eq_nil_of_le hge, Tm.nameS] at hR
          simp (disch := omega) only [go_sem, go_cond, Nat.reduceAdd, Nat.reduceSub, Nat.reduceLT, Nat.reduceLeDiff, Nat.reduceEqDiff, Nat.reduceBEq, Nat.reduceBneDiff, Nat.reduceMul, ↓reduceIte, Int.reduceToNat, reduceCtorEq, Int.reduceNeg, Int.reduceAdd, hni]
          simp [h5, ← hR]
theorem l2Nodes_E (x : Tm) (hn : x.nodes ≤ 1099511627776) : E 56 [x.sv] [] = some (.bool x.names, []) :=
  l2Nodes_of x hn fun y hy => l2Nodes_E y (by have := Tm.nodes_mem hy; have := Tm.nodes_eq x; omega)
termination_by SizeOf.sizeOf x
decreasing_by exact Tm.lt_of_mem hy
end Go.Proofs.Ytpmeabbfpabglaa

set_option maxRecDepth 100000
set_option linter.unusedSimpArgs false
set_option linter.unusedVariables false
namespace Go.Proofs.Ytpmeabbfpabglaa
open Go.RowKit

def c_impl_isSmall : SC := (.seq (.reg [⟨(some 1), none, (.boxv 42 2 (.t 0))⟩, ⟨(some 2), none, (.mv (.c (.bool false)))⟩]) (.seq (.reg [⟨(some 3), none, (.load true 2 (.t 1))⟩, ⟨(some 4), none, (.call 109 [(.t 3)])⟩, ⟨(some 5), none, (.bin .leq false (.t 4) (.c (.int .i64 30)))⟩, ⟨(some 6), none, (.mv (.t 5))⟩, ⟨(some 7), (some (6, true)), (.load true 2 (.t 1))⟩, ⟨(some 8), (some (6, true)), (.call 110 [(.t 7)])⟩, ⟨(some 9), (some (6, true)), (.bin .leq false (.t 8) (.c (.int .i64 8)))⟩, ⟨(some 10), none, (.pick (.t 6) (.t 9) (.c (.bool false)))⟩, ⟨(some 2), none, (.mv (.t 10))⟩]) .ret))
theorem k_impl_isSmall : codeOf Try.prog 68 = some ⟨11, c_impl_isSmall, [(.tmp 2)]⟩ := by kernel_rfl
theorem m_impl_isSmall : modes 68 = ⟨[], .asis, none, false⟩ := by unfold modes; rfl

def c_spec_l2Fits : SC := (.seq (.reg [⟨(some 1), none, (.boxv 42 2 (.t 0))⟩, ⟨(some 2), none, (.mv (.c (.bool false)))⟩]) (.seq (.reg [⟨(some 3), none, (.load true 2 (.t 1))⟩, ⟨(some 4), none, (.call 99 [(.t 3), (.c (.int .i64 30))])⟩, ⟨(some 5), none, (.bin .leq false (.t 4) (.c (.int .i64 30)))⟩, ⟨(some 6), none, (.mv (.t 5))⟩, ⟨(some 7), (some (6, true)), (.load true 2 (.t 1))⟩, ⟨(some 8), (some (6, true)), (.call 100 [(.t 7)])⟩, ⟨(some 9), (some (6, true)), (.bin .leq false (.t 8) (.c (.int .i64 8)))⟩, ⟨(some 10), none, (.pick (.t 6) (.t 9) (.c (.bool false)))⟩, ⟨(some 2), none, (.mv (.t 10))⟩]) .ret))
theorem k_spec_l2Fits : codeOf Try.prog 55 = some ⟨11, c_spec_l2Fits, [(.tmp 2)]⟩ := by kernel_rfl
theorem m_spec_l2Fits : modes 55 = ⟨[], .asis, none, false⟩ := by unfold modes; rfl

def c_impl_IsValidTerm : SC := (.seq (.reg [⟨(some 1), none, (.boxv 42 2 (.t 0))⟩, ⟨(some 2), none, (.mv (.c (.bool false)))⟩]) (.seq (.reg [⟨(some 3), none, (.load true 2 (.t 1))⟩, ⟨(some 4), none, (.call 68 [(.t 3)])⟩, ⟨(some 5), none, (.mv (.t 4))⟩, ⟨(some 6), (some (5, true)), (.load true 2 (.t 1))⟩, ⟨(some 7), (some (5, true)), (.call 69 [(.t 6)])⟩, ⟨(some 8), none, (.pick (.t 5) (.t 7) (.c (.bool false)))⟩, ⟨(some 2), none, (.mv (.t 8))⟩]) .ret))
theorem k_impl_IsValidTerm : codeOf Try.prog 33 = some ⟨9, c_impl_IsValidTerm, [(.tmp 2)]⟩ := by kernel_rfl
theorem m_impl_IsValidTerm : modes 33 = ⟨[], .asis, none, false⟩ := by unfold modes; rfl

def c_spec_l2Good : SC := (.seq (.reg [⟨(some 1), none, (.boxv 42 2 (.t 0))⟩, ⟨(some 2), none, (.mv (.c (.bool false)))⟩]) (.seq (.reg [⟨(some 3), none, (.load true 2 (.t 1))⟩, ⟨(some 4), none, (.call 55 [(.t 3)])⟩, ⟨(some 5), none, (.mv (.t 4))⟩, ⟨(some 6), (some (5, true)), (.load true 2 (.t 1))⟩, ⟨(some 7), (some (5, true)), (.call 56 [(.t 6)])⟩, ⟨(some 8), none, (.pick (.t 5) (.t 7) (.c (.bool false)))⟩, ⟨(some 2), none, (.mv (.t 8))⟩]) .ret))
theorem k_spec_l2Good : codeOf Try.prog 26 = some ⟨9, c_spec_l2Good, [(.tmp 2)]⟩ := by kernel_rfl
theorem m_spec_l2Good : modes 26 = ⟨[], .asis, none, false⟩ := by unfold modes; rfl

def c_impl_isEquality : SC := (.seq (.reg [⟨(some 1), none, (.boxv 42 2 (.t 0))⟩, ⟨(some 2), none, (.mv (.c (.bool false)))⟩]) (.seq (.reg [⟨(some 3), none, (.faddr 0 (.t 1))⟩, ⟨(some 4), none, (.load false 1 (.t 3))⟩, ⟨(some 5), none, (.bin .eql false (.t 4) (.c (.str ⟨#[61]⟩)))⟩, ⟨(some 2), none, (.mv (.t 5))⟩]) .ret))
theorem k_impl_isEquality : codeOf Try.prog 91 = some ⟨6, c_impl_isEquality, [(.tmp 2)]⟩ := by kernel_rfl
theorem m_impl_isEquality : modes 91 = ⟨[], .asis, none, false⟩ := by unfold modes; rfl

def c_impl_IsValidAtom : SC := (.seq (.reg [⟨(some 1), none, (.boxv 42 2 (.t 0))⟩, ⟨(some 2), none, (.mv (.c (.bool false)))⟩]) (.seq (.seq (.reg [⟨(some 3), none, (.load true 2 (.t 1))⟩, ⟨(some 4), none, (.call 91 [(.t 3)])⟩]) (.cond (.t 4) (.seq (.reg [⟨(some 5), none, (.faddr 1 (.t 1))⟩, ⟨(some 6), none, (.load false 1 (.t 5))⟩, ⟨(some 7), none, (.len false (.t 6))⟩, ⟨(some 8), none, (.bin .eql false (.t 7) (.c (.int .i64 2)))⟩, ⟨(some 9), none, (.mv (.t 8))⟩, ⟨(some 10), (some (9, true)), (.load true 2 (.t 1))⟩, ⟨(some 11), (some (9, true)), (.call 68 [(.t 10)])⟩, ⟨(some 12), none, (.pick (.t 9) (.t 11) (.c (.bool false)))⟩, ⟨(some 13), none, (.mv (.t 12))⟩, ⟨(some 14), (some (13, true)), (.faddr 1 (.t 1))⟩, ⟨(some 15), (some (13, true)), (.load false 1 (.t 14))⟩, ⟨(some 16), (some (13, true)), (.iaddr 2 (.t 15) (.c (.int .i64 0)))⟩, ⟨(some 17), (some (13, true)), (.load true 2 (.t 16))⟩, ⟨(some 18), (some (13, true)), (.call 69 [(.t 17)])⟩, ⟨(some 19), none, (.pick (.t 13) (.t 18) (.c (.bool false)))⟩, ⟨(some 20), none, (.mv (.t 19))⟩, ⟨(some 21), (some (20, true)), (.faddr 1 (.t 1))⟩, ⟨(some 22), (some (20, true)), (.load false 1 (.t 21))⟩, ⟨(some 23), (some (20, true)), (.iaddr 2 (.t 22) (.c (.int .i64 1)))⟩, ⟨(some 24), (some (20, true)), (.load true 2 (.t 23))⟩, ⟨(some 25), (some (20, true)), (.call 69 [(.t 24)])⟩, ⟨(some 26), none, (.pick (.t 20) (.t 25) (.c (.bool false)))⟩, ⟨(some 2), none, (.mv (.t 26))⟩]) .ret) .skip)) (.seq (.reg [⟨(some 27), none, (.faddr 0 (.t 1))⟩, ⟨(some 28), none, (.load false 1 (.t 27))⟩, ⟨(some 29), none, (.call 105 [(.t 28)])⟩, ⟨(some 30), none, (.mv (.t 29))⟩, ⟨(some 31), (some (30, true)), (.load true 2 (.t 1))⟩, ⟨(some 32), (some (30, true)), (.call 33 [(.t 31)])⟩, ⟨(some 33), none, (.pick (.t 30) (.t 32) (.c (.bool false)))⟩, ⟨(some 2), none, (.mv (.t 33))⟩]) .ret)))
theorem k_impl_IsValidAtom : codeOf Try.prog 123 = some ⟨34, c_impl_IsValidAtom, [(.tmp 2)]⟩ := by kernel_rfl
theorem m_impl_IsValidAtom : modes 123 = ⟨[], .asis, none, false⟩ := by unfold modes; rfl

def c_spec_l2Atom : SC := (.seq (.reg [⟨(some 1), none, (.boxv 42 2 (.t 0))⟩, ⟨(some 2), none, (.mv (.c (.bool false)))⟩]) (.seq (.seq (.reg [⟨(some 3), none, (.faddr 0 (.t 1))⟩, ⟨(some 4), none, (.load false 1 (.t 3))⟩, ⟨(some 5), none, (.bin .eql false (.t 4) (.c (.str ⟨#[61]⟩)))⟩]) (.cond (.t 5) (.seq (.reg [⟨(some 6), none, (.faddr 1 (.t 1))⟩, ⟨(some 7), none, (.load false 1 (.t 6))⟩, ⟨(some 8), none, (.len false (.t 7))⟩, ⟨(some 9), none, (.bin .eql false (.t 8) (.c (.int .i64 2)))⟩, ⟨(some 10), none, (.mv (.t 9))⟩, ⟨(some 11), (some (10, true)), (.load true 2 (.t 1))⟩, ⟨(some 12), (some (10, true)), (.call 55 [(.t 11)])⟩, ⟨(some 13), none, (.pick (.t 10) (.t 12) (.c (.bool false)))⟩, ⟨(some 14), none, (.mv (.t 13))⟩, ⟨(some 15), (some (14, true)), (.faddr 1 (.t 1))⟩, ⟨(some 16), (some (14, true)), (.load false 1 (.t 15))⟩, ⟨(some 17), (some (14, true)), (.iaddr 2 (.t 16) (.c (.int .i64 0)))⟩, ⟨(some 18), (some (14, true)), (.load true 2 (.t 17))⟩, ⟨(some 19), (some (14, true)), (.call 56 [(.t 18)])⟩, ⟨(some 20), none, (.pick (.t 14) (.t 19) (.c (.bool false)))⟩, ⟨(some 21), none, (.mv (.t 20))⟩, ⟨(some 22), (some (21, true)), (.faddr 1 (.t 1))⟩, ⟨(some 23), (some (21, true)), (.load false 1 (.t 22))⟩, ⟨(some 24), (some (21, true)), (.iaddr 2 (.t 23) (.c (.int .i64 1)))⟩, ⟨(some 25), (some (21, true)), (.load true 2 (.t 24))⟩, ⟨(some 26), (some (21, true)), (.call 56 [(.t 25)])⟩, ⟨(some 27), none, (.pick (.t 21) (.t 26) (.c (.bool false)))⟩, ⟨(some 2), none, (.mv (.t 27))⟩]) .ret) .skip)) (.seq (.reg [⟨(some 28), none, (.faddr 0 (.t 1))⟩, ⟨(some 29), none, (.load false 1 (.t 28))⟩, ⟨(some 30), none, (.call 97 [(.t 29)])⟩, ⟨(some 31), none, (.mv (.t 30))⟩, ⟨(some 32), (some (31, true)), (.load true 2 (.t 1))⟩, ⟨(some 33), (some (31, true)), (.call 26 [(.t 32)])⟩, ⟨(some 34), none, (.pick (.t 31) (.t 33) (.c (.bool false)))⟩, ⟨(some 2), none, (.mv (.t 34))⟩]) .ret)))
theorem k_spec_l2Atom : codeOf Try.prog 137 = some ⟨35, c_spec_l2Atom, [(.tmp 2)]⟩ := by kernel_rfl
theorem m_spec_l2Atom : modes 137 = ⟨[], .asis, none, false⟩ := by unfold modes; rfl



theorem isSmall_E (x : Tm) (hn : x.nodes ≤ 1099511627776) : E 68 [x.sv] [] = some (.bool x.small, []) := by
  have h1 := size_E x hn
  have h2 := depth_E x hn
  have h3 := Tm.cap_spec x
  have h4 := Tm.many_spec x 30
  unfold Tm.small
  rcases Nat.lt_or_ge 30 x.nodes with h5 | h5
  · rw [decide_eq_false (by omega), Bool.false_and]
    refine E_walk k_impl_isSmall m_impl_isSmall (of_decide_eq_true rfl) ?_
    simp (disch := omega) only [c_impl_isSmall, go_sem, go_cond, Nat.reduceAdd, Nat.reduceSub, Nat.reduceLT, Nat.reduceLeDiff, Nat.reduceEqDiff, Nat.reduceBEq, Nat.reduceBneDiff, Nat.reduceMul, ↓reduceIte, Int.reduceToNat, reduceCtorEq, Int.reduceNeg, Int.reduceAdd, h1, h2, m_impl_size, m_impl_depth]
  · rw [decide_eq_true h5, Bool.true_and]
    refine E_walk k_impl_isSmall m_impl_isSmall (of_decide_eq_true rfl) ?_
    simp (disch := omega) only [c_impl_isSmall, go_sem, go_cond, Nat.reduceAdd, Nat.reduceSub, Nat.reduceLT, Nat.reduceLeDiff, Nat.reduceEqDiff, Nat.reduceBEq, Nat.reduceBneDiff, Nat.reduceMul, ↓reduceIte, Int.reduceToNat, reduceCtorEq, Int.reduceNeg, Int.reduceAdd, h1, h2, m_impl_size, m_impl_depth]
    rcases Nat.lt_or_ge 8 x.deep with h6 | h6
    · rw [decide_eq_false (by omega), dec_f (by omega)]
    · rw [decide_eq_true h6, dec_t (by omega)]
theorem l2Fits_E (x : Tm) (hn : x.nodes ≤ 1099511627776) : E 55 [x.sv] [] = some (.bool x.small, []) := by
  have h1 := many_E x 30 (by omega) (by omega) hn
  have h2 := l2Depth_E x hn
  have h3 := Tm.cap_spec x
  have h4 := Tm.many_spec x 30
  unfold Tm.small
  rcases Nat.lt_or_ge 30 x.nodes with h5 | h5
  · rw [decide_eq_false (by omega), Bool.false_and]
    refine E_walk k_spec_l2Fits m_spec_l2Fits (of_decide_eq_true rfl) ?_
    simp (disch := omega) only [c_spec_l2Fits, go_sem, go_cond, Nat.reduceAdd, Nat.reduceSub, Nat.reduceLT, Nat.reduceLeDiff, Nat.reduceEqDiff, Nat.reduceBEq, Nat.reduceBneDiff, Nat.reduceMul, ↓reduceIte, Int.reduceToNat, reduceCtorEq, Int.reduceNeg, Int.reduceAdd, h1, h2, m_spec_l2Many, m_spec_l2Depth]
  · rw [decide_eq_true h5, Bool.true_and]
    refine E_walk k_spec_l2Fits m_spec_l2Fits (of_decide_eq_true rfl) ?_
    simp (disch := omega) only [c_spec_l2Fits, go_sem, go_cond, Nat.reduceAdd, Nat.reduceSub, Nat.reduceLT, Nat.reduceLeDiff, Nat.reduceEqDiff, Nat.reduceBEq, Nat.reduceBneDiff, Nat.reduceMul, ↓reduceIte, Int.reduceToNat, reduceCtorEq, Int.reduceNeg, Int.reduceAdd, h1, h2, m_spec_l2Many, m_spec_l2Depth]
    rcases Nat.lt_or_ge 8 x.deep with h6 | h6
    · rw [decide_eq_false (by omega), dec_f (by omega)]
    · rw [decide_eq_true h6, dec_t (by omega)]
theorem isValidTerm_E (x : Tm) (hn : x.nodes ≤ 1099511627776) : E 33 [x.sv] [] = some (.bool x.valid, []) := by
  have h1 := isSmall_E x hn
  have h2 := hasNames_E x hn
  unfold Tm.valid
  cases h3 : x.small <;> rw [h3] at h1
  · refine E_walk k_impl_IsValidTerm m_impl_IsValidTerm (of_decide_eq_true rfl) ?_
    simp (disch := omega) only [c_impl_IsValidTerm, go_sem, go_cond, Nat.reduceAdd, Nat.reduceSub, Nat.reduceLT, Nat.reduceLeDiff, Nat.reduceEqDiff, Nat.reduceBEq, Nat.reduceBneDiff, Nat.reduceMul, ↓reduceIte, Int.reduceToNat, reduceCtorEq, Int.reduceNeg, Int.reduceAdd, h1, h2, m_impl_isSmall, m_impl_hasNames]
  · refine E_walk k_impl_IsValidTerm m_impl_IsValidTerm (of_decide_eq_true rfl) ?_
    simp (disch := omega) only [c_impl_IsValidTerm, go_sem, go_cond, Nat.reduceAdd, Nat.reduceSub, Nat.reduceLT, Nat.reduceLeDiff, Nat.reduceEqDiff, Nat.reduceBEq, Nat.reduceBneDiff, Nat.reduceMul, ↓reduceIte, Int.reduceToNat, reduceCtorEq, Int.reduceNeg, Int.reduceAdd, h1, h2, m_impl_isSmall, m_impl_hasNames]
theorem l2Good_E (x : Tm) (hn : x.nodes ≤ 1099511627776) : E 26 [x.sv] [] = some (.bool x.valid, []) := by
  have h1 := l2Fits_E x hn
  have h2 := l2Nodes_E x hn
  unfold Tm.valid
  cases h3 : x.small <;> rw [h3] at h1
  · refine E_walk k_spec_l2Good m_spec_l2Good (of_decide_eq_true rfl) ?_
    simp (disch := omega) only [c_spec_l2Good, go_sem, go_cond, Nat.reduceAdd, Nat.reduceSub, Nat.reduceLT, Nat.reduceLeDiff, Nat.reduceEqDiff, Nat.reduceBEq, Nat.reduceBneDiff, Nat.reduceMul, ↓reduceIte, Int.reduceToNat, reduceCtorEq, Int.reduceNeg, Int.reduceAdd, h1, h2, m_spec_l2Fits, m_spec_l2Nodes]
  · refine E_walk k_spec_l2Good m_spec_l2Good (of_decide_eq_true rfl) ?_
    simp (disch := omega) only [c_spec_l2Good, go_sem, go_cond, Nat.reduceAdd, Nat.reduceSub, Nat.reduceLT, Nat.reduceLeDiff, Nat.reduceEqDiff, Nat.reduceBEq, Nat.reduceBneDiff, Nat.reduceMul, ↓reduceIte, Int.reduceToNat, reduceCtorEq, Int.reduceNeg, Int.reduceAdd, h1, h2, m_spec_l2Fits, m_spec_l2Nodes]
theorem isEquality_E (x : Tm) : E 91 [x.sv] [] = some (.bool x.eqn, []) := by
  unfold Tm.eqn
  refine E_walk k_impl_isEquality m_impl_isEquality (of_decide_eq_true rfl) ?_
  simp (disch := omega) only [c_impl_isEquality, go_sem, go_cond, Nat.reduceAdd, Nat.reduceSub, Nat.reduceLT, Nat.reduceLeDiff, Nat.reduceEqDiff, Nat.reduceBEq, Nat.reduceBneDiff, Nat.reduceMul, ↓reduceIte, Int.reduceToNat, reduceCtorEq, Int.reduceNeg, Int.reduceAdd]
set_option maxHeartbeats 1000000 in
theorem isValidAtom_E (x : Tm) (hn : x.nodes ≤ 1099511627776) : E 123 [x.sv] [] = some (.bool x.atom, []) := by
  have hl := Tm.length_le x.args
  have hx := Tm.nodes_eq x
  have h0 := isEquality_E x
  have h1 := isSmall_E x hn
  have h2 := isSymbol_E x.name
  have h3 := isValidTerm_E x hn
  have hE : dec (x.name = ⟨#[61]⟩) = x.eqn := rfl
  unfold Tm.atom
  cases he : x.eqn <;> rw [he] at h0 hE
  · rw [if_neg (by simp)]
    cases hs : symB x.name <;> rw [hs] at h2
    · refine E_walk k_impl_IsValidAtom m_impl_IsValidAtom (of_decide_eq_true rfl) ?_
      simp (disch := omega) only [c_impl_IsValidAtom, go_sem, go_cond, Nat.reduceAdd, Nat.reduceSub, Nat.reduceLT, Nat.reduceLeDiff, Nat.reduceEqDiff, Nat.reduceBEq, Nat.reduceBneDiff, Nat.reduceMul, ↓reduceIte, Int.reduceToNat, reduceCtorEq, Int.reduceNeg, Int.reduceAdd, h0, h1, h2, h3, hE, m_impl_isSmall, m_impl_hasNames, m_impl_isSymbol, m_impl_IsValidTerm, m_impl_isEquality]
    · refine E_walk k_impl_IsValidAtom m_impl_IsValidAtom (of_decide_eq_true rfl) ?_
      simp (disch := omega) only [c_impl_IsValidAtom, go_sem, go_cond, Nat.reduceAdd, Nat.reduceSub, Nat.reduceLT, Nat.reduceLeDiff, Nat.reduceEqDiff, Nat.reduceBEq, Nat.reduceBneDiff, Nat.reduceMul, ↓reduceIte, Int.reduceToNat, reduceCtorEq, Int.reduceNeg, Int.reduceAdd, h0, h1, h2, h3, hE, m_impl_isSmall, m_impl_hasNames, m_impl_isSymbol, m_impl_IsValidTerm, m_impl_isEquality]
  · rw [if_pos rfl]
    by_cases hc : x.args.length = 2
    · have hlt0 : 0 < x.args.length := by omega
      have hlt1 : 1 < x.args.length := by omega
      have hg0 := get_at Tm.d hlt0
      have hg1 := get_at Tm.d hlt1
      rw [Tm.d_eq] at hg0 hg1
      have hb0 := Tm.nodes_le x.args 0 hlt0
      have hb1 := Tm.nodes_le x.args 1 hlt1
      have hn0 := hasNames_E x.args[0] (by omega)
      have hn1 := hasNames_E x.args[1] (by omega)
      rw [nameS_two hc, show (x.args.length == 2) = true by simpa using hc]
      cases hs : x.small <;> rw [hs] at h1
      · refine E_walk k_impl_IsValidAtom m_impl_IsValidAtom (of_decide_eq_true rfl) ?_
        simp (disch := omega) only [c_impl_IsValidAtom, go_sem, go_cond, Nat.reduceAdd, Nat.reduceSub, Nat.reduceLT, Nat.reduceLeDiff, Nat.reduceEqDiff, Nat.reduceBEq, Nat.reduceBneDiff, Nat.reduceMul, ↓reduceIte, Int.reduceToNat, reduceCtorEq, Int.reduceNeg, Int.reduceAdd, h0, h1, h2, h3, hE, hg0, hg1, hn0, hn1, hc, m_impl_isSmall, m_impl_hasNames, m_impl_isSymbol, m_impl_IsValidTerm, m_impl_isEquality]
        try simp
      · cases hq : (x.args[0]'hlt0).names <;> rw [hq] at hn0
        · refine E_walk k_impl_IsValidAtom m_impl_IsValidAtom (of_decide_eq_true rfl) ?_
          simp (disch := omega) only [c_impl_IsValidAtom, go_sem, go_cond, Nat.reduceAdd, Nat.reduceSub, Nat.reduceLT, Nat.reduceLeDiff, Nat.reduceEqDiff, Nat.reduceBEq, Nat.reduceBneDiff, Nat.reduceMul, ↓reduceIte, Int.reduceToNat, reduceCtorEq, Int.reduceNeg, Int.reduceAdd, h0, h1, h2, h3, hE, hg0, hg1, hn0, hn1, hc, m_impl_isSmall, m_impl_hasNames, m_impl_isSymbol, m_impl_IsValidTerm, m_impl_isEquality]
          try simp
        · refine E_walk k_impl_IsValidAtom m_impl_IsValidAtom (of_decide_eq_true rfl) ?_
          simp (disch := omega) only [c_impl_IsValidAtom, go_sem, go_cond, Nat.reduceAdd, Nat.reduceSub, Nat.reduceLT, Nat.reduceLeDiff, Nat.reduceEqDiff, Nat.reduceBEq, Nat.reduceBneDiff, Nat.reduceMul, ↓reduceIte, Int.reduceToNat, reduceCtorEq, Int.reduceNeg, Int.reduceAdd, h0, h1, h2, h3, hE, hg0, hg1, hn0, hn1, hc, m_impl_isSmall, m_impl_hasNames, m_impl_isSymbol, m_impl_IsValidTerm, m_impl_isEquality]
          try simp
    · refine E_walk k_impl_IsValidAtom m_impl_IsValidAtom (of_decide_eq_true rfl) ?_
      simp (disch := omega) only [c_impl_IsValidAtom, go_sem, go_cond, Nat.reduceAdd, Nat.reduceSub, Nat.reduceLT, Nat.reduceLeDiff, Nat.reduceEqDiff, Nat.reduceBEq, Nat.reduceBneDiff, Nat.reduceMul, ↓reduceIte, Int.reduceToNat, reduceCtorEq, Int.reduceNeg, Int.reduceAdd, h0, h1, h2, h3, hE, m_impl_isSmall, m_impl_hasNames, m_impl_isSymbol, m_impl_IsValidTerm, m_impl_isEquality]
      rw [show (x.args.length == 2) = false by simpa using hc]
      try simp
set_option maxHeartbeats 1000000 in
theorem l2Atom_E (x : Tm) (hn : x.nodes ≤ 1099511627776) : E 137 [x.sv] [] = some (.bool x.atom, []) := by
  have hl := Tm.length_le x.args
  have hx := Tm.nodes_eq x
  have h0 := isEquality_E x
  have h1 := l2Fits_E x hn
  have h2 := l2Symbol_E x.name
  have h3 := l2Good_E x hn
  have hE : dec (x.name = ⟨#[61]⟩) = x.eqn := rfl
  unfold Tm.atom
  cases he : x.eqn <;> rw [he] at h0 hE
  · rw [if_neg (by simp)]
    cases hs : symB x.name <;> rw [hs] at h2
    · refine E_walk k_spec_l2Atom m_spec_l2Atom (of_decide_eq_true rfl) ?_
      simp (disch := omega) only [c_spec_l2Atom, go_sem, go_cond, Nat.reduceAdd, Nat.reduceSub, Nat.reduceLT, Nat.reduceLeDiff, Nat.reduceEqDiff, Nat.reduceBEq, Nat.reduceBneDiff, Nat.reduceMul, ↓reduceIte, Int.reduceToNat, reduceCtorEq, Int.reduceNeg, Int.reduceAdd, h0, h1, h2, h3, hE, m_spec_l2Fits, m_spec_l2Nodes, m_spec_l2Symbol, m_spec_l2Good]
    · refine E_walk k_spec_l2Atom m_spec_l2Atom (of_decide_eq_true rfl) ?_
      simp (disch := omega) only [c_spec_l2Atom, go_sem, go_cond, Nat.reduceAdd, Nat.reduceSub, Nat.reduceLT, Nat.reduceLeDiff, Nat.reduceEqDiff, Nat.reduceBEq, Nat.reduceBneDiff, Nat.reduceMul, ↓reduceIte, Int.reduceToNat, reduceCtorEq, Int.reduceNeg, Int.reduceAdd, h0, h1, h2, h3, hE, m_spec_l2Fits, m_spec_l2Nodes, m_spec_l2Symbol, m_spec_l2Good]
  · rw [if_pos rfl]
    by_cases hc : x.args.length = 2
    · have hlt0 : 0 < x.args.length := by omega
      have hlt1 : 1 < x.args.length := by omega
      have hg0 := get_at Tm.d hlt0
      have hg1 := get_at Tm.d hlt1
      rw [Tm.d_eq] at hg0 hg1
      have hb0 := Tm.nodes_le x.args 0 hlt0
      have hb1 := Tm.nodes_le x.args 1 hlt1
      have hn0 := l2Nodes_E x.args[0] (by omega)
      have hn1 := l2Nodes_E x.args[1] (by omega)
      rw [nameS_two hc, show (x.args.length == 2) = true by simpa using hc]
      cases hs : x.small <;> rw [hs] at h1
      · refine E_walk k_spec_l2Atom m_spec_l2Atom (of_decide_eq_true rfl) ?_
        simp (disch := omega) only [c_spec_l2Atom, go_sem, go_cond, Nat.reduceAdd, Nat.reduceSub, Nat.reduceLT, Nat.reduceLeDiff, Nat.reduceEqDiff, Nat.reduceBEq, Nat.reduceBneDiff, Nat.reduceMul, ↓reduceIte, Int.reduceToNat, reduceCtorEq, Int.reduceNeg, Int.reduceAdd, h0, h1, h2, h3, hE, hg0, hg1, hn0, hn1, hc, m_spec_l2Fits, m_spec_l2Nodes, m_spec_l2Symbol, m_spec_l2Good]
        try simp
      · cases hq : (x.args[0]'hlt0).names <;> rw [hq] at hn0
        · refine E_walk k_spec_l2Atom m_spec_l2Atom (of_decide_eq_true rfl) ?_
          simp (disch := omega) only [c_spec_l2Atom, go_sem, go_cond, Nat.reduceAdd, Nat.reduceSub, Nat.reduceLT, Nat.reduceLeDiff, Nat.reduceEqDiff, Nat.reduceBEq, Nat.reduceBneDiff, Nat.reduceMul, ↓reduceIte, Int.reduceToNat, reduceCtorEq, Int.reduceNeg, Int.reduceAdd, h0, h1, h2, h3, hE, hg0, hg1, hn0, hn1, hc, m_spec_l2Fits, m_spec_l2Nodes, m_spec_l2Symbol, m_spec_l2Good]
          try simp
        · refine E_walk k_spec_l2Atom m_spec_l2Atom (of_decide_eq_true rfl) ?_
          simp (disch := omega) only [c_spec_l2Atom, go_sem, go_cond, Nat.reduceAdd, Nat.reduceSub, Nat.reduceLT, Nat.reduceLeDiff, Nat.reduceEqDiff, Nat.reduceBEq, Nat.reduceBneDiff, Nat.reduceMul, ↓reduceIte, Int.reduceToNat, reduceCtorEq, Int.reduceNeg, Int.reduceAdd, h0, h1, h2, h3, hE, hg0, hg1, hn0, hn1, hc, m_spec_l2Fits, m_spec_l2Nodes, m_spec_l2Symbol, m_spec_l2Good]
          try simp
    · refine E_walk k_spec_l2Atom m_spec_l2Atom (of_decide_eq_true rfl) ?_
      simp (disch := omega) only [c_spec_l2Atom, go_sem, go_cond, Nat.reduceAdd, Nat.reduceSub, Nat.reduceLT, Nat.reduceLeDiff, Nat.reduceEqDiff, Nat.reduceBEq, Nat.reduceBneDiff, Nat.reduceMul, ↓reduceIte, Int.reduceToNat, reduceCtorEq, Int.reduceNeg, Int.reduceAdd, h0, h1, h2, h3, hE, m_spec_l2Fits, m_spec_l2Nodes, m_spec_l2Symbol, m_spec_l2Good]
      rw [show (x.args.length == 2) = false by simpa using hc]
      try simp
end Go.Proofs.Ytpmeabbfpabglaa

set_option maxRecDepth 100000
set_option linter.unusedSimpArgs false
set_option linter.unusedVariables false
namespace Go.Proofs.Ytpmeabbfpabglaa
open Go.RowKit

noncomputable def Tm.expr (x : Tm) : Bool := x.valid || x.atom
theorem Tm.expr_small {x : Tm} (h : x.expr = true) : x.small = true := by
  unfold Tm.expr Tm.atom Tm.valid at h
  cases hs : x.small with
  | true => rfl
  | false =>
    rw [hs] at h
    split at h <;> simp at h
theorem Tm.expr_nodes {x : Tm} (h : x.expr = true) : x.nodes ≤ 30 := by
  have := Tm.expr_small h
  unfold Tm.small at this
  rw [Bool.and_eq_true, decide_eq_true_eq] at this
  exact this.1
theorem Tm.eqn_var {x : Tm} (h : x.eqn = true) : varB x.name = false := by
  unfold Tm.eqn at h
  rw [dec_iff.1 h]
  kernel_rfl
theorem Tm.expr_names {x : Tm} (h : x.expr = true) : x.names = true ∨ (x.eqn = true ∧ Tm.nameS x.args = true) := by
  unfold Tm.expr Tm.valid at h
  cases hn : x.names with
  | true => exact .inl rfl
  | false =>
    rw [hn, Bool.and_false, Bool.false_or] at h
    unfold Tm.atom at h
    split at h
    · rename_i he
      rw [Bool.and_eq_true] at h
      exact .inr ⟨he, h.2⟩
    · unfold Tm.valid at h; rw [hn, Bool.and_false, Bool.and_false] at h; cases h
theorem Tm.expr_var {x : Tm} (h : x.expr = true) : varB x.name = true → x.args = [] := by
  intro hv
  rcases Tm.expr_names h with h1 | ⟨h1, h2⟩
  · exact Tm.names_var h1 hv
  · rw [Tm.eqn_var h1] at hv; cases hv
theorem Tm.expr_arg {x : Tm} (h : x.expr = true) {y : Tm} (hy : y ∈ x.args) : y.names = true := by
  rcases Tm.expr_names h with h1 | ⟨h1, h2⟩
  · exact Tm.names_arg h1 hy
  · rw [Tm.nameS_all, List.all_eq_true] at h2; exact h2 y hy

theorem Tm.nodeS_sumB : ∀ xs : List Tm, (∀ x ∈ xs, x.nodes ≤ 1 + x.bulk) → Tm.nodeS xs ≤ xs.length + Tm.sumB xs
  | [], _ => by simp [Tm.nodeS]
  | x :: xs, h => by
    have h1 := h x (by simp)
    have h2 := Tm.nodeS_sumB xs fun y hy => h y (by simp [hy])
    rw [Tm.nodeS, Tm.sumB]; simp only [List.length_cons]; omega
theorem Tm.nodes_bulk (x : Tm) : x.nodes ≤ 1 + x.bulk := by
  rw [Tm.nodes_eq, Tm.bulk_eq]
  have := Tm.nodeS_sumB x.args fun y hy => Tm.nodes_bulk y
  omega
termination_by SizeOf.sizeOf x
decreasing_by exact Tm.lt_of_mem hy
theorem varB_size {s : ByteArray} (h : varB s = true) : s.size ≤ 6 := by
  unfold varB inB at h
  simp at h
  omega
theorem symB_size {s : ByteArray} (h : symB s = true) : s.size ≤ 6 := by
  unfold symB inB at h
  simp at h
  omega
theorem Tm.sumB_nodes : ∀ xs : List Tm, (∀ x ∈ xs, x.bulk + 1 ≤ 8 * x.nodes) → xs.length + Tm.sumB xs ≤ 8 * Tm.nodeS xs
  | [], _ => by simp [Tm.nodeS, Tm.sumB]
  | x :: xs, h => by
    have h1 := h x (by simp)
    have h2 := Tm.sumB_nodes xs fun y hy => h y (by simp [hy])
    rw [Tm.nodeS, Tm.sumB]; simp only [List.length_cons]; omega
theorem Tm.names_bulk (x : Tm) (h : x.names = true) : x.bulk + 1 ≤ 8 * x.nodes := by
  have h1 := Tm.sumB_nodes x.args fun y hy => Tm.names_bulk y (Tm.names_arg h hy)
  have h2 : x.name.size ≤ 6 := by
    rw [Tm.names_eq] at h
    split at h
    · rename_i hv; exact varB_size hv
    · rw [Bool.and_eq_true, Bool.and_eq_true] at h; exact symB_size h.1.1
  rw [Tm.nodes_eq, Tm.bulk_eq]
  omega
termination_by SizeOf.sizeOf x
decreasing_by exact Tm.lt_of_mem hy
theorem Tm.expr_bulk {x : Tm} (h : x.expr = true) : x.bulk ≤ 1048576 := by
  have hn := Tm.expr_nodes h
  have h1 := Tm.sumB_nodes x.args fun y hy => Tm.names_bulk y (Tm.expr_arg h hy)
  have h2 : x.name.size ≤ 6 := by
    rcases Tm.expr_names h with h3 | ⟨h3, _⟩
    · rw [Tm.names_eq] at h3
      split at h3
      · rename_i hv; exact varB_size hv
      · rw [Bool.and_eq_true, Bool.and_eq_true] at h3; exact symB_size h3.1.1
    · unfold Tm.eqn at h3
      rw [dec_iff.1 h3]; decide
  rw [Tm.nodes_eq] at hn
  rw [Tm.bulk_eq]
  omega
end Go.Proofs.Ytpmeabbfpabglaa

set_option maxRecDepth 100000
set_option linter.unusedSimpArgs false
set_option linter.unusedVariables false
namespace Go.Proofs.Ytpmeabbfpabglaa
open Go.RowKit

noncomputable def cmpB (a b : ByteArray) : Int := bif strLt a b then -1 else bif dec (a = b) then 0 else 1
noncomputable def cmpI (a b : Int) : Int := bif dec (a < b) then -1 else bif dec (b < a) then 1 else 0
def orZ (x y : Int) : Int := if x = 0 then y else x
/-! The order of terms. -/
mutual
noncomputable def Tm.cmp : Tm → Tm → Int
  | .mk n xs, y => if varB n && !varB y.name then -1 else if varB y.name && !varB n then 1 else orZ (orZ (cmpB n y.name) (cmpI xs.length y.args.length)) (Tm.cmpL xs y.args)
noncomputable def Tm.cmpL : List Tm → List Tm → Int
  | [], [] => 0
  | [], _ :: _ => -1
  | _ :: _, [] => 1
  | x :: xs, y :: ys => orZ (Tm.cmp x y) (Tm.cmpL xs ys)
end
theorem Tm.cmp_eq (x y : Tm) : x.cmp y = if varB x.name && !varB y.name then -1 else if varB y.name && !varB x.name then 1 else orZ (orZ (cmpB x.name y.name) (cmpI x.args.length y.args.length)) (Tm.cmpL x.args y.args) := by
  obtain ⟨n, xs⟩ := x
  rw [Tm.cmp]; rfl
/-- The name begins with a capital if and only if it is a variable's. -/
def nameC (s : ByteArray) : Bool := decide (0 < s.size) && (uppB (byteZ s 0) == varB s)
mutual
def Tm.cok : Tm → Bool
  | .mk n xs => nameC n && Tm.cokS xs
def Tm.cokS : List Tm → Bool
  | [] => true
  | x :: xs => Tm.cok x && Tm.cokS xs
end
theorem Tm.cok_eq (x : Tm) : x.cok = (nameC x.name && Tm.cokS x.args) := by
  obtain ⟨n, xs⟩ := x
  rw [Tm.cok]; rfl
theorem Tm.cokS_mem {xs : List Tm} (h : Tm.cokS xs = true) {y : Tm} (hy : y ∈ xs) : y.cok = true := by
  induction xs with
  | nil => cases hy
  | cons x xs ih =>
    rw [Tm.cokS, Bool.and_eq_true] at h
    rcases List.mem_cons.1 hy with rfl | hy
    · exact h.1
    · exact ih h.2 hy
theorem cmpL_drop {xs ys : List Tm} {k : Nat} (h : k < xs.length) (h' : k < ys.length) : Tm.cmpL (xs.drop k) (ys.drop k) = orZ (xs[k].cmp ys[k]) (Tm.cmpL (xs.drop (k + 1)) (ys.drop (k + 1))) := by
  rw [List.drop_eq_getElem_cons h, List.drop_eq_getElem_cons h', Tm.cmpL]
theorem cmpL_short {xs ys : List Tm} {k : Nat} (h : k < xs.length) (h' : ys.length ≤ k) : Tm.cmpL (xs.drop k) (ys.drop k) = 1 := by
  rw [List.drop_eq_getElem_cons h, List.drop_eq_nil_of_le h', Tm.cmpL]
theorem cmpL_end {xs ys : List Tm} {k : Nat} (h : xs.length ≤ k) (h' : k < ys.length) : Tm.cmpL (xs.drop k) (ys.drop k) = -1 := by
  rw [List.drop_eq_getElem_cons h', List.drop_eq_nil_of_le h, Tm.cmpL]
theorem cmpL_both {xs ys : List Tm} {k : Nat} (h : xs.length ≤ k) (h' : ys.length ≤ k) : Tm.cmpL (xs.drop k) (ys.drop k) = 0 := by
  rw [List.drop_eq_nil_of_le h', List.drop_eq_nil_of_le h, Tm.cmpL]

theorem loopB_zero {p : Nat → Int → Bool} {s : ByteArray} (h : loopB p s s.size = true) (hs : 0 < s.size) : p 0 (byteZ s 0) = true := by
  unfold loopB at h
  rw [List.all_eq_true] at h
  exact h 0 (List.mem_range.2 hs)
theorem nameC_var {s : ByteArray} (h : varB s = true) : nameC s = true := by
  have h0 := h
  unfold varB inB at h
  rw [Bool.and_eq_true, Bool.and_eq_true, decide_eq_true_eq, decide_eq_true_eq] at h
  have hs : 0 < s.size := by omega
  have h1 := loopB_zero h.1 hs
  unfold varOk at h1
  unfold nameC
  rw [h0]
  simp at h1
  simp [hs, h1]
theorem nameC_not {s : ByteArray} (hs : 0 < s.size) (h : uppB (byteZ s 0) = false) : nameC s = true := by
  have hv : varB s = false := by
    rw [Bool.eq_false_iff]
    intro hv
    unfold varB at hv
    rw [Bool.and_eq_true] at hv
    have h1 := loopB_zero hv.1 hs
    unfold varOk at h1
    rw [h] at h1
    simp at h1
  unfold nameC
  rw [hv, h]
  simp [hs]
theorem nameC_sym {s : ByteArray} (h : symB s = true) : nameC s = true := by
  unfold symB inB at h
  rw [Bool.and_eq_true, Bool.and_eq_true, Bool.and_eq_true, decide_eq_true_eq, decide_eq_true_eq] at h
  have hs : 0 < s.size := by omega
  refine nameC_not hs ?_
  have h1 := loopB_zero h.1.1 hs
  unfold symOk at h1
  simp at h1
  have h2 := h1.1
  unfold lowB at h2
  unfold uppB
  simp at h2 ⊢
  omega
theorem nameC_eqn {s : ByteArray} (h : s.toList = [61]) : nameC s = true := by
  have hs : s.size = 1 := by
    have := congrArg List.length h
    rw [ByteArray.toList_eq] at this
    simpa using this
  refine nameC_not (by omega) ?_
  unfold byteZ
  rw [h]
  rfl
mutual
theorem Tm.cok_names : ∀ x : Tm, x.names = true → x.cok = true
  | .mk n xs, h => by
    rw [Tm.names] at h
    rw [Tm.cok, Bool.and_eq_true]
    split at h
    · rename_i hv
      have : xs = [] := by
        rw [beq_iff_eq] at h
        exact List.eq_nil_of_length_eq_zero h
      subst this
      exact ⟨nameC_var hv, rfl⟩
    · rw [Bool.and_eq_true, Bool.and_eq_true] at h
      exact ⟨nameC_sym h.1.1, Tm.cokS_names xs h.2⟩
theorem Tm.cokS_names : ∀ xs : List Tm, Tm.nameS xs = true → Tm.cokS xs = true
  | [], _ => rfl
  | x :: xs, h => by
    rw [Tm.nameS, Bool.and_eq_true] at h
    rw [Tm.cokS, Bool.and_eq_true]
    exact ⟨Tm.cok_names x h.1, Tm.cokS_names xs h.2⟩
end
theorem Tm.atom_cok {x : Tm} (h : x.atom = true) : x.cok = true := by
  unfold Tm.atom at h
  rcases he : x.eqn with _ | _
  · rw [he, if_neg (by simp), Bool.and_eq_true] at h
    unfold Tm.valid at h
    rw [Bool.and_eq_true] at h
    exact Tm.cok_names x h.2.2
  · rw [he, if_pos rfl, Bool.and_eq_true, Bool.and_eq_true] at h
    unfold Tm.eqn at he
    rw [dec_iff] at he
    rw [Tm.cok_eq, Bool.and_eq_true]
    exact ⟨nameC_eqn (by rw [he, ByteArray.toList_eq]), Tm.cokS_names _ h.2⟩
theorem byteAt_eq {s : ByteArray} {k : Nat} (h : k < s.size) : byteAt s k = byteZ s k := by
  rw [← byteZ_get h]
  unfold byteAt
  rw [show s[k]? = some s[k] from getElem?_pos s k h]; rfl
theorem nameC_upp {s : ByteArray} (h : nameC s = true) : 0 < s.size ∧ (dec (65 ≤ byteAt s 0) && dec (byteAt s 0 ≤ 90)) = varB s := by
  unfold nameC at h
  rw [Bool.and_eq_true, decide_eq_true_eq, beq_iff_eq] at h
  refine ⟨h.1, ?_⟩
  rw [← h.2, byteAt_eq h.1, dec_of, dec_of]
  unfold uppB
  rfl

theorem strLt_self (a : ByteArray) : strLt a a = false := by
  unfold strLt
  have key : ∀ l : List UInt8, Op.bytesLess l l = false := by
    intro l
    induction l with
    | nil => rfl
    | cons x l ih => simp [Op.bytesLess, ih]
  exact key _
def c_cmp_isNaN_string : SC := (.seq (.reg [⟨(some 2), none, (.mv (.c (.bool false)))⟩]) (.seq (.reg [⟨(some 3), none, (.mv (.t 0))⟩, ⟨(some 4), none, (.mv (.t 0))⟩, ⟨(some 5), none, (.bin .neq false (.t 3) (.t 4))⟩, ⟨(some 2), none, (.mv (.t 5))⟩]) .ret))
theorem k_cmp_isNaN_string : codeOf Try.prog 144 = some ⟨6, c_cmp_isNaN_string, [(.tmp 2)]⟩ := by kernel_rfl
theorem m_cmp_isNaN_string : modes 144 = ⟨[], .asis, none, false⟩ := by unfold modes; rfl

def c_cmp_isNaN_int : SC := (.seq (.reg [⟨(some 2), none, (.mv (.c (.bool false)))⟩]) (.seq (.reg [⟨(some 3), none, (.mv (.t 0))⟩, ⟨(some 4), none, (.mv (.t 0))⟩, ⟨(some 5), none, (.bin .neq false (.t 3) (.t 4))⟩, ⟨(some 2), none, (.mv (.t 5))⟩]) .ret))
theorem k_cmp_isNaN_int : codeOf Try.prog 145 = some ⟨6, c_cmp_isNaN_int, [(.tmp 2)]⟩ := by kernel_rfl
theorem m_cmp_isNaN_int : modes 145 = ⟨[], .asis, none, false⟩ := by unfold modes; rfl

def c_cmp_Compare_string : SC := (.seq (.reg [⟨(some 4), none, (.mv (.c (.int .i64 0)))⟩]) (.seq (.reg [⟨(some 7), none, (.mv (.t 0))⟩, ⟨(some 8), none, (.call 144 [(.t 7)])⟩, ⟨(some 5), none, (.mv (.t 8))⟩]) (.seq (.reg [⟨(some 9), none, (.mv (.t 1))⟩, ⟨(some 10), none, (.call 144 [(.t 9)])⟩, ⟨(some 6), none, (.mv (.t 10))⟩]) (.seq (.seq (.reg [⟨(some 11), none, (.mv (.t 5))⟩]) (.cond (.t 11) (.seq (.seq (.reg [⟨(some 12), none, (.mv (.t 6))⟩]) (.cond (.t 12) (.seq (.reg [⟨(some 4), none, (.mv (.c (.int .i64 0)))⟩]) .ret) .skip)) (.seq (.reg [⟨(some 4), none, (.mv (.c (.int .i64 (-(0 + 1)))))⟩]) .ret)) .skip)) (.seq (.seq (.reg [⟨(some 13), none, (.mv (.t 6))⟩]) (.cond (.t 13) (.seq (.reg [⟨(some 4), none, (.mv (.c (.int .i64 1)))⟩]) .ret) .skip)) (.seq (.seq (.reg [⟨(some 14), none, (.mv (.t 0))⟩, ⟨(some 15), none, (.mv (.t 1))⟩, ⟨(some 16), none, (.bin .lss false (.t 14) (.t 15))⟩]) (.cond (.t 16) (.seq (.reg [⟨(some 4), none, (.mv (.c (.int .i64 (-(0 + 1)))))⟩]) .ret) .skip)) (.seq (.seq (.reg [⟨(some 17), none, (.mv (.t 0))⟩, ⟨(some 18), none, (.mv (.t 1))⟩, ⟨(some 19), none, (.bin .gtr false (.t 17) (.t 18))⟩]) (.cond (.t 19) (.seq (.reg [⟨(some 4), none, (.mv (.c (.int .i64 1)))⟩]) .ret) .skip)) (.seq (.reg [⟨(some 4), none, (.mv (.c (.int .i64 0)))⟩]) .ret))))))))
theorem k_cmp_Compare_string : codeOf Try.prog 132 = some ⟨20, c_cmp_Compare_string, [(.tmp 4)]⟩ := by kernel_rfl
theorem m_cmp_Compare_string : modes 132 = ⟨[], .asis, none, false⟩ := by unfold modes; rfl

def c_cmp_Compare_int : SC := (.seq (.reg [⟨(some 4), none, (.mv (.c (.int .i64 0)))⟩]) (.seq (.reg [⟨(some 7), none, (.mv (.t 0))⟩, ⟨(some 8), none, (.call 145 [(.t 7)])⟩, ⟨(some 5), none, (.mv (.t 8))⟩]) (.seq (.reg [⟨(some 9), none, (.mv (.t 1))⟩, ⟨(some 10), none, (.call 145 [(.t 9)])⟩, ⟨(some 6), none, (.mv (.t 10))⟩]) (.seq (.seq (.reg [⟨(some 11), none, (.mv (.t 5))⟩]) (.cond (.t 11) (.seq (.seq (.reg [⟨(some 12), none, (.mv (.t 6))⟩]) (.cond (.t 12) (.seq (.reg [⟨(some 4), none, (.mv (.c (.int .i64 0)))⟩]) .ret) .skip)) (.seq (.reg [⟨(some 4), none, (.mv (.c (.int .i64 (-(0 + 1)))))⟩]) .ret)) .skip)) (.seq (.seq (.reg [⟨(some 13), none, (.mv (.t 6))⟩]) (.cond (.t 13) (.seq (.reg [⟨(some 4), none, (.mv (.c (.int .i64 1)))⟩]) .ret) .skip)) (.seq (.seq (.reg [⟨(some 14), none, (.mv (.t 0))⟩, ⟨(some 15), none, (.mv (.t 1))⟩, ⟨(some 16), none, (.bin .lss false (.t 14) (.t 15))⟩]) (.cond (.t 16) (.seq (.reg [⟨(some 4), none, (.mv (.c (.int .i64 (-(0 + 1)))))⟩]) .ret) .skip)) (.seq (.seq (.reg [⟨(some 17), none, (.mv (.t 0))⟩, ⟨(some 18), none, (.mv (.t 1))⟩, ⟨(some 19), none, (.bin .gtr false (.t 17) (.t 18))⟩]) (.cond (.t 19) (.seq (.reg [⟨(some 4), none, (.mv (.c (.int .i64 1)))⟩]) .ret) .skip)) (.seq (.reg [⟨(some 4), none, (.mv (.c (.int .i64 0)))⟩]) .ret))))))))
theorem k_cmp_Compare_int : codeOf Try.prog 133 = some ⟨20, c_cmp_Compare_int, [(.tmp 4)]⟩ := by kernel_rfl
theorem m_cmp_Compare_int : modes 133 = ⟨[], .asis, none, false⟩ := by unfold modes; rfl

def c_cmp_Or_int : SC := (.seq (.reg [⟨(some 2), none, (.mv (.c (.int .i64 0)))⟩]) (.seq (.reg [⟨(some 3), none, (.mv (.c (.int .i64 0)))⟩]) (.seq (.seq (.reg [⟨(some 6), none, (.mv (.t 0))⟩, ⟨(some 7), none, (.len false (.t 6))⟩, ⟨(some 8), none, (.mv (.c (.int .i64 0)))⟩]) (.block 0 (.loop [0, 0, 0, 1, 0, 0, 1, 1, 1, 0, 0, 0, 0, 0, 0, 0, 0, 0] (.seq (.reg [⟨(some 9), none, (.bin .lss false (.t 8) (.t 7))⟩]) (.seq (.cond (.t 9) .skip (.exit 0)) (.seq (.block 1 (.seq (.reg [⟨(some 10), none, (.iaddr 1 (.t 6) (.t 8))⟩, ⟨(some 11), none, (.load false 1 (.t 10))⟩, ⟨(some 5), none, (.mv (.t 11))⟩]) (.seq (.reg [⟨(some 12), none, (.mv (.t 5))⟩, ⟨(some 13), none, (.mv (.t 3))⟩, ⟨(some 14), none, (.bin .neq false (.t 12) (.t 13))⟩]) (.cond (.t 14) (.seq (.reg [⟨(some 15), none, (.mv (.t 5))⟩, ⟨(some 2), none, (.mv (.t 15))⟩]) .ret) .skip)))) (.reg [⟨(some 16), none, (.bin .add false (.t 8) (.c (.int .i64 1)))⟩, ⟨(some 8), none, (.mv (.t 16))⟩]))))))) (.seq (.reg [⟨(some 17), none, (.mv (.t 3))⟩, ⟨(some 2), none, (.mv (.t 17))⟩]) .ret))))
theorem k_cmp_Or_int : codeOf Try.prog 131 = some ⟨18, c_cmp_Or_int, [(.tmp 2)]⟩ := by kernel_rfl
theorem m_cmp_Or_int : modes 131 = ⟨[], .asis, none, false⟩ := by unfold modes; rfl

theorem isNaNS_E (a : ByteArray) : E 144 [.str a] [] = some (.bool false, []) := by
  refine E_walk k_cmp_isNaN_string m_cmp_isNaN_string (of_decide_eq_true rfl) ?_
  simp (disch := omega) only [c_cmp_isNaN_string, go_sem, go_cond, Nat.reduceAdd, Nat.reduceSub, Nat.reduceLT, Nat.reduceLeDiff, Nat.reduceEqDiff, Nat.reduceBEq, Nat.reduceBneDiff, Nat.reduceMul, ↓reduceIte, Int.reduceToNat, reduceCtorEq, Int.reduceNeg, Int.reduceAdd]
theorem isNaNI_E (a : Int) : E 145 [.int .i64 a] [] = some (.bool false, []) := by
  refine E_walk k_cmp_isNaN_int m_cmp_isNaN_int (of_decide_eq_true rfl) ?_
  simp (disch := omega) only [c_cmp_isNaN_int, go_sem, go_cond, Nat.reduceAdd, Nat.reduceSub, Nat.reduceLT, Nat.reduceLeDiff, Nat.reduceEqDiff, Nat.reduceBEq, Nat.reduceBneDiff, Nat.reduceMul, ↓reduceIte, Int.reduceToNat, reduceCtorEq, Int.reduceNeg, Int.reduceAdd]
theorem compareS_E (a b : ByteArray) : E 132 [.str a, .str b] [] = some (.int .i64 (cmpB a b), []) := by
  have h1 := isNaNS_E a
  have h2 := isNaNS_E b
  unfold cmpB
  cases h3 : strLt a b
  · cases h4 : dec (a = b)
    · refine E_walk k_cmp_Compare_string m_cmp_Compare_string (of_decide_eq_true rfl) ?_
      simp (disch := omega) only [c_cmp_Compare_string, go_sem, go_cond, Nat.reduceAdd, Nat.reduceSub, Nat.reduceLT, Nat.reduceLeDiff, Nat.reduceEqDiff, Nat.reduceBEq, Nat.reduceBneDiff, Nat.reduceMul, ↓reduceIte, Int.reduceToNat, reduceCtorEq, Int.reduceNeg, Int.reduceAdd, h1, h2, h3, h4, m_cmp_isNaN_string]
    · refine E_walk k_cmp_Compare_string m_cmp_Compare_string (of_decide_eq_true rfl) ?_
      simp (disch := omega) only [c_cmp_Compare_string, go_sem, go_cond, Nat.reduceAdd, Nat.reduceSub, Nat.reduceLT, Nat.reduceLeDiff, Nat.reduceEqDiff, Nat.reduceBEq, Nat.reduceBneDiff, Nat.reduceMul, ↓reduceIte, Int.reduceToNat, reduceCtorEq, Int.reduceNeg, Int.reduceAdd, h1, h2, h3, h4, m_cmp_isNaN_string]
  · refine E_walk k_cmp_Compare_string m_cmp_Compare_string (of_decide_eq_true rfl) ?_
    simp (disch := omega) only [c_cmp_Compare_string, go_sem, go_cond, Nat.reduceAdd, Nat.reduceSub, Nat.reduceLT, Nat.reduceLeDiff, Nat.reduceEqDiff, Nat.reduceBEq, Nat.reduceBneDiff, Nat.reduceMul, ↓reduceIte, Int.reduceToNat, reduceCtorEq, Int.reduceNeg, Int.reduceAdd, h1, h2, h3, m_cmp_isNaN_string]
theorem compareI_E (a b : Int) : E 133 [.int .i64 a, .int .i64 b] [] = some (.int .i64 (cmpI a b), []) := by
  have h1 := isNaNI_E a
  have h2 := isNaNI_E b
  unfold cmpI
  cases h3 : dec (a < b)
  · cases h4 : dec (b < a)
    · refine E_walk k_cmp_Compare_int m_cmp_Compare_int (of_decide_eq_true rfl) ?_
      simp (disch := omega) only [c_cmp_Compare_int, go_sem, go_cond, Nat.reduceAdd, Nat.reduceSub, Nat.reduceLT, Nat.reduceLeDiff, Nat.reduceEqDiff, Nat.reduceBEq, Nat.reduceBneDiff, Nat.reduceMul, ↓reduceIte, Int.reduceToNat, reduceCtorEq, Int.reduceNeg, Int.reduceAdd, h1, h2, h3, h4, m_cmp_isNaN_int]
    · refine E_walk k_cmp_Compare_int m_cmp_Compare_int (of_decide_eq_true rfl) ?_
      simp (disch := omega) only [c_cmp_Compare_int, go_sem, go_cond, Nat.reduceAdd, Nat.reduceSub, Nat.reduceLT, Nat.reduceLeDiff, Nat.reduceEqDiff, Nat.reduceBEq, Nat.reduceBneDiff, Nat.reduceMul, ↓reduceIte, Int.reduceToNat, reduceCtorEq, Int.reduceNeg, Int.reduceAdd, h1, h2, h3, h4, m_cmp_isNaN_int]
  · refine E_walk k_cmp_Compare_int m_cmp_Compare_int (of_decide_eq_true rfl) ?_
    simp (disch := omega) only [c_cmp_Compare_int, go_sem, go_cond, Nat.reduceAdd, Nat.reduceSub, Nat.reduceLT, Nat.reduceLeDiff, Nat.reduceEqDiff, Nat.reduceBEq, Nat.reduceBneDiff, Nat.reduceMul, ↓reduceIte, Int.reduceToNat, reduceCtorEq, Int.reduceNeg, Int.reduceAdd, h1, h2, h3, m_cmp_isNaN_int]
def orL : List Int → Int
  | [] => 0
  | x :: xs => if x = 0 then orL xs else x
theorem or_E (xs : List Int) (hl : xs.length ≤ 1099511627776) : E 131 [.arr (xs.map fun n => [D.int n])] [] = some (.int .i64 (orL xs), []) := by
  refine E_walk k_cmp_Or_int m_cmp_Or_int (of_decide_eq_true rfl) ?_
  simp (disch := omega) only [c_cmp_Or_int, go_sem, go_cond, Nat.reduceAdd, Nat.reduceSub, Nat.reduceLT, Nat.reduceLeDiff, Nat.reduceEqDiff, Nat.reduceBEq, Nat.reduceBneDiff, Nat.reduceMul, ↓reduceIte, Int.reduceToNat, reduceCtorEq, Int.reduceNeg, Int.reduceAdd]
  refine go_loop (α := Int) (fun a => ⟨slots 18 0 [(3, .int .i64 0), (6, .arr (xs.map fun n => [D.int n])), (7, .int .i64 xs.length), (8, .int .i64 a)], []⟩) (fun a => ∃ k : Nat, a = k ∧ k ≤ (xs).length ∧ orL (xs.drop k) = orL xs) (fun a => (xs).length - (a).toNat) 0 ⟨0, rfl, Nat.zero_le _, by rw [List.drop_zero]⟩ (by simp (disch := omega) only [go_sem, go_cond, Nat.reduceAdd, Nat.reduceSub, Nat.reduceLT, Nat.reduceLeDiff, Nat.reduceEqDiff, Nat.reduceBEq, Nat.reduceBneDiff, Nat.reduceMul, ↓reduceIte, Int.reduceToNat, reduceCtorEq, Int.reduceNeg, Int.reduceAdd]) ?_
  rintro i ⟨k, hi, hk, hR⟩
  have hni : i.toNat = k := by omega
  have hni1 : (i + 1).toNat = k + 1 := by omega
  rcases Nat.lt_or_ge k (xs).length with hlt | hge
  · have hg := get_at (fun n => [D.int n]) hlt
    rw [List.drop_eq_getElem_cons hlt, orL] at hR
    by_cases h0 : xs[k] = 0
    · rw [if_pos h0] at hR
      simp (disch := omega) only [go_sem, go_cond, Nat.reduceAdd, Nat.reduceSub, Nat.reduceLT, Nat.reduceLeDiff, Nat.reduceEqDiff, Nat.reduceBEq, Nat.reduceBneDiff, Nat.reduceMul, ↓reduceIte, Int.reduceToNat, reduceCtorEq, Int.reduceNeg, Int.reduceAdd, hni, hg, h0]
      exact ⟨i + 1, ⟨k + 1, by omega, hlt, hR⟩, by omega, by first | trivial | rfl⟩
    · rw [if_neg h0] at hR
      simp (disch := omega) only [go_sem, go_cond, Nat.reduceAdd, Nat.reduceSub, Nat.reduceLT, Nat.reduceLeDiff, Nat.reduceEqDiff, Nat.reduceBEq, Nat.reduceBneDiff, Nat.reduceMul, ↓reduceIte, Int.reduceToNat, reduceCtorEq, Int.reduceNeg, Int.reduceAdd, hni, hg, h0]
      exact hR
  · rw [List.drop_eq_nil_of_le hge, orL] at hR
    simp (disch := omega) only [go_sem, go_cond, Nat.reduceAdd, Nat.reduceSub, Nat.reduceLT, Nat.reduceLeDiff, Nat.reduceEqDiff, Nat.reduceBEq, Nat.reduceBneDiff, Nat.reduceMul, ↓reduceIte, Int.reduceToNat, reduceCtorEq, Int.reduceNeg, Int.reduceAdd, hni]
    exact hR
theorem or2_E (a b : Int) : E 131 [.arr [[.int a], [.int b]]] [] = some (.int .i64 (orZ a b), []) := by
  have h := or_E [a, b] (by simp)
  have e : orL [a, b] = orZ a b := by
    simp only [orL, orZ]
    split
    · split <;> omega
    · rfl
  rw [e] at h
  exact h
def c_impl_isUpper : SC := (.seq (.reg [⟨(some 2), none, (.mv (.c (.bool false)))⟩]) (.seq (.reg [⟨(some 3), none, (.mv (.t 0))⟩, ⟨(some 4), none, (.bin .geq false (.t 3) (.c (.int .u8 65)))⟩, ⟨(some 5), none, (.mv (.t 4))⟩, ⟨(some 6), (some (5, true)), (.mv (.t 0))⟩, ⟨(some 7), (some (5, true)), (.bin .leq false (.t 6) (.c (.int .u8 90)))⟩, ⟨(some 8), none, (.pick (.t 5) (.t 7) (.c (.bool false)))⟩, ⟨(some 2), none, (.mv (.t 8))⟩]) .ret))
theorem k_impl_isUpper : codeOf Try.prog 102 = some ⟨9, c_impl_isUpper, [(.tmp 2)]⟩ := by kernel_rfl
theorem m_impl_isUpper : modes 102 = ⟨[], .asis, none, false⟩ := by unfold modes; rfl

def c_impl_isVar : SC := (.seq (.reg [⟨(some 1), none, (.boxv 42 2 (.t 0))⟩, ⟨(some 2), none, (.mv (.c (.bool false)))⟩]) (.seq (.reg [⟨(some 3), none, (.faddr 0 (.t 1))⟩, ⟨(some 4), none, (.load false 1 (.t 3))⟩, ⟨(some 5), none, (.idx (.t 4) (.c (.int .i64 0)))⟩, ⟨(some 6), none, (.call 102 [(.t 5)])⟩, ⟨(some 2), none, (.mv (.t 6))⟩]) .ret))
theorem k_impl_isVar : codeOf Try.prog 70 = some ⟨7, c_impl_isVar, [(.tmp 2)]⟩ := by kernel_rfl
theorem m_impl_isVar : modes 70 = ⟨[], .asis, none, false⟩ := by unfold modes; rfl

theorem isUpper_E (n : Int) : E 102 [.int .u8 n] [] = some (.bool (dec (65 ≤ n) && dec (n ≤ 90)), []) := by
  cases h1 : dec (65 ≤ n)
  · refine E_walk k_impl_isUpper m_impl_isUpper (of_decide_eq_true rfl) ?_
    simp (disch := omega) only [c_impl_isUpper, go_sem, go_cond, Nat.reduceAdd, Nat.reduceSub, Nat.reduceLT, Nat.reduceLeDiff, Nat.reduceEqDiff, Nat.reduceBEq, Nat.reduceBneDiff, Nat.reduceMul, ↓reduceIte, Int.reduceToNat, reduceCtorEq, Int.reduceNeg, Int.reduceAdd, h1]
  · refine E_walk k_impl_isUpper m_impl_isUpper (of_decide_eq_true rfl) ?_
    simp (disch := omega) only [c_impl_isUpper, go_sem, go_cond, Nat.reduceAdd, Nat.reduceSub, Nat.reduceLT, Nat.reduceLeDiff, Nat.reduceEqDiff, Nat.reduceBEq, Nat.reduceBneDiff, Nat.reduceMul, ↓reduceIte, Int.reduceToNat, reduceCtorEq, Int.reduceNeg, Int.reduceAdd, h1]
theorem isVar_E (x : Tm) (h : x.cok = true) : E 70 [x.sv] [] = some (.bool (varB x.name), []) := by
  rw [Tm.cok_eq, Bool.and_eq_true] at h
  obtain ⟨h1, h2⟩ := nameC_upp h.1
  have h3 := isUpper_E (byteAt x.name 0)
  rw [h2] at h3
  refine E_walk k_impl_isVar m_impl_isVar (of_decide_eq_true rfl) ?_
  simp (disch := omega) only [c_impl_isVar, go_sem, go_cond, Nat.reduceAdd, Nat.reduceSub, Nat.reduceLT, Nat.reduceLeDiff, Nat.reduceEqDiff, Nat.reduceBEq, Nat.reduceBneDiff, Nat.reduceMul, ↓reduceIte, Int.reduceToNat, reduceCtorEq, Int.reduceNeg, Int.reduceAdd, h3, m_impl_isUpper]
end Go.Proofs.Ytpmeabbfpabglaa

set_option maxRecDepth 100000
set_option linter.unusedSimpArgs false
set_option linter.unusedVariables false
namespace Go.Proofs.Ytpmeabbfpabglaa
open Go.RowKit

/-! Checks in order. -/
def allTo (p : Nat → Bool) : Nat → Bool
  | 0 => true
  | k + 1 => allTo p k && p k
theorem allTo_mono {p : Nat → Bool} {k n : Nat} (h : allTo p k = false) (hn : k ≤ n) : allTo p n = false := by
  induction n with
  | zero => obtain rfl : k = 0 := by omega
            exact h
  | succ n ih =>
    rcases Nat.lt_or_ge n k with h1 | h1
    · obtain rfl : k = n + 1 := by omega
      exact h
    · rw [allTo, ih h1]; rfl
theorem allTo_at {p : Nat → Bool} {k j : Nat} (h : allTo p k = true) (hj : j < k) : p j = true := by
  induction k with
  | zero => omega
  | succ k ih =>
    rw [allTo, Bool.and_eq_true] at h
    rcases Nat.lt_or_ge j k with h1 | h1
    · exact ih h.1 h1
    · obtain rfl : j = k := by omega
      exact h.2
theorem allTo_of {p : Nat → Bool} {k : Nat} (h : ∀ j, j < k → p j = true) : allTo p k = true := by
  induction k with
  | zero => rfl
  | succ k ih => rw [allTo, ih fun j hj => h j (by omega), h k (by omega)]; rfl
/-- The first check that fails settles it. -/
theorem allTo_no {p : Nat → Bool} {k n : Nat} (h : p k = false) (hk : k < n) : allTo p n = false := allTo_mono (k := k + 1) (by rw [allTo, h, Bool.and_false]) (by omega)

noncomputable def inI (x lo hi : Int) : Bool := dec (lo ≤ x) && dec (x ≤ hi)
theorem inI_iff {x lo hi : Int} : inI x lo hi = true ↔ lo ≤ x ∧ x ≤ hi := by unfold inI; rw [Bool.and_eq_true, dec_iff, dec_iff]

def pw (b : Int) : Nat → Int
  | 0 => 1
  | k + 1 => pw b k * b
theorem pw_bound {b : Int} (h1 : 1 ≤ b) (h3 : b ≤ 3) : ∀ k : Nat, 1 ≤ pw b k ∧ pw b k ≤ (3 : Int) ^ k
  | 0 => by simp [pw]
  | k + 1 => by
    obtain ⟨i1, i2⟩ := pw_bound h1 h3 k
    rw [pw, Int.pow_succ]
    constructor
    · have := Int.mul_le_mul i1 h1 (by omega) (by omega)
      simpa using this
    · exact Int.mul_le_mul i2 h3 (by omega) (by omega)
theorem pow3_mono {k n : Nat} (h : k ≤ n) : (3 : Int) ^ k ≤ 3 ^ n := by
  have := Nat.pow_le_pow_right (n := 3) (by omega) h
  exact_mod_cast this
theorem pw_small {b : Int} (h1 : 1 ≤ b) (h3 : b ≤ 3) {k : Nat} (hk : k ≤ 12) : 1 ≤ pw b k ∧ pw b k ≤ 531441 := by
  obtain ⟨i1, i2⟩ := pw_bound h1 h3 k
  have := pow3_mono hk
  have e : (3 : Int) ^ 12 = 531441 := by decide
  omega

theorem pw_mid {b : Int} (h1 : 1 ≤ b) (h3 : b ≤ 3) {k : Nat} (hk : k ≤ 30) : 1 ≤ pw b k ∧ pw b k ≤ 205891132094649 := by
  obtain ⟨i1, i2⟩ := pw_bound h1 h3 k
  have := pow3_mono hk
  have e : (3 : Int) ^ 30 = 205891132094649 := by decide
  omega

/-! Tables. -/
noncomputable def keyLt (a b : Tl) : Bool := strLt a.name b.name || (dec (a.name = b.name) && dec (a.arity < b.arity))
noncomputable def tlAt (ts : List Tl) (k : Nat) : Bool := match ts[k]? with
  | none => true
  | some t => symB t.name && (inI t.arity 0 3 && (match k with
    | 0 => true
    | j + 1 => match ts[j]? with
      | none => true
      | some u => keyLt u t))
theorem tlAt_zero {ts : List Tl} (h : 0 < ts.length) : tlAt ts 0 = (symB ts[0].name && inI ts[0].arity 0 3) := by
  unfold tlAt
  rw [List.getElem?_eq_getElem h]
  simp
theorem tlAt_succ {ts : List Tl} {j : Nat} (h : j + 1 < ts.length) : tlAt ts (j + 1) = (symB ts[j + 1].name && (inI ts[j + 1].arity 0 3 && keyLt ts[j] ts[j + 1])) := by
  unfold tlAt
  rw [List.getElem?_eq_getElem h]
  simp only [List.getElem?_eq_getElem (show j < ts.length by omega)]
theorem tlAt_parts {ts : List Tl} {k : Nat} (h : k < ts.length) (ht : tlAt ts k = true) : symB ts[k].name = true ∧ inI ts[k].arity 0 3 = true := by
  cases k with
  | zero => rw [tlAt_zero h, Bool.and_eq_true] at ht; exact ht
  | succ j => rw [tlAt_succ h, Bool.and_eq_true, Bool.and_eq_true] at ht; exact ⟨ht.1, ht.2.1⟩
noncomputable def tabsB (ts : List Tl) : Bool := allTo (tlAt ts) ts.length && decide (ts.length ≤ 12)
def kinds (sz : Int) (t : Tl) : Int := if t.pred then 2 else sz
noncomputable def tlB (sz : Int) (t : Tl) : Bool := dec ((t.vals.length : Int) = pw sz t.arity.toNat) && t.vals.all fun v => inI v 0 (kinds sz t - 1)
noncomputable def Ip.ok (m : Ip) : Bool := inI m.size 1 3 && (tabsB m.tables && m.tables.all (tlB m.size))
theorem Ip.ok_parts {m : Ip} (h : m.ok = true) : (1 ≤ m.size ∧ m.size ≤ 3) ∧ tabsB m.tables = true ∧ m.tables.all (tlB m.size) = true := by
  unfold Ip.ok at h
  rw [Bool.and_eq_true, Bool.and_eq_true, inI_iff] at h
  exact h
theorem tabsB_arity {ts : List Tl} (h : tabsB ts = true) {t : Tl} (ht : t ∈ ts) : 0 ≤ t.arity ∧ t.arity ≤ 3 := by
  unfold tabsB at h
  rw [Bool.and_eq_true] at h
  obtain ⟨k, hk, rfl⟩ := List.getElem_of_mem ht
  exact inI_iff.1 (tlAt_parts hk (allTo_at h.1 hk)).2
theorem tabsB_len {ts : List Tl} (h : tabsB ts = true) : ts.length ≤ 12 := by
  unfold tabsB at h
  rw [Bool.and_eq_true, decide_eq_true_eq] at h
  exact h.2

/-- What is small enough for the machine. -/
def Ip.tame (m : Ip) : Prop := m.tables.length ≤ 1099511627776 ∧ ∀ t ∈ m.tables, t.vals.length ≤ 1099511627776
end Go.Proofs.Ytpmeabbfpabglaa

set_option maxRecDepth 100000
set_option linter.unusedSimpArgs false
set_option linter.unusedVariables false
namespace Go.Proofs.Ytpmeabbfpabglaa
open Go.RowKit

theorem less_irrefl : ∀ x : List UInt8, Op.bytesLess x x = false
  | [] => rfl
  | a :: x => by simp [Op.bytesLess, less_irrefl x]
theorem less_asymm : ∀ x y : List UInt8, Op.bytesLess x y = true → Op.bytesLess y x = false
  | [], [], h => by simp [Op.bytesLess] at h
  | [], _ :: _, _ => rfl
  | _ :: _, [], h => by simp [Op.bytesLess] at h
  | a :: x, b :: y, h => by
    simp only [Op.bytesLess, Bool.or_eq_true, decide_eq_true_eq, Bool.and_eq_true, beq_iff_eq] at h
    simp only [Op.bytesLess, Bool.or_eq_false_iff, decide_eq_false_iff_not]
    rcases h with h | ⟨rfl, h⟩
    · have h2 : ¬ b < a := by intro h3; exact absurd (UInt8.lt_trans h h3) (UInt8.lt_irrefl _)
      have h3 : (b == a) = false := by
        rw [beq_eq_false_iff_ne]; rintro rfl; exact UInt8.lt_irrefl _ h
      exact ⟨h2, by rw [h3]; rfl⟩
    · exact ⟨UInt8.lt_irrefl _, by rw [less_asymm x y h]; simp⟩
theorem less_total : ∀ x y : List UInt8, Op.bytesLess x y = false → Op.bytesLess y x = false → x = y
  | [], [], _, _ => rfl
  | [], _ :: _, h, _ => by simp [Op.bytesLess] at h
  | _ :: _, [], _, h => by simp [Op.bytesLess] at h
  | a :: x, b :: y, h, k => by
    simp only [Op.bytesLess, Bool.or_eq_false_iff, decide_eq_false_iff_not] at h k
    have hab : a = b := by
      have h1 := h.1; have h2 := k.1
      rw [UInt8.lt_iff_toNat_lt] at h1 h2
      exact UInt8.toNat_inj.1 (by omega)
    subst hab
    have h1 : Op.bytesLess x y = false := by simpa using h.2
    have h2 : Op.bytesLess y x = false := by simpa using k.2
    rw [less_total x y h1 h2]

theorem strLt_asymm {a b : ByteArray} (h : strLt a b = true) : strLt b a = false := less_asymm _ _ h
theorem strLt_total {a b : ByteArray} (h : strLt a b = false) (h' : strLt b a = false) : a = b := bytes_ext (less_total _ _ h h')
theorem strLe_eq (a b : ByteArray) : (strLt a b || dec (a = b)) = !strLt b a := by
  cases h : strLt b a with
  | false =>
    cases h2 : strLt a b with
    | false => rw [dec_t (strLt_total h2 h)]; rfl
    | true => rfl
  | true =>
    rw [strLt_asymm h, dec_f (by rintro rfl; rw [strLt_self] at h; cases h)]
    rfl

theorem less_trans : ∀ x y z : List UInt8, Op.bytesLess x y = true → Op.bytesLess y z = true → Op.bytesLess x z = true
  | _, _, [], _, h => by simp [Op.bytesLess] at h
  | [], [], _ :: _, h, _ => by simp [Op.bytesLess] at h
  | [], _ :: _, _ :: _, _, _ => rfl
  | _ :: _, [], _ :: _, h, _ => by simp [Op.bytesLess] at h
  | a :: x, b :: y, c :: z, h, k => by
    simp only [Op.bytesLess, Bool.or_eq_true, decide_eq_true_eq, Bool.and_eq_true, beq_iff_eq] at h k ⊢
    rcases h with h | ⟨rfl, h⟩
    · rcases k with k | ⟨rfl, k⟩
      · exact .inl (UInt8.lt_trans h k)
      · exact .inl h
    · rcases k with k | ⟨rfl, k⟩
      · exact .inl k
      · exact .inr ⟨rfl, less_trans x y z h k⟩
theorem strLt_trans {a b c : ByteArray} (h : strLt a b = true) (k : strLt b c = true) : strLt a c = true := less_trans _ _ _ h k
theorem strLt_ne {a b : ByteArray} (h : strLt a b = true) : ¬ a = b := by rintro rfl; rw [strLt_self] at h; cases h
theorem cmpB_neg (a b : ByteArray) : dec (cmpB a b < 0) = strLt a b := by
  unfold cmpB
  cases strLt a b
  · cases dec (a = b)
    · exact dec_f (by simp)
    · exact dec_f (by simp)
  · exact dec_t (by simp)
theorem cmpB_zero (a b : ByteArray) : dec (cmpB a b = 0) = dec (a = b) := by
  unfold cmpB
  cases h : strLt a b
  · cases h2 : dec (a = b)
    · exact dec_f (by simp)
    · exact dec_t (by simp)
  · rw [dec_f (strLt_ne h)]
    exact dec_f (by simp)

theorem wrap_u64 {n : Int} (h0 : 0 ≤ n) (h1 : n ≤ 18446744073709551615) : IntKind.u64.wrap n = n := inK_wrap (by
  have e1 : IntKind.u64.min = 0 := by decide
  have e2 : IntKind.u64.max = 18446744073709551615 := by decide
  unfold inK
  rw [e1, e2]
  exact ⟨h0, h1⟩)

end Go.Proofs.Ytpmeabbfpabglaa

set_option maxRecDepth 100000
set_option linter.unusedSimpArgs false
set_option linter.unusedVariables false
namespace Go.Proofs.Ytpmeabbfpabglaa
open Go.RowKit

/-! Assignments. -/
abbrev Env := ByteArray → Option Int
/-- The map of an assignment. -/
def envM (e : Env) : MF
  | .str s => match e s with
    | some n => some (false, [.int n])
    | none => none
  | .int _ => none
theorem envM_str (e : Env) (s : ByteArray) : envM e (.str s) = match e s with | some n => some (false, [.int n]) | none => none := rfl
noncomputable def putE (e : Env) (s : ByteArray) (n : Int) : Env := fun q => bif dec (q = s) then some n else e q
theorem envM_put (e : Env) (s : ByteArray) (n : Int) : mput (envM e) (.str s) (false, [.int n]) = envM (putE e s n) := by
  funext k
  cases k with
  | int i => rw [mput_ne (fun h => by cases h)]; rfl
  | str q =>
    rw [mput_str, envM_str, envM_str]
    unfold putE
    cases dec (q = s) <;> rfl
theorem envM_none : envM (fun _ => none) = nomap := by
  funext k
  cases k <;> rfl
def InE (sz : Int) (e : Env) : Prop := ∀ s n, e s = some n → 0 ≤ n ∧ n < sz
theorem putE_in {sz : Int} {e : Env} (h : InE sz e) {n : Int} (h0 : 0 ≤ n) (h1 : n < sz) (s : ByteArray) : InE sz (putE e s n) := by
  intro q m hq
  unfold putE at hq
  cases hd : dec (q = s) with
  | true => rw [hd] at hq; obtain rfl := Option.some.inj hq; exact ⟨h0, h1⟩
  | false => rw [hd] at hq; exact h q m hq
/-- The assignment that a list tells. -/
noncomputable def asg : List Ag → Env
  | [], _ => none
  | x :: r, s => bif dec (x.var = s) then some x.elem else asg r s
noncomputable def agAt (sz : Int) (xs : List Ag) (k : Nat) : Bool := match xs[k]? with
  | none => true
  | some x => varB x.var && (inI x.elem 0 (sz - 1) && (match k with
    | 0 => true
    | j + 1 => match xs[j]? with
      | none => true
      | some y => strLt y.var x.var))
theorem agAt_zero {sz : Int} {xs : List Ag} (h : 0 < xs.length) : agAt sz xs 0 = (varB xs[0].var && inI xs[0].elem 0 (sz - 1)) := by
  unfold agAt
  rw [List.getElem?_eq_getElem h]
  simp
theorem agAt_succ {sz : Int} {xs : List Ag} {j : Nat} (h : j + 1 < xs.length) : agAt sz xs (j + 1) = (varB xs[j + 1].var && (inI xs[j + 1].elem 0 (sz - 1) && strLt xs[j].var xs[j + 1].var)) := by
  unfold agAt
  rw [List.getElem?_eq_getElem h]
  simp only [List.getElem?_eq_getElem (show j < xs.length by omega)]
noncomputable def agsB (sz : Int) (xs : List Ag) : Bool := allTo (agAt sz xs) xs.length
/-- The assignment as the program fills it. -/
noncomputable def fillE (xs : List Ag) : Env := xs.foldl (fun e x => putE e x.var x.elem) fun _ => none
theorem fillE_snoc {xs : List Ag} {k : Nat} (h : k < xs.length) : fillE (xs.take (k + 1)) = putE (fillE (xs.take k)) xs[k].var xs[k].elem := by
  rw [List.take_succ_eq_append_getElem h, fillE, List.foldl_append]; rfl
/-- Names that go up. -/
def upTo_ (xs : List Ag) : Prop := xs.Pairwise fun x y => strLt x.var y.var = true
theorem fillE_none {xs : List Ag} {s : ByteArray} (h : ∀ x ∈ xs, x.var ≠ s) : ∀ e : Env, xs.foldl (fun e x => putE e x.var x.elem) e s = e s := by
  induction xs with
  | nil => intro e; rfl
  | cons x r ih =>
    intro e
    rw [List.foldl_cons, ih (fun y hy => h y (by simp [hy])), putE, dec_f fun e' => h x (by simp) e'.symm]; rfl
theorem fillE_eq {xs : List Ag} (h : upTo_ xs) : fillE xs = asg xs := by
  have key : ∀ (xs : List Ag), upTo_ xs → ∀ (e : Env) (s : ByteArray), xs.foldl (fun e x => putE e x.var x.elem) e s = match asg xs s with | some n => some n | none => e s := by
    intro xs
    induction xs with
    | nil => intro _ e s; rw [asg]; rfl
    | cons x r ih =>
      intro hp e s
      obtain ⟨h1, h2⟩ := List.pairwise_cons.1 hp
      rw [List.foldl_cons, ih h2]
      rw [asg]
      by_cases hs : x.var = s
      · rw [dec_t hs, cond_true]
        have : asg r s = none := by
          have hn : ∀ y ∈ r, y.var ≠ s := fun y hy e' => strLt_ne (h1 y hy) (hs.trans e'.symm)
          clear ih h1 h2 hp
          induction r with
          | nil => rw [asg]
          | cons y r ih => rw [asg, dec_f (hn y (by simp)), cond_false, ih fun z hz => hn z (by simp [hz])]
        rw [this]
        simp only [putE, dec_t hs.symm, cond_true]
      · rw [dec_f hs, cond_false]
        cases asg r s with
        | some n => rfl
        | none => simp only [putE, dec_f (p := s = x.var) (fun e' => hs (Eq.symm e')), cond_false]
  funext s
  rw [fillE, key xs h]
  cases asg xs s <;> rfl
theorem asg_in {sz : Int} : ∀ {xs : List Ag}, (∀ x ∈ xs, 0 ≤ x.elem ∧ x.elem < sz) → InE sz (asg xs)
  | [], _ => fun s n h => by rw [asg] at h; cases h
  | x :: r, h => fun s n hs => by
    rw [asg] at hs
    by_cases he : x.var = s
    · rw [dec_t he, cond_true] at hs
      obtain rfl := Option.some.inj hs
      exact h x (by simp)
    · rw [dec_f he, cond_false] at hs
      exact asg_in (fun y hy => h y (by simp [hy])) s n hs
/-- A list that goes up step by step. -/
theorem up_of_steps {xs : List Ag} (h : ∀ j (hj : j + 1 < xs.length), strLt xs[j].var xs[j + 1].var = true) : upTo_ xs := by
  have key : ∀ i d (hi : i + d + 1 < xs.length), strLt (xs[i]'(by omega)).var xs[i + d + 1].var = true := by
    intro i d
    induction d with
    | zero => intro hi; exact h i hi
    | succ d ih => intro hi; exact strLt_trans (ih (by omega)) (h (i + d + 1) hi)
  unfold upTo_
  rw [List.pairwise_iff_getElem]
  intro i j hi hj hij
  obtain ⟨d, rfl⟩ : ∃ d, j = i + d + 1 := ⟨j - i - 1, by omega⟩
  exact key i d hj
theorem agsB_up {sz : Int} {xs : List Ag} (h : agsB sz xs = true) : upTo_ xs ∧ ∀ x ∈ xs, 0 ≤ x.elem ∧ x.elem < sz := by
  have hat := fun j (hj : j < xs.length) => allTo_at h hj
  refine ⟨up_of_steps fun j hj => ?_, fun x hx => ?_⟩
  · have := hat (j + 1) hj
    rw [agAt_succ hj, Bool.and_eq_true, Bool.and_eq_true] at this
    exact this.2.2
  · obtain ⟨k, hk, rfl⟩ := List.getElem_of_mem hx
    have := hat k hk
    cases k with
    | zero =>
      rw [agAt_zero hk, Bool.and_eq_true, inI_iff] at this
      omega
    | succ j =>
      rw [agAt_succ hk, Bool.and_eq_true, Bool.and_eq_true, inI_iff] at this
      omega

/-! Values. -/
noncomputable def tabF (ts : List Tl) (n : ByteArray) (k : Int) (p : Bool) : Option Tl := ts.find? fun t => dec (t.name = n) && (dec (t.arity = k) && (t.pred == p))
noncomputable def readT (ts : List Tl) (n : ByteArray) (k : Int) (p : Bool) (at_ : Option Int) : Option Int :=
  match tabF ts n k p, at_ with
  | some t, some i => some (t.vals.getD i.toNat 0)
  | _, _ => none
mutual
noncomputable def Tm.val (m : Ip) (e : Env) : Tm → Option Int
  | .mk n args => bif varB n then e n else readT m.tables n args.length false (Tm.valS m e args 0)
noncomputable def Tm.valS (m : Ip) (e : Env) : List Tm → Int → Option Int
  | [], i => some i
  | x :: xs, i => match Tm.val m e x with
    | some v => Tm.valS m e xs (i * m.size + v)
    | none => none
end
theorem Tm.val_eq (m : Ip) (e : Env) (x : Tm) : x.val m e = bif varB x.name then e x.name else readT m.tables x.name x.args.length false (Tm.valS m e x.args 0) := by
  obtain ⟨n, a⟩ := x
  rw [Tm.val]; rfl
theorem valS_range {m : Ip} {e : Env} (h1 : 1 ≤ m.size) : ∀ {xs : List Tm} {i r : Int}, (∀ x ∈ xs, ∀ v, x.val m e = some v → 0 ≤ v ∧ v < m.size) → 0 ≤ i → Tm.valS m e xs i = some r → i * pw m.size xs.length ≤ r ∧ r < (i + 1) * pw m.size xs.length
  | [], i, r, _, h0, h => by
    rw [Tm.valS] at h
    obtain rfl := Option.some.inj h
    simp [pw]
    omega
  | x :: xs, i, r, hx, h0, h => by
    rw [Tm.valS] at h
    cases hv : x.val m e with
    | none => rw [hv] at h; cases h
    | some v =>
      rw [hv] at h
      obtain ⟨v0, v1⟩ := hx x (by simp) v hv
      have hn : 0 ≤ i * m.size + v := by
        have := Int.mul_nonneg h0 (show 0 ≤ m.size by omega)
        omega
      obtain ⟨g1, g2⟩ := valS_range h1 (fun y hy => hx y (by simp [hy])) hn h
      have hp : 0 ≤ pw m.size xs.length := by
        clear g1 g2 h hx
        induction xs with
        | nil => simp [pw]
        | cons y ys ih => rw [List.length_cons, pw]; exact Int.mul_nonneg ih (by omega)
      rw [List.length_cons, pw]
      have e1 : i * (pw m.size xs.length * m.size) = (i * m.size) * pw m.size xs.length := by rw [Int.mul_assoc, Int.mul_comm m.size]
      have e2 : (i + 1) * (pw m.size xs.length * m.size) = (i * m.size + m.size) * pw m.size xs.length := by
        rw [Int.mul_comm (pw m.size xs.length), ← Int.mul_assoc, Int.add_mul i 1 m.size, Int.one_mul]
      rw [e1, e2]
      have k1 : (i * m.size) * pw m.size xs.length ≤ (i * m.size + v) * pw m.size xs.length := Int.mul_le_mul_of_nonneg_right (by omega) hp
      have k2 : (i * m.size + v + 1) * pw m.size xs.length ≤ (i * m.size + m.size) * pw m.size xs.length := Int.mul_le_mul_of_nonneg_right (by omega) hp
      omega
theorem tabF_some {ts : List Tl} {n : ByteArray} {k : Int} {p : Bool} {t : Tl} (h : tabF ts n k p = some t) : t ∈ ts ∧ t.name = n ∧ t.arity = k ∧ t.pred = p := by
  unfold tabF at h
  have h1 := List.mem_of_find?_eq_some h
  have h2 := List.find?_some h
  rw [Bool.and_eq_true, Bool.and_eq_true, dec_iff, dec_iff] at h2
  exact ⟨h1, h2.1, h2.2.1, by simpa using h2.2.2⟩
/-- Where a table is read, it has a value of its kind. -/
theorem read_in {m : Ip} (hm : m.ok = true) {n : ByteArray} {l : Nat} {p : Bool} {t : Tl} (ht : tabF m.tables n l p = some t) {i : Int} (h0 : 0 ≤ i) (h1 : i < pw m.size l) : ∃ h : i.toNat < t.vals.length, t.vals.getD i.toNat 0 = t.vals[i.toNat] ∧ 0 ≤ t.vals[i.toNat] ∧ t.vals[i.toNat] < kinds m.size t := by
  obtain ⟨_, _, h3⟩ := Ip.ok_parts hm
  obtain ⟨t1, t2, t3, t4⟩ := tabF_some ht
  have := (List.all_eq_true.1 h3) t t1
  unfold tlB at this
  rw [Bool.and_eq_true, dec_iff, List.all_eq_true, t3] at this
  have e : (l : Int).toNat = l := by omega
  rw [e] at this
  have hl : i.toNat < t.vals.length := by omega
  refine ⟨hl, by rw [List.getD_eq_getElem?_getD, List.getElem?_eq_getElem hl]; rfl, ?_⟩
  have h5 := inI_iff.1 (this.2 _ (List.getElem_mem hl))
  omega
theorem Tm.val_in {m : Ip} (hm : m.ok = true) {e : Env} (he : InE m.size e) (x : Tm) : ∀ v, x.val m e = some v → 0 ≤ v ∧ v < m.size := by
  intro v hv
  have ih : ∀ y ∈ x.args, ∀ v, y.val m e = some v → 0 ≤ v ∧ v < m.size := fun y hy => Tm.val_in hm he y
  obtain ⟨⟨h1, _⟩, _⟩ := Ip.ok_parts hm
  rw [Tm.val_eq] at hv
  cases hb : varB x.name with
  | true => rw [hb] at hv; exact he _ _ hv
  | false =>
    rw [hb, cond_false] at hv
    unfold readT at hv
    split at hv
    · rename_i t i ht hi
      obtain rfl := Option.some.inj hv
      obtain ⟨g1, g2⟩ := valS_range h1 ih (Int.le_refl 0) hi
      rw [Int.zero_mul] at g1
      rw [Int.zero_add, Int.one_mul] at g2
      obtain ⟨h2, h3, h4, h5⟩ := read_in hm ht g1 g2
      rw [h3]
      obtain ⟨_, _, _, t4⟩ := tabF_some ht
      unfold kinds at h5
      rw [t4] at h5
      simp at h5
      exact ⟨h4, h5⟩
    · cases hv
termination_by SizeOf.sizeOf x
decreasing_by exact Tm.lt_of_mem hy
/-- The truth of an atom, as a number. -/
noncomputable def Tm.tru (m : Ip) (e : Env) (x : Tm) : Option Int :=
  if x.eqn then match Tm.valS m e x.args 0 with
    | some i => some (bif dec (i.tmod m.size = i.tdiv m.size) then 1 else 0)
    | none => none
  else readT m.tables x.name x.args.length true (Tm.valS m e x.args 0)
end Go.Proofs.Ytpmeabbfpabglaa

set_option maxRecDepth 100000
set_option linter.unusedSimpArgs false
set_option linter.unusedVariables false
namespace Go.Proofs.Ytpmeabbfpabglaa
open Go.RowKit

/-- A run ends so that Q is true of its answer. -/
def finQ (res : RM) (n0 : Nat) (rs : List RX) (Q : SV × List Ob → Prop) (x : X) (st : St) : Prop := ∃ out, finK res n0 rs out x st ∧ Q out
theorem exq {α : Type} {a : α} {Q : α → Prop} : (∃ out, some a = some out ∧ Q out) = Q a := propext ⟨fun ⟨o, h, q⟩ => by obtain rfl := Option.some.inj h; exact q, fun q => ⟨a, rfl, q⟩⟩
theorem finQ_r {res : RM} {n0 : Nat} {rs : List RX} {Q : SV × List Ob → Prop} {sl : List SV} {ob : List Ob} : finQ res n0 rs Q .ret ⟨sl, ob⟩ = ∃ out, resF1 res n0 ob (resV ⟨sl, ob⟩ rs) = some out ∧ Q out := rfl
theorem finQ_n {res : RM} {n0 : Nat} {rs : List RX} {Q : SV × List Ob → Prop} {sl : List SV} {ob : List Ob} : finQ res n0 rs Q .normal ⟨sl, ob⟩ = ∃ out, resF1 res n0 ob (resV ⟨sl, ob⟩ rs) = some out ∧ Q out := rfl
theorem E_walkQ {f : FuncId} {fc : FC} {hand : List Bool} {res : RM} {tr : Bool} {xs : List SV} {ob : List Ob} {Q : SV × List Ob → Prop} (hc : codeOf Try.prog f = some fc) (hr : modes f = ⟨hand, res, none, tr⟩) (hn : xs.length ≤ fc.nt) (h : go ob.length fc.sc ⟨xs ++ anys (fc.nt - xs.length), entry tr ob⟩ (finQ res ob.length fc.rs Q)) : ∃ out, E f xs ob = some out ∧ Q out := by
  obtain ⟨x, st', h1, out, h2, h3⟩ := h
  exact ⟨out, E_walk hc hr hn ⟨x, st', h1, h2⟩, h3⟩
attribute [go_sem] finQ_r finQ_n exq
/-- A term whose arguments are shared, as an element of a row of one's own. -/
def Tm.osh (x : Tm) : List OT := [.str x.name, .sh (x.args.map Tm.d)]
theorem Tm.osh_eq (x : Tm) : x.osh = [.str x.name, .sh (x.args.map Tm.d)] := rfl
theorem Tm.osh_full : ∀ xs : List Tm, OT.fullss (xs.map Tm.osh) = true
  | [] => rfl
  | x :: xs => by rw [List.map_cons, Tm.osh_eq]; simp [OT.fullss, OT.fulls, OT.full, Tm.osh_full xs]
theorem Tm.osh_er : ∀ xs : List Tm, OT.erss (xs.map Tm.osh) = xs.map Tm.d
  | [] => rfl
  | x :: xs => by rw [List.map_cons, List.map_cons, Tm.osh_eq, Tm.d_eq]; simp [OT.erss, OT.ers, OT.er, Tm.osh_er xs]
theorem map_snoc {α β : Type} (f : α → β) {xs : List α} {k : Nat} (h : k < xs.length) : (xs.take k).map f ++ [f xs[k]] = (xs.take (k + 1)).map f := by
  rw [List.take_succ_eq_append_getElem h, List.map_append]; rfl
end Go.Proofs.Ytpmeabbfpabglaa

set_option maxRecDepth 100000
set_option linter.unusedSimpArgs false
set_option linter.unusedVariables false
namespace Go.Proofs.Ytpmeabbfpabglaa
open Go.RowKit

def c_impl_within : SC := (.seq (.reg [⟨(some 6), none, (.mv (.c (.bool false)))⟩]) (.seq (.reg [⟨(some 7), none, (.mv (.t 0))⟩, ⟨(some 8), none, (.mv (.t 1))⟩, ⟨(some 9), none, (.bin .geq false (.t 7) (.t 8))⟩, ⟨(some 10), none, (.mv (.t 9))⟩, ⟨(some 11), (some (10, true)), (.mv (.t 0))⟩, ⟨(some 12), (some (10, true)), (.mv (.t 2))⟩, ⟨(some 13), (some (10, true)), (.bin .leq false (.t 11) (.t 12))⟩, ⟨(some 14), none, (.pick (.t 10) (.t 13) (.c (.bool false)))⟩, ⟨(some 6), none, (.mv (.t 14))⟩]) .ret))
theorem k_impl_within : codeOf Try.prog 60 = some ⟨15, c_impl_within, [(.tmp 6)]⟩ := by kernel_rfl
theorem m_impl_within : modes 60 = ⟨[], .asis, none, false⟩ := by unfold modes; rfl

def c_spec_l1In : SC := (.seq (.reg [⟨(some 6), none, (.mv (.c (.bool false)))⟩]) (.seq (.reg [⟨(some 7), none, (.mv (.t 0))⟩, ⟨(some 8), none, (.mv (.t 1))⟩, ⟨(some 9), none, (.bin .geq false (.t 7) (.t 8))⟩, ⟨(some 10), none, (.mv (.t 9))⟩, ⟨(some 11), (some (10, true)), (.mv (.t 0))⟩, ⟨(some 12), (some (10, true)), (.mv (.t 2))⟩, ⟨(some 13), (some (10, true)), (.bin .leq false (.t 11) (.t 12))⟩, ⟨(some 14), none, (.pick (.t 10) (.t 13) (.c (.bool false)))⟩, ⟨(some 6), none, (.mv (.t 14))⟩]) .ret))
theorem k_spec_l1In : codeOf Try.prog 51 = some ⟨15, c_spec_l1In, [(.tmp 6)]⟩ := by kernel_rfl
theorem m_spec_l1In : modes 51 = ⟨[], .asis, none, false⟩ := by unfold modes; rfl

def c_impl_power : SC := (.seq (.reg [⟨(some 4), none, (.mv (.c (.int .i64 0)))⟩]) (.seq (.reg [⟨(some 5), none, (.mv (.c (.int .i64 1)))⟩]) (.seq (.seq (.reg [⟨(some 6), none, (.mv (.t 1))⟩, ⟨(some 7), none, (.mv (.c (.int .i64 0)))⟩]) (.block 0 (.loop [1, 0, 0, 0, 0, 1, 1, 1, 0, 0, 0, 0, 0, 0] (.seq (.reg [⟨(some 8), none, (.bin .lss false (.t 7) (.t 6))⟩]) (.seq (.cond (.t 8) .skip (.exit 0)) (.seq (.block 1 (.reg [⟨(some 9), none, (.mv (.t 5))⟩, ⟨(some 10), none, (.mv (.t 0))⟩, ⟨(some 11), none, (.bin .mul false (.t 9) (.t 10))⟩, ⟨(some 5), none, (.mv (.t 11))⟩])) (.reg [⟨(some 12), none, (.bin .add false (.t 7) (.c (.int .i64 1)))⟩, ⟨(some 7), none, (.mv (.t 12))⟩]))))))) (.seq (.reg [⟨(some 13), none, (.mv (.t 5))⟩, ⟨(some 4), none, (.mv (.t 13))⟩]) .ret))))
theorem k_impl_power : codeOf Try.prog 64 = some ⟨14, c_impl_power, [(.tmp 4)]⟩ := by kernel_rfl
theorem m_impl_power : modes 64 = ⟨[], .asis, none, false⟩ := by unfold modes; rfl

def c_spec_l10Power : SC := (.seq (.reg [⟨(some 4), none, (.mv (.c (.int .i64 0)))⟩]) (.seq (.reg [⟨(some 5), none, (.mv (.c (.int .i64 1)))⟩]) (.seq (.seq (.reg [⟨(some 6), none, (.mv (.c (.int .i64 0)))⟩]) (.block 0 (.loop [1, 1, 0, 0, 0, 1, 1, 0, 0, 0, 0, 0, 0, 0, 0, 0] (.seq (.seq (.reg [⟨(some 7), none, (.mv (.t 6))⟩, ⟨(some 8), none, (.mv (.t 1))⟩, ⟨(some 9), none, (.bin .lss false (.t 7) (.t 8))⟩]) (.cond (.t 9) .skip (.exit 0))) (.seq (.block 1 (.reg [⟨(some 12), none, (.mv (.t 5))⟩, ⟨(some 13), none, (.mv (.t 0))⟩, ⟨(some 14), none, (.bin .mul false (.t 12) (.t 13))⟩, ⟨(some 5), none, (.mv (.t 14))⟩])) (.reg [⟨(some 10), none, (.mv (.t 6))⟩, ⟨(some 11), none, (.bin .add false (.t 10) (.c (.int .i64 1)))⟩, ⟨(some 6), none, (.mv (.t 11))⟩])))))) (.seq (.reg [⟨(some 15), none, (.mv (.t 5))⟩, ⟨(some 4), none, (.mv (.t 15))⟩]) .ret))))
theorem k_spec_l10Power : codeOf Try.prog 53 = some ⟨16, c_spec_l10Power, [(.tmp 4)]⟩ := by kernel_rfl
theorem m_spec_l10Power : modes 53 = ⟨[], .asis, none, false⟩ := by unfold modes; rfl

def c_impl_compareTables : SC := (.seq (.reg [⟨(some 2), none, (.boxv 95 4 (.t 0))⟩, ⟨(some 3), none, (.boxv 95 4 (.t 1))⟩, ⟨(some 4), none, (.mv (.c (.int .i64 0)))⟩]) (.seq (.dreg [[], [0], [], [2], [1, 0, 3, 2], [], [5], [], [7], [6, 5, 8, 7, 4, 1, 0, 3, 2], [4, 1, 0, 3, 2, 9, 6, 5, 8, 7], [10, 4, 1, 0, 3, 2, 9, 6, 5, 8, 7], [11, 10, 4, 1, 0, 3, 2, 9, 6, 5, 8, 7]] [⟨(some 5), none, (.faddr 0 (.t 2))⟩, ⟨(some 6), none, (.load false 1 (.t 5))⟩, ⟨(some 7), none, (.faddr 0 (.t 3))⟩, ⟨(some 8), none, (.load false 1 (.t 7))⟩, ⟨(some 9), none, (.call 132 [(.t 6), (.t 8)])⟩, ⟨(some 10), none, (.faddr 1 (.t 2))⟩, ⟨(some 11), none, (.load false 1 (.t 10))⟩, ⟨(some 12), none, (.faddr 1 (.t 3))⟩, ⟨(some 13), none, (.load false 1 (.t 12))⟩, ⟨(some 14), none, (.call 133 [(.t 11), (.t 13)])⟩, ⟨(some 15), none, (.mkrow 3 1 [(.int .i64 0)] 2 [(0, (.t 9)), (1, (.t 14))])⟩, ⟨(some 16), none, (.call 131 [(.t 15)])⟩, ⟨(some 4), none, (.mv (.t 16))⟩]) .ret))
theorem k_impl_compareTables : codeOf Try.prog 106 = some ⟨17, c_impl_compareTables, [(.tmp 4)]⟩ := by kernel_rfl
theorem m_impl_compareTables : modes 106 = ⟨[], .asis, none, false⟩ := by unfold modes; rfl

def c_impl_areTables : SC := (.seq (.reg [⟨(some 2), none, (.mv (.c (.bool false)))⟩]) (.seq (.seq (.reg [⟨(some 5), none, (.mv (.t 0))⟩, ⟨(some 6), none, (.len false (.t 5))⟩, ⟨(some 7), none, (.mv (.c (.int .i64 0)))⟩]) (.block 0 (.loop [1, 0, 0, 0, 0, 1, 1, 1, 0, 0, 0, 0, 0, 0, 0, 0, 0, 0, 0, 0, 0, 0, 0, 0, 0, 0, 0, 0, 0, 0, 0, 0, 0, 0, 0, 0, 0, 0, 0, 0] (.seq (.reg [⟨(some 8), none, (.bin .lss false (.t 7) (.t 6))⟩]) (.seq (.cond (.t 8) .skip (.exit 0)) (.seq (.block 1 (.seq (.reg [⟨(some 9), none, (.mv (.t 7))⟩, ⟨(some 10), none, (.iaddr 4 (.t 5) (.t 7))⟩, ⟨(some 11), none, (.load true 4 (.t 10))⟩, ⟨(some 4), none, (.alloc 95 [(.str ⟨#[]⟩), (.int .i64 0), (.bool false), .nil])⟩, ⟨(some 3), none, (.mv (.t 9))⟩, ⟨none, none, (.store 4 (.t 4) (.t 11))⟩]) (.seq (.dreg [[], [0], [1, 0], [2, 1, 0], [3, 2, 1, 0], [4, 3, 2, 1, 0], [5, 4, 3, 2, 1, 0], [6, 5, 4, 3, 2, 1, 0], [7, 6, 5, 4, 3, 2, 1, 0], [4, 3, 2, 1, 0, 8, 7, 6, 5], [9, 4, 3, 2, 1, 0, 8, 7, 6, 5], [10, 9, 4, 3, 2, 1, 0, 8, 7, 6, 5], [11, 10, 9, 4, 3, 2, 1, 0, 8, 7, 6, 5], [12, 11, 10, 9, 4, 3, 2, 1, 0, 8, 7, 6, 5], [13, 12, 11, 10, 9, 4, 3, 2, 1, 0, 8, 7, 6, 5], [13, 12, 11, 10, 9, 4, 3, 2, 1, 0, 8, 7, 6, 5], [15, 13, 12, 11, 10, 9, 4, 3, 2, 1, 0, 8, 7, 6, 5], [14, 13, 12, 11, 10, 9, 4, 3, 2, 1, 0, 8, 7, 6, 5, 16, 15], [17, 14, 13, 12, 11, 10, 9, 4, 3, 2, 1, 0, 8, 7, 6, 5, 16, 15], [13, 12, 11, 10, 9, 4, 3, 2, 1, 0, 8, 7, 6, 5], [18, 17, 14, 13, 12, 11, 10, 9, 4, 3, 2, 1, 0, 8, 7, 6, 5, 16, 15, 19], [20, 18, 17, 14, 13, 12, 11, 10, 9, 4, 3, 2, 1, 0, 8, 7, 6, 5, 16, 15, 19], [13, 12, 11, 10, 9, 4, 3, 2, 1, 0, 8, 7, 6, 5, 21, 20, 18, 17, 14, 16, 15, 19], [10, 9, 4, 3, 2, 1, 0, 8, 7, 6, 5, 22, 13, 12, 11, 21, 20, 18, 17, 14, 16, 15, 19]] [⟨(some 12), none, (.faddr 0 (.t 4))⟩, ⟨(some 13), none, (.load false 1 (.t 12))⟩, ⟨(some 14), none, (.call 105 [(.t 13)])⟩, ⟨(some 15), none, (.un .not (.t 14))⟩, ⟨(some 16), none, (.mv (.t 15))⟩, ⟨(some 17), (some (16, false)), (.faddr 1 (.t 4))⟩, ⟨(some 18), (some (16, false)), (.load false 1 (.t 17))⟩, ⟨(some 19), (some (16, false)), (.call 60 [(.t 18), (.c (.int .i64 0)), (.c (.int .i64 3))])⟩, ⟨(some 20), (some (16, false)), (.un .not (.t 19))⟩, ⟨(some 21), none, (.pick (.t 16) (.c (.bool true)) (.t 20))⟩, ⟨(some 22), none, (.mv (.t 21))⟩, ⟨(some 23), (some (22, false)), (.mv (.t 3))⟩, ⟨(some 24), (some (22, false)), (.bin .gtr false (.t 23) (.c (.int .i64 0)))⟩, ⟨(some 25), (some (22, false)), (.mv (.t 24))⟩, ⟨(some 26), (some (25, true)), (.mv (.t 0))⟩, ⟨(some 27), (some (25, true)), (.mv (.t 3))⟩, ⟨(some 28), (some (25, true)), (.bin .sub false (.t 27) (.c (.int .i64 1)))⟩, ⟨(some 29), (some (25, true)), (.iaddr 4 (.t 26) (.t 28))⟩, ⟨(some 30), (some (25, true)), (.load true 4 (.t 29))⟩, ⟨(some 31), (some (25, true)), (.load true 4 (.t 4))⟩, ⟨(some 32), (some (25, true)), (.call 106 [(.t 30), (.t 31)])⟩, ⟨(some 33), (some (25, true)), (.bin .geq false (.t 32) (.c (.int .i64 0)))⟩, ⟨(some 34), (some (22, false)), (.pick (.t 25) (.t 33) (.c (.bool false)))⟩, ⟨(some 35), none, (.pick (.t 22) (.c (.bool true)) (.t 34))⟩]) (.cond (.t 35) (.seq (.reg [⟨(some 2), none, (.mv (.c (.bool false)))⟩]) .ret) .skip)))) (.reg [⟨(some 36), none, (.bin .add false (.t 7) (.c (.int .i64 1)))⟩, ⟨(some 7), none, (.mv (.t 36))⟩]))))))) (.seq (.reg [⟨(some 37), none, (.mv (.t 0))⟩, ⟨(some 38), none, (.len false (.t 37))⟩, ⟨(some 39), none, (.bin .leq false (.t 38) (.c (.int .i64 12)))⟩, ⟨(some 2), none, (.mv (.t 39))⟩]) .ret)))
theorem k_impl_areTables : codeOf Try.prog 61 = some ⟨40, c_impl_areTables, [(.tmp 2)]⟩ := by kernel_rfl
theorem m_impl_areTables : modes 61 = ⟨[], .asis, none, false⟩ := by unfold modes; rfl

def c_impl_Table_choices : SC := (.seq (.reg [⟨(some 2), none, (.boxv 95 4 (.t 0))⟩, ⟨(some 4), none, (.mv (.c (.int .i64 0)))⟩]) (.seq (.seq (.reg [⟨(some 5), none, (.faddr 2 (.t 2))⟩, ⟨(some 6), none, (.load false 1 (.t 5))⟩]) (.cond (.t 6) (.seq (.reg [⟨(some 4), none, (.mv (.c (.int .i64 2)))⟩]) .ret) .skip)) (.seq (.reg [⟨(some 7), none, (.mv (.t 1))⟩, ⟨(some 4), none, (.mv (.t 7))⟩]) .ret)))
theorem k_impl_Table_choices : codeOf Try.prog 67 = some ⟨8, c_impl_Table_choices, [(.tmp 4)]⟩ := by kernel_rfl
theorem m_impl_Table_choices : modes 67 = ⟨[], .asis, none, false⟩ := by unfold modes; rfl

def c_impl_IsValidInterpretation : SC := (.seq (.reg [⟨(some 1), none, (.boxv 36 2 (.t 0))⟩, ⟨(some 2), none, (.mv (.c (.bool false)))⟩]) (.seq (.seq (.reg [⟨(some 3), none, (.faddr 0 (.t 1))⟩, ⟨(some 4), none, (.load false 1 (.t 3))⟩, ⟨(some 5), none, (.call 60 [(.t 4), (.c (.int .i64 1)), (.c (.int .i64 3))])⟩, ⟨(some 6), none, (.un .not (.t 5))⟩, ⟨(some 7), none, (.mv (.t 6))⟩, ⟨(some 8), (some (7, false)), (.faddr 1 (.t 1))⟩, ⟨(some 9), (some (7, false)), (.load false 1 (.t 8))⟩, ⟨(some 10), (some (7, false)), (.call 61 [(.t 9)])⟩, ⟨(some 11), (some (7, false)), (.un .not (.t 10))⟩, ⟨(some 12), none, (.pick (.t 7) (.c (.bool true)) (.t 11))⟩]) (.cond (.t 12) (.seq (.reg [⟨(some 2), none, (.mv (.c (.bool false)))⟩]) .ret) .skip)) (.seq (.reg [⟨(some 13), none, (.faddr 1 (.t 1))⟩, ⟨(some 14), none, (.load false 1 (.t 13))⟩, ⟨(some 15), none, (.mkfn 63 [(.t 1)])⟩, ⟨(some 16), none, (.call 62 [(.t 14), (.t 15)])⟩, ⟨(some 17), none, (.un .not (.t 16))⟩, ⟨(some 2), none, (.mv (.t 17))⟩]) .ret)))
theorem k_impl_IsValidInterpretation : codeOf Try.prog 32 = some ⟨18, c_impl_IsValidInterpretation, [(.tmp 2)]⟩ := by kernel_rfl
theorem m_impl_IsValidInterpretation : modes 32 = ⟨[], .asis, none, false⟩ := by unfold modes; rfl

def c_impl_IsValidInterpretation_1 : SC := (.seq (.reg [⟨(some 2), none, (.boxv 95 4 (.t 0))⟩, ⟨(some 3), none, (.mv (.c (.bool false)))⟩]) (.seq (.dreg [[], [0], [1, 0], [], [3], [], [5], [4, 3, 6, 5], [2, 1, 0, 7, 4, 3, 6, 5], [8, 2, 1, 0, 7, 4, 3, 6, 5], [9, 8, 2, 1, 0, 7, 4, 3, 6, 5], [10, 9, 8, 2, 1, 0, 7, 4, 3, 6, 5], [9, 8, 2, 1, 0, 7, 4, 3, 6, 5], [11, 10, 9, 8, 2, 1, 0, 7, 4, 3, 6, 5, 12], [9, 8, 2, 1, 0, 7, 4, 3, 6, 5, 13, 11, 10, 12], [14, 9, 8, 2, 1, 0, 7, 4, 3, 6, 5, 13, 11, 10, 12]] [⟨(some 4), none, (.faddr 3 (.t 2))⟩, ⟨(some 5), none, (.load false 1 (.t 4))⟩, ⟨(some 6), none, (.len false (.t 5))⟩, ⟨(some 7), none, (.faddr 0 (.t 1))⟩, ⟨(some 8), none, (.load false 1 (.t 7))⟩, ⟨(some 9), none, (.faddr 1 (.t 2))⟩, ⟨(some 10), none, (.load false 1 (.t 9))⟩, ⟨(some 11), none, (.call 64 [(.t 8), (.t 10)])⟩, ⟨(some 12), none, (.bin .neq false (.t 6) (.t 11))⟩, ⟨(some 13), none, (.mv (.t 12))⟩, ⟨(some 14), (some (13, false)), (.faddr 3 (.t 2))⟩, ⟨(some 15), (some (13, false)), (.load false 1 (.t 14))⟩, ⟨(some 16), (some (13, false)), (.mkfn 66 [(.t 2), (.t 1)])⟩, ⟨(some 17), (some (13, false)), (.call 65 [(.t 15), (.t 16)])⟩, ⟨(some 18), none, (.pick (.t 13) (.c (.bool true)) (.t 17))⟩, ⟨(some 3), none, (.mv (.t 18))⟩]) .ret))
theorem k_impl_IsValidInterpretation_1 : codeOf Try.prog 63 = some ⟨19, c_impl_IsValidInterpretation_1, [(.tmp 3)]⟩ := by kernel_rfl
theorem m_impl_IsValidInterpretation_1 : modes 63 = ⟨[], .asis, none, false⟩ := by unfold modes; rfl

def c_impl_IsValidInterpretation_1_1 : SC := (.seq (.reg [⟨(some 4), none, (.mv (.c (.bool false)))⟩]) (.seq (.reg [⟨(some 5), none, (.mv (.t 0))⟩, ⟨(some 6), none, (.load true 4 (.t 1))⟩, ⟨(some 7), none, (.faddr 0 (.t 2))⟩, ⟨(some 8), none, (.load false 1 (.t 7))⟩, ⟨(some 9), none, (.call 67 [(.t 6), (.t 8)])⟩, ⟨(some 10), none, (.bin .sub false (.t 9) (.c (.int .i64 1)))⟩, ⟨(some 11), none, (.call 60 [(.t 5), (.c (.int .i64 0)), (.t 10)])⟩, ⟨(some 12), none, (.un .not (.t 11))⟩, ⟨(some 4), none, (.mv (.t 12))⟩]) .ret))
theorem k_impl_IsValidInterpretation_1_1 : codeOf Try.prog 66 = some ⟨13, c_impl_IsValidInterpretation_1_1, [(.tmp 4)]⟩ := by kernel_rfl
theorem m_impl_IsValidInterpretation_1_1 : modes 66 = ⟨[], .asis, none, false⟩ := by unfold modes; rfl

theorem g_impl_IsValidInterpretation_1 : goFn Try.prog 63 = true := by kernel_rfl

theorem g_impl_IsValidInterpretation_1_1 : goFn Try.prog 66 = true := by kernel_rfl

def c_slices_IndexFunc_int_int : SC := (.seq (.reg [⟨(some 4), none, (.mv (.c (.int .i64 0)))⟩]) (.seq (.seq (.reg [⟨(some 6), none, (.mv (.t 0))⟩, ⟨(some 7), none, (.len false (.t 6))⟩, ⟨(some 8), none, (.mv (.c (.int .i64 0)))⟩]) (.block 0 (.loop [1, 1, 0, 0, 0, 0, 0, 1, 1, 0, 0, 0, 0, 0, 0, 0, 0, 0, 0] (.seq (.reg [⟨(some 9), none, (.bin .lss false (.t 8) (.t 7))⟩]) (.seq (.cond (.t 9) .skip (.exit 0)) (.seq (.block 1 (.seq (.reg [⟨(some 10), none, (.mv (.t 8))⟩, ⟨(some 5), none, (.mv (.t 10))⟩]) (.seq (.reg [⟨(some 11), none, (.mv (.t 1))⟩, ⟨(some 12), none, (.mv (.t 0))⟩, ⟨(some 13), none, (.mv (.t 5))⟩, ⟨(some 14), none, (.iaddr 1 (.t 12) (.t 13))⟩, ⟨(some 15), none, (.load false 1 (.t 14))⟩, ⟨(some 16), none, (.callv (.t 11) [(.t 15)])⟩]) (.cond (.t 16) (.seq (.reg [⟨(some 17), none, (.mv (.t 5))⟩, ⟨(some 4), none, (.mv (.t 17))⟩]) .ret) .skip)))) (.reg [⟨(some 18), none, (.bin .add false (.t 8) (.c (.int .i64 1)))⟩, ⟨(some 8), none, (.mv (.t 18))⟩]))))))) (.seq (.reg [⟨(some 4), none, (.mv (.c (.int .i64 (-(0 + 1)))))⟩]) .ret)))
theorem k_slices_IndexFunc_int_int : codeOf Try.prog 108 = some ⟨19, c_slices_IndexFunc_int_int, [(.tmp 4)]⟩ := by kernel_rfl
theorem m_slices_IndexFunc_int_int : modes 108 = ⟨[], .asis, none, false⟩ := by unfold modes; rfl

def c_slices_ContainsFunc_int_int : SC := (.seq (.reg [⟨(some 4), none, (.mv (.c (.bool false)))⟩]) (.seq (.reg [⟨(some 5), none, (.mv (.t 0))⟩, ⟨(some 6), none, (.mv (.t 1))⟩, ⟨(some 7), none, (.call 108 [(.t 5), (.t 6)])⟩, ⟨(some 8), none, (.bin .geq false (.t 7) (.c (.int .i64 0)))⟩, ⟨(some 4), none, (.mv (.t 8))⟩]) .ret))
theorem k_slices_ContainsFunc_int_int : codeOf Try.prog 65 = some ⟨9, c_slices_ContainsFunc_int_int, [(.tmp 4)]⟩ := by kernel_rfl
theorem m_slices_ContainsFunc_int_int : modes 65 = ⟨[], .asis, none, false⟩ := by unfold modes; rfl

def c_slices_IndexFunc_impl_Table_impl_Table : SC := (.seq (.reg [⟨(some 4), none, (.mv (.c (.int .i64 0)))⟩]) (.seq (.seq (.reg [⟨(some 6), none, (.mv (.t 0))⟩, ⟨(some 7), none, (.len false (.t 6))⟩, ⟨(some 8), none, (.mv (.c (.int .i64 0)))⟩]) (.block 0 (.loop [1, 1, 0, 0, 0, 0, 0, 1, 1, 0, 0, 0, 0, 0, 0, 0, 0, 0, 0] (.seq (.reg [⟨(some 9), none, (.bin .lss false (.t 8) (.t 7))⟩]) (.seq (.cond (.t 9) .skip (.exit 0)) (.seq (.block 1 (.seq (.reg [⟨(some 10), none, (.mv (.t 8))⟩, ⟨(some 5), none, (.mv (.t 10))⟩]) (.seq (.reg [⟨(some 11), none, (.mv (.t 1))⟩, ⟨(some 12), none, (.mv (.t 0))⟩, ⟨(some 13), none, (.mv (.t 5))⟩, ⟨(some 14), none, (.iaddr 4 (.t 12) (.t 13))⟩, ⟨(some 15), none, (.load true 4 (.t 14))⟩, ⟨(some 16), none, (.callv (.t 11) [(.t 15)])⟩]) (.cond (.t 16) (.seq (.reg [⟨(some 17), none, (.mv (.t 5))⟩, ⟨(some 4), none, (.mv (.t 17))⟩]) .ret) .skip)))) (.reg [⟨(some 18), none, (.bin .add false (.t 8) (.c (.int .i64 1)))⟩, ⟨(some 8), none, (.mv (.t 18))⟩]))))))) (.seq (.reg [⟨(some 4), none, (.mv (.c (.int .i64 (-(0 + 1)))))⟩]) .ret)))
theorem k_slices_IndexFunc_impl_Table_impl_Table : codeOf Try.prog 107 = some ⟨19, c_slices_IndexFunc_impl_Table_impl_Table, [(.tmp 4)]⟩ := by kernel_rfl
theorem m_slices_IndexFunc_impl_Table_impl_Table : modes 107 = ⟨[], .asis, none, false⟩ := by unfold modes; rfl

def c_slices_ContainsFunc_impl_Table_impl_Table : SC := (.seq (.reg [⟨(some 4), none, (.mv (.c (.bool false)))⟩]) (.seq (.reg [⟨(some 5), none, (.mv (.t 0))⟩, ⟨(some 6), none, (.mv (.t 1))⟩, ⟨(some 7), none, (.call 107 [(.t 5), (.t 6)])⟩, ⟨(some 8), none, (.bin .geq false (.t 7) (.c (.int .i64 0)))⟩, ⟨(some 4), none, (.mv (.t 8))⟩]) .ret))
theorem k_slices_ContainsFunc_impl_Table_impl_Table : codeOf Try.prog 62 = some ⟨9, c_slices_ContainsFunc_impl_Table_impl_Table, [(.tmp 4)]⟩ := by kernel_rfl
theorem m_slices_ContainsFunc_impl_Table_impl_Table : modes 62 = ⟨[], .asis, none, false⟩ := by unfold modes; rfl

def c_spec_l10Tables : SC := (.seq (.reg [⟨(some 2), none, (.mv (.c (.bool false)))⟩]) (.seq (.seq (.reg [⟨(some 5), none, (.mv (.t 0))⟩, ⟨(some 6), none, (.len false (.t 5))⟩, ⟨(some 7), none, (.bin .gtr false (.t 6) (.c (.int .i64 12)))⟩]) (.cond (.t 7) (.seq (.reg [⟨(some 2), none, (.mv (.c (.bool false)))⟩]) .ret) .skip)) (.seq (.seq (.reg [⟨(some 3), none, (.mv (.c (.int .i64 0)))⟩]) (.block 0 (.loop [1, 0, 0, 1, 0, 0, 0, 0, 0, 0, 0, 0, 0, 0, 0, 0, 0, 0, 0, 0, 0, 0, 0, 0, 0, 0, 0, 0, 0, 0, 0, 0, 0, 0, 0, 0, 0, 0, 0, 0, 0, 0, 0, 0, 0, 0, 0, 0, 0, 0, 0, 0, 0, 0, 0, 0, 0, 0, 0, 0, 0, 0, 0] (.seq (.seq (.reg [⟨(some 8), none, (.mv (.t 3))⟩, ⟨(some 9), none, (.mv (.t 0))⟩, ⟨(some 10), none, (.len false (.t 9))⟩, ⟨(some 11), none, (.bin .lss false (.t 8) (.t 10))⟩]) (.cond (.t 11) .skip (.exit 0))) (.seq (.block 1 (.seq (.reg [⟨(some 14), none, (.mv (.t 0))⟩, ⟨(some 15), none, (.mv (.t 3))⟩, ⟨(some 16), none, (.iaddr 4 (.t 14) (.t 15))⟩, ⟨(some 17), none, (.load true 4 (.t 16))⟩, ⟨(some 4), none, (.alloc 95 [(.str ⟨#[]⟩), (.int .i64 0), (.bool false), .nil])⟩, ⟨none, none, (.store 4 (.t 4) (.t 17))⟩]) (.seq (.seq (.reg [⟨(some 18), none, (.faddr 0 (.t 4))⟩, ⟨(some 19), none, (.load false 1 (.t 18))⟩, ⟨(some 20), none, (.call 97 [(.t 19)])⟩, ⟨(some 21), none, (.un .not (.t 20))⟩, ⟨(some 22), none, (.mv (.t 21))⟩, ⟨(some 23), (some (22, false)), (.faddr 1 (.t 4))⟩, ⟨(some 24), (some (22, false)), (.load false 1 (.t 23))⟩, ⟨(some 25), (some (22, false)), (.call 51 [(.t 24), (.c (.int .i64 0)), (.c (.int .i64 3))])⟩, ⟨(some 26), (some (22, false)), (.un .not (.t 25))⟩, ⟨(some 27), none, (.pick (.t 22) (.c (.bool true)) (.t 26))⟩]) (.cond (.t 27) (.seq (.reg [⟨(some 2), none, (.mv (.c (.bool false)))⟩]) .ret) .skip)) (.seq (.dreg [[], [0], [1, 0], [2, 1, 0], [2, 1, 0], [4, 2, 1, 0], [3, 2, 1, 0, 5, 4], [6, 3, 2, 1, 0, 5, 4], [7, 6, 3, 2, 1, 0, 5, 4], [2, 1, 0], [9, 2, 1, 0], [8, 7, 6, 3, 2, 1, 0, 5, 4, 10, 9], [11, 8, 7, 6, 3, 2, 1, 0, 5, 4, 10, 9], [12, 11, 8, 7, 6, 3, 2, 1, 0, 5, 4, 10, 9], [12, 11, 8, 7, 6, 3, 2, 1, 0, 5, 4, 10, 9], [14, 12, 11, 8, 7, 6, 3, 2, 1, 0, 5, 4, 10, 9], [13, 12, 11, 8, 7, 6, 3, 2, 1, 0, 5, 4, 10, 9, 15, 14], [16, 13, 12, 11, 8, 7, 6, 3, 2, 1, 0, 5, 4, 10, 9, 15, 14], [17, 16, 13, 12, 11, 8, 7, 6, 3, 2, 1, 0, 5, 4, 10, 9, 15, 14], [12, 11, 8, 7, 6, 3, 2, 1, 0, 5, 4, 10, 9], [19, 12, 11, 8, 7, 6, 3, 2, 1, 0, 5, 4, 10, 9], [18, 17, 16, 13, 12, 11, 8, 7, 6, 3, 2, 1, 0, 5, 4, 10, 9, 15, 14, 20, 19], [21, 18, 17, 16, 13, 12, 11, 8, 7, 6, 3, 2, 1, 0, 5, 4, 10, 9, 15, 14, 20, 19], [22, 21, 18, 17, 16, 13, 12, 11, 8, 7, 6, 3, 2, 1, 0, 5, 4, 10, 9, 15, 14, 20, 19], [22, 21, 18, 17, 16, 13, 12, 11, 8, 7, 6, 3, 2, 1, 0, 5, 4, 10, 9, 15, 14, 20, 19], [24, 22, 21, 18, 17, 16, 13, 12, 11, 8, 7, 6, 3, 2, 1, 0, 5, 4, 10, 9, 15, 14, 20, 19], [23, 22, 21, 18, 17, 16, 13, 12, 11, 8, 7, 6, 3, 2, 1, 0, 5, 4, 10, 9, 15, 14, 20, 19, 25, 24], [26, 23, 22, 21, 18, 17, 16, 13, 12, 11, 8, 7, 6, 3, 2, 1, 0, 5, 4, 10, 9, 15, 14, 20, 19, 25, 24], [27, 26, 23, 22, 21, 18, 17, 16, 13, 12, 11, 8, 7, 6, 3, 2, 1, 0, 5, 4, 10, 9, 15, 14, 20, 19, 25, 24], [22, 21, 18, 17, 16, 13, 12, 11, 8, 7, 6, 3, 2, 1, 0, 5, 4, 10, 9, 15, 14, 20, 19], [29, 22, 21, 18, 17, 16, 13, 12, 11, 8, 7, 6, 3, 2, 1, 0, 5, 4, 10, 9, 15, 14, 20, 19], [28, 27, 26, 23, 22, 21, 18, 17, 16, 13, 12, 11, 8, 7, 6, 3, 2, 1, 0, 5, 4, 10, 9, 15, 14, 20, 19, 25, 24, 30, 29], [22, 21, 18, 17, 16, 13, 12, 11, 8, 7, 6, 3, 2, 1, 0, 5, 4, 10, 9, 15, 14, 20, 19, 31, 28, 27, 26, 23, 25, 24, 30, 29], [12, 11, 8, 7, 6, 3, 2, 1, 0, 5, 4, 10, 9, 32, 22, 21, 18, 17, 16, 13, 15, 14, 20, 19, 31, 28, 27, 26, 23, 25, 24, 30, 29], [2, 1, 0, 33, 12, 11, 8, 7, 6, 3, 5, 4, 10, 9, 32, 22, 21, 18, 17, 16, 13, 15, 14, 20, 19, 31, 28, 27, 26, 23, 25, 24, 30, 29]] [⟨(some 28), none, (.mv (.t 3))⟩, ⟨(some 29), none, (.bin .gtr false (.t 28) (.c (.int .i64 0)))⟩, ⟨(some 30), none, (.mv (.t 29))⟩, ⟨(some 31), (some (30, true)), (.mv (.t 0))⟩, ⟨(some 32), (some (30, true)), (.mv (.t 3))⟩, ⟨(some 33), (some (30, true)), (.bin .sub false (.t 32) (.c (.int .i64 1)))⟩, ⟨(some 34), (some (30, true)), (.iaddr 4 (.t 31) (.t 33))⟩, ⟨(some 35), (some (30, true)), (.faddr 0 (.t 34))⟩, ⟨(some 36), (some (30, true)), (.load false 1 (.t 35))⟩, ⟨(some 37), (some (30, true)), (.faddr 0 (.t 4))⟩, ⟨(some 38), (some (30, true)), (.load false 1 (.t 37))⟩, ⟨(some 39), (some (30, true)), (.bin .gtr false (.t 36) (.t 38))⟩, ⟨(some 40), (some (30, true)), (.mv (.t 39))⟩, ⟨(some 41), (some (40, false)), (.mv (.t 0))⟩, ⟨(some 42), (some (40, false)), (.mv (.t 3))⟩, ⟨(some 43), (some (40, false)), (.bin .sub false (.t 42) (.c (.int .i64 1)))⟩, ⟨(some 44), (some (40, false)), (.iaddr 4 (.t 41) (.t 43))⟩, ⟨(some 45), (some (40, false)), (.faddr 0 (.t 44))⟩, ⟨(some 46), (some (40, false)), (.load false 1 (.t 45))⟩, ⟨(some 47), (some (40, false)), (.faddr 0 (.t 4))⟩, ⟨(some 48), (some (40, false)), (.load false 1 (.t 47))⟩, ⟨(some 49), (some (40, false)), (.bin .eql false (.t 46) (.t 48))⟩, ⟨(some 50), (some (40, false)), (.mv (.t 49))⟩, ⟨(some 51), (some (50, true)), (.mv (.t 0))⟩, ⟨(some 52), (some (50, true)), (.mv (.t 3))⟩, ⟨(some 53), (some (50, true)), (.bin .sub false (.t 52) (.c (.int .i64 1)))⟩, ⟨(some 54), (some (50, true)), (.iaddr 4 (.t 51) (.t 53))⟩, ⟨(some 55), (some (50, true)), (.faddr 1 (.t 54))⟩, ⟨(some 56), (some (50, true)), (.load false 1 (.t 55))⟩, ⟨(some 57), (some (50, true)), (.faddr 1 (.t 4))⟩, ⟨(some 58), (some (50, true)), (.load false 1 (.t 57))⟩, ⟨(some 59), (some (50, true)), (.bin .geq false (.t 56) (.t 58))⟩, ⟨(some 60), (some (40, false)), (.pick (.t 50) (.t 59) (.c (.bool false)))⟩, ⟨(some 61), (some (30, true)), (.pick (.t 40) (.c (.bool true)) (.t 60))⟩, ⟨(some 62), none, (.pick (.t 30) (.t 61) (.c (.bool false)))⟩]) (.cond (.t 62) (.seq (.reg [⟨(some 2), none, (.mv (.c (.bool false)))⟩]) .ret) .skip))))) (.reg [⟨(some 12), none, (.mv (.t 3))⟩, ⟨(some 13), none, (.bin .add false (.t 12) (.c (.int .i64 1)))⟩, ⟨(some 3), none, (.mv (.t 13))⟩])))))) (.seq (.reg [⟨(some 2), none, (.mv (.c (.bool true)))⟩]) .ret))))
theorem k_spec_l10Tables : codeOf Try.prog 52 = some ⟨63, c_spec_l10Tables, [(.tmp 2)]⟩ := by kernel_rfl
theorem m_spec_l10Tables : modes 52 = ⟨[], .asis, none, false⟩ := by unfold modes; rfl

def c_spec_l10Good : SC := (.seq (.reg [⟨(some 1), none, (.boxv 36 2 (.t 0))⟩, ⟨(some 2), none, (.mv (.c (.bool false)))⟩]) (.seq (.seq (.reg [⟨(some 7), none, (.faddr 0 (.t 1))⟩, ⟨(some 8), none, (.load false 1 (.t 7))⟩, ⟨(some 9), none, (.call 51 [(.t 8), (.c (.int .i64 1)), (.c (.int .i64 3))])⟩, ⟨(some 10), none, (.un .not (.t 9))⟩, ⟨(some 11), none, (.mv (.t 10))⟩, ⟨(some 12), (some (11, false)), (.faddr 1 (.t 1))⟩, ⟨(some 13), (some (11, false)), (.load false 1 (.t 12))⟩, ⟨(some 14), (some (11, false)), (.call 52 [(.t 13)])⟩, ⟨(some 15), (some (11, false)), (.un .not (.t 14))⟩, ⟨(some 16), none, (.pick (.t 11) (.c (.bool true)) (.t 15))⟩]) (.cond (.t 16) (.seq (.reg [⟨(some 2), none, (.mv (.c (.bool false)))⟩]) .ret) .skip)) (.seq (.seq (.reg [⟨(some 3), none, (.mv (.c (.int .i64 0)))⟩]) (.block 0 (.loop [0, 1, 0, 1, 0, 0, 0, 0, 0, 0, 0, 0, 0, 0, 0, 0, 0, 0, 0, 0, 0, 0, 0, 0, 0, 0, 0, 0, 0, 0, 0, 0, 0, 0, 0, 0, 0, 0, 0, 0, 0, 0, 0, 0, 0, 0, 0, 0, 0, 0, 0, 0, 0, 0, 0, 0, 0, 0] (.seq (.seq (.reg [⟨(some 17), none, (.mv (.t 3))⟩, ⟨(some 18), none, (.faddr 1 (.t 1))⟩, ⟨(some 19), none, (.load false 1 (.t 18))⟩, ⟨(some 20), none, (.len false (.t 19))⟩, ⟨(some 21), none, (.bin .lss false (.t 17) (.t 20))⟩]) (.cond (.t 21) .skip (.exit 0))) (.seq (.block 1 (.seq (.reg [⟨(some 24), none, (.faddr 1 (.t 1))⟩, ⟨(some 25), none, (.load false 1 (.t 24))⟩, ⟨(some 26), none, (.mv (.t 3))⟩, ⟨(some 27), none, (.iaddr 4 (.t 25) (.t 26))⟩, ⟨(some 28), none, (.load true 4 (.t 27))⟩, ⟨(some 4), none, (.alloc 95 [(.str ⟨#[]⟩), (.int .i64 0), (.bool false), .nil])⟩, ⟨none, none, (.store 4 (.t 4) (.t 28))⟩]) (.seq (.reg [⟨(some 29), none, (.faddr 0 (.t 1))⟩, ⟨(some 30), none, (.load false 1 (.t 29))⟩, ⟨(some 31), none, (.bin .sub false (.t 30) (.c (.int .i64 1)))⟩, ⟨(some 5), none, (.mv (.t 31))⟩]) (.seq (.seq (.reg [⟨(some 32), none, (.faddr 2 (.t 4))⟩, ⟨(some 33), none, (.load false 1 (.t 32))⟩]) (.cond (.t 33) (.reg [⟨(some 5), none, (.mv (.c (.int .i64 1)))⟩]) .skip)) (.seq (.seq (.dreg [[], [0], [1, 0], [], [3], [], [5], [4, 3, 6, 5], [2, 1, 0, 7, 4, 3, 6, 5]] [⟨(some 34), none, (.faddr 3 (.t 4))⟩, ⟨(some 35), none, (.load false 1 (.t 34))⟩, ⟨(some 36), none, (.len false (.t 35))⟩, ⟨(some 37), none, (.faddr 0 (.t 1))⟩, ⟨(some 38), none, (.load false 1 (.t 37))⟩, ⟨(some 39), none, (.faddr 1 (.t 4))⟩, ⟨(some 40), none, (.load false 1 (.t 39))⟩, ⟨(some 41), none, (.call 53 [(.t 38), (.t 40)])⟩, ⟨(some 42), none, (.bin .neq false (.t 36) (.t 41))⟩]) (.cond (.t 42) (.seq (.reg [⟨(some 2), none, (.mv (.c (.bool false)))⟩]) .ret) .skip)) (.seq (.reg [⟨(some 6), none, (.mv (.c (.int .i64 0)))⟩]) (.block 2 (.loop [0, 1, 0, 1, 1, 1, 1, 0, 0, 0, 0, 0, 0, 0, 0, 0, 0, 0, 0, 0, 0, 0, 0, 0, 0, 0, 0, 0, 0, 0, 0, 0, 0, 0, 0, 0, 0, 0, 0, 0, 0, 0, 0, 0, 0, 0, 0, 0, 0, 0, 0, 0, 0, 0, 0, 0, 0, 0] (.seq (.seq (.reg [⟨(some 43), none, (.mv (.t 6))⟩, ⟨(some 44), none, (.faddr 3 (.t 4))⟩, ⟨(some 45), none, (.load false 1 (.t 44))⟩, ⟨(some 46), none, (.len false (.t 45))⟩, ⟨(some 47), none, (.bin .lss false (.t 43) (.t 46))⟩]) (.cond (.t 47) .skip (.exit 2))) (.seq (.block 3 (.seq (.reg [⟨(some 50), none, (.faddr 3 (.t 4))⟩, ⟨(some 51), none, (.load false 1 (.t 50))⟩, ⟨(some 52), none, (.mv (.t 6))⟩, ⟨(some 53), none, (.iaddr 1 (.t 51) (.t 52))⟩, ⟨(some 54), none, (.load false 1 (.t 53))⟩, ⟨(some 55), none, (.mv (.t 5))⟩, ⟨(some 56), none, (.call 51 [(.t 54), (.c (.int .i64 0)), (.t 55)])⟩, ⟨(some 57), none, (.un .not (.t 56))⟩]) (.cond (.t 57) (.seq (.reg [⟨(some 2), none, (.mv (.c (.bool false)))⟩]) .ret) .skip))) (.reg [⟨(some 48), none, (.mv (.t 6))⟩, ⟨(some 49), none, (.bin .add false (.t 48) (.c (.int .i64 1)))⟩, ⟨(some 6), none, (.mv (.t 49))⟩]))))))))))) (.reg [⟨(some 22), none, (.mv (.t 3))⟩, ⟨(some 23), none, (.bin .add false (.t 22) (.c (.int .i64 1)))⟩, ⟨(some 3), none, (.mv (.t 23))⟩])))))) (.seq (.reg [⟨(some 2), none, (.mv (.c (.bool true)))⟩]) .ret))))
theorem k_spec_l10Good : codeOf Try.prog 24 = some ⟨58, c_spec_l10Good, [(.tmp 2)]⟩ := by kernel_rfl
theorem m_spec_l10Good : modes 24 = ⟨[], .asis, none, false⟩ := by unfold modes; rfl

theorem within_E (x lo hi : Int) : E 60 [.int .i64 x, .int .i64 lo, .int .i64 hi] [] = some (.bool (inI x lo hi), []) := by
  unfold inI
  cases h : dec (lo ≤ x) with
  | false =>
    rw [Bool.false_and]
    refine E_walk k_impl_within m_impl_within (of_decide_eq_true rfl) ?_
    simp (disch := omega) only [c_impl_within, go_sem, go_cond, Nat.reduceAdd, Nat.reduceSub, Nat.reduceLT, Nat.reduceLeDiff, Nat.reduceEqDiff, Nat.reduceBEq, Nat.reduceBneDiff, Nat.reduceMul, ↓reduceIte, Int.reduceToNat, reduceCtorEq, Int.reduceNeg, Int.reduceAdd, h]
  | true =>
    rw [Bool.true_and]
    refine E_walk k_impl_within m_impl_within (of_decide_eq_true rfl) ?_
    simp (disch := omega) only [c_impl_within, go_sem, go_cond, Nat.reduceAdd, Nat.reduceSub, Nat.reduceLT, Nat.reduceLeDiff, Nat.reduceEqDiff, Nat.reduceBEq, Nat.reduceBneDiff, Nat.reduceMul, ↓reduceIte, Int.reduceToNat, reduceCtorEq, Int.reduceNeg, Int.reduceAdd, h]
theorem l1In_E (x lo hi : Int) : E 51 [.int .i64 x, .int .i64 lo, .int .i64 hi] [] = some (.bool (inI x lo hi), []) := by
  unfold inI
  cases h : dec (lo ≤ x) with
  | false =>
    rw [Bool.false_and]
    refine E_walk k_spec_l1In m_spec_l1In (of_decide_eq_true rfl) ?_
    simp (disch := omega) only [c_spec_l1In, go_sem, go_cond, Nat.reduceAdd, Nat.reduceSub, Nat.reduceLT, Nat.reduceLeDiff, Nat.reduceEqDiff, Nat.reduceBEq, Nat.reduceBneDiff, Nat.reduceMul, ↓reduceIte, Int.reduceToNat, reduceCtorEq, Int.reduceNeg, Int.reduceAdd, h]
  | true =>
    rw [Bool.true_and]
    refine E_walk k_spec_l1In m_spec_l1In (of_decide_eq_true rfl) ?_
    simp (disch := omega) only [c_spec_l1In, go_sem, go_cond, Nat.reduceAdd, Nat.reduceSub, Nat.reduceLT, Nat.reduceLeDiff, Nat.reduceEqDiff, Nat.reduceBEq, Nat.reduceBneDiff, Nat.reduceMul, ↓reduceIte, Int.reduceToNat, reduceCtorEq, Int.reduceNeg, Int.reduceAdd, h]
theorem power_E (b k : Int) (h1 : 1 ≤ b) (h3 : b ≤ 3) (h0 : 0 ≤ k) (hk : k ≤ 12) : E 64 [.int .i64 b, .int .i64 k] [] = some (.int .i64 (pw b k.toNat), []) := by
  refine E_walk k_impl_power m_impl_power (of_decide_eq_true rfl) ?_
  simp (disch := omega) only [c_impl_power, go_sem, go_cond, Nat.reduceAdd, Nat.reduceSub, Nat.reduceLT, Nat.reduceLeDiff, Nat.reduceEqDiff, Nat.reduceBEq, Nat.reduceBneDiff, Nat.reduceMul, ↓reduceIte, Int.reduceToNat, reduceCtorEq, Int.reduceNeg, Int.reduceAdd]
  refine go_loop (α := Int) (fun i => ⟨slots 14 0 [(0, .int .i64 b), (5, .int .i64 (pw b i.toNat)), (6, .int .i64 k), (7, .int .i64 i)], []⟩) (fun i => 0 ≤ i ∧ i ≤ k) (fun i => (k - i).toNat) 0 ⟨Int.le_refl 0, h0⟩ (by simp (disch := omega) only [go_sem, go_cond, Nat.reduceAdd, Nat.reduceSub, Nat.reduceLT, Nat.reduceLeDiff, Nat.reduceEqDiff, Nat.reduceBEq, Nat.reduceBneDiff, Nat.reduceMul, ↓reduceIte, Int.reduceToNat, reduceCtorEq, Int.reduceNeg, Int.reduceAdd, Int.toNat_zero, pw]) ?_
  rintro i ⟨hi0, hi1⟩
  rcases Int.lt_or_le i k with hlt | hge
  · have hn : (i + 1).toNat = i.toNat + 1 := by omega
    have hp := pw_small h1 h3 (k := i.toNat + 1) (by omega)
    rw [pw] at hp
    simp (disch := omega) only [go_sem, go_cond, Nat.reduceAdd, Nat.reduceSub, Nat.reduceLT, Nat.reduceLeDiff, Nat.reduceEqDiff, Nat.reduceBEq, Nat.reduceBneDiff, Nat.reduceMul, ↓reduceIte, Int.reduceToNat, reduceCtorEq, Int.reduceNeg, Int.reduceAdd]
    refine ⟨i + 1, ⟨by omega, by omega⟩, by omega, ?_⟩
    simp only [hn, pw, and_self]
  · obtain rfl : i = k := by omega
    simp (disch := omega) only [go_sem, go_cond, Nat.reduceAdd, Nat.reduceSub, Nat.reduceLT, Nat.reduceLeDiff, Nat.reduceEqDiff, Nat.reduceBEq, Nat.reduceBneDiff, Nat.reduceMul, ↓reduceIte, Int.reduceToNat, reduceCtorEq, Int.reduceNeg, Int.reduceAdd]
theorem l10Power_E (b k : Int) (h1 : 1 ≤ b) (h3 : b ≤ 3) (h0 : 0 ≤ k) (hk : k ≤ 12) : E 53 [.int .i64 b, .int .i64 k] [] = some (.int .i64 (pw b k.toNat), []) := by
  refine E_walk k_spec_l10Power m_spec_l10Power (of_decide_eq_true rfl) ?_
  simp (disch := omega) only [c_spec_l10Power, go_sem, go_cond, Nat.reduceAdd, Nat.reduceSub, Nat.reduceLT, Nat.reduceLeDiff, Nat.reduceEqDiff, Nat.reduceBEq, Nat.reduceBneDiff, Nat.reduceMul, ↓reduceIte, Int.reduceToNat, reduceCtorEq, Int.reduceNeg, Int.reduceAdd]
  refine go_loop (α := Int) (fun i => ⟨slots 16 0 [(0, .int .i64 b), (1, .int .i64 k), (5, .int .i64 (pw b i.toNat)), (6, .int .i64 i)], []⟩) (fun i => 0 ≤ i ∧ i ≤ k) (fun i => (k - i).toNat) 0 ⟨Int.le_refl 0, h0⟩ (by simp (disch := omega) only [go_sem, go_cond, Nat.reduceAdd, Nat.reduceSub, Nat.reduceLT, Nat.reduceLeDiff, Nat.reduceEqDiff, Nat.reduceBEq, Nat.reduceBneDiff, Nat.reduceMul, ↓reduceIte, Int.reduceToNat, reduceCtorEq, Int.reduceNeg, Int.reduceAdd, Int.toNat_zero, pw]) ?_
  rintro i ⟨hi0, hi1⟩
  rcases Int.lt_or_le i k with hlt | hge
  · have hn : (i + 1).toNat = i.toNat + 1 := by omega
    have hp := pw_small h1 h3 (k := i.toNat + 1) (by omega)
    rw [pw] at hp
    simp (disch := omega) only [go_sem, go_cond, Nat.reduceAdd, Nat.reduceSub, Nat.reduceLT, Nat.reduceLeDiff, Nat.reduceEqDiff, Nat.reduceBEq, Nat.reduceBneDiff, Nat.reduceMul, ↓reduceIte, Int.reduceToNat, reduceCtorEq, Int.reduceNeg, Int.reduceAdd]
    refine ⟨i + 1, ⟨by omega, by omega⟩, by omega, ?_⟩
    simp only [hn, pw, and_self]
  · obtain rfl : i = k := by omega
    simp (disch := omega) only [go_sem, go_cond, Nat.reduceAdd, Nat.reduceSub, Nat.reduceLT, Nat.reduceLeDiff, Nat.reduceEqDiff, Nat.reduceBEq, Nat.reduceBneDiff, Nat.reduceMul, ↓reduceIte, Int.reduceToNat, reduceCtorEq, Int.reduceNeg, Int.reduceAdd]
theorem compareTables_E (x y : Tl) : E 106 [x.sv, y.sv] [] = some (.int .i64 (orZ (cmpB x.name y.name) (cmpI x.arity y.arity)), []) := by
  have h1 := compareS_E x.name y.name
  have h2 := compareI_E x.arity y.arity
  have h3 := or2_E (cmpB x.name y.name) (cmpI x.arity y.arity)
  refine E_walk k_impl_compareTables m_impl_compareTables (of_decide_eq_true rfl) ?_
  simp (disch := omega) only [c_impl_compareTables, go_sem, go_cond, Nat.reduceAdd, Nat.reduceSub, Nat.reduceLT, Nat.reduceLeDiff, Nat.reduceEqDiff, Nat.reduceBEq, Nat.reduceBneDiff, Nat.reduceMul, ↓reduceIte, Int.reduceToNat, reduceCtorEq, Int.reduceNeg, Int.reduceAdd, h1, h2, h3, m_cmp_Compare_string, m_cmp_Compare_int, m_cmp_Or_int]
theorem keyLt_cmp (x y : Tl) : keyLt x y = dec (orZ (cmpB x.name y.name) (cmpI x.arity y.arity) < 0) := by
  unfold keyLt cmpB
  cases h1 : strLt x.name y.name with
  | true =>
    rw [Bool.true_or, cond_true, orZ, if_neg (by omega)]
    exact (dec_t (by omega)).symm
  | false =>
    rw [Bool.false_or, cond_false]
    cases h2 : dec (x.name = y.name) with
    | false =>
      rw [Bool.false_and, cond_false, orZ, if_neg (by omega)]
      exact (dec_f (by omega)).symm
    | true =>
      rw [Bool.true_and, cond_true, orZ, if_pos rfl, cmpI]
      cases h3 : dec (x.arity < y.arity) with
      | true => rw [cond_true]; exact (dec_t (by omega)).symm
      | false =>
        rw [cond_false]
        cases dec (y.arity < x.arity) with
        | true => rw [cond_true]; exact (dec_f (by omega)).symm
        | false => rw [cond_false]; exact (dec_f (by omega)).symm
set_option maxHeartbeats 4000000 in
theorem areTables_E (xs : List Tl) (hl : xs.length ≤ 1099511627776) : E 61 [.arr (xs.map Tl.d)] [] = some (.bool (tabsB xs), []) := by
  refine E_walk k_impl_areTables m_impl_areTables (of_decide_eq_true rfl) ?_
  simp (disch := omega) only [c_impl_areTables, go_sem, go_cond, Nat.reduceAdd, Nat.reduceSub, Nat.reduceLT, Nat.reduceLeDiff, Nat.reduceEqDiff, Nat.reduceBEq, Nat.reduceBneDiff, Nat.reduceMul, ↓reduceIte, Int.reduceToNat, reduceCtorEq, Int.reduceNeg, Int.reduceAdd]
  refine go_loop (α := Int) (fun a => ⟨slots 40 0 [(0, .arr (xs.map Tl.d)), (5, .arr (xs.map Tl.d)), (6, .int .i64 xs.length), (7, .int .i64 a)], []⟩) (fun a => ∃ k : Nat, a = k ∧ k ≤ (xs).length ∧ allTo (tlAt xs) k = true) (fun a => (xs).length - (a).toNat) 0 ⟨0, rfl, Nat.zero_le _, by rw [allTo]⟩ (by simp (disch := omega) only [go_sem, go_cond, Nat.reduceAdd, Nat.reduceSub, Nat.reduceLT, Nat.reduceLeDiff, Nat.reduceEqDiff, Nat.reduceBEq, Nat.reduceBneDiff, Nat.reduceMul, ↓reduceIte, Int.reduceToNat, reduceCtorEq, Int.reduceNeg, Int.reduceAdd]) ?_
  rintro i ⟨k, hi, hk, hR⟩
  have hni : i.toNat = k := by omega
  have hni1 : (i + 1).toNat = k + 1 := by omega
  rcases Nat.lt_or_ge k (xs).length with hlt | hge
  · have hg := get_at Tl.d hlt
    rw [Tl.d_eq] at hg
    have hs := isSymbol_E xs[k].name
    have hw := within_E xs[k].arity 0 3
    have no : tlAt xs k = false → tabsB xs = false := fun h => by unfold tabsB; rw [allTo_no h hlt, Bool.false_and]
    cases ha : symB xs[k].name with
    | false =>
      rw [ha] at hs
      rw [no (by cases k with | zero => rw [tlAt_zero hlt, ha, Bool.false_and] | succ j => rw [tlAt_succ hlt, ha, Bool.false_and])]
      simp (disch := omega) only [go_sem, go_cond, Nat.reduceAdd, Nat.reduceSub, Nat.reduceLT, Nat.reduceLeDiff, Nat.reduceEqDiff, Nat.reduceBEq, Nat.reduceBneDiff, Nat.reduceMul, ↓reduceIte, Int.reduceToNat, reduceCtorEq, Int.reduceNeg, Int.reduceAdd, hni, hg, hs, hw, m_impl_isSymbol, m_impl_within, m_impl_compareTables]
    | true =>
      rw [ha] at hs
      cases hb : inI xs[k].arity 0 3 with
      | false =>
        rw [hb] at hw
        rw [no (by cases k with | zero => rw [tlAt_zero hlt, hb, Bool.and_false] | succ j => rw [tlAt_succ hlt, hb, Bool.false_and, Bool.and_false])]
        simp (disch := omega) only [go_sem, go_cond, Nat.reduceAdd, Nat.reduceSub, Nat.reduceLT, Nat.reduceLeDiff, Nat.reduceEqDiff, Nat.reduceBEq, Nat.reduceBneDiff, Nat.reduceMul, ↓reduceIte, Int.reduceToNat, reduceCtorEq, Int.reduceNeg, Int.reduceAdd, hni, hg, hs, hw, m_impl_isSymbol, m_impl_within, m_impl_compareTables]
      | true =>
        rw [hb] at hw
        cases k with
        | zero =>
          obtain rfl : i = 0 := hi
          simp (disch := omega) only [go_sem, go_cond, Nat.reduceAdd, Nat.reduceSub, Nat.reduceLT, Nat.reduceLeDiff, Nat.reduceEqDiff, Nat.reduceBEq, Nat.reduceBneDiff, Nat.reduceMul, ↓reduceIte, Int.reduceToNat, reduceCtorEq, Int.reduceNeg, Int.reduceAdd, hni, hg, hs, hw, m_impl_isSymbol, m_impl_within, m_impl_compareTables]
          exact ⟨1, ⟨1, rfl, hlt, by rw [allTo, hR, tlAt_zero hlt, ha, hb]; rfl⟩, by omega, by first | trivial | rfl⟩
        | succ j =>
          have hj : j < xs.length := by omega
          have hg2 := get_at Tl.d hj
          rw [Tl.d_eq] at hg2
          have hni2 : (i - 1).toNat = j := by omega
          have hc := compareTables_E xs[j] xs[j + 1]
          have hk2 := keyLt_cmp xs[j] xs[j + 1]
          generalize orZ (cmpB xs[j].name xs[j + 1].name) (cmpI xs[j].arity xs[j + 1].arity) = cz at *
          rcases Int.lt_or_le cz 0 with hq | hq
          · simp (disch := omega) only [go_sem, go_cond, Nat.reduceAdd, Nat.reduceSub, Nat.reduceLT, Nat.reduceLeDiff, Nat.reduceEqDiff, Nat.reduceBEq, Nat.reduceBneDiff, Nat.reduceMul, ↓reduceIte, Int.reduceToNat, reduceCtorEq, Int.reduceNeg, Int.reduceAdd, hni, hg, hs, hw, m_impl_isSymbol, m_impl_within, m_impl_compareTables, hni2, hg2, hc]
            exact ⟨i + 1, ⟨j + 1 + 1, by omega, hlt, by rw [allTo, hR, tlAt_succ hlt, ha, hb, hk2, dec_t hq]; rfl⟩, by omega, by first | trivial | rfl⟩
          · rw [no (by rw [tlAt_succ hlt, ha, hb, hk2, dec_f (by omega)]; rfl)]
            simp (disch := omega) only [go_sem, go_cond, Nat.reduceAdd, Nat.reduceSub, Nat.reduceLT, Nat.reduceLeDiff, Nat.reduceEqDiff, Nat.reduceBEq, Nat.reduceBneDiff, Nat.reduceMul, ↓reduceIte, Int.reduceToNat, reduceCtorEq, Int.reduceNeg, Int.reduceAdd, hni, hg, hs, hw, m_impl_isSymbol, m_impl_within, m_impl_compareTables, hni2, hg2, hc]
  · obtain rfl : k = xs.length := by omega
    simp (disch := omega) only [go_sem, go_cond, Nat.reduceAdd, Nat.reduceSub, Nat.reduceLT, Nat.reduceLeDiff, Nat.reduceEqDiff, Nat.reduceBEq, Nat.reduceBneDiff, Nat.reduceMul, ↓reduceIte, Int.reduceToNat, reduceCtorEq, Int.reduceNeg, Int.reduceAdd, hni]
    unfold tabsB
    rw [hR, Bool.true_and, dec_of]
    exact decide_eq_decide.2 (by omega)
theorem choices_E (t : Tl) (sz : Int) : E 67 [t.sv, .int .i64 sz] [] = some (.int .i64 (kinds sz t), []) := by
  unfold kinds
  cases h : t.pred with
  | false =>
    refine E_walk k_impl_Table_choices m_impl_Table_choices (of_decide_eq_true rfl) ?_
    simp (disch := omega) only [c_impl_Table_choices, go_sem, go_cond, Nat.reduceAdd, Nat.reduceSub, Nat.reduceLT, Nat.reduceLeDiff, Nat.reduceEqDiff, Nat.reduceBEq, Nat.reduceBneDiff, Nat.reduceMul, ↓reduceIte, Int.reduceToNat, reduceCtorEq, Int.reduceNeg, Int.reduceAdd, h]
    try rfl
  | true =>
    refine E_walk k_impl_Table_choices m_impl_Table_choices (of_decide_eq_true rfl) ?_
    simp (disch := omega) only [c_impl_Table_choices, go_sem, go_cond, Nat.reduceAdd, Nat.reduceSub, Nat.reduceLT, Nat.reduceLeDiff, Nat.reduceEqDiff, Nat.reduceBEq, Nat.reduceBneDiff, Nat.reduceMul, ↓reduceIte, Int.reduceToNat, reduceCtorEq, Int.reduceNeg, Int.reduceAdd, h]
    try rfl
set_option maxHeartbeats 2000000 in
theorem inVals_E (m : Ip) (t : Tl) (hs : 1 ≤ m.size ∧ m.size ≤ 3) (v : Int) : E 66 [.int .i64 v, .ptr 0 0, .ptr 1 0] [.box 95 [.str t.name, .int .i64 t.arity, .bool t.pred, .arr (t.vals.map fun n => [D.int n])], .box 36 [.int .i64 m.size, .arr (m.tables.map Tl.d)]] = some (.bool (!inI v 0 (kinds m.size t - 1)), [.box 95 [.str t.name, .int .i64 t.arity, .bool t.pred, .arr (t.vals.map fun n => [D.int n])], .box 36 [.int .i64 m.size, .arr (m.tables.map Tl.d)]]) := by
  have h1 := choices_E t m.size
  have h2 := within_E v 0 (kinds m.size t - 1)
  have h3 : 1 ≤ kinds m.size t ∧ kinds m.size t ≤ 3 := by unfold kinds; split <;> omega
  refine E_walk k_impl_IsValidInterpretation_1_1 m_impl_IsValidInterpretation_1_1 (of_decide_eq_true rfl) ?_
  simp (disch := omega) only [c_impl_IsValidInterpretation_1_1, go_sem, go_cond, Nat.reduceAdd, Nat.reduceSub, Nat.reduceLT, Nat.reduceLeDiff, Nat.reduceEqDiff, Nat.reduceBEq, Nat.reduceBneDiff, Nat.reduceMul, ↓reduceIte, Int.reduceToNat, reduceCtorEq, Int.reduceNeg, Int.reduceAdd, h1, h2, m_impl_within, m_impl_Table_choices]
set_option maxHeartbeats 2000000 in
theorem indexInt_E (m : Ip) (t : Tl) (hs : 1 ≤ m.size ∧ m.size ≤ 3) (xs : List Int) (hl : xs.length ≤ 1099511627776) : E 108 [.arr (xs.map (fun n => [D.int n])), .fn 66 [.ptr 0 0, .ptr 1 0]] [.box 95 [.str t.name, .int .i64 t.arity, .bool t.pred, .arr (t.vals.map fun n => [D.int n])], .box 36 [.int .i64 m.size, .arr (m.tables.map Tl.d)]] = some (.int .i64 (idxP (fun v => !inI v 0 (kinds m.size t - 1)) xs 0), [.box 95 [.str t.name, .int .i64 t.arity, .bool t.pred, .arr (t.vals.map fun n => [D.int n])], .box 36 [.int .i64 m.size, .arr (m.tables.map Tl.d)]]) := by
  have hE := inVals_E m t hs
  generalize hpp : (fun v : Int => !inI v 0 (kinds m.size t - 1)) = p at *
  have hpe : ∀ v : Int, (!inI v 0 (kinds m.size t - 1)) = p v := fun v => by rw [← hpp]
  refine E_walk k_slices_IndexFunc_int_int m_slices_IndexFunc_int_int (of_decide_eq_true rfl) ?_
  simp (disch := omega) only [c_slices_IndexFunc_int_int, go_sem, go_cond, Nat.reduceAdd, Nat.reduceSub, Nat.reduceLT, Nat.reduceLeDiff, Nat.reduceEqDiff, Nat.reduceBEq, Nat.reduceBneDiff, Nat.reduceMul, ↓reduceIte, Int.reduceToNat, reduceCtorEq, Int.reduceNeg, Int.reduceAdd]
  refine go_loop (α := Int) (fun a => ⟨slots 19 0 [(0, .arr (xs.map (fun n => [D.int n]))), (1, .fn 66 [.ptr 0 0, .ptr 1 0]), (7, .int .i64 xs.length), (8, .int .i64 a)], [.box 95 [.str t.name, .int .i64 t.arity, .bool t.pred, .arr (t.vals.map fun n => [D.int n])], .box 36 [.int .i64 m.size, .arr (m.tables.map Tl.d)]]⟩) (fun a => ∃ k : Nat, a = k ∧ k ≤ (xs).length ∧ idxP p (xs.drop k) a = idxP p xs 0) (fun a => (xs).length - (a).toNat) 0 ⟨0, rfl, Nat.zero_le _, by rw [List.drop_zero]⟩ (by simp (disch := omega) only [go_sem, go_cond, Nat.reduceAdd, Nat.reduceSub, Nat.reduceLT, Nat.reduceLeDiff, Nat.reduceEqDiff, Nat.reduceBEq, Nat.reduceBneDiff, Nat.reduceMul, ↓reduceIte, Int.reduceToNat, reduceCtorEq, Int.reduceNeg, Int.reduceAdd]) ?_
  rintro i ⟨k, hi, hk, hR⟩
  have hni : i.toNat = k := by omega
  have hni1 : (i + 1).toNat = k + 1 := by omega
  rcases Nat.lt_or_ge k (xs).length with hlt | hge
  · have hg' := get_at (fun n => [D.int n]) hlt
    have hc := hE xs[k]
    rw [hpe] at hc
    rw [List.drop_eq_getElem_cons hlt, idxP] at hR
    cases hp : p xs[k] with
    | true =>
      rw [hp] at hc hR
      simp (disch := omega) only [go_sem, go_cond, Nat.reduceAdd, Nat.reduceSub, Nat.reduceLT, Nat.reduceLeDiff, Nat.reduceEqDiff, Nat.reduceBEq, Nat.reduceBneDiff, Nat.reduceMul, ↓reduceIte, Int.reduceToNat, reduceCtorEq, Int.reduceNeg, Int.reduceAdd, hni, hg', hc, g_impl_IsValidInterpretation_1_1, m_impl_IsValidInterpretation_1_1]
      simpa using hR
    | false =>
      rw [hp] at hc hR
      simp (disch := omega) only [go_sem, go_cond, Nat.reduceAdd, Nat.reduceSub, Nat.reduceLT, Nat.reduceLeDiff, Nat.reduceEqDiff, Nat.reduceBEq, Nat.reduceBneDiff, Nat.reduceMul, ↓reduceIte, Int.reduceToNat, reduceCtorEq, Int.reduceNeg, Int.reduceAdd, hni, hg', hc, g_impl_IsValidInterpretation_1_1, m_impl_IsValidInterpretation_1_1]
      exact ⟨i + 1, ⟨k + 1, by omega, hlt, by simpa using hR⟩, by omega, by first | trivial | rfl⟩
  · rw [List.drop_eq_nil_of_le hge, idxP] at hR
    simp (disch := omega) only [go_sem, go_cond, Nat.reduceAdd, Nat.reduceSub, Nat.reduceLT, Nat.reduceLeDiff, Nat.reduceEqDiff, Nat.reduceBEq, Nat.reduceBneDiff, Nat.reduceMul, ↓reduceIte, Int.reduceToNat, reduceCtorEq, Int.reduceNeg, Int.reduceAdd, hni]
    exact hR
theorem containsInt_E (m : Ip) (t : Tl) (hs : 1 ≤ m.size ∧ m.size ≤ 3) (xs : List Int) (hl : xs.length ≤ 1099511627776) : E 65 [.arr (xs.map (fun n => [D.int n])), .fn 66 [.ptr 0 0, .ptr 1 0]] [.box 95 [.str t.name, .int .i64 t.arity, .bool t.pred, .arr (t.vals.map fun n => [D.int n])], .box 36 [.int .i64 m.size, .arr (m.tables.map Tl.d)]] = some (.bool (xs.any fun v => !inI v 0 (kinds m.size t - 1)), [.box 95 [.str t.name, .int .i64 t.arity, .bool t.pred, .arr (t.vals.map fun n => [D.int n])], .box 36 [.int .i64 m.size, .arr (m.tables.map Tl.d)]]) := by
  have h := indexInt_E m t hs xs hl
  refine E_walk k_slices_ContainsFunc_int_int m_slices_ContainsFunc_int_int (of_decide_eq_true rfl) ?_
  simp (disch := omega) only [c_slices_ContainsFunc_int_int, go_sem, go_cond, Nat.reduceAdd, Nat.reduceSub, Nat.reduceLT, Nat.reduceLeDiff, Nat.reduceEqDiff, Nat.reduceBEq, Nat.reduceBneDiff, Nat.reduceMul, ↓reduceIte, Int.reduceToNat, reduceCtorEq, Int.reduceNeg, Int.reduceAdd, h, m_slices_IndexFunc_int_int]
  rw [idxP_any]
set_option maxHeartbeats 2000000 in
theorem badTable_E (m : Ip) (t : Tl) (hs : 1 ≤ m.size ∧ m.size ≤ 3) (ha : 0 ≤ t.arity ∧ t.arity ≤ 3) (hl : t.vals.length ≤ 1099511627776) : E 63 [t.sv, .ptr 0 0] [.box 36 [.int .i64 m.size, .arr (m.tables.map Tl.d)]] = some (.bool (!tlB m.size t), [.box 36 [.int .i64 m.size, .arr (m.tables.map Tl.d)]]) := by
  have h1 := power_E m.size t.arity hs.1 hs.2 ha.1 (by omega)
  have h2 := containsInt_E m t hs t.vals hl
  have hall : (t.vals.any fun v => !inI v 0 (kinds m.size t - 1)) = !(t.vals.all fun v => inI v 0 (kinds m.size t - 1)) := by
    induction t.vals with
    | nil => rfl
    | cons a l ih => rw [List.any_cons, List.all_cons, ih, Bool.not_and]
  rw [hall] at h2
  have hp := pw_small hs.1 hs.2 (k := t.arity.toNat) (by omega)
  unfold tlB
  cases hd : dec ((t.vals.length : Int) = pw m.size t.arity.toNat) with
  | false =>
    rw [Bool.false_and]
    refine E_walk k_impl_IsValidInterpretation_1 m_impl_IsValidInterpretation_1 (of_decide_eq_true rfl) ?_
    simp (disch := omega) only [c_impl_IsValidInterpretation_1, go_sem, go_cond, Nat.reduceAdd, Nat.reduceSub, Nat.reduceLT, Nat.reduceLeDiff, Nat.reduceEqDiff, Nat.reduceBEq, Nat.reduceBneDiff, Nat.reduceMul, ↓reduceIte, Int.reduceToNat, reduceCtorEq, Int.reduceNeg, Int.reduceAdd, h1, h2, hd, m_impl_power, m_slices_ContainsFunc_int_int, g_impl_IsValidInterpretation_1_1]
  | true =>
    rw [Bool.true_and]
    refine E_walk k_impl_IsValidInterpretation_1 m_impl_IsValidInterpretation_1 (of_decide_eq_true rfl) ?_
    simp (disch := omega) only [c_impl_IsValidInterpretation_1, go_sem, go_cond, Nat.reduceAdd, Nat.reduceSub, Nat.reduceLT, Nat.reduceLeDiff, Nat.reduceEqDiff, Nat.reduceBEq, Nat.reduceBneDiff, Nat.reduceMul, ↓reduceIte, Int.reduceToNat, reduceCtorEq, Int.reduceNeg, Int.reduceAdd, h1, h2, hd, m_impl_power, m_slices_ContainsFunc_int_int, g_impl_IsValidInterpretation_1_1]
set_option maxHeartbeats 2000000 in
theorem indexTab_E (m : Ip) (hs : 1 ≤ m.size ∧ m.size ≤ 3) (xs : List Tl) (hx : ∀ t ∈ xs, (0 ≤ t.arity ∧ t.arity ≤ 3) ∧ t.vals.length ≤ 1099511627776) (hl : xs.length ≤ 1099511627776) : E 107 [.arr (xs.map Tl.d), .fn 63 [.ptr 0 0]] [.box 36 [.int .i64 m.size, .arr (m.tables.map Tl.d)]] = some (.int .i64 (idxP (fun t => !tlB m.size t) xs 0), [.box 36 [.int .i64 m.size, .arr (m.tables.map Tl.d)]]) := by
  have hE := fun t (ht : t ∈ xs) => badTable_E m t hs (hx t ht).1 (hx t ht).2
  generalize hpp : (fun t : Tl => !tlB m.size t) = p at *
  have hpe : ∀ t, (!tlB m.size t) = p t := fun t => by rw [← hpp]
  refine E_walk k_slices_IndexFunc_impl_Table_impl_Table m_slices_IndexFunc_impl_Table_impl_Table (of_decide_eq_true rfl) ?_
  simp (disch := omega) only [c_slices_IndexFunc_impl_Table_impl_Table, go_sem, go_cond, Nat.reduceAdd, Nat.reduceSub, Nat.reduceLT, Nat.reduceLeDiff, Nat.reduceEqDiff, Nat.reduceBEq, Nat.reduceBneDiff, Nat.reduceMul, ↓reduceIte, Int.reduceToNat, reduceCtorEq, Int.reduceNeg, Int.reduceAdd]
  refine go_loop (α := Int) (fun a => ⟨slots 19 0 [(0, .arr (xs.map Tl.d)), (1, .fn 63 [.ptr 0 0]), (7, .int .i64 xs.length), (8, .int .i64 a)], [.box 36 [.int .i64 m.size, .arr (m.tables.map Tl.d)]]⟩) (fun a => ∃ k : Nat, a = k ∧ k ≤ (xs).length ∧ idxP p (xs.drop k) a = idxP p xs 0) (fun a => (xs).length - (a).toNat) 0 ⟨0, rfl, Nat.zero_le _, by rw [List.drop_zero]⟩ (by simp (disch := omega) only [go_sem, go_cond, Nat.reduceAdd, Nat.reduceSub, Nat.reduceLT, Nat.reduceLeDiff, Nat.reduceEqDiff, Nat.reduceBEq, Nat.reduceBneDiff, Nat.reduceMul, ↓reduceIte, Int.reduceToNat, reduceCtorEq, Int.reduceNeg, Int.reduceAdd]) ?_
  rintro i ⟨k, hi, hk, hR⟩
  have hni : i.toNat = k := by omega
  have hni1 : (i + 1).toNat = k + 1 := by omega
  rcases Nat.lt_or_ge k (xs).length with hlt | hge
  · have hg' := get_at Tl.d hlt
    rw [Tl.d_eq] at hg'
    have hc := hE xs[k] (List.getElem_mem hlt)
    rw [hpe] at hc
    rw [List.drop_eq_getElem_cons hlt, idxP] at hR
    cases hp : p xs[k] with
    | true =>
      rw [hp] at hc hR
      simp (disch := omega) only [go_sem, go_cond, Nat.reduceAdd, Nat.reduceSub, Nat.reduceLT, Nat.reduceLeDiff, Nat.reduceEqDiff, Nat.reduceBEq, Nat.reduceBneDiff, Nat.reduceMul, ↓reduceIte, Int.reduceToNat, reduceCtorEq, Int.reduceNeg, Int.reduceAdd, hni, hg', hc, g_impl_IsValidInterpretation_1, m_impl_IsValidInterpretation_1]
      simpa using hR
    | false =>
      rw [hp] at hc hR
      simp (disch := omega) only [go_sem, go_cond, Nat.reduceAdd, Nat.reduceSub, Nat.reduceLT, Nat.reduceLeDiff, Nat.reduceEqDiff, Nat.reduceBEq, Nat.reduceBneDiff, Nat.reduceMul, ↓reduceIte, Int.reduceToNat, reduceCtorEq, Int.reduceNeg, Int.reduceAdd, hni, hg', hc, g_impl_IsValidInterpretation_1, m_impl_IsValidInterpretation_1]
      exact ⟨i + 1, ⟨k + 1, by omega, hlt, by simpa using hR⟩, by omega, by first | trivial | rfl⟩
  · rw [List.drop_eq_nil_of_le hge, idxP] at hR
    simp (disch := omega) only [go_sem, go_cond, Nat.reduceAdd, Nat.reduceSub, Nat.reduceLT, Nat.reduceLeDiff, Nat.reduceEqDiff, Nat.reduceBEq, Nat.reduceBneDiff, Nat.reduceMul, ↓reduceIte, Int.reduceToNat, reduceCtorEq, Int.reduceNeg, Int.reduceAdd, hni]
    exact hR
theorem containsTab_E (m : Ip) (hs : 1 ≤ m.size ∧ m.size ≤ 3) (xs : List Tl) (hx : ∀ t ∈ xs, (0 ≤ t.arity ∧ t.arity ≤ 3) ∧ t.vals.length ≤ 1099511627776) (hl : xs.length ≤ 1099511627776) : E 62 [.arr (xs.map Tl.d), .fn 63 [.ptr 0 0]] [.box 36 [.int .i64 m.size, .arr (m.tables.map Tl.d)]] = some (.bool (!xs.all (tlB m.size)), [.box 36 [.int .i64 m.size, .arr (m.tables.map Tl.d)]]) := by
  have h := indexTab_E m hs xs hx hl
  have hall : (xs.any fun t => !tlB m.size t) = !xs.all (tlB m.size) := by
    induction xs with
    | nil => rfl
    | cons a l ih => rw [List.any_cons, List.all_cons, Bool.not_and]; congr 1; clear h hx hl ih; induction l with
      | nil => rfl
      | cons a l ih => rw [List.any_cons, List.all_cons, ih, Bool.not_and]
  rw [← hall]
  refine E_walk k_slices_ContainsFunc_impl_Table_impl_Table m_slices_ContainsFunc_impl_Table_impl_Table (of_decide_eq_true rfl) ?_
  simp (disch := omega) only [c_slices_ContainsFunc_impl_Table_impl_Table, go_sem, go_cond, Nat.reduceAdd, Nat.reduceSub, Nat.reduceLT, Nat.reduceLeDiff, Nat.reduceEqDiff, Nat.reduceBEq, Nat.reduceBneDiff, Nat.reduceMul, ↓reduceIte, Int.reduceToNat, reduceCtorEq, Int.reduceNeg, Int.reduceAdd, h, m_slices_IndexFunc_impl_Table_impl_Table]
  rw [idxP_any]
set_option maxHeartbeats 2000000 in
theorem isValidInterpretation_E (m : Ip) (hm : m.tame) : E 32 [m.sv] [] = some (.bool m.ok, []) := by
  have h1 := within_E m.size 1 3
  have h2 := areTables_E m.tables hm.1
  unfold Ip.ok
  cases hs : inI m.size 1 3 with
  | false =>
    rw [hs] at h1
    rw [Bool.false_and]
    refine E_walk k_impl_IsValidInterpretation m_impl_IsValidInterpretation (of_decide_eq_true rfl) ?_
    simp (disch := omega) only [c_impl_IsValidInterpretation, go_sem, go_cond, Nat.reduceAdd, Nat.reduceSub, Nat.reduceLT, Nat.reduceLeDiff, Nat.reduceEqDiff, Nat.reduceBEq, Nat.reduceBneDiff, Nat.reduceMul, ↓reduceIte, Int.reduceToNat, reduceCtorEq, Int.reduceNeg, Int.reduceAdd, h1, h2, m_impl_within, m_impl_areTables]
  | true =>
    rw [hs] at h1
    rw [Bool.true_and]
    cases ht : tabsB m.tables with
    | false =>
      rw [ht] at h2
      rw [Bool.false_and]
      refine E_walk k_impl_IsValidInterpretation m_impl_IsValidInterpretation (of_decide_eq_true rfl) ?_
      simp (disch := omega) only [c_impl_IsValidInterpretation, go_sem, go_cond, Nat.reduceAdd, Nat.reduceSub, Nat.reduceLT, Nat.reduceLeDiff, Nat.reduceEqDiff, Nat.reduceBEq, Nat.reduceBneDiff, Nat.reduceMul, ↓reduceIte, Int.reduceToNat, reduceCtorEq, Int.reduceNeg, Int.reduceAdd, h1, h2, m_impl_within, m_impl_areTables]
    | true =>
      rw [ht] at h2
      rw [Bool.true_and]
      have h3 := containsTab_E m (inI_iff.1 hs) m.tables (fun t hx => ⟨tabsB_arity ht hx, hm.2 t hx⟩) hm.1
      refine E_walk k_impl_IsValidInterpretation m_impl_IsValidInterpretation (of_decide_eq_true rfl) ?_
      simp (disch := omega) only [c_impl_IsValidInterpretation, go_sem, go_cond, Nat.reduceAdd, Nat.reduceSub, Nat.reduceLT, Nat.reduceLeDiff, Nat.reduceEqDiff, Nat.reduceBEq, Nat.reduceBneDiff, Nat.reduceMul, ↓reduceIte, Int.reduceToNat, reduceCtorEq, Int.reduceNeg, Int.reduceAdd, h1, h2, h3, m_impl_within, m_impl_areTables, m_slices_ContainsFunc_impl_Table_impl_Table]
      rw [Bool.not_not]
end Go.Proofs.Ytpmeabbfpabglaa

set_option maxRecDepth 100000
set_option linter.unusedSimpArgs false
set_option linter.unusedVariables false
namespace Go.Proofs.Ytpmeabbfpabglaa
open Go.RowKit

set_option maxHeartbeats 8000000 in
theorem l10Tables_E (xs : List Tl) (hl : xs.length ≤ 1099511627776) : E 52 [.arr (xs.map Tl.d)] [] = some (.bool (tabsB xs), []) := by
  rcases Nat.lt_or_ge 12 xs.length with h8 | h8
  · have e : tabsB xs = false := by unfold tabsB; rw [decide_eq_false (by omega), Bool.and_false]
    rw [e]
    refine E_walk k_spec_l10Tables m_spec_l10Tables (of_decide_eq_true rfl) ?_
    simp (disch := omega) only [c_spec_l10Tables, go_sem, go_cond, Nat.reduceAdd, Nat.reduceSub, Nat.reduceLT, Nat.reduceLeDiff, Nat.reduceEqDiff, Nat.reduceBEq, Nat.reduceBneDiff, Nat.reduceMul, ↓reduceIte, Int.reduceToNat, reduceCtorEq, Int.reduceNeg, Int.reduceAdd]
  refine E_walk k_spec_l10Tables m_spec_l10Tables (of_decide_eq_true rfl) ?_
  simp (disch := omega) only [c_spec_l10Tables, go_sem, go_cond, Nat.reduceAdd, Nat.reduceSub, Nat.reduceLT, Nat.reduceLeDiff, Nat.reduceEqDiff, Nat.reduceBEq, Nat.reduceBneDiff, Nat.reduceMul, ↓reduceIte, Int.reduceToNat, reduceCtorEq, Int.reduceNeg, Int.reduceAdd]
  refine go_loop (α := Int) (fun a => ⟨slots 63 0 [(0, .arr (xs.map Tl.d)), (3, .int .i64 a)], []⟩) (fun a => ∃ k : Nat, a = k ∧ k ≤ (xs).length ∧ allTo (tlAt xs) k = true) (fun a => (xs).length - (a).toNat) 0 ⟨0, rfl, Nat.zero_le _, by rw [allTo]⟩ (by simp (disch := omega) only [go_sem, go_cond, Nat.reduceAdd, Nat.reduceSub, Nat.reduceLT, Nat.reduceLeDiff, Nat.reduceEqDiff, Nat.reduceBEq, Nat.reduceBneDiff, Nat.reduceMul, ↓reduceIte, Int.reduceToNat, reduceCtorEq, Int.reduceNeg, Int.reduceAdd]) ?_
  rintro i ⟨k, hi, hk, hR⟩
  have hni : i.toNat = k := by omega
  have hni1 : (i + 1).toNat = k + 1 := by omega
  rcases Nat.lt_or_ge k (xs).length with hlt | hge
  · have hg := get_at Tl.d hlt
    rw [Tl.d_eq] at hg
    have hs := l2Symbol_E xs[k].name
    have hw := l1In_E xs[k].arity 0 3
    have no : tlAt xs k = false → tabsB xs = false := fun h => by unfold tabsB; rw [allTo_no h hlt, Bool.false_and]
    cases ha : symB xs[k].name with
    | false =>
      rw [ha] at hs
      rw [no (by cases k with | zero => rw [tlAt_zero hlt, ha, Bool.false_and] | succ j => rw [tlAt_succ hlt, ha, Bool.false_and])]
      simp (disch := omega) only [go_sem, go_cond, Nat.reduceAdd, Nat.reduceSub, Nat.reduceLT, Nat.reduceLeDiff, Nat.reduceEqDiff, Nat.reduceBEq, Nat.reduceBneDiff, Nat.reduceMul, ↓reduceIte, Int.reduceToNat, reduceCtorEq, Int.reduceNeg, Int.reduceAdd, hni, hg, hs, hw, m_spec_l2Symbol, m_spec_l1In]
    | true =>
      rw [ha] at hs
      cases hb : inI xs[k].arity 0 3 with
      | false =>
        rw [hb] at hw
        rw [no (by cases k with | zero => rw [tlAt_zero hlt, hb, Bool.and_false] | succ j => rw [tlAt_succ hlt, hb, Bool.false_and, Bool.and_false])]
        simp (disch := omega) only [go_sem, go_cond, Nat.reduceAdd, Nat.reduceSub, Nat.reduceLT, Nat.reduceLeDiff, Nat.reduceEqDiff, Nat.reduceBEq, Nat.reduceBneDiff, Nat.reduceMul, ↓reduceIte, Int.reduceToNat, reduceCtorEq, Int.reduceNeg, Int.reduceAdd, hni, hg, hs, hw, m_spec_l2Symbol, m_spec_l1In]
      | true =>
        rw [hb] at hw
        cases k with
        | zero =>
          obtain rfl : i = 0 := hi
          simp (disch := omega) only [go_sem, go_cond, Nat.reduceAdd, Nat.reduceSub, Nat.reduceLT, Nat.reduceLeDiff, Nat.reduceEqDiff, Nat.reduceBEq, Nat.reduceBneDiff, Nat.reduceMul, ↓reduceIte, Int.reduceToNat, reduceCtorEq, Int.reduceNeg, Int.reduceAdd, hni, hg, hs, hw, m_spec_l2Symbol, m_spec_l1In]
          exact ⟨1, ⟨1, rfl, hlt, by rw [allTo, hR, tlAt_zero hlt, ha, hb]; rfl⟩, by omega, by first | trivial | rfl⟩
        | succ j =>
          have hj : j < xs.length := by omega
          have hg2 := get_at Tl.d hj
          rw [Tl.d_eq] at hg2
          have hni2 : (i - 1).toNat = j := by omega
          have yes : keyLt xs[j] xs[j + 1] = true → allTo (tlAt xs) (j + 1 + 1) = true := fun h => by rw [allTo, hR, tlAt_succ hlt, ha, hb, h]; rfl
          have no2 : keyLt xs[j] xs[j + 1] = false → tabsB xs = false := fun h => no (by rw [tlAt_succ hlt, ha, hb, h]; rfl)
          cases h1 : strLt xs[j].name xs[j + 1].name with
          | true =>
            have h2 : dec (xs[j].name = xs[j + 1].name) = false := dec_f (strLt_ne h1)
            have hk2 : keyLt xs[j] xs[j + 1] = true := by unfold keyLt; rw [h1]; rfl
            simp (disch := omega) only [go_sem, go_cond, Nat.reduceAdd, Nat.reduceSub, Nat.reduceLT, Nat.reduceLeDiff, Nat.reduceEqDiff, Nat.reduceBEq, Nat.reduceBneDiff, Nat.reduceMul, ↓reduceIte, Int.reduceToNat, reduceCtorEq, Int.reduceNeg, Int.reduceAdd, hni, hg, hs, hw, m_spec_l2Symbol, m_spec_l1In, hni2, hg2, h1, h2]
            exact ⟨i + 1, ⟨j + 1 + 1, by omega, hlt, yes hk2⟩, by omega, by first | trivial | rfl⟩
          | false =>
            cases h2 : dec (xs[j].name = xs[j + 1].name) with
            | false =>
              have hk2 : keyLt xs[j] xs[j + 1] = false := by unfold keyLt; rw [h1, h2]; rfl
              rw [no2 hk2]
              simp (disch := omega) only [go_sem, go_cond, Nat.reduceAdd, Nat.reduceSub, Nat.reduceLT, Nat.reduceLeDiff, Nat.reduceEqDiff, Nat.reduceBEq, Nat.reduceBneDiff, Nat.reduceMul, ↓reduceIte, Int.reduceToNat, reduceCtorEq, Int.reduceNeg, Int.reduceAdd, hni, hg, hs, hw, m_spec_l2Symbol, m_spec_l1In, hni2, hg2, h1, h2]
            | true =>
              rcases Int.lt_or_le xs[j].arity xs[j + 1].arity with hq | hq
              · have h3 : dec (xs[j + 1].arity ≤ xs[j].arity) = false := dec_f (by omega)
                have hk2 : keyLt xs[j] xs[j + 1] = true := by unfold keyLt; rw [h1, h2, dec_t hq]; rfl
                simp (disch := omega) only [go_sem, go_cond, Nat.reduceAdd, Nat.reduceSub, Nat.reduceLT, Nat.reduceLeDiff, Nat.reduceEqDiff, Nat.reduceBEq, Nat.reduceBneDiff, Nat.reduceMul, ↓reduceIte, Int.reduceToNat, reduceCtorEq, Int.reduceNeg, Int.reduceAdd, hni, hg, hs, hw, m_spec_l2Symbol, m_spec_l1In, hni2, hg2, h1, h2, h3]
                exact ⟨i + 1, ⟨j + 1 + 1, by omega, hlt, yes hk2⟩, by omega, by first | trivial | rfl⟩
              · have h3 : dec (xs[j + 1].arity ≤ xs[j].arity) = true := dec_t hq
                have hk2 : keyLt xs[j] xs[j + 1] = false := by unfold keyLt; rw [h1, h2, dec_f (by omega)]; rfl
                rw [no2 hk2]
                simp (disch := omega) only [go_sem, go_cond, Nat.reduceAdd, Nat.reduceSub, Nat.reduceLT, Nat.reduceLeDiff, Nat.reduceEqDiff, Nat.reduceBEq, Nat.reduceBneDiff, Nat.reduceMul, ↓reduceIte, Int.reduceToNat, reduceCtorEq, Int.reduceNeg, Int.reduceAdd, hni, hg, hs, hw, m_spec_l2Symbol, m_spec_l1In, hni2, hg2, h1, h2, h3]
  · obtain rfl : k = xs.length := by omega
    simp (disch := omega) only [go_sem, go_cond, Nat.reduceAdd, Nat.reduceSub, Nat.reduceLT, Nat.reduceLeDiff, Nat.reduceEqDiff, Nat.reduceBEq, Nat.reduceBneDiff, Nat.reduceMul, ↓reduceIte, Int.reduceToNat, reduceCtorEq, Int.reduceNeg, Int.reduceAdd, hni]
    unfold tabsB
    rw [hR, decide_eq_true h8]; rfl
set_option maxHeartbeats 8000000 in
theorem l10Good_E (m : Ip) (hm : m.tame) : E 24 [m.sv] [] = some (.bool m.ok, []) := by
  have h1 := l1In_E m.size 1 3
  have h2 := l10Tables_E m.tables hm.1
  unfold Ip.ok
  cases hs : inI m.size 1 3 with
  | false =>
    rw [hs] at h1
    rw [Bool.false_and]
    refine E_walk k_spec_l10Good m_spec_l10Good (of_decide_eq_true rfl) ?_
    simp (disch := omega) only [c_spec_l10Good, go_sem, go_cond, Nat.reduceAdd, Nat.reduceSub, Nat.reduceLT, Nat.reduceLeDiff, Nat.reduceEqDiff, Nat.reduceBEq, Nat.reduceBneDiff, Nat.reduceMul, ↓reduceIte, Int.reduceToNat, reduceCtorEq, Int.reduceNeg, Int.reduceAdd, h1, h2, m_spec_l1In, m_spec_l10Tables]
  | true =>
    rw [hs] at h1
    rw [Bool.true_and]
    cases ht : tabsB m.tables with
    | false =>
      rw [ht] at h2
      rw [Bool.false_and]
      refine E_walk k_spec_l10Good m_spec_l10Good (of_decide_eq_true rfl) ?_
      simp (disch := omega) only [c_spec_l10Good, go_sem, go_cond, Nat.reduceAdd, Nat.reduceSub, Nat.reduceLT, Nat.reduceLeDiff, Nat.reduceEqDiff, Nat.reduceBEq, Nat.reduceBneDiff, Nat.reduceMul, ↓reduceIte, Int.reduceToNat, reduceCtorEq, Int.reduceNeg, Int.reduceAdd, h1, h2, m_spec_l1In, m_spec_l10Tables]
    | true =>
      rw [ht] at h2
      rw [Bool.true_and]
      obtain ⟨s1, s3⟩ := inI_iff.1 hs
      have hl := hm.1
      refine E_walk k_spec_l10Good m_spec_l10Good (of_decide_eq_true rfl) ?_
      simp (disch := omega) only [c_spec_l10Good, go_sem, go_cond, Nat.reduceAdd, Nat.reduceSub, Nat.reduceLT, Nat.reduceLeDiff, Nat.reduceEqDiff, Nat.reduceBEq, Nat.reduceBneDiff, Nat.reduceMul, ↓reduceIte, Int.reduceToNat, reduceCtorEq, Int.reduceNeg, Int.reduceAdd, h1, h2, m_spec_l1In, m_spec_l10Tables]
      refine go_loop (α := Int) (fun a => ⟨slots 58 0 [(1, .ptr 0 0), (3, .int .i64 a)], [.box 36 [.int .i64 m.size, .arr (m.tables.map Tl.d)]]⟩) (fun a => ∃ k : Nat, a = k ∧ k ≤ (m.tables).length ∧ (m.tables.drop k).all (tlB m.size) = m.tables.all (tlB m.size)) (fun a => (m.tables).length - (a).toNat) 0 ⟨0, rfl, Nat.zero_le _, by rw [List.drop_zero]⟩ (by simp (disch := omega) only [go_sem, go_cond, Nat.reduceAdd, Nat.reduceSub, Nat.reduceLT, Nat.reduceLeDiff, Nat.reduceEqDiff, Nat.reduceBEq, Nat.reduceBneDiff, Nat.reduceMul, ↓reduceIte, Int.reduceToNat, reduceCtorEq, Int.reduceNeg, Int.reduceAdd]) ?_
      rintro i ⟨k, hi, hk, hR⟩
      have hni : i.toNat = k := by omega
      have hni1 : (i + 1).toNat = k + 1 := by omega
      rcases Nat.lt_or_ge k (m.tables).length with hlt | hge
      · have hg := get_at Tl.d hlt
        rw [Tl.d_eq] at hg
        obtain ⟨a0, a3⟩ := tabsB_arity ht (List.getElem_mem hlt)
        have hvl := hm.2 _ (List.getElem_mem hlt)
        have hp := l10Power_E m.size m.tables[k].arity s1 s3 a0 (by omega)
        have hps := pw_small s1 s3 (k := m.tables[k].arity.toNat) (by omega)
        rw [List.drop_eq_getElem_cons hlt, List.all_cons] at hR
        have hT : tlB m.size m.tables[k] = (dec ((m.tables[k].vals.length : Int) = pw m.size m.tables[k].arity.toNat) && m.tables[k].vals.all fun v => inI v 0 (kinds m.size m.tables[k] - 1)) := rfl
        have hk0 : 1 ≤ kinds m.size m.tables[k] ∧ kinds m.size m.tables[k] ≤ 3 := by unfold kinds; split <;> omega
        have step : ∀ b : Bool, m.tables[k].pred = b → kinds m.size m.tables[k] = (if b then 2 else m.size) := fun b hb => by unfold kinds; rw [hb]
        cases hd : dec ((m.tables[k].vals.length : Int) = pw m.size m.tables[k].arity.toNat) with
        | false =>
          rw [hT, hd, Bool.false_and, Bool.false_and] at hR
          rw [← hR]
          cases hb : m.tables[k].pred
          · simp (disch := omega) only [go_sem, go_cond, Nat.reduceAdd, Nat.reduceSub, Nat.reduceLT, Nat.reduceLeDiff, Nat.reduceEqDiff, Nat.reduceBEq, Nat.reduceBneDiff, Nat.reduceMul, ↓reduceIte, Int.reduceToNat, reduceCtorEq, Int.reduceNeg, Int.reduceAdd, hni, hg, hp, hd, hb, m_spec_l10Power]
          · simp (disch := omega) only [go_sem, go_cond, Nat.reduceAdd, Nat.reduceSub, Nat.reduceLT, Nat.reduceLeDiff, Nat.reduceEqDiff, Nat.reduceBEq, Nat.reduceBneDiff, Nat.reduceMul, ↓reduceIte, Int.reduceToNat, reduceCtorEq, Int.reduceNeg, Int.reduceAdd, hni, hg, hp, hd, hb, m_spec_l10Power]
        | true =>
          rw [hT, hd, Bool.true_and] at hR
          have fin : ∀ (b : Bool), m.tables[k].pred = b → True := fun _ _ => trivial
          cases hb : m.tables[k].pred
          all_goals
            have hkk := step _ hb
            simp only [if_true, if_false, Bool.false_eq_true] at hkk
            simp (disch := omega) only [go_sem, go_cond, Nat.reduceAdd, Nat.reduceSub, Nat.reduceLT, Nat.reduceLeDiff, Nat.reduceEqDiff, Nat.reduceBEq, Nat.reduceBneDiff, Nat.reduceMul, ↓reduceIte, Int.reduceToNat, reduceCtorEq, Int.reduceNeg, Int.reduceAdd, hni, hg, hp, hd, hb, m_spec_l10Power]
            refine go_loop (α := Int) (fun q => ⟨slots 58 0 [(1, .ptr 0 0), (3, .int .i64 i), (4, .ptr 1 0), (5, .int .i64 (kinds m.size m.tables[k] - 1)), (6, .int .i64 q)], [.box 36 [.int .i64 m.size, .arr (m.tables.map Tl.d)], .box 95 [.str m.tables[k].name, .int .i64 m.tables[k].arity, .bool m.tables[k].pred, .arr (m.tables[k].vals.map fun n => [D.int n])]]⟩) (fun q => ∃ n : Nat, q = n ∧ n ≤ m.tables[k].vals.length ∧ ((m.tables[k].vals.drop n).all fun v => inI v 0 (kinds m.size m.tables[k] - 1)) = (m.tables[k].vals.all fun v => inI v 0 (kinds m.size m.tables[k] - 1))) (fun q => m.tables[k].vals.length - q.toNat) 0 ⟨0, rfl, Nat.zero_le _, by rw [List.drop_zero]⟩ (by simp (disch := omega) only [go_sem, go_cond, Nat.reduceAdd, Nat.reduceSub, Nat.reduceLT, Nat.reduceLeDiff, Nat.reduceEqDiff, Nat.reduceBEq, Nat.reduceBneDiff, Nat.reduceMul, ↓reduceIte, Int.reduceToNat, reduceCtorEq, Int.reduceNeg, Int.reduceAdd, hkk, hb, Int.reduceSub]) ?_
            rintro q ⟨n, hq, hn, hQ⟩
            have hqn : q.toNat = n := by omega
            rcases Nat.lt_or_ge n m.tables[k].vals.length with hlt2 | hge2
            · have hgv := get_at (fun n => [D.int n]) hlt2
              have hv := l1In_E m.tables[k].vals[n] 0 (kinds m.size m.tables[k] - 1)
              rw [List.drop_eq_getElem_cons hlt2, List.all_cons] at hQ
              cases hw : inI m.tables[k].vals[n] 0 (kinds m.size m.tables[k] - 1) with
              | false =>
                rw [hw] at hv hQ
                rw [Bool.false_and] at hQ
                rw [← hQ, Bool.false_and] at hR
                rw [← hR]
                simp (disch := omega) only [go_sem, go_cond, Nat.reduceAdd, Nat.reduceSub, Nat.reduceLT, Nat.reduceLeDiff, Nat.reduceEqDiff, Nat.reduceBEq, Nat.reduceBneDiff, Nat.reduceMul, ↓reduceIte, Int.reduceToNat, reduceCtorEq, Int.reduceNeg, Int.reduceAdd, hqn, hgv, hv, m_spec_l1In]
              | true =>
                rw [hw] at hv hQ
                rw [Bool.true_and] at hQ
                simp (disch := omega) only [go_sem, go_cond, Nat.reduceAdd, Nat.reduceSub, Nat.reduceLT, Nat.reduceLeDiff, Nat.reduceEqDiff, Nat.reduceBEq, Nat.reduceBneDiff, Nat.reduceMul, ↓reduceIte, Int.reduceToNat, reduceCtorEq, Int.reduceNeg, Int.reduceAdd, hqn, hgv, hv, m_spec_l1In]
                exact ⟨q + 1, ⟨n + 1, by omega, hlt2, hQ⟩, by omega, by first | trivial | rfl | simp only [hb]⟩
            · rw [List.drop_eq_nil_of_le hge2, List.all_nil] at hQ
              rw [← hQ, Bool.true_and] at hR
              simp (disch := omega) only [go_sem, go_cond, Nat.reduceAdd, Nat.reduceSub, Nat.reduceLT, Nat.reduceLeDiff, Nat.reduceEqDiff, Nat.reduceBEq, Nat.reduceBneDiff, Nat.reduceMul, ↓reduceIte, Int.reduceToNat, reduceCtorEq, Int.reduceNeg, Int.reduceAdd, hqn]
              exact ⟨i + 1, ⟨k + 1, by omega, hlt, hR⟩, by omega, by first | trivial | rfl⟩
      · rw [List.drop_eq_nil_of_le hge, List.all_nil] at hR
        rw [← hR]
        simp (disch := omega) only [go_sem, go_cond, Nat.reduceAdd, Nat.reduceSub, Nat.reduceLT, Nat.reduceLeDiff, Nat.reduceEqDiff, Nat.reduceBEq, Nat.reduceBneDiff, Nat.reduceMul, ↓reduceIte, Int.reduceToNat, reduceCtorEq, Int.reduceNeg, Int.reduceAdd, hni]
end Go.Proofs.Ytpmeabbfpabglaa

set_option maxRecDepth 100000
set_option linter.unusedSimpArgs false
set_option linter.unusedVariables false
namespace Go.Proofs.Ytpmeabbfpabglaa
open Go.RowKit

def c_impl_Interpretation_valuationOf : SC := (.seq (.reg [⟨(some 2), none, (.boxv 36 2 (.t 0))⟩, ⟨(some 4), none, (.mv (.c (.mp true nomap)))⟩, ⟨(some 5), none, (.mv (.c (.bool false)))⟩]) (.seq (.reg [⟨(some 9), none, (.mkmap true none)⟩, ⟨(some 6), none, (.mv (.t 9))⟩]) (.seq (.seq (.reg [⟨(some 10), none, (.mv (.t 1))⟩, ⟨(some 11), none, (.len false (.t 10))⟩, ⟨(some 12), none, (.mv (.c (.int .i64 0)))⟩]) (.block 0 (.loop [0, 1, 1, 0, 0, 0, 1, 0, 0, 0, 1, 1, 1, 0, 0, 0, 0, 0, 0, 0, 0, 0, 0, 0, 0, 0, 0, 0, 0, 0, 0, 0, 0, 0, 0, 0, 0, 0, 0, 0, 0, 0, 0, 0, 0, 0, 0, 0, 0, 0, 0, 0] (.seq (.reg [⟨(some 13), none, (.bin .lss false (.t 12) (.t 11))⟩]) (.seq (.cond (.t 13) .skip (.exit 0)) (.seq (.block 1 (.seq (.reg [⟨(some 14), none, (.mv (.t 12))⟩, ⟨(some 15), none, (.iaddr 2 (.t 10) (.t 12))⟩, ⟨(some 16), none, (.load true 2 (.t 15))⟩, ⟨(some 8), none, (.alloc 66 [(.str ⟨#[]⟩), (.int .i64 0)])⟩, ⟨(some 7), none, (.mv (.t 14))⟩, ⟨none, none, (.store 2 (.t 8) (.t 16))⟩]) (.seq (.seq (.dreg [[], [0], [1, 0], [2, 1, 0], [3, 2, 1, 0], [4, 3, 2, 1, 0], [5, 4, 3, 2, 1, 0], [4, 3, 2, 1, 0], [7, 4, 3, 2, 1, 0], [8, 7, 4, 3, 2, 1, 0], [6, 5, 4, 3, 2, 1, 0, 9, 8, 7], [10, 6, 5, 4, 3, 2, 1, 0, 9, 8, 7], [4, 3, 2, 1, 0, 11, 10, 6, 5, 9, 8, 7], [12, 4, 3, 2, 1, 0, 11, 10, 6, 5, 9, 8, 7], [13, 12, 4, 3, 2, 1, 0, 11, 10, 6, 5, 9, 8, 7], [14, 13, 12, 4, 3, 2, 1, 0, 11, 10, 6, 5, 9, 8, 7], [15, 14, 13, 12, 4, 3, 2, 1, 0, 11, 10, 6, 5, 9, 8, 7], [16, 15, 14, 13, 12, 4, 3, 2, 1, 0, 11, 10, 6, 5, 9, 8, 7], [17, 16, 15, 14, 13, 12, 4, 3, 2, 1, 0, 11, 10, 6, 5, 9, 8, 7], [16, 15, 14, 13, 12, 4, 3, 2, 1, 0, 11, 10, 6, 5, 9, 8, 7], [16, 15, 14, 13, 12, 4, 3, 2, 1, 0, 11, 10, 6, 5, 9, 8, 7], [20, 16, 15, 14, 13, 12, 4, 3, 2, 1, 0, 11, 10, 6, 5, 9, 8, 7], [19, 16, 15, 14, 13, 12, 4, 3, 2, 1, 0, 11, 10, 6, 5, 9, 8, 7, 21, 20], [22, 19, 16, 15, 14, 13, 12, 4, 3, 2, 1, 0, 11, 10, 6, 5, 9, 8, 7, 21, 20], [23, 22, 19, 16, 15, 14, 13, 12, 4, 3, 2, 1, 0, 11, 10, 6, 5, 9, 8, 7, 21, 20], [18, 17, 16, 15, 14, 13, 12, 4, 3, 2, 1, 0, 11, 10, 6, 5, 9, 8, 7, 24, 23, 22, 19, 21, 20], [16, 15, 14, 13, 12, 4, 3, 2, 1, 0, 11, 10, 6, 5, 9, 8, 7, 25, 18, 17, 24, 23, 22, 19, 21, 20], [13, 12, 4, 3, 2, 1, 0, 11, 10, 6, 5, 9, 8, 7, 26, 16, 15, 14, 25, 18, 17, 24, 23, 22, 19, 21, 20]] [⟨(some 17), none, (.faddr 0 (.t 8))⟩, ⟨(some 18), none, (.load false 1 (.t 17))⟩, ⟨(some 19), none, (.call 59 [(.t 18)])⟩, ⟨(some 20), none, (.un .not (.t 19))⟩, ⟨(some 21), none, (.mv (.t 20))⟩, ⟨(some 22), (some (21, false)), (.faddr 1 (.t 8))⟩, ⟨(some 23), (some (21, false)), (.load false 1 (.t 22))⟩, ⟨(some 24), (some (21, false)), (.faddr 0 (.t 2))⟩, ⟨(some 25), (some (21, false)), (.load false 1 (.t 24))⟩, ⟨(some 26), (some (21, false)), (.bin .sub false (.t 25) (.c (.int .i64 1)))⟩, ⟨(some 27), (some (21, false)), (.call 60 [(.t 23), (.c (.int .i64 0)), (.t 26)])⟩, ⟨(some 28), (some (21, false)), (.un .not (.t 27))⟩, ⟨(some 29), none, (.pick (.t 21) (.c (.bool true)) (.t 28))⟩, ⟨(some 30), none, (.mv (.t 29))⟩, ⟨(some 31), (some (30, false)), (.mv (.t 7))⟩, ⟨(some 32), (some (30, false)), (.bin .gtr false (.t 31) (.c (.int .i64 0)))⟩, ⟨(some 33), (some (30, false)), (.mv (.t 32))⟩, ⟨(some 34), (some (33, true)), (.faddr 0 (.t 8))⟩, ⟨(some 35), (some (33, true)), (.load false 1 (.t 34))⟩, ⟨(some 36), (some (33, true)), (.mv (.t 1))⟩, ⟨(some 37), (some (33, true)), (.mv (.t 7))⟩, ⟨(some 38), (some (33, true)), (.bin .sub false (.t 37) (.c (.int .i64 1)))⟩, ⟨(some 39), (some (33, true)), (.iaddr 2 (.t 36) (.t 38))⟩, ⟨(some 40), (some (33, true)), (.faddr 0 (.t 39))⟩, ⟨(some 41), (some (33, true)), (.load false 1 (.t 40))⟩, ⟨(some 42), (some (33, true)), (.bin .leq false (.t 35) (.t 41))⟩, ⟨(some 43), (some (30, false)), (.pick (.t 33) (.t 42) (.c (.bool false)))⟩, ⟨(some 44), none, (.pick (.t 30) (.c (.bool true)) (.t 43))⟩]) (.cond (.t 44) (.seq (.reg [⟨(some 4), none, (.mv (.c (.mp true nomap)))⟩, ⟨(some 5), none, (.mv (.c (.bool false)))⟩]) .ret) .skip)) (.reg [⟨(some 45), none, (.mv (.t 6))⟩, ⟨(some 46), none, (.faddr 0 (.t 8))⟩, ⟨(some 47), none, (.load false 1 (.t 46))⟩, ⟨(some 48), none, (.faddr 1 (.t 8))⟩, ⟨(some 49), none, (.load false 1 (.t 48))⟩, ⟨none, none, (.mset true (.t 45) (.t 47) (.t 49))⟩])))) (.reg [⟨(some 50), none, (.bin .add false (.t 12) (.c (.int .i64 1)))⟩, ⟨(some 12), none, (.mv (.t 50))⟩]))))))) (.seq (.reg [⟨(some 51), none, (.mv (.t 6))⟩, ⟨(some 4), none, (.mv (.t 51))⟩, ⟨(some 5), none, (.mv (.c (.bool true)))⟩]) .ret))))
theorem k_impl_Interpretation_valuationOf : codeOf Try.prog 31 = some ⟨52, c_impl_Interpretation_valuationOf, [(.tmp 4), (.tmp 5)]⟩ := by kernel_rfl
theorem m_impl_Interpretation_valuationOf : modes 31 = ⟨[], .frz, none, false⟩ := by unfold modes; rfl

def c_impl_Interpretation_table : SC := (.seq (.reg [⟨(some 4), none, (.boxv 36 2 (.t 0))⟩, ⟨(some 5), none, (.boxv 9 1 (.t 1))⟩, ⟨(some 6), none, (.boxv 3 1 (.t 2))⟩, ⟨(some 7), none, (.boxv 4 1 (.t 3))⟩, ⟨(some 8), none, (.alloc 95 [(.str ⟨#[]⟩), (.int .i64 0), (.bool false), .nil])⟩, ⟨(some 9), none, (.mv (.c (.bool false)))⟩]) (.seq (.reg [⟨(some 11), none, (.faddr 1 (.t 4))⟩, ⟨(some 12), none, (.load false 1 (.t 11))⟩, ⟨(some 13), none, (.mkfn 135 [(.t 5), (.t 6), (.t 7)])⟩, ⟨(some 14), none, (.call 107 [(.t 12), (.t 13)])⟩, ⟨(some 10), none, (.mv (.t 14))⟩]) (.seq (.seq (.reg [⟨(some 15), none, (.mv (.t 10))⟩, ⟨(some 16), none, (.bin .lss false (.t 15) (.c (.int .i64 0)))⟩]) (.cond (.t 16) (.seq (.reg [⟨(some 17), none, (.build [(.str ⟨#[]⟩), (.int .i64 0), (.bool false), .nil] [])⟩, ⟨none, none, (.store 4 (.t 8) (.t 17))⟩, ⟨(some 9), none, (.mv (.c (.bool false)))⟩]) .ret) .skip)) (.seq (.reg [⟨(some 18), none, (.faddr 1 (.t 4))⟩, ⟨(some 19), none, (.load false 1 (.t 18))⟩, ⟨(some 20), none, (.mv (.t 10))⟩, ⟨(some 21), none, (.iaddr 4 (.t 19) (.t 20))⟩, ⟨(some 22), none, (.load true 4 (.t 21))⟩, ⟨none, none, (.store 4 (.t 8) (.t 22))⟩, ⟨(some 9), none, (.mv (.c (.bool true)))⟩]) .ret))))
theorem k_impl_Interpretation_table : codeOf Try.prog 113 = some ⟨23, c_impl_Interpretation_table, [(.cell 8 true 4), (.tmp 9)]⟩ := by kernel_rfl
theorem m_impl_Interpretation_table : modes 113 = ⟨[], .asis, none, false⟩ := by unfold modes; rfl

def c_impl_Interpretation_table_1 : SC := (.seq (.reg [⟨(some 4), none, (.boxv 95 4 (.t 0))⟩, ⟨(some 5), none, (.mv (.c (.bool false)))⟩]) (.seq (.reg [⟨(some 6), none, (.faddr 0 (.t 4))⟩, ⟨(some 7), none, (.load false 1 (.t 6))⟩, ⟨(some 8), none, (.load false 1 (.t 1))⟩, ⟨(some 9), none, (.bin .eql false (.t 7) (.t 8))⟩, ⟨(some 10), none, (.mv (.t 9))⟩, ⟨(some 11), (some (10, true)), (.faddr 1 (.t 4))⟩, ⟨(some 12), (some (10, true)), (.load false 1 (.t 11))⟩, ⟨(some 13), (some (10, true)), (.load false 1 (.t 2))⟩, ⟨(some 14), (some (10, true)), (.bin .eql false (.t 12) (.t 13))⟩, ⟨(some 15), none, (.pick (.t 10) (.t 14) (.c (.bool false)))⟩, ⟨(some 16), none, (.mv (.t 15))⟩, ⟨(some 17), (some (16, true)), (.faddr 2 (.t 4))⟩, ⟨(some 18), (some (16, true)), (.load false 1 (.t 17))⟩, ⟨(some 19), (some (16, true)), (.load false 1 (.t 3))⟩, ⟨(some 20), (some (16, true)), (.bin .eql true (.t 18) (.t 19))⟩, ⟨(some 21), none, (.pick (.t 16) (.t 20) (.c (.bool false)))⟩, ⟨(some 5), none, (.mv (.t 21))⟩]) .ret))
theorem k_impl_Interpretation_table_1 : codeOf Try.prog 135 = some ⟨22, c_impl_Interpretation_table_1, [(.tmp 5)]⟩ := by kernel_rfl
theorem m_impl_Interpretation_table_1 : modes 135 = ⟨[], .asis, none, false⟩ := by unfold modes; rfl

theorem g_impl_Interpretation_table_1 : goFn Try.prog 135 = true := by kernel_rfl

def c_impl_Interpretation_lookUp : SC := (.seq (.reg [⟨(some 4), none, (.boxv 36 2 (.t 0))⟩, ⟨(some 5), none, (.boxv 42 2 (.t 1))⟩, ⟨(some 8), none, (.mv (.c (.int .i64 0)))⟩, ⟨(some 9), none, (.mv (.c (.bool false)))⟩]) (.seq (.reg [⟨(some 18), none, (.load true 2 (.t 4))⟩, ⟨(some 19), none, (.faddr 0 (.t 5))⟩, ⟨(some 20), none, (.load false 1 (.t 19))⟩, ⟨(some 21), none, (.faddr 1 (.t 5))⟩, ⟨(some 22), none, (.load false 1 (.t 21))⟩, ⟨(some 23), none, (.len false (.t 22))⟩, ⟨(some 24), none, (.mv (.t 3))⟩, ⟨(some 25), none, (.call 113 [(.t 18), (.t 20), (.t 23), (.t 24)])⟩, ⟨(some 17), none, (.mv (.t 25))⟩, ⟨(some 26), none, (.ext (.t 17) 0)⟩, ⟨(some 27), none, (.ext (.t 17) 1)⟩, ⟨(some 10), none, (.alloc 95 [(.str ⟨#[]⟩), (.int .i64 0), (.bool false), .nil])⟩, ⟨none, none, (.store 4 (.t 10) (.t 26))⟩, ⟨(some 11), none, (.mv (.t 27))⟩]) (.seq (.seq (.reg [⟨(some 28), none, (.mv (.t 11))⟩, ⟨(some 29), none, (.un .not (.t 28))⟩]) (.cond (.t 29) (.seq (.reg [⟨(some 8), none, (.mv (.c (.int .i64 0)))⟩, ⟨(some 9), none, (.mv (.c (.bool false)))⟩]) .ret) .skip)) (.seq (.reg [⟨(some 12), none, (.mv (.c (.int .i64 0)))⟩]) (.seq (.seq (.reg [⟨(some 30), none, (.faddr 1 (.t 5))⟩, ⟨(some 31), none, (.load false 1 (.t 30))⟩, ⟨(some 32), none, (.len false (.t 31))⟩, ⟨(some 33), none, (.mv (.c (.int .i64 0)))⟩]) (.block 0 (.loop [0, 0, 1, 0, 1, 0, 0, 0, 0, 0, 1, 0, 1, 0, 0, 0, 0, 0, 0, 0, 0, 0, 0, 0, 0, 0, 0, 0, 0, 0, 0, 1, 1, 1, 0, 0, 0, 0, 0, 0, 0, 0, 0, 0, 0, 0, 0, 0, 0, 0, 0, 0, 0, 0, 0, 0, 0, 0] (.seq (.reg [⟨(some 34), none, (.bin .lss false (.t 33) (.t 32))⟩]) (.seq (.cond (.t 34) .skip (.exit 0)) (.seq (.block 1 (.seq (.reg [⟨(some 35), none, (.iaddr 2 (.t 31) (.t 33))⟩, ⟨(some 36), none, (.load true 2 (.t 35))⟩, ⟨(some 14), none, (.alloc 42 [(.str ⟨#[]⟩), .nil])⟩, ⟨none, none, (.store 2 (.t 14) (.t 36))⟩]) (.seq (.reg [⟨(some 38), none, (.load true 2 (.t 4))⟩, ⟨(some 39), none, (.load true 2 (.t 14))⟩, ⟨(some 40), none, (.mv (.t 2))⟩, ⟨(some 41), none, (.call 34 [(.t 38), (.t 39), (.t 40)])⟩, ⟨(some 37), none, (.mv (.t 41))⟩, ⟨(some 42), none, (.ext (.t 37) 0)⟩, ⟨(some 43), none, (.ext (.t 37) 1)⟩, ⟨(some 15), none, (.mv (.t 42))⟩, ⟨(some 16), none, (.mv (.t 43))⟩]) (.seq (.seq (.reg [⟨(some 44), none, (.mv (.t 16))⟩, ⟨(some 45), none, (.un .not (.t 44))⟩]) (.cond (.t 45) (.seq (.reg [⟨(some 8), none, (.mv (.c (.int .i64 0)))⟩, ⟨(some 9), none, (.mv (.c (.bool false)))⟩]) .ret) .skip)) (.reg [⟨(some 46), none, (.mv (.t 12))⟩, ⟨(some 47), none, (.faddr 0 (.t 4))⟩, ⟨(some 48), none, (.load false 1 (.t 47))⟩, ⟨(some 49), none, (.bin .mul false (.t 46) (.t 48))⟩, ⟨(some 50), none, (.mv (.t 15))⟩, ⟨(some 51), none, (.bin .add false (.t 49) (.t 50))⟩, ⟨(some 12), none, (.mv (.t 51))⟩]))))) (.reg [⟨(some 52), none, (.bin .add false (.t 33) (.c (.int .i64 1)))⟩, ⟨(some 33), none, (.mv (.t 52))⟩]))))))) (.seq (.reg [⟨(some 53), none, (.faddr 3 (.t 10))⟩, ⟨(some 54), none, (.load false 1 (.t 53))⟩, ⟨(some 55), none, (.mv (.t 12))⟩, ⟨(some 56), none, (.iaddr 1 (.t 54) (.t 55))⟩, ⟨(some 57), none, (.load false 1 (.t 56))⟩, ⟨(some 8), none, (.mv (.t 57))⟩, ⟨(some 9), none, (.mv (.c (.bool true)))⟩]) .ret))))))
theorem k_impl_Interpretation_lookUp : codeOf Try.prog 71 = some ⟨58, c_impl_Interpretation_lookUp, [(.tmp 8), (.tmp 9)]⟩ := by kernel_rfl
theorem m_impl_Interpretation_lookUp : modes 71 = ⟨[], .asis, none, false⟩ := by unfold modes; rfl

def c_impl_Interpretation_value : SC := (.seq (.reg [⟨(some 3), none, (.boxv 36 2 (.t 0))⟩, ⟨(some 4), none, (.boxv 42 2 (.t 1))⟩, ⟨(some 6), none, (.mv (.c (.int .i64 0)))⟩, ⟨(some 7), none, (.mv (.c (.bool false)))⟩]) (.seq (.seq (.reg [⟨(some 10), none, (.load true 2 (.t 4))⟩, ⟨(some 11), none, (.call 70 [(.t 10)])⟩]) (.cond (.t 11) (.seq (.reg [⟨(some 13), none, (.mv (.t 2))⟩, ⟨(some 14), none, (.faddr 0 (.t 4))⟩, ⟨(some 15), none, (.load false 1 (.t 14))⟩, ⟨(some 16), none, (.mget true true false [(.int .i64 0)] (.t 13) (.t 15))⟩, ⟨(some 12), none, (.mv (.t 16))⟩, ⟨(some 17), none, (.ext (.t 12) 0)⟩, ⟨(some 18), none, (.ext (.t 12) 1)⟩, ⟨(some 8), none, (.mv (.t 17))⟩, ⟨(some 9), none, (.mv (.t 18))⟩]) (.seq (.reg [⟨(some 19), none, (.mv (.t 8))⟩, ⟨(some 20), none, (.mv (.t 9))⟩, ⟨(some 6), none, (.mv (.t 19))⟩, ⟨(some 7), none, (.mv (.t 20))⟩]) .ret)) .skip)) (.seq (.reg [⟨(some 21), none, (.load true 2 (.t 3))⟩, ⟨(some 22), none, (.load true 2 (.t 4))⟩, ⟨(some 23), none, (.mv (.t 2))⟩, ⟨(some 24), none, (.call 71 [(.t 21), (.t 22), (.t 23), (.c (.bool false))])⟩, ⟨(some 25), none, (.ext (.t 24) 0)⟩, ⟨(some 26), none, (.ext (.t 24) 1)⟩, ⟨(some 6), none, (.mv (.t 25))⟩, ⟨(some 7), none, (.mv (.t 26))⟩]) .ret)))
theorem k_impl_Interpretation_value : codeOf Try.prog 34 = some ⟨27, c_impl_Interpretation_value, [(.tmp 6), (.tmp 7)]⟩ := by kernel_rfl
theorem m_impl_Interpretation_value : modes 34 = ⟨[], .asis, none, false⟩ := by unfold modes; rfl

def c_spec_l10Assignment : SC := (.seq (.reg [⟨(some 2), none, (.boxv 36 2 (.t 0))⟩, ⟨(some 4), none, (.mv (.c (.bool false)))⟩]) (.seq (.seq (.reg [⟨(some 5), none, (.mv (.c (.int .i64 0)))⟩]) (.block 0 (.loop [0, 1, 1, 0, 0, 1, 0, 0, 0, 0, 0, 0, 0, 0, 0, 0, 0, 0, 0, 0, 0, 0, 0, 0, 0, 0, 0, 0, 0, 0, 0, 0, 0, 0, 0, 0, 0, 0, 0, 0, 0, 0, 0, 0, 0, 0, 0, 0, 0] (.seq (.seq (.reg [⟨(some 6), none, (.mv (.t 5))⟩, ⟨(some 7), none, (.mv (.t 1))⟩, ⟨(some 8), none, (.len false (.t 7))⟩, ⟨(some 9), none, (.bin .lss false (.t 6) (.t 8))⟩]) (.cond (.t 9) .skip (.exit 0))) (.seq (.block 1 (.seq (.dreg [[], [], [0, 1], [2, 0, 1], [3, 2, 0, 1], [4, 3, 2, 0, 1], [5, 4, 3, 2, 0, 1], [6, 5, 4, 3, 2, 0, 1], [7, 6, 5, 4, 3, 2, 0, 1], [7, 6, 5, 4, 3, 2, 0, 1], [8, 7, 6, 5, 4, 3, 2, 0, 1, 9], [10, 8, 7, 6, 5, 4, 3, 2, 0, 1, 9], [11, 10, 8, 7, 6, 5, 4, 3, 2, 0, 1, 9], [7, 6, 5, 4, 3, 2, 0, 1], [13, 7, 6, 5, 4, 3, 2, 0, 1], [14, 13, 7, 6, 5, 4, 3, 2, 0, 1], [12, 11, 10, 8, 7, 6, 5, 4, 3, 2, 0, 1, 9, 15, 14, 13], [16, 12, 11, 10, 8, 7, 6, 5, 4, 3, 2, 0, 1, 9, 15, 14, 13], [7, 6, 5, 4, 3, 2, 0, 1, 17, 16, 12, 11, 10, 8, 9, 15, 14, 13], [18, 7, 6, 5, 4, 3, 2, 0, 1, 17, 16, 12, 11, 10, 8, 9, 15, 14, 13], [19, 18, 7, 6, 5, 4, 3, 2, 0, 1, 17, 16, 12, 11, 10, 8, 9, 15, 14, 13], [20, 19, 18, 7, 6, 5, 4, 3, 2, 0, 1, 17, 16, 12, 11, 10, 8, 9, 15, 14, 13], [21, 20, 19, 18, 7, 6, 5, 4, 3, 2, 0, 1, 17, 16, 12, 11, 10, 8, 9, 15, 14, 13], [22, 21, 20, 19, 18, 7, 6, 5, 4, 3, 2, 0, 1, 17, 16, 12, 11, 10, 8, 9, 15, 14, 13], [22, 21, 20, 19, 18, 7, 6, 5, 4, 3, 2, 0, 1, 17, 16, 12, 11, 10, 8, 9, 15, 14, 13], [24, 22, 21, 20, 19, 18, 7, 6, 5, 4, 3, 2, 0, 1, 17, 16, 12, 11, 10, 8, 9, 15, 14, 13], [23, 22, 21, 20, 19, 18, 7, 6, 5, 4, 3, 2, 0, 1, 17, 16, 12, 11, 10, 8, 9, 15, 14, 13, 25, 24], [26, 23, 22, 21, 20, 19, 18, 7, 6, 5, 4, 3, 2, 0, 1, 17, 16, 12, 11, 10, 8, 9, 15, 14, 13, 25, 24], [27, 26, 23, 22, 21, 20, 19, 18, 7, 6, 5, 4, 3, 2, 0, 1, 17, 16, 12, 11, 10, 8, 9, 15, 14, 13, 25, 24], [22, 21, 20, 19, 18, 7, 6, 5, 4, 3, 2, 0, 1, 17, 16, 12, 11, 10, 8, 9, 15, 14, 13], [22, 21, 20, 19, 18, 7, 6, 5, 4, 3, 2, 0, 1, 17, 16, 12, 11, 10, 8, 9, 15, 14, 13], [29, 22, 21, 20, 19, 18, 7, 6, 5, 4, 3, 2, 0, 1, 17, 16, 12, 11, 10, 8, 9, 15, 14, 13, 30], [31, 29, 22, 21, 20, 19, 18, 7, 6, 5, 4, 3, 2, 0, 1, 17, 16, 12, 11, 10, 8, 9, 15, 14, 13, 30], [32, 31, 29, 22, 21, 20, 19, 18, 7, 6, 5, 4, 3, 2, 0, 1, 17, 16, 12, 11, 10, 8, 9, 15, 14, 13, 30], [28, 27, 26, 23, 22, 21, 20, 19, 18, 7, 6, 5, 4, 3, 2, 0, 1, 17, 16, 12, 11, 10, 8, 9, 15, 14, 13, 25, 24, 33, 32, 31, 29, 30], [22, 21, 20, 19, 18, 7, 6, 5, 4, 3, 2, 0, 1, 17, 16, 12, 11, 10, 8, 9, 15, 14, 13, 34, 28, 27, 26, 23, 25, 24, 33, 32, 31, 29, 30], [19, 18, 7, 6, 5, 4, 3, 2, 0, 1, 17, 16, 12, 11, 10, 8, 9, 15, 14, 13, 35, 22, 21, 20, 34, 28, 27, 26, 23, 25, 24, 33, 32, 31, 29, 30]] [⟨(some 12), none, (.mv (.t 1))⟩, ⟨(some 13), none, (.mv (.t 5))⟩, ⟨(some 14), none, (.iaddr 2 (.t 12) (.t 13))⟩, ⟨(some 15), none, (.faddr 0 (.t 14))⟩, ⟨(some 16), none, (.load false 1 (.t 15))⟩, ⟨(some 17), none, (.call 54 [(.t 16)])⟩, ⟨(some 18), none, (.un .not (.t 17))⟩, ⟨(some 19), none, (.mv (.t 18))⟩, ⟨(some 20), (some (19, false)), (.mv (.t 1))⟩, ⟨(some 21), (some (19, false)), (.mv (.t 5))⟩, ⟨(some 22), (some (19, false)), (.iaddr 2 (.t 20) (.t 21))⟩, ⟨(some 23), (some (19, false)), (.faddr 1 (.t 22))⟩, ⟨(some 24), (some (19, false)), (.load false 1 (.t 23))⟩, ⟨(some 25), (some (19, false)), (.faddr 0 (.t 2))⟩, ⟨(some 26), (some (19, false)), (.load false 1 (.t 25))⟩, ⟨(some 27), (some (19, false)), (.bin .sub false (.t 26) (.c (.int .i64 1)))⟩, ⟨(some 28), (some (19, false)), (.call 51 [(.t 24), (.c (.int .i64 0)), (.t 27)])⟩, ⟨(some 29), (some (19, false)), (.un .not (.t 28))⟩, ⟨(some 30), none, (.pick (.t 19) (.c (.bool true)) (.t 29))⟩, ⟨(some 31), none, (.mv (.t 30))⟩, ⟨(some 32), (some (31, false)), (.mv (.t 5))⟩, ⟨(some 33), (some (31, false)), (.bin .gtr false (.t 32) (.c (.int .i64 0)))⟩, ⟨(some 34), (some (31, false)), (.mv (.t 33))⟩, ⟨(some 35), (some (34, true)), (.mv (.t 1))⟩, ⟨(some 36), (some (34, true)), (.mv (.t 5))⟩, ⟨(some 37), (some (34, true)), (.bin .sub false (.t 36) (.c (.int .i64 1)))⟩, ⟨(some 38), (some (34, true)), (.iaddr 2 (.t 35) (.t 37))⟩, ⟨(some 39), (some (34, true)), (.faddr 0 (.t 38))⟩, ⟨(some 40), (some (34, true)), (.load false 1 (.t 39))⟩, ⟨(some 41), (some (34, true)), (.mv (.t 1))⟩, ⟨(some 42), (some (34, true)), (.mv (.t 5))⟩, ⟨(some 43), (some (34, true)), (.iaddr 2 (.t 41) (.t 42))⟩, ⟨(some 44), (some (34, true)), (.faddr 0 (.t 43))⟩, ⟨(some 45), (some (34, true)), (.load false 1 (.t 44))⟩, ⟨(some 46), (some (34, true)), (.bin .geq false (.t 40) (.t 45))⟩, ⟨(some 47), (some (31, false)), (.pick (.t 34) (.t 46) (.c (.bool false)))⟩, ⟨(some 48), none, (.pick (.t 31) (.c (.bool true)) (.t 47))⟩]) (.cond (.t 48) (.seq (.reg [⟨(some 4), none, (.mv (.c (.bool false)))⟩]) .ret) .skip))) (.reg [⟨(some 10), none, (.mv (.t 5))⟩, ⟨(some 11), none, (.bin .add false (.t 10) (.c (.int .i64 1)))⟩, ⟨(some 5), none, (.mv (.t 11))⟩])))))) (.seq (.reg [⟨(some 4), none, (.mv (.c (.bool true)))⟩]) .ret)))
theorem k_spec_l10Assignment : codeOf Try.prog 25 = some ⟨49, c_spec_l10Assignment, [(.tmp 4)]⟩ := by kernel_rfl
theorem m_spec_l10Assignment : modes 25 = ⟨[], .asis, none, false⟩ := by unfold modes; rfl

def c_spec_l10Find : SC := (.seq (.reg [⟨(some 6), none, (.mv (.c (.int .i64 0)))⟩]) (.seq (.seq (.reg [⟨(some 7), none, (.mv (.c (.int .i64 0)))⟩]) (.block 0 (.loop [1, 1, 1, 0, 0, 0, 0, 1, 0, 0, 0, 0, 0, 0, 0, 0, 0, 0, 0, 0, 0, 0, 0, 0, 0, 0, 0, 0, 0, 0, 0] (.seq (.seq (.reg [⟨(some 8), none, (.mv (.t 7))⟩, ⟨(some 9), none, (.mv (.t 0))⟩, ⟨(some 10), none, (.len false (.t 9))⟩, ⟨(some 11), none, (.bin .lss false (.t 8) (.t 10))⟩]) (.cond (.t 11) .skip (.exit 0))) (.seq (.block 1 (.seq (.reg [⟨(some 14), none, (.mv (.t 0))⟩, ⟨(some 15), none, (.mv (.t 7))⟩, ⟨(some 16), none, (.iaddr 4 (.t 14) (.t 15))⟩, ⟨(some 17), none, (.faddr 0 (.t 16))⟩, ⟨(some 18), none, (.load false 1 (.t 17))⟩, ⟨(some 19), none, (.mv (.t 1))⟩, ⟨(some 20), none, (.bin .eql false (.t 18) (.t 19))⟩, ⟨(some 21), none, (.mv (.t 20))⟩, ⟨(some 22), (some (21, true)), (.mv (.t 0))⟩, ⟨(some 23), (some (21, true)), (.mv (.t 7))⟩, ⟨(some 24), (some (21, true)), (.iaddr 4 (.t 22) (.t 23))⟩, ⟨(some 25), (some (21, true)), (.faddr 1 (.t 24))⟩, ⟨(some 26), (some (21, true)), (.load false 1 (.t 25))⟩, ⟨(some 27), (some (21, true)), (.mv (.t 2))⟩, ⟨(some 28), (some (21, true)), (.bin .eql false (.t 26) (.t 27))⟩, ⟨(some 29), none, (.pick (.t 21) (.t 28) (.c (.bool false)))⟩]) (.cond (.t 29) (.seq (.reg [⟨(some 30), none, (.mv (.t 7))⟩, ⟨(some 6), none, (.mv (.t 30))⟩]) .ret) .skip))) (.reg [⟨(some 12), none, (.mv (.t 7))⟩, ⟨(some 13), none, (.bin .add false (.t 12) (.c (.int .i64 1)))⟩, ⟨(some 7), none, (.mv (.t 13))⟩])))))) (.seq (.reg [⟨(some 6), none, (.mv (.c (.int .i64 (-(0 + 1)))))⟩]) .ret)))
theorem k_spec_l10Find : codeOf Try.prog 57 = some ⟨31, c_spec_l10Find, [(.tmp 6)]⟩ := by kernel_rfl
theorem m_spec_l10Find : modes 57 = ⟨[], .asis, none, false⟩ := by unfold modes; rfl

def c_spec_l10Value : SC := (.seq (.reg [⟨(some 4), none, (.boxv 36 2 (.t 0))⟩, ⟨(some 6), none, (.boxv 42 2 (.t 2))⟩, ⟨(some 8), none, (.mv (.c (.int .i64 0)))⟩, ⟨(some 9), none, (.mv (.c (.bool false)))⟩]) (.seq (.seq (.reg [⟨(some 16), none, (.faddr 0 (.t 6))⟩, ⟨(some 17), none, (.load false 1 (.t 16))⟩, ⟨(some 18), none, (.call 54 [(.t 17)])⟩]) (.cond (.t 18) (.seq (.seq (.reg [⟨(some 10), none, (.mv (.c (.int .i64 0)))⟩]) (.block 0 (.loop [0, 1, 0, 0, 0, 0, 1, 0, 0, 0, 1, 0, 0, 0, 0, 0, 0, 0, 0, 0, 0, 0, 0, 0, 0, 0, 0, 0, 0, 0, 0, 0, 0, 0, 0, 0, 0, 0, 0, 0, 0, 0, 0, 0, 0, 0, 0, 0, 0, 0, 0, 0, 0, 0, 0, 0, 0, 0, 0, 0, 0, 0, 0, 0, 0, 0, 0, 0, 0, 0, 0, 0, 0, 0, 0, 0, 0, 0, 0, 0, 0, 0, 0, 0, 0, 0, 0, 0, 0, 0, 0, 0, 0, 0, 0, 0, 0, 0, 0, 0, 0, 0, 0, 0, 0, 0, 0, 0] (.seq (.seq (.reg [⟨(some 19), none, (.mv (.t 10))⟩, ⟨(some 20), none, (.mv (.t 1))⟩, ⟨(some 21), none, (.len false (.t 20))⟩, ⟨(some 22), none, (.bin .lss false (.t 19) (.t 21))⟩]) (.cond (.t 22) .skip (.exit 0))) (.seq (.block 1 (.seq (.dreg [[], [], [0, 1], [2, 0, 1], [3, 2, 0, 1], [], [5], [4, 3, 2, 0, 1, 6, 5]] [⟨(some 25), none, (.mv (.t 1))⟩, ⟨(some 26), none, (.mv (.t 10))⟩, ⟨(some 27), none, (.iaddr 2 (.t 25) (.t 26))⟩, ⟨(some 28), none, (.faddr 0 (.t 27))⟩, ⟨(some 29), none, (.load false 1 (.t 28))⟩, ⟨(some 30), none, (.faddr 0 (.t 6))⟩, ⟨(some 31), none, (.load false 1 (.t 30))⟩, ⟨(some 32), none, (.bin .eql false (.t 29) (.t 31))⟩]) (.cond (.t 32) (.seq (.reg [⟨(some 33), none, (.mv (.t 1))⟩, ⟨(some 34), none, (.mv (.t 10))⟩, ⟨(some 35), none, (.iaddr 2 (.t 33) (.t 34))⟩, ⟨(some 36), none, (.faddr 1 (.t 35))⟩, ⟨(some 37), none, (.load false 1 (.t 36))⟩, ⟨(some 8), none, (.mv (.t 37))⟩, ⟨(some 9), none, (.mv (.c (.bool true)))⟩]) .ret) .skip))) (.reg [⟨(some 23), none, (.mv (.t 10))⟩, ⟨(some 24), none, (.bin .add false (.t 23) (.c (.int .i64 1)))⟩, ⟨(some 10), none, (.mv (.t 24))⟩])))))) (.seq (.reg [⟨(some 8), none, (.mv (.c (.int .i64 0)))⟩, ⟨(some 9), none, (.mv (.c (.bool false)))⟩]) .ret)) .skip)) (.seq (.reg [⟨(some 11), none, (.mv (.c (.int .i64 0)))⟩]) (.seq (.seq (.reg [⟨(some 12), none, (.mv (.c (.int .i64 0)))⟩]) (.block 2 (.loop [0, 1, 0, 1, 1, 0, 1, 0, 0, 0, 0, 1, 1, 0, 0, 0, 0, 0, 0, 0, 0, 0, 0, 0, 0, 0, 0, 0, 0, 0, 0, 0, 0, 0, 0, 0, 0, 0, 0, 0, 0, 0, 0, 0, 0, 0, 0, 0, 0, 0, 0, 0, 0, 0, 0, 0, 0, 0, 0, 0, 0, 0, 0, 0, 0, 0, 0, 0, 0, 0, 0, 0, 0, 0, 0, 0, 0, 0, 0, 0, 0, 0, 0, 0, 0, 0, 0, 0, 0, 0, 0, 0, 0, 0, 0, 0, 0, 0, 0, 0, 0, 0, 0, 0, 0, 0, 0, 0] (.seq (.seq (.reg [⟨(some 38), none, (.mv (.t 12))⟩, ⟨(some 39), none, (.faddr 1 (.t 6))⟩, ⟨(some 40), none, (.load false 1 (.t 39))⟩, ⟨(some 41), none, (.len false (.t 40))⟩, ⟨(some 42), none, (.bin .lss false (.t 38) (.t 41))⟩]) (.cond (.t 42) .skip (.exit 2))) (.seq (.block 3 (.seq (.dreg [[], [], [], [2], [], [3, 2, 4], [5, 3, 2, 4], [0, 1, 6, 5, 3, 2, 4], [7, 0, 1, 6, 5, 3, 2, 4], [8, 7, 0, 1, 6, 5, 3, 2, 4], [8, 7, 0, 1, 6, 5, 3, 2, 4], [9, 8, 7, 0, 1, 6, 5, 3, 2, 4], [10, 8, 7, 0, 1, 6, 5, 3, 2, 4, 11, 9]] [⟨(some 46), none, (.load true 2 (.t 4))⟩, ⟨(some 47), none, (.mv (.t 1))⟩, ⟨(some 48), none, (.faddr 1 (.t 6))⟩, ⟨(some 49), none, (.load false 1 (.t 48))⟩, ⟨(some 50), none, (.mv (.t 12))⟩, ⟨(some 51), none, (.iaddr 2 (.t 49) (.t 50))⟩, ⟨(some 52), none, (.load true 2 (.t 51))⟩, ⟨(some 53), none, (.call 27 [(.t 46), (.t 47), (.t 52), (.c (.bool false))])⟩, ⟨(some 45), none, (.mv (.t 53))⟩, ⟨(some 54), none, (.ext (.t 45) 0)⟩, ⟨(some 55), none, (.ext (.t 45) 1)⟩, ⟨(some 13), none, (.mv (.t 54))⟩, ⟨(some 14), none, (.mv (.t 55))⟩]) (.seq (.seq (.reg [⟨(some 56), none, (.mv (.t 14))⟩, ⟨(some 57), none, (.un .not (.t 56))⟩]) (.cond (.t 57) (.seq (.reg [⟨(some 8), none, (.mv (.c (.int .i64 0)))⟩, ⟨(some 9), none, (.mv (.c (.bool false)))⟩]) .ret) .skip)) (.reg [⟨(some 58), none, (.mv (.t 11))⟩, ⟨(some 59), none, (.faddr 0 (.t 4))⟩, ⟨(some 60), none, (.load false 1 (.t 59))⟩, ⟨(some 61), none, (.bin .mul false (.t 58) (.t 60))⟩, ⟨(some 62), none, (.mv (.t 13))⟩, ⟨(some 63), none, (.bin .add false (.t 61) (.t 62))⟩, ⟨(some 11), none, (.mv (.t 63))⟩])))) (.reg [⟨(some 43), none, (.mv (.t 12))⟩, ⟨(some 44), none, (.bin .add false (.t 43) (.c (.int .i64 1)))⟩, ⟨(some 12), none, (.mv (.t 44))⟩])))))) (.seq (.seq (.reg [⟨(some 64), none, (.mv (.t 3))⟩, ⟨(some 65), none, (.mv (.t 64))⟩, ⟨(some 66), (some (65, true)), (.faddr 0 (.t 6))⟩, ⟨(some 67), (some (65, true)), (.load false 1 (.t 66))⟩, ⟨(some 68), (some (65, true)), (.bin .eql false (.t 67) (.c (.str ⟨#[61]⟩)))⟩, ⟨(some 69), none, (.pick (.t 65) (.t 68) (.c (.bool false)))⟩]) (.cond (.t 69) (.seq (.seq (.dreg [[], [], [1], [0, 2, 1], [], [], [5], [4, 6, 5], [3, 0, 2, 1, 7, 4, 6, 5]] [⟨(some 70), none, (.mv (.t 11))⟩, ⟨(some 71), none, (.faddr 0 (.t 4))⟩, ⟨(some 72), none, (.load false 1 (.t 71))⟩, ⟨(some 73), none, (.bin .rem false (.t 70) (.t 72))⟩, ⟨(some 74), none, (.mv (.t 11))⟩, ⟨(some 75), none, (.faddr 0 (.t 4))⟩, ⟨(some 76), none, (.load false 1 (.t 75))⟩, ⟨(some 77), none, (.bin .quo false (.t 74) (.t 76))⟩, ⟨(some 78), none, (.bin .eql false (.t 73) (.t 77))⟩]) (.cond (.t 78) (.seq (.reg [⟨(some 8), none, (.mv (.c (.int .i64 1)))⟩, ⟨(some 9), none, (.mv (.c (.bool true)))⟩]) .ret) .skip)) (.seq (.reg [⟨(some 8), none, (.mv (.c (.int .i64 0)))⟩, ⟨(some 9), none, (.mv (.c (.bool true)))⟩]) .ret)) .skip)) (.seq (.reg [⟨(some 79), none, (.faddr 1 (.t 4))⟩, ⟨(some 80), none, (.load false 1 (.t 79))⟩, ⟨(some 81), none, (.faddr 0 (.t 6))⟩, ⟨(some 82), none, (.load false 1 (.t 81))⟩, ⟨(some 83), none, (.faddr 1 (.t 6))⟩, ⟨(some 84), none, (.load false 1 (.t 83))⟩, ⟨(some 85), none, (.len false (.t 84))⟩, ⟨(some 86), none, (.call 57 [(.t 80), (.t 82), (.t 85)])⟩, ⟨(some 15), none, (.mv (.t 86))⟩]) (.seq (.seq (.reg [⟨(some 87), none, (.mv (.t 15))⟩, ⟨(some 88), none, (.bin .lss false (.t 87) (.c (.int .i64 0)))⟩, ⟨(some 89), none, (.mv (.t 88))⟩, ⟨(some 90), (some (89, false)), (.faddr 1 (.t 4))⟩, ⟨(some 91), (some (89, false)), (.load false 1 (.t 90))⟩, ⟨(some 92), (some (89, false)), (.mv (.t 15))⟩, ⟨(some 93), (some (89, false)), (.iaddr 4 (.t 91) (.t 92))⟩, ⟨(some 94), (some (89, false)), (.faddr 2 (.t 93))⟩, ⟨(some 95), (some (89, false)), (.load false 1 (.t 94))⟩, ⟨(some 96), (some (89, false)), (.mv (.t 3))⟩, ⟨(some 97), (some (89, false)), (.bin .neq true (.t 95) (.t 96))⟩, ⟨(some 98), none, (.pick (.t 89) (.c (.bool true)) (.t 97))⟩]) (.cond (.t 98) (.seq (.reg [⟨(some 8), none, (.mv (.c (.int .i64 0)))⟩, ⟨(some 9), none, (.mv (.c (.bool false)))⟩]) .ret) .skip)) (.seq (.reg [⟨(some 99), none, (.faddr 1 (.t 4))⟩, ⟨(some 100), none, (.load false 1 (.t 99))⟩, ⟨(some 101), none, (.mv (.t 15))⟩, ⟨(some 102), none, (.iaddr 4 (.t 100) (.t 101))⟩, ⟨(some 103), none, (.faddr 3 (.t 102))⟩, ⟨(some 104), none, (.load false 1 (.t 103))⟩, ⟨(some 105), none, (.mv (.t 11))⟩, ⟨(some 106), none, (.iaddr 1 (.t 104) (.t 105))⟩, ⟨(some 107), none, (.load false 1 (.t 106))⟩, ⟨(some 8), none, (.mv (.t 107))⟩, ⟨(some 9), none, (.mv (.c (.bool true)))⟩]) .ret))))))))
theorem k_spec_l10Value : codeOf Try.prog 27 = some ⟨108, c_spec_l10Value, [(.tmp 8), (.tmp 9)]⟩ := by kernel_rfl
theorem m_spec_l10Value : modes 27 = ⟨[], .asis, none, false⟩ := by unfold modes; rfl

theorem idxP_find {α : Type} (p : α → Bool) : ∀ (xs : List α) (i : Int), (xs.find? p = none ∧ idxP p xs i = -1) ∨ ∃ k t, ∃ h : k < xs.length, xs.find? p = some t ∧ idxP p xs i = i + (k : Nat) ∧ xs[k] = t
  | [], i => .inl ⟨rfl, rfl⟩
  | x :: xs, i => by
    rw [idxP, List.find?_cons]
    cases hp : p x with
    | true => exact .inr ⟨0, x, by simp, rfl, by simp, rfl⟩
    | false =>
      simp only [Bool.false_eq_true, if_false]
      rcases idxP_find p xs (i + 1) with h | ⟨k, t, h, h1, h2, h3⟩
      · exact .inl h
      · exact .inr ⟨k + 1, t, by simpa using h, h1, by rw [h2]; omega, by simpa using h3⟩
set_option maxHeartbeats 4000000 in
theorem l10Assignment_E (m : Ip) (hsz : 1 ≤ m.size ∧ m.size ≤ 3) (xs : List Ag) (hl : xs.length ≤ 1099511627776) : E 25 [m.sv, .arr (xs.map Ag.d)] [] = some (.bool (agsB m.size xs), []) := by
  refine E_walk k_spec_l10Assignment m_spec_l10Assignment (of_decide_eq_true rfl) ?_
  simp (disch := omega) only [c_spec_l10Assignment, go_sem, go_cond, Nat.reduceAdd, Nat.reduceSub, Nat.reduceLT, Nat.reduceLeDiff, Nat.reduceEqDiff, Nat.reduceBEq, Nat.reduceBneDiff, Nat.reduceMul, ↓reduceIte, Int.reduceToNat, reduceCtorEq, Int.reduceNeg, Int.reduceAdd]
  refine go_loop (α := Int) (fun a => ⟨slots 49 0 [(1, .arr (xs.map Ag.d)), (2, .ptr 0 0), (5, .int .i64 a)], [.box 36 [.int .i64 m.size, .arr (m.tables.map Tl.d)]]⟩) (fun a => ∃ k : Nat, a = k ∧ k ≤ (xs).length ∧ allTo (agAt m.size xs) k = true) (fun a => (xs).length - (a).toNat) 0 ⟨0, rfl, Nat.zero_le _, by rw [allTo]⟩ (by simp (disch := omega) only [go_sem, go_cond, Nat.reduceAdd, Nat.reduceSub, Nat.reduceLT, Nat.reduceLeDiff, Nat.reduceEqDiff, Nat.reduceBEq, Nat.reduceBneDiff, Nat.reduceMul, ↓reduceIte, Int.reduceToNat, reduceCtorEq, Int.reduceNeg, Int.reduceAdd]) ?_
  rintro i ⟨k, hi, hk, hR⟩
  have hni : i.toNat = k := by omega
  have hni1 : (i + 1).toNat = k + 1 := by omega
  rcases Nat.lt_or_ge k (xs).length with hlt | hge
  · have hg := get_at Ag.d hlt
    rw [Ag.d_eq] at hg
    have hs := l2Var_E xs[k].var
    have hw := l1In_E xs[k].elem 0 (m.size - 1)
    have no : agAt m.size xs k = false → agsB m.size xs = false := fun h => allTo_no h hlt
    cases ha : varB xs[k].var with
    | false =>
      rw [ha] at hs
      rw [no (by cases k with | zero => rw [agAt_zero hlt, ha, Bool.false_and] | succ j => rw [agAt_succ hlt, ha, Bool.false_and])]
      simp (disch := omega) only [go_sem, go_cond, Nat.reduceAdd, Nat.reduceSub, Nat.reduceLT, Nat.reduceLeDiff, Nat.reduceEqDiff, Nat.reduceBEq, Nat.reduceBneDiff, Nat.reduceMul, ↓reduceIte, Int.reduceToNat, reduceCtorEq, Int.reduceNeg, Int.reduceAdd, hni, hg, hs, hw, m_spec_l2Var, m_spec_l1In]
    | true =>
      rw [ha] at hs
      cases hb : inI xs[k].elem 0 (m.size - 1) with
      | false =>
        rw [hb] at hw
        rw [no (by cases k with | zero => rw [agAt_zero hlt, hb, Bool.and_false] | succ j => rw [agAt_succ hlt, hb, Bool.false_and, Bool.and_false])]
        simp (disch := omega) only [go_sem, go_cond, Nat.reduceAdd, Nat.reduceSub, Nat.reduceLT, Nat.reduceLeDiff, Nat.reduceEqDiff, Nat.reduceBEq, Nat.reduceBneDiff, Nat.reduceMul, ↓reduceIte, Int.reduceToNat, reduceCtorEq, Int.reduceNeg, Int.reduceAdd, hni, hg, hs, hw, m_spec_l2Var, m_spec_l1In]
      | true =>
        rw [hb] at hw
        cases k with
        | zero =>
          obtain rfl : i = 0 := hi
          simp (disch := omega) only [go_sem, go_cond, Nat.reduceAdd, Nat.reduceSub, Nat.reduceLT, Nat.reduceLeDiff, Nat.reduceEqDiff, Nat.reduceBEq, Nat.reduceBneDiff, Nat.reduceMul, ↓reduceIte, Int.reduceToNat, reduceCtorEq, Int.reduceNeg, Int.reduceAdd, hni, hg, hs, hw, m_spec_l2Var, m_spec_l1In]
          exact ⟨1, ⟨1, rfl, hlt, by rw [allTo, hR, agAt_zero hlt, ha, hb]; rfl⟩, by omega, by first | trivial | rfl⟩
        | succ j =>
          have hj : j < xs.length := by omega
          have hg2 := get_at Ag.d hj
          rw [Ag.d_eq] at hg2
          have hni2 : (i - 1).toNat = j := by omega
          cases h1 : strLt xs[j].var xs[j + 1].var with
          | true =>
            simp (disch := omega) only [go_sem, go_cond, Nat.reduceAdd, Nat.reduceSub, Nat.reduceLT, Nat.reduceLeDiff, Nat.reduceEqDiff, Nat.reduceBEq, Nat.reduceBneDiff, Nat.reduceMul, ↓reduceIte, Int.reduceToNat, reduceCtorEq, Int.reduceNeg, Int.reduceAdd, hni, hg, hs, hw, m_spec_l2Var, m_spec_l1In, hni2, hg2, h1]
            exact ⟨i + 1, ⟨j + 1 + 1, by omega, hlt, by rw [allTo, hR, agAt_succ hlt, ha, hb, h1]; rfl⟩, by omega, by first | trivial | rfl⟩
          | false =>
            rw [no (by rw [agAt_succ hlt, ha, hb, h1]; rfl)]
            simp (disch := omega) only [go_sem, go_cond, Nat.reduceAdd, Nat.reduceSub, Nat.reduceLT, Nat.reduceLeDiff, Nat.reduceEqDiff, Nat.reduceBEq, Nat.reduceBneDiff, Nat.reduceMul, ↓reduceIte, Int.reduceToNat, reduceCtorEq, Int.reduceNeg, Int.reduceAdd, hni, hg, hs, hw, m_spec_l2Var, m_spec_l1In, hni2, hg2, h1]
  · obtain rfl : k = xs.length := by omega
    unfold agsB
    rw [hR]
    simp (disch := omega) only [go_sem, go_cond, Nat.reduceAdd, Nat.reduceSub, Nat.reduceLT, Nat.reduceLeDiff, Nat.reduceEqDiff, Nat.reduceBEq, Nat.reduceBneDiff, Nat.reduceMul, ↓reduceIte, Int.reduceToNat, reduceCtorEq, Int.reduceNeg, Int.reduceAdd, hni]
set_option maxHeartbeats 8000000 in
theorem valuationOf_of (m : Ip) (top : Int) (hA : (bif dec (inK .i64 (m.size - 1)) then some (SV.int .i64 (m.size - 1)) else some (SV.int .i64 (IntKind.wrap .i64 (m.size - 1)))) = some (SV.int .i64 top)) (xs : List Ag) (hl : xs.length ≤ 1099511627776) : E 31 [m.sv, .arr (xs.map Ag.d)] [] = some (.tup [.mp true (bif agsB (top + 1) xs then envM (fillE xs) else nomap), .bool (agsB (top + 1) xs)], []) := by
  have he0 : envM (fillE ([] : List Ag)) = nomap := envM_none
  refine E_walk k_impl_Interpretation_valuationOf m_impl_Interpretation_valuationOf (of_decide_eq_true rfl) ?_
  simp (disch := omega) only [c_impl_Interpretation_valuationOf, go_sem, go_cond, Nat.reduceAdd, Nat.reduceSub, Nat.reduceLT, Nat.reduceLeDiff, Nat.reduceEqDiff, Nat.reduceBEq, Nat.reduceBneDiff, Nat.reduceMul, ↓reduceIte, Int.reduceToNat, reduceCtorEq, Int.reduceNeg, Int.reduceAdd]
  refine go_loop (α := Int) (fun a => ⟨slots 52 0 [(1, .arr (xs.map Ag.d)), (2, .ptr 0 0), (6, .ref 1), (10, .arr (xs.map Ag.d)), (11, .int .i64 xs.length), (12, .int .i64 a)], [.box 36 [.int .i64 m.size, .arr (m.tables.map Tl.d)], .mp true (envM (fillE (xs.take a.toNat)))]⟩) (fun a => ∃ k : Nat, a = k ∧ k ≤ (xs).length ∧ allTo (agAt (top + 1) xs) k = true) (fun a => (xs).length - (a).toNat) 0 ⟨0, rfl, Nat.zero_le _, by rw [allTo]⟩ (by simp (disch := omega) only [go_sem, go_cond, Nat.reduceAdd, Nat.reduceSub, Nat.reduceLT, Nat.reduceLeDiff, Nat.reduceEqDiff, Nat.reduceBEq, Nat.reduceBneDiff, Nat.reduceMul, ↓reduceIte, Int.reduceToNat, reduceCtorEq, Int.reduceNeg, Int.reduceAdd, he0]) ?_
  rintro i ⟨k, hi, hk, hR⟩
  have hni : i.toNat = k := by omega
  have hni1 : (i + 1).toNat = k + 1 := by omega
  rcases Nat.lt_or_ge k (xs).length with hlt | hge
  · have hg := get_at Ag.d hlt
    rw [Ag.d_eq] at hg
    have hs := isVariable_E xs[k].var
    have hw := within_E xs[k].elem 0 top
    have ht1 : top + 1 - 1 = top := by omega
    have no : agAt (top + 1) xs k = false → agsB (top + 1) xs = false := fun h => allTo_no h hlt
    have hsn : envM (putE (fillE (xs.take k)) xs[k].var xs[k].elem) = envM (fillE (xs.take (i + 1).toNat)) := by rw [hni1, fillE_snoc hlt]
    cases ha : varB xs[k].var with
    | false =>
      rw [ha] at hs
      rw [no (by cases k with | zero => rw [agAt_zero hlt, ha, Bool.false_and] | succ j => rw [agAt_succ hlt, ha, Bool.false_and])]
      simp (disch := omega) only [go_sem, go_cond, Nat.reduceAdd, Nat.reduceSub, Nat.reduceLT, Nat.reduceLeDiff, Nat.reduceEqDiff, Nat.reduceBEq, Nat.reduceBneDiff, Nat.reduceMul, ↓reduceIte, Int.reduceToNat, reduceCtorEq, Int.reduceNeg, Int.reduceAdd, hni, hg, hs, hw, hA, m_impl_isVariable, m_impl_within]
    | true =>
      rw [ha] at hs
      cases hb : inI xs[k].elem 0 top with
      | false =>
        rw [hb] at hw
        rw [no (by cases k with | zero => rw [agAt_zero hlt, ht1, hb, Bool.and_false] | succ j => rw [agAt_succ hlt, ht1, hb, Bool.false_and, Bool.and_false])]
        simp (disch := omega) only [go_sem, go_cond, Nat.reduceAdd, Nat.reduceSub, Nat.reduceLT, Nat.reduceLeDiff, Nat.reduceEqDiff, Nat.reduceBEq, Nat.reduceBneDiff, Nat.reduceMul, ↓reduceIte, Int.reduceToNat, reduceCtorEq, Int.reduceNeg, Int.reduceAdd, hni, hg, hs, hw, hA, m_impl_isVariable, m_impl_within]
      | true =>
        rw [hb] at hw
        cases k with
        | zero =>
          obtain rfl : i = 0 := hi
          have hs0 : envM (putE (fillE ([] : List Ag)) xs[0].var xs[0].elem) = envM (fillE (xs.take (Int.toNat 1))) := hsn
          simp (disch := omega) only [go_sem, go_cond, Nat.reduceAdd, Nat.reduceSub, Nat.reduceLT, Nat.reduceLeDiff, Nat.reduceEqDiff, Nat.reduceBEq, Nat.reduceBneDiff, Nat.reduceMul, ↓reduceIte, Int.reduceToNat, reduceCtorEq, Int.reduceNeg, Int.reduceAdd, hni, hg, hs, hw, hA, m_impl_isVariable, m_impl_within]
          exact ⟨1, ⟨1, rfl, hlt, by rw [allTo, hR, agAt_zero hlt, ht1, ha, hb]; rfl⟩, by omega, by simp only [envM_put, hs0, and_self]⟩
        | succ j =>
          have hj : j < xs.length := by omega
          have hg2 := get_at Ag.d hj
          rw [Ag.d_eq] at hg2
          have hni2 : (i - 1).toNat = j := by omega
          cases h1 : strLt xs[j].var xs[j + 1].var with
          | true =>
            have h2 := strLt_asymm h1
            have h3 : dec (xs[j + 1].var = xs[j].var) = false := dec_f fun e => strLt_ne h1 e.symm
            simp (disch := omega) only [go_sem, go_cond, Nat.reduceAdd, Nat.reduceSub, Nat.reduceLT, Nat.reduceLeDiff, Nat.reduceEqDiff, Nat.reduceBEq, Nat.reduceBneDiff, Nat.reduceMul, ↓reduceIte, Int.reduceToNat, reduceCtorEq, Int.reduceNeg, Int.reduceAdd, hni, hg, hs, hw, hA, m_impl_isVariable, m_impl_within, hni2, hg2, h2, h3]
            exact ⟨i + 1, ⟨j + 1 + 1, by omega, hlt, by rw [allTo, hR, agAt_succ hlt, ht1, ha, hb, h1]; rfl⟩, by omega, by first | trivial | (simp only [envM_put, hsn]; first | trivial | rfl) | (rw [envM_put]; exact congrArg _ hsn)⟩
          | false =>
            rw [no (by rw [agAt_succ hlt, ht1, ha, hb, h1]; rfl)]
            cases h2 : strLt xs[j + 1].var xs[j].var with
            | true => simp (disch := omega) only [go_sem, go_cond, Nat.reduceAdd, Nat.reduceSub, Nat.reduceLT, Nat.reduceLeDiff, Nat.reduceEqDiff, Nat.reduceBEq, Nat.reduceBneDiff, Nat.reduceMul, ↓reduceIte, Int.reduceToNat, reduceCtorEq, Int.reduceNeg, Int.reduceAdd, hni, hg, hs, hw, hA, m_impl_isVariable, m_impl_within, hni2, hg2, h2]
            | false =>
              have h3 : dec (xs[j + 1].var = xs[j].var) = true := dec_t (strLt_total h2 h1)
              simp (disch := omega) only [go_sem, go_cond, Nat.reduceAdd, Nat.reduceSub, Nat.reduceLT, Nat.reduceLeDiff, Nat.reduceEqDiff, Nat.reduceBEq, Nat.reduceBneDiff, Nat.reduceMul, ↓reduceIte, Int.reduceToNat, reduceCtorEq, Int.reduceNeg, Int.reduceAdd, hni, hg, hs, hw, hA, m_impl_isVariable, m_impl_within, hni2, hg2, h2, h3]
  · obtain rfl : k = xs.length := by omega
    have ht : xs.take xs.length = xs := List.take_length
    unfold agsB
    rw [hR, cond_true]
    simp (disch := omega) only [go_sem, go_cond, Nat.reduceAdd, Nat.reduceSub, Nat.reduceLT, Nat.reduceLeDiff, Nat.reduceEqDiff, Nat.reduceBEq, Nat.reduceBneDiff, Nat.reduceMul, ↓reduceIte, Int.reduceToNat, reduceCtorEq, Int.reduceNeg, Int.reduceAdd, hni, ht]
theorem valuationOf_E (m : Ip) (hsz : 1 ≤ m.size ∧ m.size ≤ 3) (xs : List Ag) (hl : xs.length ≤ 1099511627776) : E 31 [m.sv, .arr (xs.map Ag.d)] [] = some (.tup [.mp true (bif agsB m.size xs then envM (asg xs) else nomap), .bool (agsB m.size xs)], []) := by
  have h := valuationOf_of m (m.size - 1) (by rw [dec_i64 (by omega) (by omega)]; rfl) xs hl
  rw [show m.size - 1 + 1 = m.size by omega] at h
  rw [h]
  cases hb : agsB m.size xs with
  | false => rfl
  | true => rw [fillE_eq (agsB_up hb).1]
theorem valuationOf_any (m : Ip) (xs : List Ag) (hl : xs.length ≤ 1099511627776) : ∃ f b, E 31 [m.sv, .arr (xs.map Ag.d)] [] = some (.tup [.mp true f, .bool b], []) := by
  cases hd : dec (inK .i64 (m.size - 1)) with
  | true => exact ⟨_, _, valuationOf_of m (m.size - 1) (by rw [hd]; rfl) xs hl⟩
  | false => exact ⟨_, _, valuationOf_of m (IntKind.wrap .i64 (m.size - 1)) (by rw [hd]; rfl) xs hl⟩
theorem isTab_E (n : ByteArray) (z : Int) (b : Bool) (t : Tl) : E 135 [t.sv, .ptr 0 0, .ptr 1 0, .ptr 2 0] [.box 9 [.str n], .box 3 [.int .i64 z], .box 4 [.bool b]] = some (.bool (dec (t.name = n) && (dec (t.arity = z) && (t.pred == b))), [.box 9 [.str n], .box 3 [.int .i64 z], .box 4 [.bool b]]) := by
  cases h1 : dec (t.name = n) with
  | false =>
    rw [Bool.false_and]
    refine E_walk k_impl_Interpretation_table_1 m_impl_Interpretation_table_1 (of_decide_eq_true rfl) ?_
    simp (disch := omega) only [c_impl_Interpretation_table_1, go_sem, go_cond, Nat.reduceAdd, Nat.reduceSub, Nat.reduceLT, Nat.reduceLeDiff, Nat.reduceEqDiff, Nat.reduceBEq, Nat.reduceBneDiff, Nat.reduceMul, ↓reduceIte, Int.reduceToNat, reduceCtorEq, Int.reduceNeg, Int.reduceAdd, h1]
  | true =>
    rw [Bool.true_and]
    cases h2 : dec (t.arity = z) with
    | false =>
      rw [Bool.false_and]
      refine E_walk k_impl_Interpretation_table_1 m_impl_Interpretation_table_1 (of_decide_eq_true rfl) ?_
      simp (disch := omega) only [c_impl_Interpretation_table_1, go_sem, go_cond, Nat.reduceAdd, Nat.reduceSub, Nat.reduceLT, Nat.reduceLeDiff, Nat.reduceEqDiff, Nat.reduceBEq, Nat.reduceBneDiff, Nat.reduceMul, ↓reduceIte, Int.reduceToNat, reduceCtorEq, Int.reduceNeg, Int.reduceAdd, h1, h2]
    | true =>
      rw [Bool.true_and]
      refine E_walk k_impl_Interpretation_table_1 m_impl_Interpretation_table_1 (of_decide_eq_true rfl) ?_
      simp (disch := omega) only [c_impl_Interpretation_table_1, go_sem, go_cond, Nat.reduceAdd, Nat.reduceSub, Nat.reduceLT, Nat.reduceLeDiff, Nat.reduceEqDiff, Nat.reduceBEq, Nat.reduceBneDiff, Nat.reduceMul, ↓reduceIte, Int.reduceToNat, reduceCtorEq, Int.reduceNeg, Int.reduceAdd, h1, h2]
set_option maxHeartbeats 2000000 in
theorem indexTb_E (n : ByteArray) (z : Int) (b : Bool) (xs : List Tl) (hl : xs.length ≤ 1099511627776) : E 107 [.arr (xs.map Tl.d), .fn 135 [.ptr 0 0, .ptr 1 0, .ptr 2 0]] [.box 9 [.str n], .box 3 [.int .i64 z], .box 4 [.bool b]] = some (.int .i64 (idxP (fun t => dec (t.name = n) && (dec (t.arity = z) && (t.pred == b))) xs 0), [.box 9 [.str n], .box 3 [.int .i64 z], .box 4 [.bool b]]) := by
  have hE := isTab_E n z b
  generalize hpp : (fun t : Tl => dec (t.name = n) && (dec (t.arity = z) && (t.pred == b))) = p at *
  have hpe : ∀ t : Tl, (dec (t.name = n) && (dec (t.arity = z) && (t.pred == b))) = p t := fun t => by rw [← hpp]
  refine E_walk k_slices_IndexFunc_impl_Table_impl_Table m_slices_IndexFunc_impl_Table_impl_Table (of_decide_eq_true rfl) ?_
  simp (disch := omega) only [c_slices_IndexFunc_impl_Table_impl_Table, go_sem, go_cond, Nat.reduceAdd, Nat.reduceSub, Nat.reduceLT, Nat.reduceLeDiff, Nat.reduceEqDiff, Nat.reduceBEq, Nat.reduceBneDiff, Nat.reduceMul, ↓reduceIte, Int.reduceToNat, reduceCtorEq, Int.reduceNeg, Int.reduceAdd]
  refine go_loop (α := Int) (fun a => ⟨slots 19 0 [(0, .arr (xs.map Tl.d)), (1, .fn 135 [.ptr 0 0, .ptr 1 0, .ptr 2 0]), (7, .int .i64 xs.length), (8, .int .i64 a)], [.box 9 [.str n], .box 3 [.int .i64 z], .box 4 [.bool b]]⟩) (fun a => ∃ k : Nat, a = k ∧ k ≤ (xs).length ∧ idxP p (xs.drop k) a = idxP p xs 0) (fun a => (xs).length - (a).toNat) 0 ⟨0, rfl, Nat.zero_le _, by rw [List.drop_zero]⟩ (by simp (disch := omega) only [go_sem, go_cond, Nat.reduceAdd, Nat.reduceSub, Nat.reduceLT, Nat.reduceLeDiff, Nat.reduceEqDiff, Nat.reduceBEq, Nat.reduceBneDiff, Nat.reduceMul, ↓reduceIte, Int.reduceToNat, reduceCtorEq, Int.reduceNeg, Int.reduceAdd]) ?_
  rintro i ⟨k, hi, hk, hR⟩
  have hni : i.toNat = k := by omega
  have hni1 : (i + 1).toNat = k + 1 := by omega
  rcases Nat.lt_or_ge k (xs).length with hlt | hge
  · have hg' := get_at Tl.d hlt
    rw [Tl.d_eq] at hg'
    have hc := hE xs[k]
    rw [hpe] at hc
    rw [List.drop_eq_getElem_cons hlt, idxP] at hR
    cases hp : p xs[k] with
    | true =>
      rw [hp] at hc hR
      simp (disch := omega) only [go_sem, go_cond, Nat.reduceAdd, Nat.reduceSub, Nat.reduceLT, Nat.reduceLeDiff, Nat.reduceEqDiff, Nat.reduceBEq, Nat.reduceBneDiff, Nat.reduceMul, ↓reduceIte, Int.reduceToNat, reduceCtorEq, Int.reduceNeg, Int.reduceAdd, hni, hg', hc, g_impl_Interpretation_table_1, m_impl_Interpretation_table_1]
      simpa using hR
    | false =>
      rw [hp] at hc hR
      simp (disch := omega) only [go_sem, go_cond, Nat.reduceAdd, Nat.reduceSub, Nat.reduceLT, Nat.reduceLeDiff, Nat.reduceEqDiff, Nat.reduceBEq, Nat.reduceBneDiff, Nat.reduceMul, ↓reduceIte, Int.reduceToNat, reduceCtorEq, Int.reduceNeg, Int.reduceAdd, hni, hg', hc, g_impl_Interpretation_table_1, m_impl_Interpretation_table_1]
      exact ⟨i + 1, ⟨k + 1, by omega, hlt, by simpa using hR⟩, by omega, by first | trivial | rfl⟩
  · rw [List.drop_eq_nil_of_le hge, idxP] at hR
    simp (disch := omega) only [go_sem, go_cond, Nat.reduceAdd, Nat.reduceSub, Nat.reduceLT, Nat.reduceLeDiff, Nat.reduceEqDiff, Nat.reduceBEq, Nat.reduceBneDiff, Nat.reduceMul, ↓reduceIte, Int.reduceToNat, reduceCtorEq, Int.reduceNeg, Int.reduceAdd, hni]
    exact hR
noncomputable def tabSV : Option Tl → SV
  | some t => t.sv
  | none => .agg [.str ⟨#[]⟩, .int .i64 0, .bool false, .nil]
set_option maxHeartbeats 2000000 in
theorem table_E (m : Ip) (hl : m.tables.length ≤ 1099511627776) (n : ByteArray) (z : Int) (b : Bool) : E 113 [m.sv, .str n, .int .i64 z, .bool b] [] = some (.tup [tabSV (tabF m.tables n z b), .bool (tabF m.tables n z b).isSome], []) := by
  have h1 := indexTb_E n z b m.tables hl
  unfold tabF
  rcases idxP_find (fun t : Tl => dec (t.name = n) && (dec (t.arity = z) && (t.pred == b))) m.tables 0 with ⟨h2, h3⟩ | ⟨k, t, hk, h2, h3, h4⟩
  · rw [h2]
    rw [h3] at h1
    refine E_walk k_impl_Interpretation_table m_impl_Interpretation_table (of_decide_eq_true rfl) ?_
    simp (disch := omega) only [c_impl_Interpretation_table, go_sem, go_cond, Nat.reduceAdd, Nat.reduceSub, Nat.reduceLT, Nat.reduceLeDiff, Nat.reduceEqDiff, Nat.reduceBEq, Nat.reduceBneDiff, Nat.reduceMul, ↓reduceIte, Int.reduceToNat, reduceCtorEq, Int.reduceNeg, Int.reduceAdd, h1, m_slices_IndexFunc_impl_Table_impl_Table]
    exact ⟨rfl, rfl⟩
  · rw [h2]
    rw [h3, Int.zero_add] at h1
    have hg := get_at Tl.d hk
    rw [h4, Tl.d_eq] at hg
    obtain ⟨i, hi⟩ : ∃ i : Int, i = (k : Int) := ⟨_, rfl⟩
    rw [← hi] at h1
    have hni : i.toNat = k := by omega
    refine E_walk k_impl_Interpretation_table m_impl_Interpretation_table (of_decide_eq_true rfl) ?_
    simp (disch := omega) only [c_impl_Interpretation_table, go_sem, go_cond, Nat.reduceAdd, Nat.reduceSub, Nat.reduceLT, Nat.reduceLeDiff, Nat.reduceEqDiff, Nat.reduceBEq, Nat.reduceBneDiff, Nat.reduceMul, ↓reduceIte, Int.reduceToNat, reduceCtorEq, Int.reduceNeg, Int.reduceAdd, h1, hni, hg, m_slices_IndexFunc_impl_Table_impl_Table]
    exact ⟨rfl, rfl⟩
end Go.Proofs.Ytpmeabbfpabglaa

set_option maxRecDepth 100000
set_option linter.unusedSimpArgs false
set_option linter.unusedVariables false
namespace Go.Proofs.Ytpmeabbfpabglaa
open Go.RowKit

abbrev optT (o : Option Int) : SV := .tup [.int .i64 (o.getD 0), .bool o.isSome]
/-! Tables are told apart by name and arity. -/
theorem keyLt_trans {a b c : Tl} (h1 : keyLt a b = true) (h2 : keyLt b c = true) : keyLt a c = true := by
  unfold keyLt at *
  rw [Bool.or_eq_true, Bool.and_eq_true, dec_iff, dec_iff] at *
  rcases h1 with h1 | ⟨h1, h1'⟩
  · rcases h2 with h2 | ⟨h2, h2'⟩
    · exact .inl (strLt_trans h1 h2)
    · rw [← h2]; exact .inl h1
  · rcases h2 with h2 | ⟨h2, h2'⟩
    · rw [h1]; exact .inl h2
    · exact .inr ⟨h1.trans h2, by omega⟩
theorem tabs_pair {ts : List Tl} (h : tabsB ts = true) : ts.Pairwise fun x y => keyLt x y = true := by
  unfold tabsB at h
  rw [Bool.and_eq_true] at h
  have st : ∀ j (hj : j + 1 < ts.length), keyLt ts[j] ts[j + 1] = true := fun j hj => by
    have := allTo_at h.1 hj
    rw [tlAt_succ hj, Bool.and_eq_true, Bool.and_eq_true] at this
    exact this.2.2
  have key : ∀ i d (hi : i + d + 1 < ts.length), keyLt (ts[i]'(by omega)) ts[i + d + 1] = true := by
    intro i d
    induction d with
    | zero => intro hi; exact st i hi
    | succ d ih => intro hi; exact keyLt_trans (ih (by omega)) (st (i + d + 1) hi)
  rw [List.pairwise_iff_getElem]
  intro i j hi hj hij
  obtain ⟨d, rfl⟩ : ∃ d, j = i + d + 1 := ⟨j - i - 1, by omega⟩
  exact key i d hj
theorem keyLt_ne {a b : Tl} (h : keyLt a b = true) (h1 : a.name = b.name) (h2 : a.arity = b.arity) : False := by
  unfold keyLt at h
  rw [Bool.or_eq_true, Bool.and_eq_true, dec_iff, dec_iff] at h
  rcases h with h | ⟨_, h⟩
  · exact strLt_ne h h1
  · omega
theorem tabF_first {n : ByteArray} {z : Int} {p : Bool} : ∀ {ts : List Tl}, ts.Pairwise (fun x y => keyLt x y = true) → tabF ts n z p = match ts.find? (fun t => dec (t.name = n) && dec (t.arity = z)) with
    | some t => bif t.pred == p then some t else none
    | none => none
  | [], _ => rfl
  | t :: ts, h => by
    obtain ⟨h1, h2⟩ := List.pairwise_cons.1 h
    have ih := tabF_first (n := n) (z := z) (p := p) h2
    unfold tabF at ih ⊢
    rw [List.find?_cons, List.find?_cons]
    cases ha : dec (t.name = n) with
    | false => simp only [Bool.false_and]; exact ih
    | true =>
      cases hb : dec (t.arity = z) with
      | false => simp only [Bool.false_and, Bool.and_false]; exact ih
      | true =>
        simp only [Bool.true_and]
        cases hc : t.pred == p with
        | true => rfl
        | false =>
          simp only [cond_false]
          rw [List.find?_eq_none]
          intro u hu hb2
          rw [Bool.and_eq_true, Bool.and_eq_true, dec_iff, dec_iff] at hb2
          exact keyLt_ne (h1 u hu) ((dec_iff.1 ha).trans hb2.1.symm) ((dec_iff.1 hb).trans hb2.2.1.symm)
abbrev VaC (m : Ip) (e : Env) (x : Tm) : Prop := E 34 [m.sv, x.sv, .mp true (envM e)] [] = some (optT (x.val m e), [])
abbrev LvC (m : Ip) (a : List Ag) (x : Tm) : Prop := E 27 [m.sv, .arr (a.map Ag.d), x.sv, .bool false] [] = some (optT (x.val m (asg a)), [])
theorem at_next {s at_ v P : Int} (h1 : 1 ≤ s) (h0 : 0 ≤ at_) (hP : at_ < P) (v0 : 0 ≤ v) (v1 : v < s) : 0 ≤ at_ * s + v ∧ at_ * s + v < P * s ∧ 0 ≤ at_ * s ∧ at_ * s < P * s := by
  have k1 := Int.mul_nonneg h0 (show 0 ≤ s by omega)
  have k2 : (at_ + 1) * s ≤ P * s := Int.mul_le_mul_of_nonneg_right (by omega) (by omega)
  rw [Int.add_mul, Int.one_mul] at k2
  omega
set_option maxHeartbeats 8000000 in
theorem lookUp_of (m : Ip) (hm : m.ok = true) (hml : m.tables.length ≤ 1099511627776) (hvl : ∀ t ∈ m.tables, t.vals.length ≤ 1099511627776) (e : Env) (he : InE m.size e) (x : Tm) (hxl : x.args.length ≤ 1099511627776) (p : Bool) (ih : ∀ y ∈ x.args, VaC m e y) : E 71 [m.sv, x.sv, .mp true (envM e), .bool p] [] = some (optT (readT m.tables x.name x.args.length p (Tm.valS m e x.args 0)), []) := by
  have h1 := table_E m hml x.name x.args.length p
  unfold readT
  obtain ⟨⟨s1, s3⟩, hT, _⟩ := Ip.ok_parts hm
  cases ht : tabF m.tables x.name x.args.length p with
  | none =>
    rw [ht] at h1
    have hts : tabSV none = .agg [.str ⟨#[]⟩, .int .i64 0, .bool false, .nil] := rfl
    refine E_walk k_impl_Interpretation_lookUp m_impl_Interpretation_lookUp (of_decide_eq_true rfl) ?_
    simp (disch := omega) only [c_impl_Interpretation_lookUp, go_sem, go_cond, Nat.reduceAdd, Nat.reduceSub, Nat.reduceLT, Nat.reduceLeDiff, Nat.reduceEqDiff, Nat.reduceBEq, Nat.reduceBneDiff, Nat.reduceMul, ↓reduceIte, Int.reduceToNat, reduceCtorEq, Int.reduceNeg, Int.reduceAdd, h1, hts, Option.isSome_none, m_impl_Interpretation_table]
    try exact ⟨rfl, rfl⟩
  | some t =>
    rw [ht] at h1
    have hts : tabSV (some t) = .agg [.str t.name, .int .i64 t.arity, .bool t.pred, .arr (t.vals.map fun n => [D.int n])] := rfl
    obtain ⟨t1, t2, t3, t4⟩ := tabF_some ht
    have ha3 := (tabsB_arity hT t1).2
    rw [t3] at ha3
    have hvt := hvl t t1
    have hsome : (some t).isSome = true := rfl
    refine E_walk k_impl_Interpretation_lookUp m_impl_Interpretation_lookUp (of_decide_eq_true rfl) ?_
    simp (disch := omega) only [c_impl_Interpretation_lookUp, go_sem, go_cond, Nat.reduceAdd, Nat.reduceSub, Nat.reduceLT, Nat.reduceLeDiff, Nat.reduceEqDiff, Nat.reduceBEq, Nat.reduceBneDiff, Nat.reduceMul, ↓reduceIte, Int.reduceToNat, reduceCtorEq, Int.reduceNeg, Int.reduceAdd, h1, hts, hsome, m_impl_Interpretation_table]
    refine go_loop (α := Int × (Int)) (fun a => ⟨slots 58 0 [(2, .mp true (envM e)), (4, .ptr 0 0), (10, .ptr 1 0), (12, .int .i64 (a.2)), (31, .arr (x.args.map Tm.d)), (32, .int .i64 x.args.length), (33, .int .i64 (a.1))], [.box 36 [.int .i64 m.size, .arr (m.tables.map Tl.d)], .box 95 [.str t.name, .int .i64 t.arity, .bool t.pred, .arr (t.vals.map fun n => [D.int n])]]⟩) (fun a => ∃ k : Nat, a.1 = k ∧ k ≤ (x.args).length ∧ 0 ≤ (a.2) ∧ (a.2) < pw m.size k ∧ Tm.valS m e (x.args.drop k) (a.2) = Tm.valS m e x.args 0) (fun a => (x.args).length - (a.1).toNat) (0, 0) ⟨0, rfl, Nat.zero_le _, ⟨Int.le_refl 0, by rw [pw]; omega, by rw [List.drop_zero]⟩⟩ (by simp (disch := omega) only [go_sem, go_cond, Nat.reduceAdd, Nat.reduceSub, Nat.reduceLT, Nat.reduceLeDiff, Nat.reduceEqDiff, Nat.reduceBEq, Nat.reduceBneDiff, Nat.reduceMul, ↓reduceIte, Int.reduceToNat, reduceCtorEq, Int.reduceNeg, Int.reduceAdd]) ?_
    rintro ⟨i, at_⟩ ⟨k, hi, hk, hR⟩
    dsimp only at hi hR
    have hni : i.toNat = k := by omega
    have hni1 : (i + 1).toNat = k + 1 := by omega
    rcases Nat.lt_or_ge k (x.args).length with hlt | hge
    · have hg := get_at Tm.d hlt
      rw [Tm.d_eq] at hg
      obtain ⟨r0, r1, r2⟩ := hR
      have hc := ih x.args[k] (List.getElem_mem hlt)
      rw [List.drop_eq_getElem_cons hlt, Tm.valS] at r2
      have hps := pw_small s1 s3 (k := k + 1) (by omega)
      cases hv : x.args[k].val m e with
      | none =>
        rw [hv] at r2
        unfold VaC at hc
        rw [hv] at hc
        rw [← r2]
        simp (disch := omega) only [go_sem, go_cond, Nat.reduceAdd, Nat.reduceSub, Nat.reduceLT, Nat.reduceLeDiff, Nat.reduceEqDiff, Nat.reduceBEq, Nat.reduceBneDiff, Nat.reduceMul, ↓reduceIte, Int.reduceToNat, reduceCtorEq, Int.reduceNeg, Int.reduceAdd, hni, hg, hc, Option.getD_none, Option.isSome_none, Option.getD_some, Option.isSome_some, m_impl_Interpretation_value]
        try exact ⟨rfl, rfl⟩
      | some v =>
        rw [hv] at r2
        unfold VaC at hc
        rw [hv] at hc
        obtain ⟨v0, v1⟩ := Tm.val_in hm he _ v hv
        obtain ⟨q0, q1, q2, q3⟩ := at_next s1 r0 r1 v0 v1
        rw [pw] at hps
        simp (disch := omega) only [go_sem, go_cond, Nat.reduceAdd, Nat.reduceSub, Nat.reduceLT, Nat.reduceLeDiff, Nat.reduceEqDiff, Nat.reduceBEq, Nat.reduceBneDiff, Nat.reduceMul, ↓reduceIte, Int.reduceToNat, reduceCtorEq, Int.reduceNeg, Int.reduceAdd, hni, hg, hc, Option.getD_none, Option.isSome_none, Option.getD_some, Option.isSome_some, m_impl_Interpretation_value]
        refine ⟨(i + 1, at_ * m.size + v), ⟨k + 1, by dsimp only; omega, hlt, q0, (by rw [pw]; exact q1), r2⟩, by dsimp only; omega, ?_⟩
        first | trivial | rfl | exact ⟨rfl, rfl⟩
    · obtain rfl : k = x.args.length := by omega
      obtain ⟨r0, r1, r2⟩ := hR
      rw [List.drop_eq_nil_of_le hge, Tm.valS] at r2
      rw [← r2]
      obtain ⟨g1, g2, _, _⟩ := read_in hm ht r0 r1
      have hgv := get_at (fun n => [D.int n]) g1
      have hgd : (some (t.vals.getD at_.toNat 0)).getD 0 = t.vals[at_.toNat] := g2
      simp (disch := omega) only [go_sem, go_cond, Nat.reduceAdd, Nat.reduceSub, Nat.reduceLT, Nat.reduceLeDiff, Nat.reduceEqDiff, Nat.reduceBEq, Nat.reduceBneDiff, Nat.reduceMul, ↓reduceIte, Int.reduceToNat, reduceCtorEq, Int.reduceNeg, Int.reduceAdd, hni, hgv, hgd, Option.isSome_some]
      try exact ⟨hgd.symm, rfl⟩
set_option maxHeartbeats 2000000 in
theorem value_of (m : Ip) (hm : m.ok = true) (hml : m.tables.length ≤ 1099511627776) (hvl : ∀ t ∈ m.tables, t.vals.length ≤ 1099511627776) (e : Env) (he : InE m.size e) (x : Tm) (hx : x.names = true) (hxl : x.args.length ≤ 1099511627776) (ih : ∀ y ∈ x.args, VaC m e y) : VaC m e x := by
  have h1 := isVar_E x (Tm.cok_names x hx)
  have h2 := lookUp_of m hm hml hvl e he x hxl false ih
  unfold VaC
  rw [Tm.val_eq]
  cases hb : varB x.name with
  | true =>
    rw [hb] at h1
    rw [cond_true]
    cases hq : e x.name with
    | none =>
      have hme : envM e (.str x.name) = none := by rw [envM_str, hq]
      refine E_walk k_impl_Interpretation_value m_impl_Interpretation_value (of_decide_eq_true rfl) ?_
      simp (disch := omega) only [c_impl_Interpretation_value, go_sem, go_cond, Nat.reduceAdd, Nat.reduceSub, Nat.reduceLT, Nat.reduceLeDiff, Nat.reduceEqDiff, Nat.reduceBEq, Nat.reduceBneDiff, Nat.reduceMul, ↓reduceIte, Int.reduceToNat, reduceCtorEq, Int.reduceNeg, Int.reduceAdd, h1, hme, m_impl_isVar]
      try first | rfl | exact ⟨rfl, rfl⟩
    | some v =>
      have hme : envM e (.str x.name) = some (false, [.int v]) := by rw [envM_str, hq]
      refine E_walk k_impl_Interpretation_value m_impl_Interpretation_value (of_decide_eq_true rfl) ?_
      simp (disch := omega) only [c_impl_Interpretation_value, go_sem, go_cond, Nat.reduceAdd, Nat.reduceSub, Nat.reduceLT, Nat.reduceLeDiff, Nat.reduceEqDiff, Nat.reduceBEq, Nat.reduceBneDiff, Nat.reduceMul, ↓reduceIte, Int.reduceToNat, reduceCtorEq, Int.reduceNeg, Int.reduceAdd, h1, hme, m_impl_isVar]
      try first | rfl | exact ⟨rfl, rfl⟩
  | false =>
    rw [hb] at h1
    rw [cond_false]
    generalize readT m.tables x.name x.args.length false (Tm.valS m e x.args 0) = r at *
    refine E_walk k_impl_Interpretation_value m_impl_Interpretation_value (of_decide_eq_true rfl) ?_
    simp (disch := omega) only [c_impl_Interpretation_value, go_sem, go_cond, Nat.reduceAdd, Nat.reduceSub, Nat.reduceLT, Nat.reduceLeDiff, Nat.reduceEqDiff, Nat.reduceBEq, Nat.reduceBneDiff, Nat.reduceMul, ↓reduceIte, Int.reduceToNat, reduceCtorEq, Int.reduceNeg, Int.reduceAdd, h1, h2, m_impl_isVar, m_impl_Interpretation_lookUp]
theorem value_E (m : Ip) (hm : m.ok = true) (hml : m.tables.length ≤ 1099511627776) (hvl : ∀ t ∈ m.tables, t.vals.length ≤ 1099511627776) (e : Env) (he : InE m.size e) (x : Tm) (hx : x.names = true) (hn : x.nodes ≤ 1048576) : VaC m e x :=
  value_of m hm hml hvl e he x hx (by have := Tm.length_le x.args; have := Tm.nodes_eq x; omega) fun y hy => value_E m hm hml hvl e he y (Tm.names_arg hx hy) (by have := Tm.nodes_mem hy; have := Tm.nodes_eq x; omega)
termination_by SizeOf.sizeOf x
decreasing_by exact Tm.lt_of_mem hy
set_option maxHeartbeats 2000000 in
theorem l10Find_E (xs : List Tl) (hl : xs.length ≤ 1099511627776) (n : ByteArray) (z : Int) : E 57 [.arr (xs.map Tl.d), .str n, .int .i64 z] [] = some (.int .i64 (idxP (fun t => dec (t.name = n) && dec (t.arity = z)) xs 0), []) := by
  generalize hpp : (fun t : Tl => dec (t.name = n) && dec (t.arity = z)) = p
  have hpe : ∀ t : Tl, p t = (dec (t.name = n) && dec (t.arity = z)) := fun t => by rw [← hpp]
  refine E_walk k_spec_l10Find m_spec_l10Find (of_decide_eq_true rfl) ?_
  simp (disch := omega) only [c_spec_l10Find, go_sem, go_cond, Nat.reduceAdd, Nat.reduceSub, Nat.reduceLT, Nat.reduceLeDiff, Nat.reduceEqDiff, Nat.reduceBEq, Nat.reduceBneDiff, Nat.reduceMul, ↓reduceIte, Int.reduceToNat, reduceCtorEq, Int.reduceNeg, Int.reduceAdd]
  refine go_loop (α := Int) (fun a => ⟨slots 31 0 [(0, .arr (xs.map Tl.d)), (1, .str n), (2, .int .i64 z), (7, .int .i64 a)], []⟩) (fun a => ∃ k : Nat, a = k ∧ k ≤ (xs).length ∧ idxP p (xs.drop k) a = idxP p xs 0) (fun a => (xs).length - (a).toNat) 0 ⟨0, rfl, Nat.zero_le _, by rw [List.drop_zero]⟩ (by simp (disch := omega) only [go_sem, go_cond, Nat.reduceAdd, Nat.reduceSub, Nat.reduceLT, Nat.reduceLeDiff, Nat.reduceEqDiff, Nat.reduceBEq, Nat.reduceBneDiff, Nat.reduceMul, ↓reduceIte, Int.reduceToNat, reduceCtorEq, Int.reduceNeg, Int.reduceAdd]) ?_
  rintro i ⟨k, hi, hk, hR⟩
  have hni : i.toNat = k := by omega
  have hni1 : (i + 1).toNat = k + 1 := by omega
  rcases Nat.lt_or_ge k (xs).length with hlt | hge
  · have hg := get_at Tl.d hlt
    rw [Tl.d_eq] at hg
    rw [List.drop_eq_getElem_cons hlt, idxP, hpe] at hR
    cases h1 : dec (xs[k].name = n) with
    | false =>
      rw [h1] at hR
      simp (disch := omega) only [go_sem, go_cond, Nat.reduceAdd, Nat.reduceSub, Nat.reduceLT, Nat.reduceLeDiff, Nat.reduceEqDiff, Nat.reduceBEq, Nat.reduceBneDiff, Nat.reduceMul, ↓reduceIte, Int.reduceToNat, reduceCtorEq, Int.reduceNeg, Int.reduceAdd, hni, hg, h1]
      exact ⟨i + 1, ⟨k + 1, by omega, hlt, by simpa using hR⟩, by omega, by first | trivial | rfl⟩
    | true =>
      rw [h1] at hR
      cases h2 : dec (xs[k].arity = z) with
      | false =>
        rw [h2] at hR
        simp (disch := omega) only [go_sem, go_cond, Nat.reduceAdd, Nat.reduceSub, Nat.reduceLT, Nat.reduceLeDiff, Nat.reduceEqDiff, Nat.reduceBEq, Nat.reduceBneDiff, Nat.reduceMul, ↓reduceIte, Int.reduceToNat, reduceCtorEq, Int.reduceNeg, Int.reduceAdd, hni, hg, h1, h2]
        exact ⟨i + 1, ⟨k + 1, by omega, hlt, by simpa using hR⟩, by omega, by first | trivial | rfl⟩
      | true =>
        rw [h2] at hR
        simp (disch := omega) only [go_sem, go_cond, Nat.reduceAdd, Nat.reduceSub, Nat.reduceLT, Nat.reduceLeDiff, Nat.reduceEqDiff, Nat.reduceBEq, Nat.reduceBneDiff, Nat.reduceMul, ↓reduceIte, Int.reduceToNat, reduceCtorEq, Int.reduceNeg, Int.reduceAdd, hni, hg, h1, h2]
        simpa using hR
  · rw [List.drop_eq_nil_of_le hge, idxP] at hR
    simp (disch := omega) only [go_sem, go_cond, Nat.reduceAdd, Nat.reduceSub, Nat.reduceLT, Nat.reduceLeDiff, Nat.reduceEqDiff, Nat.reduceBEq, Nat.reduceBneDiff, Nat.reduceMul, ↓reduceIte, Int.reduceToNat, reduceCtorEq, Int.reduceNeg, Int.reduceAdd, hni]
    exact hR
set_option maxHeartbeats 8000000 in
theorem l10Value_of (m : Ip) (hm : m.ok = true) (hml : m.tables.length ≤ 1099511627776) (hvl : ∀ t ∈ m.tables, t.vals.length ≤ 1099511627776) (as_ : List Ag) (hal : as_.length ≤ 1099511627776) (he : InE m.size (asg as_)) (x : Tm) (hxl : x.args.length ≤ 29) (ih : ∀ y ∈ x.args, LvC m as_ y) : LvC m as_ x := by
  have h1 := l2Var_E x.name
  obtain ⟨⟨s1, s3⟩, hT, _⟩ := Ip.ok_parts hm
  unfold LvC
  rw [Tm.val_eq]
  cases hb : varB x.name with
  | true =>
    rw [hb] at h1
    rw [cond_true]
    refine E_walk k_spec_l10Value m_spec_l10Value (of_decide_eq_true rfl) ?_
    simp (disch := omega) only [c_spec_l10Value, go_sem, go_cond, Nat.reduceAdd, Nat.reduceSub, Nat.reduceLT, Nat.reduceLeDiff, Nat.reduceEqDiff, Nat.reduceBEq, Nat.reduceBneDiff, Nat.reduceMul, ↓reduceIte, Int.reduceToNat, reduceCtorEq, Int.reduceNeg, Int.reduceAdd, h1, m_spec_l2Var]
    refine go_loop (α := Int) (fun a => ⟨slots 108 0 [(1, .arr (as_.map Ag.d)), (6, .ptr 0 0), (10, .int .i64 a)], [.box 42 [.str x.name, .arr (x.args.map Tm.d)]]⟩) (fun a => ∃ k : Nat, a = k ∧ k ≤ (as_).length ∧ asg (as_.drop k) x.name = asg as_ x.name) (fun a => (as_).length - (a).toNat) 0 ⟨0, rfl, Nat.zero_le _, by rw [List.drop_zero]⟩ (by simp (disch := omega) only [go_sem, go_cond, Nat.reduceAdd, Nat.reduceSub, Nat.reduceLT, Nat.reduceLeDiff, Nat.reduceEqDiff, Nat.reduceBEq, Nat.reduceBneDiff, Nat.reduceMul, ↓reduceIte, Int.reduceToNat, reduceCtorEq, Int.reduceNeg, Int.reduceAdd]) ?_
    rintro i ⟨k, hi, hk, hR⟩
    have hni : i.toNat = k := by omega
    have hni1 : (i + 1).toNat = k + 1 := by omega
    rcases Nat.lt_or_ge k (as_).length with hlt | hge
    · have hg := get_at Ag.d hlt
      rw [Ag.d_eq] at hg
      rw [List.drop_eq_getElem_cons hlt, asg] at hR
      cases hd : dec (as_[k].var = x.name) with
      | true =>
        rw [hd, cond_true] at hR
        rw [← hR]
        simp (disch := omega) only [go_sem, go_cond, Nat.reduceAdd, Nat.reduceSub, Nat.reduceLT, Nat.reduceLeDiff, Nat.reduceEqDiff, Nat.reduceBEq, Nat.reduceBneDiff, Nat.reduceMul, ↓reduceIte, Int.reduceToNat, reduceCtorEq, Int.reduceNeg, Int.reduceAdd, hni, hg, hd]
        try first | rfl | exact ⟨rfl, rfl⟩
      | false =>
        rw [hd, cond_false] at hR
        simp (disch := omega) only [go_sem, go_cond, Nat.reduceAdd, Nat.reduceSub, Nat.reduceLT, Nat.reduceLeDiff, Nat.reduceEqDiff, Nat.reduceBEq, Nat.reduceBneDiff, Nat.reduceMul, ↓reduceIte, Int.reduceToNat, reduceCtorEq, Int.reduceNeg, Int.reduceAdd, hni, hg, hd]
        exact ⟨i + 1, ⟨k + 1, by omega, hlt, hR⟩, by omega, by first | trivial | rfl⟩
    · rw [List.drop_eq_nil_of_le hge, asg] at hR
      rw [← hR]
      simp (disch := omega) only [go_sem, go_cond, Nat.reduceAdd, Nat.reduceSub, Nat.reduceLT, Nat.reduceLeDiff, Nat.reduceEqDiff, Nat.reduceBEq, Nat.reduceBneDiff, Nat.reduceMul, ↓reduceIte, Int.reduceToNat, reduceCtorEq, Int.reduceNeg, Int.reduceAdd, hni]
      try first | rfl | exact ⟨rfl, rfl⟩
  | false =>
    rw [hb] at h1
    rw [cond_false]
    have hf := l10Find_E m.tables hml x.name x.args.length
    refine E_walk k_spec_l10Value m_spec_l10Value (of_decide_eq_true rfl) ?_
    simp (disch := omega) only [c_spec_l10Value, go_sem, go_cond, Nat.reduceAdd, Nat.reduceSub, Nat.reduceLT, Nat.reduceLeDiff, Nat.reduceEqDiff, Nat.reduceBEq, Nat.reduceBneDiff, Nat.reduceMul, ↓reduceIte, Int.reduceToNat, reduceCtorEq, Int.reduceNeg, Int.reduceAdd, h1, m_spec_l2Var]
    refine go_loop (α := Int × (Int)) (fun a => ⟨slots 108 0 [(1, .arr (as_.map Ag.d)), (3, .bool false), (4, .ptr 0 0), (6, .ptr 1 0), (11, .int .i64 (a.2)), (12, .int .i64 (a.1))], [.box 36 [.int .i64 m.size, .arr (m.tables.map Tl.d)], .box 42 [.str x.name, .arr (x.args.map Tm.d)]]⟩) (fun a => ∃ k : Nat, a.1 = k ∧ k ≤ (x.args).length ∧ 0 ≤ (a.2) ∧ (a.2) < pw m.size k ∧ Tm.valS m (asg as_) (x.args.drop k) (a.2) = Tm.valS m (asg as_) x.args 0) (fun a => (x.args).length - (a.1).toNat) (0, 0) ⟨0, rfl, Nat.zero_le _, ⟨Int.le_refl 0, by rw [pw]; omega, by rw [List.drop_zero]⟩⟩ (by simp (disch := omega) only [go_sem, go_cond, Nat.reduceAdd, Nat.reduceSub, Nat.reduceLT, Nat.reduceLeDiff, Nat.reduceEqDiff, Nat.reduceBEq, Nat.reduceBneDiff, Nat.reduceMul, ↓reduceIte, Int.reduceToNat, reduceCtorEq, Int.reduceNeg, Int.reduceAdd]) ?_
    rintro ⟨i, at_⟩ ⟨k, hi, hk, hR⟩
    dsimp only at hi hR
    have hni : i.toNat = k := by omega
    have hni1 : (i + 1).toNat = k + 1 := by omega
    rcases Nat.lt_or_ge k (x.args).length with hlt | hge
    · have hg := get_at Tm.d hlt
      rw [Tm.d_eq] at hg
      obtain ⟨r0, r1, r2⟩ := hR
      have hc := ih x.args[k] (List.getElem_mem hlt)
      rw [List.drop_eq_getElem_cons hlt, Tm.valS] at r2
      have hps := pw_mid s1 s3 (k := k + 1) (by omega)
      cases hv : x.args[k].val m (asg as_) with
      | none =>
        rw [hv] at r2
        unfold LvC at hc
        rw [hv] at hc
        rw [← r2]
        have hrn : readT m.tables x.name x.args.length false none = none := by unfold readT; split <;> first | rfl | (rename_i h; cases h)
        rw [hrn]
        simp (disch := omega) only [go_sem, go_cond, Nat.reduceAdd, Nat.reduceSub, Nat.reduceLT, Nat.reduceLeDiff, Nat.reduceEqDiff, Nat.reduceBEq, Nat.reduceBneDiff, Nat.reduceMul, ↓reduceIte, Int.reduceToNat, reduceCtorEq, Int.reduceNeg, Int.reduceAdd, hni, hg, hc, Option.getD_none, Option.isSome_none, Option.getD_some, Option.isSome_some, m_spec_l10Value]
        try first | rfl | exact ⟨rfl, rfl⟩
      | some v =>
        rw [hv] at r2
        unfold LvC at hc
        rw [hv] at hc
        obtain ⟨v0, v1⟩ := Tm.val_in hm he _ v hv
        obtain ⟨q0, q1, q2, q3⟩ := at_next s1 r0 r1 v0 v1
        rw [pw] at hps
        simp (disch := omega) only [go_sem, go_cond, Nat.reduceAdd, Nat.reduceSub, Nat.reduceLT, Nat.reduceLeDiff, Nat.reduceEqDiff, Nat.reduceBEq, Nat.reduceBneDiff, Nat.reduceMul, ↓reduceIte, Int.reduceToNat, reduceCtorEq, Int.reduceNeg, Int.reduceAdd, hni, hg, hc, Option.getD_none, Option.isSome_none, Option.getD_some, Option.isSome_some, m_spec_l10Value]
        refine ⟨(i + 1, at_ * m.size + v), ⟨k + 1, by dsimp only; omega, hlt, q0, (by rw [pw]; exact q1), r2⟩, by dsimp only; omega, ?_⟩
        first | trivial | rfl | exact ⟨rfl, rfl⟩
    · obtain rfl : k = x.args.length := by omega
      obtain ⟨r0, r1, r2⟩ := hR
      rw [List.drop_eq_nil_of_le hge, Tm.valS] at r2
      rw [← r2]
      have hTF := tabF_first (n := x.name) (z := x.args.length) (p := false) (tabs_pair hT)
      rcases idxP_find (fun t : Tl => dec (t.name = x.name) && dec (t.arity = (x.args.length : Int))) m.tables 0 with ⟨h2, h3⟩ | ⟨j, t, hj, h2, h3, h4⟩
      · rw [h2] at hTF
        rw [h3] at hf
        have hrn : readT m.tables x.name x.args.length false (some at_) = none := by unfold readT; rw [hTF]
        rw [hrn]
        simp (disch := omega) only [go_sem, go_cond, Nat.reduceAdd, Nat.reduceSub, Nat.reduceLT, Nat.reduceLeDiff, Nat.reduceEqDiff, Nat.reduceBEq, Nat.reduceBneDiff, Nat.reduceMul, ↓reduceIte, Int.reduceToNat, reduceCtorEq, Int.reduceNeg, Int.reduceAdd, hni, hf, m_spec_l10Find]
        try first | rfl | exact ⟨rfl, rfl⟩
      · rw [h2] at hTF
        rw [h3, Int.zero_add] at hf
        have hg := get_at Tl.d hj
        rw [h4, Tl.d_eq] at hg
        obtain ⟨jj, hjj⟩ : ∃ jj : Int, jj = (j : Int) := ⟨_, rfl⟩
        rw [← hjj] at hf
        have hnj : jj.toNat = j := by omega
        simp only at hTF
        have hbt : (true == false) = false := rfl
        have hbf : (false == false) = true := rfl
        cases hpr : t.pred with
        | true =>
          rw [hpr] at hTF
          have hrn : readT m.tables x.name x.args.length false (some at_) = none := by unfold readT; rw [hTF]; rfl
          rw [hrn]
          simp (disch := omega) only [go_sem, go_cond, Nat.reduceAdd, Nat.reduceSub, Nat.reduceLT, Nat.reduceLeDiff, Nat.reduceEqDiff, Nat.reduceBEq, Nat.reduceBneDiff, Nat.reduceMul, ↓reduceIte, Int.reduceToNat, reduceCtorEq, Int.reduceNeg, Int.reduceAdd, hni, hf, hnj, hg, hpr, hbt, m_spec_l10Find]
          try first | rfl | exact ⟨rfl, rfl⟩
        | false =>
          rw [hpr] at hTF
          have hTF : tabF m.tables x.name x.args.length false = some t := hTF
          have hrn : readT m.tables x.name x.args.length false (some at_) = some (t.vals.getD at_.toNat 0) := by unfold readT; rw [hTF]
          obtain ⟨g1, g2, _, _⟩ := read_in hm hTF r0 r1
          have hgv := get_at (fun n => [D.int n]) g1
          have hvt := hvl t (tabF_some hTF).1
          rw [hrn, g2]
          simp (disch := omega) only [go_sem, go_cond, Nat.reduceAdd, Nat.reduceSub, Nat.reduceLT, Nat.reduceLeDiff, Nat.reduceEqDiff, Nat.reduceBEq, Nat.reduceBneDiff, Nat.reduceMul, ↓reduceIte, Int.reduceToNat, reduceCtorEq, Int.reduceNeg, Int.reduceAdd, hni, hf, hnj, hg, hgv, hpr, hbf, Option.getD_some, Option.isSome_some, m_spec_l10Find]
          try first | rfl | exact ⟨rfl, rfl⟩
theorem l10Value_E (m : Ip) (hm : m.ok = true) (hml : m.tables.length ≤ 1099511627776) (hvl : ∀ t ∈ m.tables, t.vals.length ≤ 1099511627776) (as_ : List Ag) (hal : as_.length ≤ 1099511627776) (he : InE m.size (asg as_)) (x : Tm) (hn : x.nodes ≤ 30) : LvC m as_ x :=
  l10Value_of m hm hml hvl as_ hal he x (by have := Tm.length_le x.args; have := Tm.nodes_eq x; omega) fun y hy => l10Value_E m hm hml hvl as_ hal he y (by have := Tm.nodes_mem hy; have := Tm.nodes_eq x; omega)
termination_by SizeOf.sizeOf x
decreasing_by exact Tm.lt_of_mem hy
end Go.Proofs.Ytpmeabbfpabglaa

set_option maxRecDepth 100000
set_option linter.unusedSimpArgs false
set_option linter.unusedVariables false
namespace Go.Proofs.Ytpmeabbfpabglaa
open Go.RowKit

def c_impl_EvaluateTerm : SC := (.seq (.reg [⟨(some 3), none, (.boxv 36 2 (.t 0))⟩, ⟨(some 5), none, (.boxv 42 2 (.t 2))⟩, ⟨(some 6), none, (.mv (.c (.int .i64 0)))⟩, ⟨(some 7), none, (.mv (.c (.bool false)))⟩]) (.seq (.reg [⟨(some 13), none, (.load true 2 (.t 3))⟩, ⟨(some 14), none, (.mv (.t 1))⟩, ⟨(some 15), none, (.call 31 [(.t 13), (.t 14)])⟩, ⟨(some 12), none, (.mv (.t 15))⟩, ⟨(some 16), none, (.ext (.t 12) 0)⟩, ⟨(some 17), none, (.ext (.t 12) 1)⟩, ⟨(some 8), none, (.mv (.t 16))⟩, ⟨(some 9), none, (.mv (.t 17))⟩]) (.seq (.seq (.reg [⟨(some 18), none, (.load true 2 (.t 3))⟩, ⟨(some 19), none, (.call 32 [(.t 18)])⟩, ⟨(some 20), none, (.un .not (.t 19))⟩, ⟨(some 21), none, (.mv (.t 20))⟩, ⟨(some 22), (some (21, false)), (.mv (.t 9))⟩, ⟨(some 23), (some (21, false)), (.un .not (.t 22))⟩, ⟨(some 24), none, (.pick (.t 21) (.c (.bool true)) (.t 23))⟩, ⟨(some 25), none, (.mv (.t 24))⟩, ⟨(some 26), (some (25, false)), (.load true 2 (.t 5))⟩, ⟨(some 27), (some (25, false)), (.call 33 [(.t 26)])⟩, ⟨(some 28), (some (25, false)), (.un .not (.t 27))⟩, ⟨(some 29), none, (.pick (.t 25) (.c (.bool true)) (.t 28))⟩]) (.cond (.t 29) (.seq (.reg [⟨(some 6), none, (.mv (.c (.int .i64 0)))⟩, ⟨(some 7), none, (.mv (.c (.bool false)))⟩]) .ret) .skip)) (.seq (.reg [⟨(some 31), none, (.load true 2 (.t 3))⟩, ⟨(some 32), none, (.load true 2 (.t 5))⟩, ⟨(some 33), none, (.mv (.t 8))⟩, ⟨(some 34), none, (.call 34 [(.t 31), (.t 32), (.t 33)])⟩, ⟨(some 30), none, (.mv (.t 34))⟩, ⟨(some 35), none, (.ext (.t 30) 0)⟩, ⟨(some 36), none, (.ext (.t 30) 1)⟩, ⟨(some 10), none, (.mv (.t 35))⟩, ⟨(some 11), none, (.mv (.t 36))⟩]) (.seq (.seq (.reg [⟨(some 37), none, (.mv (.t 11))⟩, ⟨(some 38), none, (.un .not (.t 37))⟩]) (.cond (.t 38) (.seq (.reg [⟨(some 6), none, (.mv (.c (.int .i64 0)))⟩, ⟨(some 7), none, (.mv (.c (.bool false)))⟩]) .ret) .skip)) (.seq (.reg [⟨(some 39), none, (.mv (.t 10))⟩, ⟨(some 6), none, (.mv (.t 39))⟩, ⟨(some 7), none, (.mv (.c (.bool true)))⟩]) .ret))))))
theorem k_impl_EvaluateTerm : codeOf Try.prog 12 = some ⟨40, c_impl_EvaluateTerm, [(.tmp 6), (.tmp 7)]⟩ := by kernel_rfl
theorem m_impl_EvaluateTerm : modes 12 = ⟨[], .asis, none, false⟩ := by unfold modes; rfl

def c_spec_EvaluateTerm : SC := (.seq (.reg [⟨(some 3), none, (.boxv 36 2 (.t 0))⟩, ⟨(some 5), none, (.boxv 42 2 (.t 2))⟩, ⟨(some 6), none, (.mv (.c (.int .i64 0)))⟩, ⟨(some 7), none, (.mv (.c (.bool false)))⟩]) (.seq (.seq (.reg [⟨(some 8), none, (.load true 2 (.t 3))⟩, ⟨(some 9), none, (.call 24 [(.t 8)])⟩, ⟨(some 10), none, (.un .not (.t 9))⟩, ⟨(some 11), none, (.mv (.t 10))⟩, ⟨(some 12), (some (11, false)), (.load true 2 (.t 3))⟩, ⟨(some 13), (some (11, false)), (.mv (.t 1))⟩, ⟨(some 14), (some (11, false)), (.call 25 [(.t 12), (.t 13)])⟩, ⟨(some 15), (some (11, false)), (.un .not (.t 14))⟩, ⟨(some 16), none, (.pick (.t 11) (.c (.bool true)) (.t 15))⟩, ⟨(some 17), none, (.mv (.t 16))⟩, ⟨(some 18), (some (17, false)), (.load true 2 (.t 5))⟩, ⟨(some 19), (some (17, false)), (.call 26 [(.t 18)])⟩, ⟨(some 20), (some (17, false)), (.un .not (.t 19))⟩, ⟨(some 21), none, (.pick (.t 17) (.c (.bool true)) (.t 20))⟩]) (.cond (.t 21) (.seq (.reg [⟨(some 6), none, (.mv (.c (.int .i64 0)))⟩, ⟨(some 7), none, (.mv (.c (.bool false)))⟩]) .ret) .skip)) (.seq (.reg [⟨(some 22), none, (.load true 2 (.t 3))⟩, ⟨(some 23), none, (.mv (.t 1))⟩, ⟨(some 24), none, (.load true 2 (.t 5))⟩, ⟨(some 25), none, (.call 27 [(.t 22), (.t 23), (.t 24), (.c (.bool false))])⟩, ⟨(some 26), none, (.ext (.t 25) 0)⟩, ⟨(some 27), none, (.ext (.t 25) 1)⟩, ⟨(some 6), none, (.mv (.t 26))⟩, ⟨(some 7), none, (.mv (.t 27))⟩]) .ret)))
theorem k_spec_EvaluateTerm : codeOf Try.prog 8 = some ⟨28, c_spec_EvaluateTerm, [(.tmp 6), (.tmp 7)]⟩ := by kernel_rfl
theorem m_spec_EvaluateTerm : modes 8 = ⟨[], .asis, none, false⟩ := by unfold modes; rfl

noncomputable def evT (m : Ip) (xs : List Ag) (x : Tm) : Option Int := bif m.ok && (agsB m.size xs && x.valid) then x.val m (asg xs) else none
theorem Tm.valid_parts {x : Tm} (h : x.valid = true) : x.nodes ≤ 30 ∧ x.names = true := by
  unfold Tm.valid Tm.small at h
  rw [Bool.and_eq_true, Bool.and_eq_true, decide_eq_true_eq] at h
  exact ⟨h.1.1, h.2⟩
set_option maxHeartbeats 4000000 in
theorem evaluateTerm_E (m : Ip) (hm : m.tame) (xs : List Ag) (hl : xs.length ≤ 1099511627776) (x : Tm) (hn : x.nodes ≤ 1099511627776) : E 12 [m.sv, .arr (xs.map Ag.d), x.sv] [] = some (optT (evT m xs x), []) := by
  have v := isValidInterpretation_E m hm
  have vt := isValidTerm_E x hn
  unfold evT
  cases hk : m.ok with
  | false =>
    rw [hk] at v
    obtain ⟨f, b, ha⟩ := valuationOf_any m xs hl
    refine E_walk k_impl_EvaluateTerm m_impl_EvaluateTerm (of_decide_eq_true rfl) ?_
    simp (disch := omega) only [c_impl_EvaluateTerm, go_sem, go_cond, Nat.reduceAdd, Nat.reduceSub, Nat.reduceLT, Nat.reduceLeDiff, Nat.reduceEqDiff, Nat.reduceBEq, Nat.reduceBneDiff, Nat.reduceMul, ↓reduceIte, Int.reduceToNat, reduceCtorEq, Int.reduceNeg, Int.reduceAdd, v, vt, ha, m_impl_IsValidInterpretation, m_impl_Interpretation_valuationOf, m_impl_IsValidTerm]
    try first | rfl | exact ⟨rfl, rfl⟩
  | true =>
    rw [hk] at v
    have ha := valuationOf_E m (Ip.ok_parts hk).1 xs hl
    cases hg : agsB m.size xs with
    | false =>
      rw [hg] at ha
      refine E_walk k_impl_EvaluateTerm m_impl_EvaluateTerm (of_decide_eq_true rfl) ?_
      simp (disch := omega) only [c_impl_EvaluateTerm, go_sem, go_cond, Nat.reduceAdd, Nat.reduceSub, Nat.reduceLT, Nat.reduceLeDiff, Nat.reduceEqDiff, Nat.reduceBEq, Nat.reduceBneDiff, Nat.reduceMul, ↓reduceIte, Int.reduceToNat, reduceCtorEq, Int.reduceNeg, Int.reduceAdd, v, vt, ha, m_impl_IsValidInterpretation, m_impl_Interpretation_valuationOf, m_impl_IsValidTerm]
      try first | rfl | exact ⟨rfl, rfl⟩
    | true =>
      rw [hg] at ha
      cases ht : x.valid with
      | false =>
        rw [ht] at vt
        refine E_walk k_impl_EvaluateTerm m_impl_EvaluateTerm (of_decide_eq_true rfl) ?_
        simp (disch := omega) only [c_impl_EvaluateTerm, go_sem, go_cond, Nat.reduceAdd, Nat.reduceSub, Nat.reduceLT, Nat.reduceLeDiff, Nat.reduceEqDiff, Nat.reduceBEq, Nat.reduceBneDiff, Nat.reduceMul, ↓reduceIte, Int.reduceToNat, reduceCtorEq, Int.reduceNeg, Int.reduceAdd, v, vt, ha, m_impl_IsValidInterpretation, m_impl_Interpretation_valuationOf, m_impl_IsValidTerm]
        try first | rfl | exact ⟨rfl, rfl⟩
      | true =>
        rw [ht] at vt
        have hc := value_E m hk hm.1 (fun t h => hm.2 t h) (asg xs) (asg_in (agsB_up hg).2) x (Tm.valid_parts ht).2 (by have := (Tm.valid_parts ht).1; omega)
        unfold VaC at hc
        cases hv : x.val m (asg xs) with
        | none =>
          rw [hv] at hc
          refine E_walk k_impl_EvaluateTerm m_impl_EvaluateTerm (of_decide_eq_true rfl) ?_
          simp (disch := omega) only [c_impl_EvaluateTerm, go_sem, go_cond, Nat.reduceAdd, Nat.reduceSub, Nat.reduceLT, Nat.reduceLeDiff, Nat.reduceEqDiff, Nat.reduceBEq, Nat.reduceBneDiff, Nat.reduceMul, ↓reduceIte, Int.reduceToNat, reduceCtorEq, Int.reduceNeg, Int.reduceAdd, v, vt, ha, m_impl_IsValidInterpretation, m_impl_Interpretation_valuationOf, m_impl_IsValidTerm, hc, m_impl_Interpretation_value, Option.isSome_none, Option.isSome_some, Option.getD_some, Option.getD_none]
          try first | rfl | exact ⟨rfl, rfl⟩
        | some n =>
          rw [hv] at hc
          refine E_walk k_impl_EvaluateTerm m_impl_EvaluateTerm (of_decide_eq_true rfl) ?_
          simp (disch := omega) only [c_impl_EvaluateTerm, go_sem, go_cond, Nat.reduceAdd, Nat.reduceSub, Nat.reduceLT, Nat.reduceLeDiff, Nat.reduceEqDiff, Nat.reduceBEq, Nat.reduceBneDiff, Nat.reduceMul, ↓reduceIte, Int.reduceToNat, reduceCtorEq, Int.reduceNeg, Int.reduceAdd, v, vt, ha, m_impl_IsValidInterpretation, m_impl_Interpretation_valuationOf, m_impl_IsValidTerm, hc, m_impl_Interpretation_value, Option.isSome_none, Option.isSome_some, Option.getD_some, Option.getD_none]
          try first | rfl | exact ⟨rfl, rfl⟩
set_option maxHeartbeats 4000000 in
theorem l10EvaluateTerm_E (m : Ip) (hm : m.tame) (xs : List Ag) (hl : xs.length ≤ 1099511627776) (x : Tm) (hn : x.nodes ≤ 1099511627776) : E 8 [m.sv, .arr (xs.map Ag.d), x.sv] [] = some (optT (evT m xs x), []) := by
  have v := l10Good_E m hm
  have vt := l2Good_E x hn
  unfold evT
  cases hk : m.ok with
  | false =>
    rw [hk] at v
    refine E_walk k_spec_EvaluateTerm m_spec_EvaluateTerm (of_decide_eq_true rfl) ?_
    simp (disch := omega) only [c_spec_EvaluateTerm, go_sem, go_cond, Nat.reduceAdd, Nat.reduceSub, Nat.reduceLT, Nat.reduceLeDiff, Nat.reduceEqDiff, Nat.reduceBEq, Nat.reduceBneDiff, Nat.reduceMul, ↓reduceIte, Int.reduceToNat, reduceCtorEq, Int.reduceNeg, Int.reduceAdd, v, vt, m_spec_l10Good, m_spec_l10Assignment, m_spec_l2Good]
    try first | rfl | exact ⟨rfl, rfl⟩
  | true =>
    rw [hk] at v
    have ha := l10Assignment_E m (Ip.ok_parts hk).1 xs hl
    cases hg : agsB m.size xs with
    | false =>
      rw [hg] at ha
      refine E_walk k_spec_EvaluateTerm m_spec_EvaluateTerm (of_decide_eq_true rfl) ?_
      simp (disch := omega) only [c_spec_EvaluateTerm, go_sem, go_cond, Nat.reduceAdd, Nat.reduceSub, Nat.reduceLT, Nat.reduceLeDiff, Nat.reduceEqDiff, Nat.reduceBEq, Nat.reduceBneDiff, Nat.reduceMul, ↓reduceIte, Int.reduceToNat, reduceCtorEq, Int.reduceNeg, Int.reduceAdd, v, vt, ha, m_spec_l10Good, m_spec_l10Assignment, m_spec_l2Good]
      try first | rfl | exact ⟨rfl, rfl⟩
    | true =>
      rw [hg] at ha
      cases ht : x.valid with
      | false =>
        rw [ht] at vt
        refine E_walk k_spec_EvaluateTerm m_spec_EvaluateTerm (of_decide_eq_true rfl) ?_
        simp (disch := omega) only [c_spec_EvaluateTerm, go_sem, go_cond, Nat.reduceAdd, Nat.reduceSub, Nat.reduceLT, Nat.reduceLeDiff, Nat.reduceEqDiff, Nat.reduceBEq, Nat.reduceBneDiff, Nat.reduceMul, ↓reduceIte, Int.reduceToNat, reduceCtorEq, Int.reduceNeg, Int.reduceAdd, v, vt, ha, m_spec_l10Good, m_spec_l10Assignment, m_spec_l2Good]
        try first | rfl | exact ⟨rfl, rfl⟩
      | true =>
        rw [ht] at vt
        have hc := l10Value_E m hk hm.1 (fun t h => hm.2 t h) xs hl (asg_in (agsB_up hg).2) x (Tm.valid_parts ht).1
        unfold LvC at hc
        generalize x.val m (asg xs) = r at *
        refine E_walk k_spec_EvaluateTerm m_spec_EvaluateTerm (of_decide_eq_true rfl) ?_
        simp (disch := omega) only [c_spec_EvaluateTerm, go_sem, go_cond, Nat.reduceAdd, Nat.reduceSub, Nat.reduceLT, Nat.reduceLeDiff, Nat.reduceEqDiff, Nat.reduceBEq, Nat.reduceBneDiff, Nat.reduceMul, ↓reduceIte, Int.reduceToNat, reduceCtorEq, Int.reduceNeg, Int.reduceAdd, v, vt, ha, m_spec_l10Good, m_spec_l10Assignment, m_spec_l2Good, hc, m_spec_l10Value]
        try first | rfl | exact ⟨rfl, rfl⟩
end Go.Proofs.Ytpmeabbfpabglaa
