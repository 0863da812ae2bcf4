/-
  This text holds, one behind the other: This text holds plain laws of formulas: sizes, forms, validity. No condition.
  This text tells what the sizes of formulas answer in both packages. No condition.
-/
import Derived.Test.YtjgnhifkcgpmjaaGreatK30c
set_option maxRecDepth 100000
set_option linter.unusedSimpArgs false
set_option linter.unusedVariables false
namespace Go.Proofs.YtjgnhifkcgpmjaaGreat
open Go.RowKit

mutual
def Fm.nodes : Fm → Nat
  | .mk _ _ _ args => 1 + Fm.nodeS args
def Fm.nodeS : List Fm → Nat
  | [] => 0
  | x :: xs => Fm.nodes x + Fm.nodeS xs
end
theorem Fm.nodes_eq (x : Fm) : x.nodes = 1 + Fm.nodeS x.parts := by
  obtain ⟨op, atom, var, parts⟩ := x
  rw [Fm.nodes]; rfl
theorem Fm.nodes_pos (x : Fm) : 1 ≤ x.nodes := by rw [Fm.nodes_eq]; omega
theorem Fm.nodes_le : ∀ (xs : List Fm) (k : Nat) (h : k < xs.length), xs[k].nodes ≤ Fm.nodeS xs
  | [], k, h => absurd h (by simp)
  | x :: xs, 0, _ => by rw [Fm.nodeS]; simp
  | x :: xs, k + 1, h => by
    have := Fm.nodes_le xs k (by simpa using h)
    rw [Fm.nodeS]; simp only [List.getElem_cons_succ]; omega
theorem Fm.nodeS_take : ∀ (xs : List Fm) (k : Nat) (h : k < xs.length), Fm.nodeS (xs.take (k + 1)) = Fm.nodeS (xs.take k) + xs[k].nodes
  | [], k, h => absurd h (by simp)
  | x :: xs, 0, _ => by simp [Fm.nodeS]
  | x :: xs, k + 1, h => by
    have := Fm.nodeS_take xs k (by simpa using h)
    simp only [List.take_succ_cons, Fm.nodeS, List.getElem_cons_succ, this]; omega
theorem Fm.nodeS_take_le (xs : List Fm) (k : Nat) : Fm.nodeS (xs.take k) ≤ Fm.nodeS xs := by
  induction xs generalizing k with
  | nil => simp [Fm.nodeS]
  | cons x xs ih =>
    cases k with
    | zero => simp [Fm.nodeS]
    | succ k => simp only [List.take_succ_cons, Fm.nodeS]; have := ih k; omega
theorem Fm.nodes_mem {xs : List Fm} {y : Fm} (h : y ∈ xs) : y.nodes ≤ Fm.nodeS xs := by
  obtain ⟨k, hk, rfl⟩ := List.getElem_of_mem h
  exact Fm.nodes_le xs k hk
mutual
def Fm.cap : Fm → Int
  | .mk _ _ _ xs => Fm.capL xs 1
def Fm.capL : List Fm → Int → Int
  | [], n => n
  | x :: xs, n => if 40 < n then n else Fm.capL xs (n + Fm.cap x)
end
theorem Fm.cap_eq (x : Fm) : x.cap = Fm.capL x.parts 1 := by
  obtain ⟨op, atom, var, xs⟩ := x
  rw [Fm.cap]; rfl
theorem Fm.capL_spec : ∀ (xs : List Fm) (n : Int), (∀ x ∈ xs, 1 ≤ x.cap ∧ x.cap ≤ x.nodes ∧ (x.cap ≤ 40 → x.cap = x.nodes)) → 1 ≤ n → n ≤ Fm.capL xs n ∧ Fm.capL xs n ≤ n + Fm.nodeS xs ∧ (Fm.capL xs n ≤ 40 → Fm.capL xs n = n + Fm.nodeS xs)
  | [], n, _, h => by simp [Fm.capL, Fm.nodeS]
  | x :: xs, n, hx, h => by
    rw [Fm.capL, Fm.nodeS]
    have h1 := hx x (by simp)
    split
    · omega
    · have := Fm.capL_spec xs (n + x.cap) (fun y hy => hx y (by simp [hy])) (by omega)
      omega
theorem Fm.cap_spec (x : Fm) : 1 ≤ x.cap ∧ x.cap ≤ x.nodes ∧ (x.cap ≤ 40 → x.cap = x.nodes) := by
  rw [Fm.cap_eq, Fm.nodes_eq]
  have := Fm.capL_spec x.parts 1 (fun y hy => Fm.cap_spec y) (by omega)
  omega
termination_by SizeOf.sizeOf x
decreasing_by exact Fm.lt_of_mem hy
mutual
def Fm.many : Fm → Int → Int
  | .mk _ _ _ xs, m => Fm.manyL xs m 1
def Fm.manyL : List Fm → Int → Int → Int
  | [], _, n => n
  | x :: xs, m, n => if n ≤ m then Fm.manyL xs m (n + Fm.many x (m - n)) else n
end
theorem Fm.many_eq (x : Fm) (m : Int) : x.many m = Fm.manyL x.parts m 1 := by
  obtain ⟨op, atom, var, xs⟩ := x
  rw [Fm.many]; rfl
theorem Fm.manyL_spec (m : Int) : ∀ (xs : List Fm) (n : Int), (∀ x ∈ xs, ∀ m, 0 ≤ m → 1 ≤ x.many m ∧ x.many m ≤ x.nodes ∧ (x.many m ≤ m → x.many m = x.nodes)) → 1 ≤ n → n ≤ Fm.manyL xs m n ∧ Fm.manyL xs m n ≤ n + Fm.nodeS xs ∧ (Fm.manyL xs m n ≤ m → Fm.manyL xs m n = n + Fm.nodeS xs)
  | [], n, _, h => by simp [Fm.manyL, Fm.nodeS]
  | x :: xs, n, hx, h => by
    rw [Fm.manyL, Fm.nodeS]
    split
    · have h1 := hx x (by simp) (m - n) (by omega)
      have := Fm.manyL_spec m xs (n + x.many (m - n)) (fun y hy => hx y (by simp [hy])) (by omega)
      omega
    · omega
theorem Fm.many_spec (x : Fm) (m : Int) : 1 ≤ x.many m ∧ x.many m ≤ x.nodes ∧ (x.many m ≤ m → x.many m = x.nodes) := by
  rw [Fm.many_eq, Fm.nodes_eq]
  have := Fm.manyL_spec m x.parts 1 (fun y hy m _ => Fm.many_spec y m) (by omega)
  omega
termination_by SizeOf.sizeOf x
decreasing_by exact Fm.lt_of_mem hy
noncomputable def Tm.isZ (x : Tm) : Bool := dec (x.name = ⟨#[]⟩) && x.args.length == 0
/-- The form of one formula without its parts. -/
noncomputable def Fm.form (x : Fm) : Bool :=
  if x.op = 1 ∨ x.op = 2 then x.parts.length == 0 && x.atom.isZ && dec (x.var = ⟨#[]⟩)
  else if x.op = 3 then x.parts.length == 0 && x.atom.atom && dec (x.var = ⟨#[]⟩)
  else if x.op = 4 then x.parts.length == 1 && x.atom.isZ && dec (x.var = ⟨#[]⟩)
  else if x.op = 5 ∨ x.op = 6 ∨ x.op = 7 then x.parts.length == 2 && x.atom.isZ && dec (x.var = ⟨#[]⟩)
  else if x.op = 8 ∨ x.op = 9 then x.parts.length == 1 && x.atom.isZ && varB x.var
  else false
theorem op_cases (n : Int) : n = 1 ∨ n = 2 ∨ n = 3 ∨ n = 4 ∨ n = 5 ∨ n = 6 ∨ n = 7 ∨ n = 8 ∨ n = 9 ∨ (n ≠ 1 ∧ n ≠ 2 ∧ n ≠ 3 ∧ n ≠ 4 ∧ n ≠ 5 ∧ n ≠ 6 ∧ n ≠ 7 ∧ n ≠ 8 ∧ n ≠ 9) := by omega
mutual
noncomputable def Fm.forms : Fm → Bool
  | .mk op atom var parts => Fm.form (.mk op atom var parts) && Fm.formS parts
noncomputable def Fm.formS : List Fm → Bool
  | [] => true
  | x :: xs => Fm.forms x && Fm.formS xs
end
theorem Fm.forms_eq (x : Fm) : x.forms = (x.form && Fm.formS x.parts) := by
  obtain ⟨op, atom, var, parts⟩ := x
  rw [Fm.forms]; rfl
theorem Fm.formS_all : ∀ xs : List Fm, Fm.formS xs = xs.all Fm.forms
  | [] => rfl
  | x :: xs => by rw [Fm.formS, Fm.formS_all xs]; rfl
theorem Fm.any_not (xs : List Fm) : (!xs.any fun y => !y.forms) = Fm.formS xs := by
  rw [Fm.formS_all]
  induction xs with
  | nil => rfl
  | cons x xs ih => simp only [List.any_cons, List.all_cons, Bool.not_or, Bool.not_not, ih]
noncomputable def Fm.valid (x : Fm) : Bool := decide (x.nodes ≤ 40) && x.forms
theorem Fm.length_le : ∀ xs : List Fm, xs.length ≤ Fm.nodeS xs
  | [] => by simp
  | x :: xs => by
    have h := Fm.length_le xs
    have h1 := Fm.nodes_pos x
    rw [Fm.nodeS, List.length_cons]; omega
mutual
/-- All terms within are small enough for the machine. -/
def Fm.tame : Fm → Prop
  | .mk _ atom _ parts => atom.nodes ≤ 1099511627776 ∧ Fm.tameS parts
def Fm.tameS : List Fm → Prop
  | [] => True
  | x :: xs => Fm.tame x ∧ Fm.tameS xs
end
theorem Fm.tame_eq (x : Fm) : x.tame = (x.atom.nodes ≤ 1099511627776 ∧ Fm.tameS x.parts) := by
  obtain ⟨op, atom, var, parts⟩ := x
  rw [Fm.tame]; rfl
theorem Fm.tameS_mem : ∀ {xs : List Fm}, Fm.tameS xs → ∀ y ∈ xs, y.tame
  | [], _, y, hy => by cases hy
  | x :: xs, h, y, hy => by
    rw [Fm.tameS] at h
    rcases List.mem_cons.1 hy with rfl | hy
    · exact h.1
    · exact Fm.tameS_mem h.2 y hy
theorem Fm.tame_at {x : Fm} (h : x.tame) : x.atom.nodes ≤ 1099511627776 := by rw [Fm.tame_eq] at h; exact h.1
theorem Fm.tame_part {x y : Fm} (h : x.tame) (hy : y ∈ x.parts) : y.tame := by rw [Fm.tame_eq] at h; exact Fm.tameS_mem h.2 y hy
end Go.Proofs.YtjgnhifkcgpmjaaGreat

set_option maxRecDepth 100000
set_option linter.unusedSimpArgs false
set_option linter.unusedVariables false
namespace Go.Proofs.YtjgnhifkcgpmjaaGreat
open Go.RowKit

def c_impl_sizeOf : SC := (.seq (.reg [⟨(some 1), none, (.boxv 34 5 (.t 0))⟩, ⟨(some 2), none, (.mv (.c (.int .i64 0)))⟩]) (.seq (.reg [⟨(some 3), none, (.mv (.c (.int .i64 1)))⟩]) (.seq (.seq (.reg [⟨(some 6), none, (.faddr 4 (.t 1))⟩, ⟨(some 7), none, (.load false 1 (.t 6))⟩, ⟨(some 8), none, (.len false (.t 7))⟩, ⟨(some 9), none, (.mv (.c (.int .i64 0)))⟩]) (.block 0 (.loop [0, 0, 0, 1, 0, 0, 0, 1, 1, 1, 0, 0, 0, 0, 0, 0, 0, 0, 0, 0, 0, 0] (.seq (.reg [⟨(some 10), none, (.bin .lss false (.t 9) (.t 8))⟩]) (.seq (.cond (.t 10) .skip (.exit 0)) (.seq (.block 1 (.seq (.reg [⟨(some 11), none, (.iaddr 5 (.t 7) (.t 9))⟩, ⟨(some 12), none, (.load true 5 (.t 11))⟩, ⟨(some 5), none, (.alloc 34 [(.int .i64 0), (.str ⟨#[]⟩), .nil, (.str ⟨#[]⟩), .nil])⟩, ⟨none, none, (.store 5 (.t 5) (.t 12))⟩]) (.seq (.seq (.reg [⟨(some 13), none, (.mv (.t 3))⟩, ⟨(some 14), none, (.bin .gtr false (.t 13) (.c (.int .i64 40)))⟩]) (.cond (.t 14) (.seq (.reg [⟨(some 15), none, (.mv (.t 3))⟩, ⟨(some 2), none, (.mv (.t 15))⟩]) .ret) .skip)) (.reg [⟨(some 16), none, (.mv (.t 3))⟩, ⟨(some 17), none, (.load true 5 (.t 5))⟩, ⟨(some 18), none, (.call 58 [(.t 17)])⟩, ⟨(some 19), none, (.bin .add false (.t 16) (.t 18))⟩, ⟨(some 3), none, (.mv (.t 19))⟩])))) (.reg [⟨(some 20), none, (.bin .add false (.t 9) (.c (.int .i64 1)))⟩, ⟨(some 9), none, (.mv (.t 20))⟩]))))))) (.seq (.reg [⟨(some 21), none, (.mv (.t 3))⟩, ⟨(some 2), none, (.mv (.t 21))⟩]) .ret))))
theorem k_impl_sizeOf : codeOf Tryz.prog 58 = some ⟨22, c_impl_sizeOf, [(.tmp 2)]⟩ := by kernel_rfl
theorem m_impl_sizeOf : modes 58 = ⟨[], .asis, none, false⟩ := by unfold modes; rfl

set_option maxHeartbeats 1000000 in
theorem sizeF_of (x : Fm) (hn : x.nodes ≤ 1099511627776) (ih : ∀ y ∈ x.parts, E 58 [y.sv] [] = some (.int .i64 y.cap, [])) : E 58 [x.sv] [] = some (.int .i64 x.cap, []) := by
  have hl := Fm.length_le x.parts
  have hx := Fm.nodes_eq x
  rw [Fm.cap_eq]
  refine E_walk k_impl_sizeOf m_impl_sizeOf (of_decide_eq_true rfl) ?_
  simp (disch := omega) only [c_impl_sizeOf, go_sem, go_cond, Nat.reduceAdd, Nat.reduceSub, Nat.reduceLT, Nat.reduceLeDiff, Nat.reduceEqDiff, Nat.reduceBEq, Nat.reduceBneDiff, Nat.reduceMul, ↓reduceIte, Int.reduceToNat, reduceCtorEq, Int.reduceNeg, Int.reduceAdd]
  refine go_loop (α := Int × Int) (fun a => ⟨slots 22 0 [(3, .int .i64 a.2), (7, .arr (x.parts.map Fm.d)), (8, .int .i64 x.parts.length), (9, .int .i64 a.1)], []⟩) (fun a => ∃ k : Nat, a.1 = k ∧ k ≤ x.parts.length ∧ 1 ≤ a.2 ∧ a.2 + Fm.nodeS (x.parts.drop k) ≤ x.nodes ∧ Fm.capL (x.parts.drop k) a.2 = Fm.capL x.parts 1) (fun a => x.parts.length - a.1.toNat) (0, 1) ⟨0, rfl, Nat.zero_le _, by dsimp only; omega, by rw [List.drop_zero]; dsimp only; omega, rfl⟩ (by simp (disch := omega) only [go_sem, go_cond, Nat.reduceAdd, Nat.reduceSub, Nat.reduceLT, Nat.reduceLeDiff, Nat.reduceEqDiff, Nat.reduceBEq, Nat.reduceBneDiff, Nat.reduceMul, ↓reduceIte, Int.reduceToNat, reduceCtorEq, Int.reduceNeg, Int.reduceAdd]) ?_
  rintro ⟨i, n⟩ ⟨k, hi, hk, hn0, hn1, hs⟩
  dsimp only at hi hn0 hn1 hs
  have hni : i.toNat = k := by omega
  rcases Nat.lt_or_ge k x.parts.length with hlt | hge
  · have hg := get_at Fm.d hlt
    rw [Fm.d_eq] at hg
    have hd : x.parts.drop k = x.parts[k] :: x.parts.drop (k + 1) := List.drop_eq_getElem_cons hlt
    have hc := ih x.parts[k] (List.getElem_mem hlt)
    have hp := Fm.cap_spec x.parts[k]
    rw [hd, Fm.capL] at hs
    rw [hd, Fm.nodeS] at hn1
    rcases Int.lt_or_le 40 n with h30 | h30
    · rw [if_pos h30] at hs
      simp (disch := omega) only [go_sem, go_cond, Nat.reduceAdd, Nat.reduceSub, Nat.reduceLT, Nat.reduceLeDiff, Nat.reduceEqDiff, Nat.reduceBEq, Nat.reduceBneDiff, Nat.reduceMul, ↓reduceIte, Int.reduceToNat, reduceCtorEq, Int.reduceNeg, Int.reduceAdd, hni, hg, hc, m_impl_sizeOf]
      exact hs
    · rw [if_neg (by omega)] at hs
      simp (disch := omega) only [go_sem, go_cond, Nat.reduceAdd, Nat.reduceSub, Nat.reduceLT, Nat.reduceLeDiff, Nat.reduceEqDiff, Nat.reduceBEq, Nat.reduceBneDiff, Nat.reduceMul, ↓reduceIte, Int.reduceToNat, reduceCtorEq, Int.reduceNeg, Int.reduceAdd, hni, hg, hc, m_impl_sizeOf]
      refine ⟨(i + 1, n + x.parts[k].cap), ⟨k + 1, by dsimp only; omega, hlt, by dsimp only; omega, by dsimp only; omega, hs⟩, by dsimp only; omega, ?_⟩
      simp only [and_self]
  · have hd : x.parts.drop k = [] := List.drop_eq_nil_of_le hge
    rw [hd, Fm.capL] at hs
    simp (disch := omega) only [go_sem, go_cond, Nat.reduceAdd, Nat.reduceSub, Nat.reduceLT, Nat.reduceLeDiff, Nat.reduceEqDiff, Nat.reduceBEq, Nat.reduceBneDiff, Nat.reduceMul, ↓reduceIte, Int.reduceToNat, reduceCtorEq, Int.reduceNeg, Int.reduceAdd, hni]
    exact hs
theorem sizeF_E (x : Fm) (hn : x.nodes ≤ 1099511627776) : E 58 [x.sv] [] = some (.int .i64 x.cap, []) :=
  sizeF_of x hn fun y hy => sizeF_E y (by have := Fm.nodes_mem hy; have := Fm.nodes_eq x; omega)
termination_by SizeOf.sizeOf x
decreasing_by exact Fm.lt_of_mem hy

def c_spec_l8Many : SC := (.seq (.reg [⟨(some 2), none, (.boxv 34 5 (.t 0))⟩, ⟨(some 4), none, (.mv (.c (.int .i64 0)))⟩]) (.seq (.reg [⟨(some 5), none, (.mv (.c (.int .i64 1)))⟩]) (.seq (.seq (.reg [⟨(some 6), none, (.mv (.c (.int .i64 0)))⟩]) (.block 0 (.loop [0, 1, 1, 0, 0, 1, 1, 0, 0, 0, 0, 0, 0, 0, 0, 0, 0, 0, 0, 0, 0, 0, 0, 0, 0, 0, 0, 0, 0, 0, 0] (.seq (.seq (.reg [⟨(some 7), none, (.mv (.t 6))⟩, ⟨(some 8), none, (.faddr 4 (.t 2))⟩, ⟨(some 9), none, (.load false 1 (.t 8))⟩, ⟨(some 10), none, (.len false (.t 9))⟩, ⟨(some 11), none, (.bin .lss false (.t 7) (.t 10))⟩, ⟨(some 12), none, (.mv (.t 11))⟩, ⟨(some 13), (some (12, true)), (.mv (.t 5))⟩, ⟨(some 14), (some (12, true)), (.mv (.t 1))⟩, ⟨(some 15), (some (12, true)), (.bin .leq false (.t 13) (.t 14))⟩, ⟨(some 16), none, (.pick (.t 12) (.t 15) (.c (.bool false)))⟩]) (.cond (.t 16) .skip (.exit 0))) (.seq (.block 1 (.reg [⟨(some 19), none, (.mv (.t 5))⟩, ⟨(some 20), none, (.faddr 4 (.t 2))⟩, ⟨(some 21), none, (.load false 1 (.t 20))⟩, ⟨(some 22), none, (.mv (.t 6))⟩, ⟨(some 23), none, (.iaddr 5 (.t 21) (.t 22))⟩, ⟨(some 24), none, (.load true 5 (.t 23))⟩, ⟨(some 25), none, (.mv (.t 1))⟩, ⟨(some 26), none, (.mv (.t 5))⟩, ⟨(some 27), none, (.bin .sub false (.t 25) (.t 26))⟩, ⟨(some 28), none, (.call 54 [(.t 24), (.t 27)])⟩, ⟨(some 29), none, (.bin .add false (.t 19) (.t 28))⟩, ⟨(some 5), none, (.mv (.t 29))⟩])) (.reg [⟨(some 17), none, (.mv (.t 6))⟩, ⟨(some 18), none, (.bin .add false (.t 17) (.c (.int .i64 1)))⟩, ⟨(some 6), none, (.mv (.t 18))⟩])))))) (.seq (.reg [⟨(some 30), none, (.mv (.t 5))⟩, ⟨(some 4), none, (.mv (.t 30))⟩]) .ret))))
theorem k_spec_l8Many : codeOf Tryz.prog 54 = some ⟨31, c_spec_l8Many, [(.tmp 4)]⟩ := by kernel_rfl
theorem m_spec_l8Many : modes 54 = ⟨[], .asis, none, false⟩ := by unfold modes; rfl

set_option maxHeartbeats 1000000 in
theorem manyF_of (x : Fm) (m : Int) (hm : 0 ≤ m) (hm1 : m ≤ 1099511627776) (hn : x.nodes ≤ 1099511627776) (ih : ∀ y ∈ x.parts, ∀ m : Int, 0 ≤ m → m ≤ 1099511627776 → E 54 [y.sv, .int .i64 m] [] = some (.int .i64 (y.many m), [])) : E 54 [x.sv, .int .i64 m] [] = some (.int .i64 (x.many m), []) := by
  have hl := Fm.length_le x.parts
  have hx := Fm.nodes_eq x
  rw [Fm.many_eq]
  refine E_walk k_spec_l8Many m_spec_l8Many (of_decide_eq_true rfl) ?_
  simp (disch := omega) only [c_spec_l8Many, go_sem, go_cond, Nat.reduceAdd, Nat.reduceSub, Nat.reduceLT, Nat.reduceLeDiff, Nat.reduceEqDiff, Nat.reduceBEq, Nat.reduceBneDiff, Nat.reduceMul, ↓reduceIte, Int.reduceToNat, reduceCtorEq, Int.reduceNeg, Int.reduceAdd]
  refine go_loop (α := Int × Int) (fun a => ⟨slots 31 0 [(1, .int .i64 m), (2, .ptr 0 0), (5, .int .i64 a.2), (6, .int .i64 a.1)], [.box 34 [.int .i64 x.op, .str x.atom.name, .arr (x.atom.args.map Tm.d), .str x.var, .arr (x.parts.map Fm.d)]]⟩) (fun a => ∃ k : Nat, a.1 = k ∧ k ≤ x.parts.length ∧ 1 ≤ a.2 ∧ a.2 + Fm.nodeS (x.parts.drop k) ≤ x.nodes ∧ Fm.manyL (x.parts.drop k) m a.2 = Fm.manyL x.parts m 1) (fun a => x.parts.length - a.1.toNat) (0, 1) ⟨0, rfl, Nat.zero_le _, by dsimp only; omega, by rw [List.drop_zero]; dsimp only; omega, rfl⟩ (by simp (disch := omega) only [go_sem, go_cond, Nat.reduceAdd, Nat.reduceSub, Nat.reduceLT, Nat.reduceLeDiff, Nat.reduceEqDiff, Nat.reduceBEq, Nat.reduceBneDiff, Nat.reduceMul, ↓reduceIte, Int.reduceToNat, reduceCtorEq, Int.reduceNeg, Int.reduceAdd]) ?_
  rintro ⟨i, n⟩ ⟨k, hi, hk, hn0, hn1, hs⟩
  dsimp only at hi hn0 hn1 hs
  have hni : i.toNat = k := by omega
  rcases Nat.lt_or_ge k x.parts.length with hlt | hge
  · have hg := get_at Fm.d hlt
    rw [Fm.d_eq] at hg
    have hd : x.parts.drop k = x.parts[k] :: x.parts.drop (k + 1) := List.drop_eq_getElem_cons hlt
    rw [hd, Fm.manyL] at hs
    rw [hd, Fm.nodeS] at hn1
    rcases Int.lt_or_le m n with h30 | h30
    · rw [if_neg (by omega)] at hs
      simp (disch := omega) only [go_sem, go_cond, Nat.reduceAdd, Nat.reduceSub, Nat.reduceLT, Nat.reduceLeDiff, Nat.reduceEqDiff, Nat.reduceBEq, Nat.reduceBneDiff, Nat.reduceMul, ↓reduceIte, Int.reduceToNat, reduceCtorEq, Int.reduceNeg, Int.reduceAdd, hni, hg, m_spec_l8Many]
      exact hs
    · rw [if_pos h30] at hs
      have hc := ih x.parts[k] (List.getElem_mem hlt) (m - n) (by omega) (by omega)
      have hp := Fm.many_spec x.parts[k] (m - n)
      simp (disch := omega) only [go_sem, go_cond, Nat.reduceAdd, Nat.reduceSub, Nat.reduceLT, Nat.reduceLeDiff, Nat.reduceEqDiff, Nat.reduceBEq, Nat.reduceBneDiff, Nat.reduceMul, ↓reduceIte, Int.reduceToNat, reduceCtorEq, Int.reduceNeg, Int.reduceAdd, hni, hg, hc, m_spec_l8Many]
      refine ⟨(i + 1, n + x.parts[k].many (m - n)), ⟨k + 1, by dsimp only; omega, hlt, by dsimp only; omega, by dsimp only; omega, hs⟩, by dsimp only; omega, ?_⟩
      simp only [and_self]
  · have hd : x.parts.drop k = [] := List.drop_eq_nil_of_le hge
    rw [hd, Fm.manyL] at hs
    simp (disch := omega) only [go_sem, go_cond, Nat.reduceAdd, Nat.reduceSub, Nat.reduceLT, Nat.reduceLeDiff, Nat.reduceEqDiff, Nat.reduceBEq, Nat.reduceBneDiff, Nat.reduceMul, ↓reduceIte, Int.reduceToNat, reduceCtorEq, Int.reduceNeg, Int.reduceAdd, hni]
    exact hs
theorem manyF_E (x : Fm) (m : Int) (hm : 0 ≤ m) (hm1 : m ≤ 1099511627776) (hn : x.nodes ≤ 1099511627776) : E 54 [x.sv, .int .i64 m] [] = some (.int .i64 (x.many m), []) :=
  manyF_of x m hm hm1 hn fun y hy m hm hm1 => manyF_E y m hm hm1 (by have := Fm.nodes_mem hy; have := Fm.nodes_eq x; omega)
termination_by SizeOf.sizeOf x
decreasing_by exact Fm.lt_of_mem hy
end Go.Proofs.YtjgnhifkcgpmjaaGreat
