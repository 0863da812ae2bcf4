/-
  This text holds small words for contracts: how a call ends, and searches in lists. No condition.
-/
import Derived.Test.YtpbakldlhjdipaaFlow
import Derived.WalkSpells
import Derived.WalkLawsBesides
import Derived.Outline
import Derived.Lib.Hide
import Derived.Deep.Light
set_option maxRecDepth 100000
set_option linter.unusedSimpArgs false
set_option linter.unusedVariables false
namespace Go.Proofs.Ytpbakldlhjdipaa
open Go.RowKit

/-- The call returns v and leaves what was there alone. -/
def Ret (w : World) (v : Value) (e : Ending) (w' : World) : Prop := e = .returned v ∧ Below w.heap.size w w'
theorem Ret.same (w : World) {v u : Value} (h : u = v) : Ret w v (.returned u) w := ⟨by rw [h], Below.refl _ _⟩
theorem Ret.bel {w w' : World} {v u : Value} (h : u = v) (hb : Below w.heap.size w w') : Ret w v (.returned u) w' := ⟨by rw [h], hb⟩
theorem Ret.mono {P : Program} {f : FuncId} {args : Array Value} {w : World} {u v : Value} (h : Calls P f args w (Ret w u)) (e : u = v) : Calls P f args w (Ret w v) := e ▸ h

/-- The call returns v and computes only. -/
def Same (w : World) (v : Value) (e : Ending) (w' : World) : Prop := e = .returned v ∧ w = w'
theorem Same.mk' (w : World) {v u : Value} (h : u = v) : Same w v (.returned u) w := ⟨by rw [h], rfl⟩
theorem Same.ret {P : Program} {f : FuncId} {args : Array Value} {w : World} {v : Value} (h : Calls P f args w (Same w v)) : Calls P f args w (Ret w v) :=
  h.mono fun _ _ ⟨he, hw⟩ => ⟨he, hw ▸ Below.refl _ _⟩

theorem bcell {w w1 : World} {B : Nat} (hb : Below B w w1) : (∀ b o, b < B → w1.cell? ⟨b, o, none⟩ = w.cell? ⟨b, o, none⟩) ∧ (∀ b o, b < B → w1.frozen? ⟨b, o, none⟩ = w.frozen? ⟨b, o, none⟩) :=
  ⟨fun b o h => hb.cell (p := ⟨b, o, none⟩) h, fun b o h => hb.frozen (p := ⟨b, o, none⟩) h⟩

theorem Below.of_trans {a b c : World} (h : Below a.heap.size a b) (k : Below b.heap.size b c) : Below a.heap.size a c := h.trans (k.mono h.size)

theorem Below.via {B C : Nat} {a b c : World} (h : Below B a b) (k : Below C b c) (hC : B ≤ C) : Below B a c := h.trans (k.mono hC)
theorem Below.drewN' {B : Nat} {a w : World} (h : Below B a w) (n : Nat) : Below B a (w.drewN n) := ⟨h.os, h.tape, h.output, h.size, h.block⟩

/-- For a flow's call: a contract with the very result. -/
theorem flow_ret {P : Program} {o : Oper} {a : Act} {W : World} {v : Value} {f : FuncId} {args : Array Value} (hr : (execOp a.eval o).run P W = .ok (.enter f args) W) (h : Calls P f args W (Ret W v)) : Flow.relAt P o a (fun u _ => u = v) W := by
  unfold Flow.relAt Flow.relUpon
  rw [hr]
  exact ⟨rfl, h.mono fun e w' ⟨he, hb⟩ => ⟨v, he, hb, rfl⟩⟩

/-- For a flow's call: a contract whose result is told by a fact. -/
theorem flow_tell {P : Program} {o : Oper} {a : Act} {W : World} {F : Value → World → Prop} {f : FuncId} {args : Array Value} (hr : (execOp a.eval o).run P W = .ok (.enter f args) W) (h : Calls P f args W (fun e w' => ∃ v, e = .returned v ∧ Below W.heap.size W w' ∧ F v w')) : Flow.relAt P o a F W := by
  unfold Flow.relAt Flow.relUpon
  rw [hr]
  exact ⟨rfl, h⟩

theorem no_rels {ks : List (Nat × Flow.Kind)} (h : ∀ r F, Flow.kindOf ks r ≠ .told F) : ∀ r v (w w' : World), Flow.factOf ks r v w → Below w.heap.size w w' → Flow.factOf ks r v w' := by
  intro r v w w' _ _
  unfold Flow.factOf
  split
  · rename_i F hF; exact absurd hF (h r F)
  · trivial

/-- All kinds in the list are calls with their very result. -/
def allExact : List (Nat × Flow.Kind) → Bool
  | [] => true
  | (_, .told _) :: _ => false
  | _ :: r => allExact r
theorem exact_stable {ks : List (Nat × Flow.Kind)} (h : allExact ks = true) : ∀ r v (w w' : World), Flow.factOf ks r v w → Below w.heap.size w w' → Flow.factOf ks r v w' := by
  refine no_rels ?_
  induction ks with
  | nil => intro r F hF; cases hF
  | cons p rest ih =>
    obtain ⟨k, x⟩ := p
    intro r F hF
    unfold Flow.kindOf at hF
    cases x with
    | told G => simp [allExact] at h
    | quiet => simp only [allExact] at h; split at hF; · cases hF
               · exact ih h r F hF
    | fixed u => simp only [allExact] at h; split at hF; · cases hF
                 · exact ih h r F hF

/-! Searches: the first place at which a Bool function says yes, or -1. -/
def findZ (p : Nat → Bool) : Nat → Nat → Int
  | 0, _ => -1
  | n + 1, k => if p k then k else findZ p n (k + 1)
def idxZ (p : Nat → Bool) (n : Nat) : Int := findZ p n 0
theorem findZ_skip {p : Nat → Bool} : ∀ (m n k : Nat), (∀ j, k ≤ j → j < k + m → p j = false) → findZ p (m + n) k = findZ p n (k + m)
  | 0, n, k, _ => by simp
  | m + 1, n, k, h => by
    rw [show m + 1 + n = (m + n) + 1 by omega]
    show (if p k then (k : Int) else findZ p (m + n) (k + 1)) = _
    rw [if_neg (by rw [h k (by omega) (by omega)]; simp), findZ_skip m n (k + 1) (fun j h1 h2 => h j (by omega) (by omega)), show k + 1 + m = k + (m + 1) by omega]
theorem idxZ_hit {p : Nat → Bool} {n k : Nat} (hk : k < n) (h : ∀ j, j < k → p j = false) (hp : p k = true) : idxZ p n = k := by
  unfold idxZ
  rw [show n = k + ((n - k - 1) + 1) by omega, findZ_skip k _ 0 (fun j _ h2 => h j (by omega))]
  unfold findZ
  rw [if_pos (by simpa using hp)]
  simp
theorem idxZ_miss {p : Nat → Bool} {n : Nat} (h : ∀ j, j < n → p j = false) : idxZ p n = -1 := by
  unfold idxZ
  have := findZ_skip n 0 0 (fun j _ h2 => h j (by omega))
  rw [Nat.add_zero] at this
  rw [this]; rfl
/-- Some place below n says yes. -/
def anyB (p : Nat → Bool) (n : Nat) : Bool := (List.range n).any p
theorem idxZ_ge {p : Nat → Bool} {n : Nat} : decide (0 ≤ idxZ p n) = anyB p n := by
  unfold anyB
  by_cases hx : ∃ k, k < n ∧ p k = true
  · obtain ⟨k, hk, hmin⟩ : ∃ k, (k < n ∧ p k = true) ∧ ∀ j, j < k → ¬ (j < n ∧ p j = true) := by
      obtain ⟨k, hk⟩ := hx
      induction k using Nat.strongRecOn with
      | _ k ih =>
        by_cases hq : ∃ j, j < k ∧ (j < n ∧ p j = true)
        · obtain ⟨j, hj, hj2⟩ := hq; exact ih j hj hj2
        · exact ⟨k, hk, fun j hj h2 => hq ⟨j, hj, h2⟩⟩
    have e : idxZ p n = k := idxZ_hit hk.1 (fun j hj => by
      cases hpj : p j
      · rfl
      · exact absurd ⟨by omega, hpj⟩ (hmin j hj)) hk.2
    rw [e]
    have : (List.range n).any p = true := List.any_eq_true.2 ⟨k, List.mem_range.2 hk.1, hk.2⟩
    rw [this]
    simp
  · have e : idxZ p n = -1 := idxZ_miss fun j hj => by
      cases hpj : p j
      · rfl
      · exact absurd ⟨j, hj, hpj⟩ hx
    rw [e]
    have : (List.range n).any p = false := by
      rw [List.any_eq_false]
      intro j hj
      intro hp
      exact hx ⟨j, List.mem_range.1 hj, hp⟩
    rw [this]
    rfl

/-- All places below n say yes. -/
def allB (p : Nat → Bool) (n : Nat) : Bool := (List.range n).all p
theorem allB_succ {p : Nat → Bool} {k : Nat} : allB p (k + 1) = (allB p k && p k) := by
  unfold allB
  rw [List.range_succ, List.all_append]
  simp
theorem allB_next {p : Nat → Bool} {k : Nat} (h : allB p k = true) (hk : p k = true) : allB p (k + 1) = true := by rw [allB_succ, h, hk]; rfl
theorem allB_mono {p : Nat → Bool} {k n : Nat} (h : allB p k = false) (hn : k ≤ n) : allB p n = false := by
  induction n with
  | zero => have : k = 0 := by omega
            subst this; exact h
  | succ n ih =>
    by_cases hk : k = n + 1
    · subst hk; exact h
    · rw [allB_succ, ih (by omega)]; rfl
theorem allB_stop {p : Nat → Bool} {k n : Nat} (hk : k < n) (h : p k = false) : allB p n = false := allB_mono (k := k + 1) (by rw [allB_succ, h]; simp) (by omega)
theorem allB_at {p : Nat → Bool} {k n : Nat} (h : allB p n = true) (hk : k < n) : p k = true := by
  cases hp : p k
  · rw [allB_stop hk hp] at h; cases h
  · rfl

/-- A loop's counter over a world that stays. -/
def Cnt (w : World) (n : Nat) (R : Nat → Prop) (i : Value) (wr : World) : Prop := ∃ k : Nat, k ≤ n ∧ i = .int .i64 k ∧ R k ∧ w = wr
/-- A loop's counter over a world that grows. -/
def CntB (w : World) (n : Nat) (R : Nat → World → Prop) (i : Value) (wr : World) : Prop := ∃ k : Nat, k ≤ n ∧ i = .int .i64 k ∧ R k wr ∧ Below w.heap.size w wr
theorem intOf_lt {n k : Nat} (h : k < n) : n - (intOf (.int .i64 ((k : Int) + 1))).toNat < n - (intOf (.int .i64 (k : Int))).toNat := by simp [intOf]; omega
theorem all_lt_succ {k : Nat} {R : Nat → Prop} (h : ∀ j, j < k → R j) (hk : R k) : ∀ j, j < k + 1 → R j := fun j hj => by
  rcases Nat.lt_or_ge j k with h1 | h1
  · exact h j h1
  · obtain rfl : j = k := by omega
    exact hk
end Go.Proofs.Ytpbakldlhjdipaa
