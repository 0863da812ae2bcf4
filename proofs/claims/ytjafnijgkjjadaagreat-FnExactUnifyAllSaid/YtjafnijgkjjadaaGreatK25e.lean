/-
  This text holds, one behind the other: This text holds the plain laws of unification: what the steps do, and that they end. No condition.
  This text tells what the equality of terms answers in both packages. No condition.
  This text tells what the steps of unification answer in both packages. No condition.
  This text says how equations lie in memory. No condition.
-/
import Derived.Test.YtjafnijgkjjadaaGreatK25c
import Derived.Test.YtjafnijgkjjadaaGreatK25d
set_option maxRecDepth 100000
set_option linter.unusedSimpArgs false
set_option linter.unusedVariables false
namespace Go.Proofs.YtjafnijgkjjadaaGreat
open Go.RowKit

/-! What a substitution binds. -/
theorem Sb.look_mem {s : Sb} {n : ByteArray} {t : Tm} (h : s.look n = some t) : (⟨n, t⟩ : Bd) ∈ s.binds := by
  cases hh : hitB s.binds n with
  | false => rw [Sb.look_no hh] at h; cases h
  | true =>
    have hlt := hitB_lt hh
    rw [Sb.look_yes hh hlt] at h
    obtain rfl := Option.some.inj h
    have e := hitB_eq hh hlt
    have h1 := List.getElem_mem hlt
    have h2 : ∀ c : Bd, c.var = n → (⟨n, c.term⟩ : Bd) = c := fun c e => by rw [← e]
    rw [h2 _ e]; exact h1
theorem Sb.look_none {s : Sb} (hs : bdUp s.binds) {n : ByteArray} : s.look n = none ↔ ∀ b ∈ s.binds, b.var ≠ n := by
  cases hh : hitB s.binds n with
  | false =>
    rw [Sb.look_no hh]
    refine ⟨fun _ b hb e => ?_, fun _ => rfl⟩
    rw [hitB_any hs] at hh
    exact List.any_eq_false.1 hh b hb (dec_t e)
  | true =>
    have hlt := hitB_lt hh
    rw [Sb.look_yes hh hlt]
    exact ⟨fun h => (by cases h), fun h => absurd (hitB_eq hh hlt) (h _ (List.getElem_mem hlt))⟩
theorem Sb.look_of_mem {s : Sb} (hs : bdUp s.binds) {b : Bd} (h : b ∈ s.binds) : s.look b.var = some b.term := by
  cases hq : s.look b.var with
  | none => exact absurd rfl ((Sb.look_none hs).1 hq b h)
  | some t =>
    have h2 := Sb.look_mem hq
    obtain ⟨i, hi, e1⟩ := List.getElem_of_mem h
    obtain ⟨j, hj, e2⟩ := List.getElem_of_mem h2
    have hij : i = j := (List.getElem_inj (h₀ := by simpa using hi) (h₁ := by simpa using hj) (bdUp_nodup hs)).1 (by simp only [List.getElem_map, e1, e2])
    subst hij
    rw [e1] at e2
    rw [e2]
/-! Variables of what is applied. -/
theorem Tm.vsL_mem {v : ByteArray} : ∀ {xs : List Tm}, v ∈ Tm.vsL xs ↔ ∃ x ∈ xs, v ∈ x.vs
  | [] => by simp [Tm.vsL]
  | x :: xs => by rw [Tm.vsL, List.mem_append, Tm.vsL_mem (xs := xs)]; simp
theorem Tm.ap_vs {f : ByteArray → Option Tm} (x : Tm) {v : ByteArray} (h : v ∈ (x.ap f).vs) : (v ∈ x.vs ∧ f v = none) ∨ ∃ w ∈ x.vs, ∃ t, f w = some t ∧ v ∈ t.vs := by
  rw [Tm.ap_eq] at h
  by_cases hv : varB x.name = true
  · rw [if_pos hv] at h
    have hx : x.vs = [x.name] := by rw [Tm.vs_eq, hv]; rfl
    cases hq : f x.name with
    | none =>
      rw [hq, Option.getD_none, Tm.vs_eq] at h
      have h : v ∈ (bif varB x.name then [x.name] else _) := h
      rw [hv, cond_true] at h
      have e : v = x.name := by simpa using h
      subst e
      exact .inl ⟨by rw [hx]; simp, hq⟩
    | some t =>
      rw [hq, Option.getD_some] at h
      exact .inr ⟨x.name, by rw [hx]; simp, t, hq, h⟩
  · rw [if_neg hv] at h
    have hv0 : varB x.name = false := by simpa using hv
    have hx : x.vs = Tm.vsL x.args := by rw [Tm.vs_eq, hv0]; rfl
    rw [Tm.vs_eq] at h
    have h : v ∈ (bif varB x.name then [x.name] else Tm.vsL (Tm.apL f x.args)) := h
    rw [hv0, cond_false, Tm.apL_map, Tm.vsL_mem] at h
    obtain ⟨z, hz, hvz⟩ := h
    obtain ⟨y, hy, rfl⟩ := List.mem_map.1 hz
    rw [hx]
    rcases Tm.ap_vs y hvz with ⟨h1, h2⟩ | ⟨w, h1, t, h2, h3⟩
    · exact .inl ⟨Tm.vsL_mem.2 ⟨y, hy, h1⟩, h2⟩
    · exact .inr ⟨w, Tm.vsL_mem.2 ⟨y, hy, h1⟩, t, h2, h3⟩
termination_by SizeOf.sizeOf x
decreasing_by exact Tm.lt_of_mem hy
theorem map_same {α : Type} {g : α → α} : ∀ {xs : List α}, (∀ x ∈ xs, g x = x) → xs.map g = xs
  | [], _ => rfl
  | x :: xs, h => by rw [List.map_cons, h x (by simp), map_same fun y hy => h y (by simp [hy])]
theorem Tm.mk_eta (x : Tm) : Tm.mk x.name x.args = x := by obtain ⟨n, a⟩ := x; rfl
theorem Tm.ap_same {f : ByteArray → Option Tm} (x : Tm) (hx : x.names = true) (h : ∀ v ∈ x.vs, f v = none) : x.ap f = x := by
  rw [Tm.ap_eq]
  by_cases hv : varB x.name = true
  · have hx0 := Tm.names_var hx hv
    rw [if_pos hv, h x.name (by rw [Tm.vs_eq, hv]; simp), Option.getD_none]
    conv => rhs; rw [← Tm.mk_eta x, hx0]
  · have hv0 : varB x.name = false := by simpa using hv
    rw [if_neg hv, Tm.apL_map, map_same fun y hy => Tm.ap_same y (Tm.names_arg hx hy) fun v hvv => h v (by
      rw [Tm.vs_eq, hv0, cond_false]
      exact Tm.vsL_mem.2 ⟨y, hy, hvv⟩), Tm.mk_eta]
termination_by SizeOf.sizeOf x
decreasing_by exact Tm.lt_of_mem hy
theorem Tm.ap_same' {f : ByteArray → Option Tm} (x : Tm) (hx : x.expr = true) (h : ∀ v ∈ x.vs, f v = none) : x.ap f = x := by
  by_cases hv : varB x.name = true
  · rw [Tm.ap_eq, if_pos hv, h x.name (by rw [Tm.vs_eq, hv]; simp), Option.getD_none]
    conv => rhs; rw [← Tm.mk_eta x, Tm.expr_var hx hv]
  · have hv0 : varB x.name = false := by simpa using hv
    rw [Tm.ap_eq, if_neg hv, Tm.apL_map, map_same fun y hy => Tm.ap_same y (Tm.expr_arg hx hy) fun v hvv => h v (by
      rw [Tm.vs_eq, hv0, cond_false]
      exact Tm.vsL_mem.2 ⟨y, hy, hvv⟩), Tm.mk_eta]
/-- No variable that is bound stands in what is bound. -/
def Sb.idem (s : Sb) : Prop := ∀ w t, s.look w = some t → ∀ v ∈ t.vs, s.look v = none
theorem Sb.idem_vs {s : Sb} (hi : s.idem) {x : Tm} {v : ByteArray} (h : v ∈ (x.ap s.look).vs) : s.look v = none := by
  rcases Tm.ap_vs x h with ⟨_, h2⟩ | ⟨w, _, t, h2, h3⟩
  · exact h2
  · exact hi w t h2 v h3
theorem Tm.expr_sub {x y : Tm} (hx : x.expr = true) (hy : y ∈ x.args) : y.expr = true := by
  have h1 := Tm.expr_small hx
  have h2 := Tm.expr_arg hx hy
  unfold Tm.small at h1
  rw [Bool.and_eq_true, decide_eq_true_eq, decide_eq_true_eq] at h1
  have n1 := Tm.nodes_mem hy
  have n2 := Tm.nodes_eq x
  have d2 := Tm.deep_eq x
  have d1 : y.deep ≤ Tm.deepS x.args := by
    have key : ∀ xs : List Tm, y ∈ xs → y.deep ≤ Tm.deepS xs := by
      intro xs
      induction xs with
      | nil => intro h; cases h
      | cons z zs ih =>
        intro h
        rw [Tm.deepS]
        rcases List.mem_cons.1 h with rfl | h
        · exact Nat.le_max_left _ _
        · exact Nat.le_trans (ih h) (Nat.le_max_right _ _)
    exact key _ hy
  unfold Tm.expr Tm.valid Tm.small
  rw [h2, decide_eq_true (by omega), decide_eq_true (by omega)]; rfl
/-! The steps. -/
/-- The binding for an equation of which a side is a variable. -/
noncomputable def bndOf (x y : Tm) : Bd := bif varB x.name && !(varB y.name && strLt x.name y.name) then ⟨x.name, y⟩ else ⟨y.name, x⟩
noncomputable def bndOk (b : Bd) : Bool := !dec (b.var ∈ b.term.vs) && (Sb.mk [b]).ok
noncomputable def uRun : Nat → Sb → List (Tm × Tm) → Option (Option Sb)
  | 0, _, _ => none
  | n + 1, s, l => match l with
    | [] => some (some s)
    | p :: l => bif apOk s p.1 && apOk s p.2 then
        (bif dec (apTo s p.1 = apTo s p.2) then uRun n s l
        else bif varB (apTo s p.1).name || varB (apTo s p.2).name then
          (bif bndOk (bndOf (apTo s p.1) (apTo s p.2)) && cmpOk s ⟨[bndOf (apTo s p.1) (apTo s p.2)]⟩ then uRun n (cmpS s ⟨[bndOf (apTo s p.1) (apTo s p.2)]⟩) l else some none)
        else bif dec ((apTo s p.1).name = (apTo s p.2).name) && dec ((apTo s p.1).args.length = (apTo s p.2).args.length) then uRun n s ((apTo s p.1).args.zip (apTo s p.2).args ++ l)
        else some none)
      else some none
def fstN : List (Tm × Tm) → Nat
  | [] => 0
  | p :: l => p.1.nodes + fstN l
structure uInv (s : Sb) (l : List (Tm × Tm)) : Prop where
  ok : s.ok = true
  idem : s.idem
  ex : ∀ p ∈ l, p.1.expr = true ∧ p.2.expr = true
  pq : ∃ P Q, l = P ++ Q ∧ (∀ p ∈ P, p.1.ap s.look = p.1) ∧ fstN P ≤ 30 ∧ Q.length ≤ 1 + 30 * s.binds.length
theorem fstN_len : ∀ P : List (Tm × Tm), P.length ≤ fstN P
  | [] => Nat.le_refl _
  | p :: P => by
    have h1 := fstN_len P
    have h2 := Tm.nodes_pos p.1
    rw [fstN, List.length_cons]; omega
theorem uInv.len {s : Sb} {l : List (Tm × Tm)} (h : uInv s l) : l.length ≤ 391 := by
  obtain ⟨P, Q, rfl, _, h2, h3⟩ := h.pq
  have h1 := fstN_len P
  have h4 := ok_len h.ok
  rw [List.length_append]; omega
theorem uInv.pop {s : Sb} {p : Tm × Tm} {l : List (Tm × Tm)} (h : uInv s (p :: l)) : uInv s l := by
  refine ⟨h.ok, h.idem, fun q hq => h.ex q (by simp [hq]), ?_⟩
  obtain ⟨P, Q, e, h1, h2, h3⟩ := h.pq
  cases P with
  | nil =>
    cases Q with
    | nil => cases e
    | cons q Q =>
      simp only [List.nil_append, List.cons.injEq] at e
      exact ⟨[], Q, e.2, fun _ h => by simp at h, by rw [fstN]; omega, by simp only [List.length_cons] at h3; omega⟩
  | cons q P =>
    simp only [List.cons_append, List.cons.injEq] at e
    rw [fstN] at h2
    exact ⟨P, Q, e.2, fun z hz => h1 z (by simp [hz]), by omega, h3⟩
theorem fstN_zip : ∀ (xs ys : List Tm), fstN (xs.zip ys) ≤ Tm.nodeS xs
  | [], ys => by simp [fstN]
  | x :: xs, [] => by simp [fstN]
  | x :: xs, y :: ys => by
    have h := fstN_zip xs ys
    rw [List.zip_cons_cons, fstN, Tm.nodeS]
    show x.nodes + _ ≤ _
    omega
theorem fstN_app : ∀ (a b : List (Tm × Tm)), fstN (a ++ b) = fstN a + fstN b
  | [], b => by simp [fstN]
  | p :: a, b => by rw [List.cons_append, fstN, fstN, fstN_app a b]; omega
theorem apOk_ex {s : Sb} {x : Tm} (h : apOk s x = true) : (apTo s x).expr = true := by
  rw [apTo_yes h]
  unfold apOk at h
  rw [Bool.and_eq_true, Bool.and_eq_true] at h
  have h2 : (x.ap s.look).expr = (x.ap s.look).small := Tm.ap_any (Sb.look_okF h.1) x h.2.1
  rw [h2]; exact h.2.2
theorem mem_zip {α β : Type} {a : α} {b : β} : ∀ {xs : List α} {ys : List β}, (a, b) ∈ xs.zip ys → a ∈ xs ∧ b ∈ ys
  | [], ys, h => by simp at h
  | x :: xs, [], h => by simp at h
  | x :: xs, y :: ys, h => by
    rw [List.zip_cons_cons] at h
    rcases List.mem_cons.1 h with h | h
    · simp only [Prod.mk.injEq] at h; exact ⟨by rw [h.1]; simp, by rw [h.2]; simp⟩
    · obtain ⟨h1, h2⟩ := mem_zip h; exact ⟨by simp [h1], by simp [h2]⟩
/-- The arguments of what is applied are left alone. -/
theorem args_same {s : Sb} (hi : s.idem) {x : Tm} (hx : apOk s x = true) (hv : varB (apTo s x).name = false) {y : Tm} (hy : y ∈ (apTo s x).args) : y.ap s.look = y := by
  have he := apOk_ex hx
  refine Tm.ap_same y (Tm.expr_arg he hy) fun v hvv => ?_
  have h1 : v ∈ (apTo s x).vs := by
    rw [Tm.vs_eq, hv, cond_false]
    exact Tm.vsL_mem.2 ⟨y, hy, hvv⟩
  rw [apTo_yes hx] at h1
  exact Sb.idem_vs hi h1
theorem uInv.dec {s : Sb} {p : Tm × Tm} {l : List (Tm × Tm)} (h : uInv s (p :: l)) (h1 : apOk s p.1 = true) (h2 : apOk s p.2 = true) (hv : varB (apTo s p.1).name = false) : uInv s ((apTo s p.1).args.zip (apTo s p.2).args ++ l) := by
  have e1 := apOk_ex h1
  have e2 := apOk_ex h2
  have hn := Tm.expr_nodes e1
  have hn2 := Tm.nodes_eq (apTo s p.1)
  have hz := fstN_zip (apTo s p.1).args (apTo s p.2).args
  refine ⟨h.ok, h.idem, fun q hq => ?_, ?_⟩
  · rcases List.mem_append.1 hq with hq | hq
    · obtain ⟨a, b⟩ := q
      obtain ⟨k1, k2⟩ := mem_zip hq
      exact ⟨Tm.expr_sub e1 k1, Tm.expr_sub e2 k2⟩
    · exact h.ex q (by simp [hq])
  · obtain ⟨P, Q, e, g1, g2, g3⟩ := h.pq
    have hfix : ∀ q ∈ (apTo s p.1).args.zip (apTo s p.2).args, q.1.ap s.look = q.1 := fun q hq => by
      obtain ⟨a, b⟩ := q
      exact args_same h.idem h1 hv (mem_zip hq).1
    cases P with
    | nil =>
      cases Q with
      | nil => cases e
      | cons q Q =>
        simp only [List.nil_append, List.cons.injEq] at e
        rw [← e.2] at g3
        exact ⟨_, l, rfl, hfix, by omega, by simp only [List.length_cons, e.2] at g3 ⊢; omega⟩
    | cons q P =>
      simp only [List.cons_append, List.cons.injEq] at e
      obtain ⟨rfl, rfl⟩ := e
      rw [fstN] at g2
      have hself : apTo s p.1 = p.1 := by rw [apTo_yes h1]; exact g1 p (by simp)
      refine ⟨(apTo s p.1).args.zip (apTo s p.2).args ++ P, Q, by rw [List.append_assoc], fun q hq => ?_, ?_, g3⟩
      · rcases List.mem_append.1 hq with hq | hq
        · exact hfix q hq
        · exact g1 q (by simp [hq])
      · rw [fstN_app]
        rw [hself] at hn2 hz ⊢
        omega
/-- What a binding comes of. -/
theorem bndOf_cases (x y : Tm) (h : (varB x.name || varB y.name) = true) : (bndOf x y = ⟨x.name, y⟩ ∧ varB x.name = true) ∨ (bndOf x y = ⟨y.name, x⟩ ∧ varB y.name = true) := by
  unfold bndOf
  cases h1 : varB x.name with
  | true =>
    cases h2 : varB y.name with
    | true =>
      cases strLt x.name y.name with
      | true => exact .inr ⟨rfl, rfl⟩
      | false => exact .inl ⟨rfl, rfl⟩
    | false => exact .inl ⟨rfl, rfl⟩
  | false =>
    rw [h1, Bool.false_or] at h
    rw [h]
    exact .inr ⟨rfl, rfl⟩
theorem one_look {b : Bd} (hb : (Sb.mk [b]).ok = true) (n : ByteArray) : (Sb.mk [b]).look n = if b.var = n then some b.term else none := by
  have hup := Sb.ok_up hb
  by_cases h : b.var = n
  · rw [if_pos h, ← h]
    exact Sb.look_of_mem hup (by simp)
  · rw [if_neg h]
    exact (Sb.look_none hup).2 fun c hc => by
      have : c = b := by simpa using hc
      rw [this]; exact h
/-- One more binding. -/
theorem cmp_one {s : Sb} {b : Bd} (hs : s.ok = true) (hi : s.idem) (hb : (Sb.mk [b]).ok = true) (hv : s.look b.var = none) (ht : ∀ v ∈ b.term.vs, s.look v = none) (ho : b.var ∉ b.term.vs) (hc : cmpOk s ⟨[b]⟩ = true) :
    (cmpS s ⟨[b]⟩).binds.length = s.binds.length + 1 ∧ (cmpS s ⟨[b]⟩).idem := by
  have hup := Sb.ok_up hs
  have hcok : (cmpS s ⟨[b]⟩).ok = true := hc
  have hcup := Sb.ok_up hcok
  have hbok : bdOk b = true := Sb.ok_at (x := ⟨[b]⟩) hb (k := 0) (by simp)
  have hone : ∀ c ∈ s.binds, cmpOne ⟨[b]⟩ c = some ⟨c.var, c.term.ap (Sb.mk [b]).look⟩ := fun c hcm => by
    have hcb : bdOk c = true := by
      obtain ⟨k, hk, rfl⟩ := List.getElem_of_mem hcm
      exact Sb.ok_at hs hk
    have hcl := Sb.look_of_mem hup hcm
    have hcv := bdOk_var hcb
    unfold cmpOne
    rw [dec_f, cond_false]
    intro e
    have hne : c.term.name ≠ c.var := by
      unfold bdOk at hcb
      rw [Bool.and_eq_true, Bool.and_eq_true, Bool.not_eq_true'] at hcb
      exact dec_not.1 hcb.2.2
    rw [Tm.ap_eq] at e
    by_cases hv' : varB c.term.name = true
    · rw [if_pos hv', one_look hb] at e
      by_cases hbn : b.var = c.term.name
      · rw [if_pos hbn, Option.getD_some] at e
        have : c.var ∈ b.term.vs := by
          rw [Tm.vs_eq, e, hcv]; simp
        rw [ht _ this] at hcl; cases hcl
      · rw [if_neg hbn, Option.getD_none] at e
        exact hne e
    · rw [if_neg hv'] at e
      exact hne e
  have hl1 : cmpL1 s ⟨[b]⟩ = s.binds.map fun c => ⟨c.var, c.term.ap (Sb.mk [b]).look⟩ := by
    unfold cmpL1
    have key : ∀ xs : List Bd, (∀ c ∈ xs, cmpOne ⟨[b]⟩ c = some ⟨c.var, c.term.ap (Sb.mk [b]).look⟩) → xs.filterMap (cmpOne ⟨[b]⟩) = xs.map fun c => ⟨c.var, c.term.ap (Sb.mk [b]).look⟩ := by
      intro xs
      induction xs with
      | nil => intro _; rfl
      | cons x xs ih => intro h; rw [List.filterMap_cons, h x (by simp), List.map_cons, ih fun c hc => h c (by simp [hc])]
    exact key _ hone
  have hl2 : cmpL2 s ⟨[b]⟩ = [b] := by
    unfold cmpL2
    have hh : hitB s.binds b.var = false := by
      cases hh : hitB s.binds b.var with
      | false => rfl
      | true => rw [Sb.look_yes hh (hitB_lt hh)] at hv; cases hv
    simp [hh]
  have hmem : ∀ c, c ∈ (cmpS s ⟨[b]⟩).binds ↔ (∃ d ∈ s.binds, c = ⟨d.var, d.term.ap (Sb.mk [b]).look⟩) ∨ c = b := fun c => by
    unfold cmpS
    show c ∈ (cmpAll s ⟨[b]⟩).mergeSort bdLe ↔ _
    rw [(List.mergeSort_perm _ _).mem_iff]
    unfold cmpAll
    rw [hl1, hl2, List.mem_append, List.mem_map]
    simp only [List.mem_singleton]
    constructor
    · rintro (⟨d, h1, h2⟩ | h)
      · exact .inl ⟨d, h1, h2.symm⟩
      · exact .inr h
    · rintro (⟨d, h1, h2⟩ | h)
      · exact .inl ⟨d, h1, h2.symm⟩
      · exact .inr h
  refine ⟨?_, fun w t hw v hvt => ?_⟩
  · unfold cmpS
    show ((cmpAll s ⟨[b]⟩).mergeSort bdLe).length = _
    rw [(List.mergeSort_perm _ _).length_eq]
    unfold cmpAll
    rw [hl1, hl2, List.length_append, List.length_map]; rfl
  · have key : v ≠ b.var ∧ s.look v = none := by
      have hterm : ∀ z ∈ b.term.vs, z ≠ b.var ∧ s.look z = none := fun z hz => ⟨fun e => ho (e ▸ hz), ht z hz⟩
      rcases (hmem _).1 (Sb.look_mem hw) with ⟨d, hd, e⟩ | e
      · simp only [Bd.mk.injEq] at e
        obtain ⟨rfl, rfl⟩ := e
        rcases Tm.ap_vs d.term hvt with ⟨k1, k2⟩ | ⟨w', k1, t', k2, k3⟩
        · rw [one_look hb] at k2
          have hne : b.var ≠ v := fun e => by rw [if_pos e] at k2; cases k2
          exact ⟨fun e => hne e.symm, hi _ _ (Sb.look_of_mem hup hd) v k1⟩
        · rw [one_look hb] at k2
          split at k2
          · obtain rfl := Option.some.inj k2
            exact hterm v k3
          · cases k2
      · have e2 : t = b.term := by rw [← e]
        rw [e2] at hvt
        exact hterm v hvt
    refine (Sb.look_none hcup).2 fun c hcm e => ?_
    rcases (hmem c).1 hcm with ⟨d, hd, e2⟩ | e2
    · have e3 : c.var = d.var := by rw [e2]
      exact (Sb.look_none hup).1 key.2 d hd (e3.symm.trans e)
    · rw [e2] at e
      exact key.1 e.symm
theorem bnd_facts {s : Sb} (hi : s.idem) {a c : Tm} (h1 : apOk s a = true) (h2 : apOk s c = true) (hv : (varB (apTo s a).name || varB (apTo s c).name) = true) :
    s.look (bndOf (apTo s a) (apTo s c)).var = none ∧ ∀ v ∈ (bndOf (apTo s a) (apTo s c)).term.vs, s.look v = none := by
  have ha : ∀ v ∈ (apTo s a).vs, s.look v = none := fun v h => by rw [apTo_yes h1] at h; exact Sb.idem_vs hi h
  have hc : ∀ v ∈ (apTo s c).vs, s.look v = none := fun v h => by rw [apTo_yes h2] at h; exact Sb.idem_vs hi h
  rcases bndOf_cases _ _ hv with ⟨e, k⟩ | ⟨e, k⟩
  · rw [e]
    exact ⟨ha _ (by rw [Tm.vs_eq, k]; simp), hc⟩
  · rw [e]
    exact ⟨hc _ (by rw [Tm.vs_eq, k]; simp), ha⟩
theorem uInv.bind {s : Sb} {p : Tm × Tm} {l : List (Tm × Tm)} (h : uInv s (p :: l)) (h1 : apOk s p.1 = true) (h2 : apOk s p.2 = true) (hv : (varB (apTo s p.1).name || varB (apTo s p.2).name) = true)
    (hb : bndOk (bndOf (apTo s p.1) (apTo s p.2)) = true) (hc : cmpOk s ⟨[bndOf (apTo s p.1) (apTo s p.2)]⟩ = true) : uInv (cmpS s ⟨[bndOf (apTo s p.1) (apTo s p.2)]⟩) l ∧ (cmpS s ⟨[bndOf (apTo s p.1) (apTo s p.2)]⟩).binds.length = s.binds.length + 1 := by
  obtain ⟨f1, f2⟩ := bnd_facts h.idem h1 h2 hv
  unfold bndOk at hb
  rw [Bool.and_eq_true, Bool.not_eq_true'] at hb
  obtain ⟨g1, g2⟩ := cmp_one h.ok h.idem hb.2 f1 f2 (dec_not.1 hb.1) hc
  refine ⟨⟨hc, g2, fun q hq => h.ex q (by simp [hq]), [], l, rfl, fun q hq => by simp at hq, by rw [fstN]; omega, ?_⟩, g1⟩
  obtain ⟨P, Q, e, k1, k2, k3⟩ := h.pq
  have hl : (p :: l).length = P.length + Q.length := by rw [e, List.length_append]
  have hP := fstN_len P
  simp only [List.length_cons] at hl
  rw [g1]
  omega
/-! They end. -/
noncomputable def apN (s : Sb) : List (Tm × Tm) → Nat
  | [] => 0
  | p :: l => (p.1.ap s.look).nodes + apN s l
theorem apN_app (s : Sb) : ∀ a b : List (Tm × Tm), apN s (a ++ b) = apN s a + apN s b
  | [], b => by simp [apN]
  | p :: a, b => by rw [List.cons_append, apN, apN, apN_app s a b]; omega
theorem apN_same (s : Sb) : ∀ l : List (Tm × Tm), (∀ p ∈ l, p.1.ap s.look = p.1) → apN s l = fstN l
  | [], _ => by rw [apN, fstN]
  | p :: l, h => by rw [apN, fstN, h p (by simp), apN_same s l fun q hq => h q (by simp [hq])]
theorem uRun_end : ∀ (k m : Nat) (s : Sb) (l : List (Tm × Tm)), uInv s l → 12 ≤ s.binds.length + k → apN s l ≤ m → ∃ n r, uRun n s l = some r := by
  intro k
  induction k with
  | zero => exact fun m => uEnd 0 (fun h => absurd h (by omega)) m
  | succ k ih => exact fun m => uEnd (k + 1) (fun _ m s l => ih m s l) m
where
  uEnd (k : Nat) (ih : 0 < k → ∀ (m : Nat) (s : Sb) (l : List (Tm × Tm)), uInv s l → 12 ≤ s.binds.length + (k - 1) → apN s l ≤ m → ∃ n r, uRun n s l = some r) : ∀ (m : Nat) (s : Sb) (l : List (Tm × Tm)), uInv s l → 12 ≤ s.binds.length + k → apN s l ≤ m → ∃ n r, uRun n s l = some r
    | m, s, [], h, hk, hm => ⟨1, some s, by rw [uRun]⟩
    | m, s, p :: l, h, hk, hm => by
      have hp := Tm.nodes_pos (p.1.ap s.look)
      rw [apN] at hm
      obtain ⟨m, rfl⟩ : ∃ m', m = m' + 1 := ⟨m - 1, by omega⟩
      cases h1 : apOk s p.1 with
      | false => exact ⟨1, none, by rw [uRun]; simp only [h1, Bool.false_and, cond_false]⟩
      | true =>
        cases h2 : apOk s p.2 with
        | false => exact ⟨1, none, by rw [uRun]; simp only [h2, Bool.and_false, cond_false]⟩
        | true =>
          cases h3 : dec (apTo s p.1 = apTo s p.2) with
          | true =>
            obtain ⟨n, r, hr⟩ := uEnd k ih m s l h.pop hk (by omega)
            exact ⟨n + 1, r, by rw [uRun]; simp only [h1, h2, h3, Bool.and_self, cond_true]; exact hr⟩
          | false =>
            cases h4 : varB (apTo s p.1).name || varB (apTo s p.2).name with
            | true =>
              cases h5 : bndOk (bndOf (apTo s p.1) (apTo s p.2)) && cmpOk s ⟨[bndOf (apTo s p.1) (apTo s p.2)]⟩ with
              | false => exact ⟨1, none, by rw [uRun]; simp only [h1, h2, h3, h4, h5, Bool.and_self, cond_true, cond_false]⟩
              | true =>
                have h5' := h5
                rw [Bool.and_eq_true] at h5'
                obtain ⟨g1, g2⟩ := h.bind h1 h2 h4 h5'.1 h5'.2
                have g3 := ok_len g1.ok
                obtain ⟨n, r, hr⟩ := ih (by omega) _ _ l g1 (by omega) (Nat.le_refl _)
                exact ⟨n + 1, r, by rw [uRun]; simp only [h1, h2, h3, h4, h5, Bool.and_self, cond_true, cond_false]; exact hr⟩
            | false =>
              have h4' := h4
              rw [Bool.or_eq_false_iff] at h4'
              cases h5 : dec ((apTo s p.1).name = (apTo s p.2).name) && dec ((apTo s p.1).args.length = (apTo s p.2).args.length) with
              | false => exact ⟨1, none, by rw [uRun]; simp only [h1, h2, h3, h4, h5, Bool.and_self, cond_true, cond_false]⟩
              | true =>
                have hz := fstN_zip (apTo s p.1).args (apTo s p.2).args
                have hs := apN_same s ((apTo s p.1).args.zip (apTo s p.2).args) fun q hq => by
                  obtain ⟨a, b⟩ := q
                  exact args_same h.idem h1 h4'.1 (mem_zip hq).1
                have hn := Tm.nodes_eq (apTo s p.1)
                rw [apTo_yes h1] at hn
                rw [apTo_yes h1] at hs hz
                obtain ⟨n, r, hr⟩ := uEnd k ih m s _ (h.dec h1 h2 h4'.1) hk (by rw [apN_app, apTo_yes h1, hs]; omega)
                exact ⟨n + 1, r, by rw [uRun]; simp only [h1, h2, h3, h4, h5, Bool.and_self, cond_true, cond_false]; exact hr⟩
theorem uInv.start {a b : Tm} (ha : a.expr = true) (hb : b.expr = true) : uInv ⟨[]⟩ [(a, b)] := by
  have hok : (Sb.mk []).ok = true := by unfold Sb.ok; simp [bdTo]
  have hl : ∀ n, (Sb.mk []).look n = none := fun n => (Sb.look_none (Sb.ok_up hok)).2 fun c hc => by simp at hc
  exact ⟨hok, (fun w t h => by rw [hl] at h; cases h), (fun p hp => by
    have : p = (a, b) := by simpa using hp
    rw [this]; exact ⟨ha, hb⟩), [], [(a, b)], rfl, fun q hq => absurd hq (by simp), by rw [fstN]; omega, by simp⟩
theorem uRun_total {a b : Tm} (ha : a.expr = true) (hb : b.expr = true) : ∃ n r, uRun n ⟨[]⟩ [(a, b)] = some r := uRun_end 12 _ _ _ (uInv.start ha hb) (by omega) (Nat.le_refl _)
end Go.Proofs.YtjafnijgkjjadaaGreat

set_option maxRecDepth 100000
set_option linter.unusedSimpArgs false
set_option linter.unusedVariables false
namespace Go.Proofs.YtjafnijgkjjadaaGreat
open Go.RowKit

theorem dec_or {p q : Prop} : dec (p ∨ q) = (dec p || dec q) := by
  by_cases h : p
  · rw [dec_t h, dec_t (.inl h)]; rfl
  · rw [dec_f h, Bool.false_or]
    by_cases k : q
    · rw [dec_t k, dec_t (.inr k)]
    · rw [dec_f k, dec_f (fun x => x.elim h k)]
theorem dec_ii {p q : Prop} (h : p ↔ q) : dec p = dec q := by rw [propext h]
def c_slices_EqualFunc_impl_Term_impl_Term_impl_Term_impl_Term : SC := (.seq (.reg [⟨(some 6), none, (.mv (.c (.bool false)))⟩]) (.seq (.seq (.reg [⟨(some 10), none, (.mv (.t 0))⟩, ⟨(some 11), none, (.len false (.t 10))⟩, ⟨(some 12), none, (.mv (.t 1))⟩, ⟨(some 13), none, (.len false (.t 12))⟩, ⟨(some 14), none, (.bin .neq false (.t 11) (.t 13))⟩]) (.cond (.t 14) (.seq (.reg [⟨(some 6), none, (.mv (.c (.bool false)))⟩]) .ret) .skip)) (.seq (.seq (.reg [⟨(some 15), none, (.mv (.t 0))⟩, ⟨(some 16), none, (.len false (.t 15))⟩, ⟨(some 17), none, (.mv (.c (.int .i64 0)))⟩]) (.block 0 (.loop [0, 1, 1, 0, 0, 0, 0, 0, 0, 0, 0, 0, 0, 0, 0, 1, 1, 1, 0, 0, 0, 0, 0, 0, 0, 0, 0, 0, 0, 0, 0, 0] (.seq (.reg [⟨(some 18), none, (.bin .lss false (.t 17) (.t 16))⟩]) (.seq (.cond (.t 18) .skip (.exit 0)) (.seq (.block 1 (.seq (.reg [⟨(some 19), none, (.mv (.t 17))⟩, ⟨(some 20), none, (.iaddr 2 (.t 15) (.t 17))⟩, ⟨(some 21), none, (.load true 2 (.t 20))⟩, ⟨(some 8), none, (.alloc 33 [(.str ⟨#[]⟩), .nil])⟩, ⟨(some 7), none, (.mv (.t 19))⟩, ⟨none, none, (.store 2 (.t 8) (.t 21))⟩]) (.seq (.reg [⟨(some 22), none, (.mv (.t 1))⟩, ⟨(some 23), none, (.mv (.t 7))⟩, ⟨(some 24), none, (.iaddr 2 (.t 22) (.t 23))⟩, ⟨(some 25), none, (.load true 2 (.t 24))⟩, ⟨(some 9), none, (.alloc 33 [(.str ⟨#[]⟩), .nil])⟩, ⟨none, none, (.store 2 (.t 9) (.t 25))⟩]) (.seq (.reg [⟨(some 26), none, (.mv (.t 2))⟩, ⟨(some 27), none, (.load true 2 (.t 8))⟩, ⟨(some 28), none, (.load true 2 (.t 9))⟩, ⟨(some 29), none, (.callv (.t 26) [(.t 27), (.t 28)])⟩, ⟨(some 30), none, (.un .not (.t 29))⟩]) (.cond (.t 30) (.seq (.reg [⟨(some 6), none, (.mv (.c (.bool false)))⟩]) .ret) .skip))))) (.reg [⟨(some 31), none, (.bin .add false (.t 17) (.c (.int .i64 1)))⟩, ⟨(some 17), none, (.mv (.t 31))⟩]))))))) (.seq (.reg [⟨(some 6), none, (.mv (.c (.bool true)))⟩]) .ret))))
theorem k_slices_EqualFunc_impl_Term_impl_Term_impl_Term_impl_Term : codeOf Tryz.prog 70 = some ⟨32, c_slices_EqualFunc_impl_Term_impl_Term_impl_Term_impl_Term, [(.tmp 6)]⟩ := by kernel_rfl
theorem m_slices_EqualFunc_impl_Term_impl_Term_impl_Term_impl_Term : modes 70 = ⟨[], .asis, none, false⟩ := by unfold modes; rfl

def c_impl_EqualTerms : SC := (.seq (.reg [⟨(some 2), none, (.boxv 33 2 (.t 0))⟩, ⟨(some 3), none, (.boxv 33 2 (.t 1))⟩, ⟨(some 4), none, (.mv (.c (.bool false)))⟩]) (.seq (.reg [⟨(some 5), none, (.faddr 0 (.t 2))⟩, ⟨(some 6), none, (.load false 1 (.t 5))⟩, ⟨(some 7), none, (.faddr 0 (.t 3))⟩, ⟨(some 8), none, (.load false 1 (.t 7))⟩, ⟨(some 9), none, (.bin .eql false (.t 6) (.t 8))⟩, ⟨(some 10), none, (.mv (.t 9))⟩, ⟨(some 11), (some (10, true)), (.faddr 1 (.t 2))⟩, ⟨(some 12), (some (10, true)), (.load false 1 (.t 11))⟩, ⟨(some 13), (some (10, true)), (.faddr 1 (.t 3))⟩, ⟨(some 14), (some (10, true)), (.load false 1 (.t 13))⟩, ⟨(some 15), (some (10, true)), (.call 70 [(.t 12), (.t 14), (.c (.fn 44 []))])⟩, ⟨(some 16), none, (.pick (.t 10) (.t 15) (.c (.bool false)))⟩, ⟨(some 4), none, (.mv (.t 16))⟩]) .ret))
theorem k_impl_EqualTerms : codeOf Tryz.prog 44 = some ⟨17, c_impl_EqualTerms, [(.tmp 4)]⟩ := by kernel_rfl
theorem m_impl_EqualTerms : modes 44 = ⟨[], .asis, none, false⟩ := by unfold modes; rfl

theorem g_impl_EqualTerms : goFn Tryz.prog 44 = true := by kernel_rfl

def c_spec_l2Same : SC := (.seq (.reg [⟨(some 2), none, (.boxv 33 2 (.t 0))⟩, ⟨(some 3), none, (.boxv 33 2 (.t 1))⟩, ⟨(some 4), none, (.mv (.c (.bool false)))⟩]) (.seq (.seq (.reg [⟨(some 6), none, (.faddr 0 (.t 2))⟩, ⟨(some 7), none, (.load false 1 (.t 6))⟩, ⟨(some 8), none, (.faddr 0 (.t 3))⟩, ⟨(some 9), none, (.load false 1 (.t 8))⟩, ⟨(some 10), none, (.bin .neq false (.t 7) (.t 9))⟩, ⟨(some 11), none, (.mv (.t 10))⟩, ⟨(some 12), (some (11, false)), (.faddr 1 (.t 2))⟩, ⟨(some 13), (some (11, false)), (.load false 1 (.t 12))⟩, ⟨(some 14), (some (11, false)), (.len false (.t 13))⟩, ⟨(some 15), (some (11, false)), (.faddr 1 (.t 3))⟩, ⟨(some 16), (some (11, false)), (.load false 1 (.t 15))⟩, ⟨(some 17), (some (11, false)), (.len false (.t 16))⟩, ⟨(some 18), (some (11, false)), (.bin .neq false (.t 14) (.t 17))⟩, ⟨(some 19), none, (.pick (.t 11) (.c (.bool true)) (.t 18))⟩]) (.cond (.t 19) (.seq (.reg [⟨(some 4), none, (.mv (.c (.bool false)))⟩]) .ret) .skip)) (.seq (.seq (.reg [⟨(some 5), none, (.mv (.c (.int .i64 0)))⟩]) (.block 0 (.loop [0, 0, 1, 1, 0, 1, 0, 0, 0, 0, 0, 0, 0, 0, 0, 0, 0, 0, 0, 0, 0, 0, 0, 0, 0, 0, 0, 0, 0, 0, 0, 0, 0, 0, 0, 0, 0, 0, 0] (.seq (.seq (.reg [⟨(some 20), none, (.mv (.t 5))⟩, ⟨(some 21), none, (.faddr 1 (.t 2))⟩, ⟨(some 22), none, (.load false 1 (.t 21))⟩, ⟨(some 23), none, (.len false (.t 22))⟩, ⟨(some 24), none, (.bin .lss false (.t 20) (.t 23))⟩]) (.cond (.t 24) .skip (.exit 0))) (.seq (.block 1 (.seq (.dreg [[], [0], [], [1, 0, 2], [3, 1, 0, 2], [], [5], [], [6, 5, 7], [8, 6, 5, 7], [4, 3, 1, 0, 2, 9, 8, 6, 5, 7], [10, 4, 3, 1, 0, 2, 9, 8, 6, 5, 7]] [⟨(some 27), none, (.faddr 1 (.t 2))⟩, ⟨(some 28), none, (.load false 1 (.t 27))⟩, ⟨(some 29), none, (.mv (.t 5))⟩, ⟨(some 30), none, (.iaddr 2 (.t 28) (.t 29))⟩, ⟨(some 31), none, (.load true 2 (.t 30))⟩, ⟨(some 32), none, (.faddr 1 (.t 3))⟩, ⟨(some 33), none, (.load false 1 (.t 32))⟩, ⟨(some 34), none, (.mv (.t 5))⟩, ⟨(some 35), none, (.iaddr 2 (.t 33) (.t 34))⟩, ⟨(some 36), none, (.load true 2 (.t 35))⟩, ⟨(some 37), none, (.call 38 [(.t 31), (.t 36)])⟩, ⟨(some 38), none, (.un .not (.t 37))⟩]) (.cond (.t 38) (.seq (.reg [⟨(some 4), none, (.mv (.c (.bool false)))⟩]) .ret) .skip))) (.reg [⟨(some 25), none, (.mv (.t 5))⟩, ⟨(some 26), none, (.bin .add false (.t 25) (.c (.int .i64 1)))⟩, ⟨(some 5), none, (.mv (.t 26))⟩])))))) (.seq (.reg [⟨(some 4), none, (.mv (.c (.bool true)))⟩]) .ret))))
theorem k_spec_l2Same : codeOf Tryz.prog 38 = some ⟨39, c_spec_l2Same, [(.tmp 4)]⟩ := by kernel_rfl
theorem m_spec_l2Same : modes 38 = ⟨[], .asis, none, false⟩ := by unfold modes; rfl

theorem drop_eq_iff {α : Type} {xs ys : List α} {k : Nat} (hx : k < xs.length) (hy : k < ys.length) : xs.drop k = ys.drop k ↔ xs[k] = ys[k] ∧ xs.drop (k + 1) = ys.drop (k + 1) := by
  rw [List.drop_eq_getElem_cons hx, List.drop_eq_getElem_cons hy, List.cons.injEq]
set_option maxHeartbeats 1000000 in
theorem equalFunc_E (fid : Nat) (xs ys : List Tm) (hl : xs.length ≤ 1099511627776) (hl' : ys.length ≤ 1099511627776) (hg : goFn Tryz.prog fid = true) (hm : (modes fid).hand = []) (hE : ∀ x ∈ xs, ∀ y ∈ ys, E fid [x.sv, y.sv] [] = some (.bool (dec (x = y)), [])) : E 70 [.arr (xs.map Tm.d), .arr (ys.map Tm.d), .fn fid []] [] = some (.bool (dec (xs = ys)), []) := by
  by_cases hlen : xs.length = ys.length
  · have hq : ((xs.length : Int) = (ys.length : Int)) = True := by first | exact eq_true (by omega) | exact eq_false (by omega)
    refine E_walk k_slices_EqualFunc_impl_Term_impl_Term_impl_Term_impl_Term m_slices_EqualFunc_impl_Term_impl_Term_impl_Term_impl_Term (of_decide_eq_true rfl) ?_
    simp (disch := omega) only [c_slices_EqualFunc_impl_Term_impl_Term_impl_Term_impl_Term, go_sem, Nat.reduceAdd, Nat.reduceSub, Nat.reduceLT, Nat.reduceLeDiff, Nat.reduceEqDiff, Nat.reduceBEq, Nat.reduceBneDiff, Nat.reduceMul, ↓reduceIte, Int.reduceToNat, reduceCtorEq, Int.reduceNeg, Int.reduceAdd, hq]
    refine go_loop (α := Int) (fun a => ⟨slots 32 0 [(1, .arr (ys.map Tm.d)), (2, .fn fid []), (15, .arr (xs.map Tm.d)), (16, .int .i64 xs.length), (17, .int .i64 a)], []⟩) (fun a => ∃ k : Nat, a = k ∧ k ≤ (xs).length ∧ dec (xs.drop k = ys.drop k) = dec (xs = ys)) (fun a => (xs).length - (a).toNat) 0 ⟨0, rfl, Nat.zero_le _, by rw [List.drop_zero, List.drop_zero]⟩ (by simp (disch := omega) only [go_sem, Nat.reduceAdd, Nat.reduceSub, Nat.reduceLT, Nat.reduceLeDiff, Nat.reduceEqDiff, Nat.reduceBEq, Nat.reduceBneDiff, Nat.reduceMul, ↓reduceIte, Int.reduceToNat, reduceCtorEq, Int.reduceNeg, Int.reduceAdd]) ?_
    rintro i ⟨k, hi, hk, hR⟩
    have hni : i.toNat = k := by omega
    have hni1 : (i + 1).toNat = k + 1 := by omega
    rcases Nat.lt_or_ge k (xs).length with hlt | hge
    · have hgx := get_at Tm.d hlt
      rw [Tm.d_eq] at hgx
      have hlt' : k < ys.length := by omega
      have hgy := get_at Tm.d hlt'
      rw [Tm.d_eq] at hgy
      have hc := hE xs[k] (List.getElem_mem hlt) ys[k] (List.getElem_mem hlt')
      rw [dec_ii (drop_eq_iff hlt hlt')] at hR
      by_cases h0 : xs[k] = ys[k]
      · rw [dec_t h0] at hc
        rw [dec_ii (and_iff_right h0)] at hR
        simp (disch := omega) only [go_sem, Nat.reduceAdd, Nat.reduceSub, Nat.reduceLT, Nat.reduceLeDiff, Nat.reduceEqDiff, Nat.reduceBEq, Nat.reduceBneDiff, Nat.reduceMul, ↓reduceIte, Int.reduceToNat, reduceCtorEq, Int.reduceNeg, Int.reduceAdd, hni, hgx, hgy, hc, hg, hm]
        exact ⟨i + 1, ⟨k + 1, by omega, hlt, hR⟩, by omega, by first | trivial | rfl⟩
      · rw [dec_f h0] at hc
        rw [dec_f (fun h => h0 h.1)] at hR
        simp (disch := omega) only [go_sem, Nat.reduceAdd, Nat.reduceSub, Nat.reduceLT, Nat.reduceLeDiff, Nat.reduceEqDiff, Nat.reduceBEq, Nat.reduceBneDiff, Nat.reduceMul, ↓reduceIte, Int.reduceToNat, reduceCtorEq, Int.reduceNeg, Int.reduceAdd, hni, hgx, hgy, hc, hg, hm]
        exact hR
    · rw [List.drop_eq_nil_of_le hge, List.drop_eq_nil_of_le (by omega), dec_refl] at hR
      simp (disch := omega) only [go_sem, Nat.reduceAdd, Nat.reduceSub, Nat.reduceLT, Nat.reduceLeDiff, Nat.reduceEqDiff, Nat.reduceBEq, Nat.reduceBneDiff, Nat.reduceMul, ↓reduceIte, Int.reduceToNat, reduceCtorEq, Int.reduceNeg, Int.reduceAdd, hni]
      exact hR
  · have hq : ((xs.length : Int) = (ys.length : Int)) = False := by first | exact eq_true (by omega) | exact eq_false (by omega)
    have he : dec (xs = ys) = false := dec_f fun h => hlen (by rw [h])
    rw [he]
    refine E_walk k_slices_EqualFunc_impl_Term_impl_Term_impl_Term_impl_Term m_slices_EqualFunc_impl_Term_impl_Term_impl_Term_impl_Term (of_decide_eq_true rfl) ?_
    simp (disch := omega) only [c_slices_EqualFunc_impl_Term_impl_Term_impl_Term_impl_Term, go_sem, Nat.reduceAdd, Nat.reduceSub, Nat.reduceLT, Nat.reduceLeDiff, Nat.reduceEqDiff, Nat.reduceBEq, Nat.reduceBneDiff, Nat.reduceMul, ↓reduceIte, Int.reduceToNat, reduceCtorEq, Int.reduceNeg, Int.reduceAdd, hq]
theorem Tm.eq_iff (x y : Tm) : x = y ↔ x.name = y.name ∧ x.args = y.args := by
  obtain ⟨n, a⟩ := x
  obtain ⟨m, b⟩ := y
  rw [Tm.mk.injEq]; rfl
theorem equalTerms_of (x : Tm) (y : Tm) (hnx : x.nodes ≤ 1099511627776) (hny : y.nodes ≤ 1099511627776) (ih : ∀ x' ∈ x.args, ∀ y' : Tm, x'.nodes ≤ 1099511627776 → y'.nodes ≤ 1099511627776 → E 44 [x'.sv, y'.sv] [] = some (.bool (dec (x' = y')), [])) : E 44 [x.sv, y.sv] [] = some (.bool (dec (x = y)), []) := by
  have lx := Tm.length_le x.args
  have ly := Tm.length_le y.args
  have nx := Tm.nodes_eq x
  have ny := Tm.nodes_eq y
  have h6 := equalFunc_E 44 x.args y.args (by omega) (by omega) g_impl_EqualTerms (by rw [m_impl_EqualTerms]) fun x' hx' y' hy' => ih x' hx' y' (by have := Tm.nodes_mem hx'; omega) (by have := Tm.nodes_mem hy'; omega)
  rw [dec_ii (Tm.eq_iff x y)]
  by_cases h0 : x.name = y.name
  · rw [dec_ii (and_iff_right h0)]
    have hq : (x.name = y.name) = True := by simp [h0]
    refine E_walk k_impl_EqualTerms m_impl_EqualTerms (of_decide_eq_true rfl) ?_
    simp (disch := omega) only [c_impl_EqualTerms, go_sem, Nat.reduceAdd, Nat.reduceSub, Nat.reduceLT, Nat.reduceLeDiff, Nat.reduceEqDiff, Nat.reduceBEq, Nat.reduceBneDiff, Nat.reduceMul, ↓reduceIte, Int.reduceToNat, reduceCtorEq, Int.reduceNeg, Int.reduceAdd, hq, h6, m_slices_EqualFunc_impl_Term_impl_Term_impl_Term_impl_Term]
  · have hq : (x.name = y.name) = False := by simp [h0]
    rw [dec_f (fun h => h0 h.1)]
    refine E_walk k_impl_EqualTerms m_impl_EqualTerms (of_decide_eq_true rfl) ?_
    simp (disch := omega) only [c_impl_EqualTerms, go_sem, Nat.reduceAdd, Nat.reduceSub, Nat.reduceLT, Nat.reduceLeDiff, Nat.reduceEqDiff, Nat.reduceBEq, Nat.reduceBneDiff, Nat.reduceMul, ↓reduceIte, Int.reduceToNat, reduceCtorEq, Int.reduceNeg, Int.reduceAdd, hq]
theorem equalTerms_E (x y : Tm) (hnx : x.nodes ≤ 1099511627776) (hny : y.nodes ≤ 1099511627776) : E 44 [x.sv, y.sv] [] = some (.bool (dec (x = y)), []) :=
  equalTerms_of x y hnx hny fun x' hx' y' h h' => equalTerms_E x' y' h h'
termination_by SizeOf.sizeOf x
decreasing_by exact Tm.lt_of_mem hx'
set_option maxHeartbeats 1000000 in
theorem l2Same_of (x : Tm) (y : Tm) (hnx : x.nodes ≤ 1099511627776) (hny : y.nodes ≤ 1099511627776) (ih : ∀ x' ∈ x.args, ∀ y' : Tm, x'.nodes ≤ 1099511627776 → y'.nodes ≤ 1099511627776 → E 38 [x'.sv, y'.sv] [] = some (.bool (dec (x' = y')), [])) : E 38 [x.sv, y.sv] [] = some (.bool (dec (x = y)), []) := by
  have lx := Tm.length_le x.args
  have ly := Tm.length_le y.args
  have nx := Tm.nodes_eq x
  have ny := Tm.nodes_eq y
  rw [dec_ii (Tm.eq_iff x y)]
  by_cases h0 : x.name = y.name
  · rw [dec_ii (and_iff_right h0)]
    have hq : (x.name = y.name) = True := by simp [h0]
    by_cases hlen : x.args.length = y.args.length
    · have hq2 : ((x.args.length : Int) = (y.args.length : Int)) = True := by first | exact eq_true (by omega) | exact eq_false (by omega)
      refine E_walk k_spec_l2Same m_spec_l2Same (of_decide_eq_true rfl) ?_
      simp (disch := omega) only [c_spec_l2Same, go_sem, Nat.reduceAdd, Nat.reduceSub, Nat.reduceLT, Nat.reduceLeDiff, Nat.reduceEqDiff, Nat.reduceBEq, Nat.reduceBneDiff, Nat.reduceMul, ↓reduceIte, Int.reduceToNat, reduceCtorEq, Int.reduceNeg, Int.reduceAdd, hq, hq2]
      refine go_loop (α := Int) (fun a => ⟨slots 39 0 [(2, .ptr 0 0), (3, .ptr 1 0), (5, .int .i64 a)], [.box 33 [.str x.name, .arr (x.args.map Tm.d)], .box 33 [.str y.name, .arr (y.args.map Tm.d)]]⟩) (fun a => ∃ k : Nat, a = k ∧ k ≤ (x.args).length ∧ dec (x.args.drop k = y.args.drop k) = dec (x.args = y.args)) (fun a => (x.args).length - (a).toNat) 0 ⟨0, rfl, Nat.zero_le _, by rw [List.drop_zero, List.drop_zero]⟩ (by simp (disch := omega) only [go_sem, Nat.reduceAdd, Nat.reduceSub, Nat.reduceLT, Nat.reduceLeDiff, Nat.reduceEqDiff, Nat.reduceBEq, Nat.reduceBneDiff, Nat.reduceMul, ↓reduceIte, Int.reduceToNat, reduceCtorEq, Int.reduceNeg, Int.reduceAdd]) ?_
      rintro i ⟨k, hi, hk, hR⟩
      have hni : i.toNat = k := by omega
      have hni1 : (i + 1).toNat = k + 1 := by omega
      rcases Nat.lt_or_ge k (x.args).length with hlt | hge
      · have hgx := get_at Tm.d hlt
        rw [Tm.d_eq] at hgx
        have hlt' : k < y.args.length := by omega
        have hgy := get_at Tm.d hlt'
        rw [Tm.d_eq] at hgy
        have hc := ih x.args[k] (List.getElem_mem hlt) y.args[k] (by have := Tm.nodes_mem (List.getElem_mem hlt); omega) (by have := Tm.nodes_mem (List.getElem_mem hlt'); omega)
        rw [dec_ii (drop_eq_iff hlt hlt')] at hR
        by_cases h0 : x.args[k] = y.args[k]
        · rw [dec_t h0] at hc
          rw [dec_ii (and_iff_right h0)] at hR
          simp (disch := omega) only [go_sem, Nat.reduceAdd, Nat.reduceSub, Nat.reduceLT, Nat.reduceLeDiff, Nat.reduceEqDiff, Nat.reduceBEq, Nat.reduceBneDiff, Nat.reduceMul, ↓reduceIte, Int.reduceToNat, reduceCtorEq, Int.reduceNeg, Int.reduceAdd, hni, hgx, hgy, hc, m_spec_l2Same]
          exact ⟨i + 1, ⟨k + 1, by omega, hlt, hR⟩, by omega, by first | trivial | rfl⟩
        · rw [dec_f h0] at hc
          rw [dec_f (fun h => h0 h.1)] at hR
          simp (disch := omega) only [go_sem, Nat.reduceAdd, Nat.reduceSub, Nat.reduceLT, Nat.reduceLeDiff, Nat.reduceEqDiff, Nat.reduceBEq, Nat.reduceBneDiff, Nat.reduceMul, ↓reduceIte, Int.reduceToNat, reduceCtorEq, Int.reduceNeg, Int.reduceAdd, hni, hgx, hgy, hc, m_spec_l2Same]
          exact hR
      · rw [List.drop_eq_nil_of_le hge, List.drop_eq_nil_of_le (by omega), dec_refl] at hR
        simp (disch := omega) only [go_sem, Nat.reduceAdd, Nat.reduceSub, Nat.reduceLT, Nat.reduceLeDiff, Nat.reduceEqDiff, Nat.reduceBEq, Nat.reduceBneDiff, Nat.reduceMul, ↓reduceIte, Int.reduceToNat, reduceCtorEq, Int.reduceNeg, Int.reduceAdd, hni]
        exact hR
    · have hq2 : ((x.args.length : Int) = (y.args.length : Int)) = False := by first | exact eq_true (by omega) | exact eq_false (by omega)
      have he : dec (x.args = y.args) = false := dec_f fun h => hlen (by rw [h])
      rw [he]
      refine E_walk k_spec_l2Same m_spec_l2Same (of_decide_eq_true rfl) ?_
      simp (disch := omega) only [c_spec_l2Same, go_sem, Nat.reduceAdd, Nat.reduceSub, Nat.reduceLT, Nat.reduceLeDiff, Nat.reduceEqDiff, Nat.reduceBEq, Nat.reduceBneDiff, Nat.reduceMul, ↓reduceIte, Int.reduceToNat, reduceCtorEq, Int.reduceNeg, Int.reduceAdd, hq, hq2]
  · have hq : (x.name = y.name) = False := by simp [h0]
    rw [dec_f (fun h => h0 h.1)]
    refine E_walk k_spec_l2Same m_spec_l2Same (of_decide_eq_true rfl) ?_
    simp (disch := omega) only [c_spec_l2Same, go_sem, Nat.reduceAdd, Nat.reduceSub, Nat.reduceLT, Nat.reduceLeDiff, Nat.reduceEqDiff, Nat.reduceBEq, Nat.reduceBneDiff, Nat.reduceMul, ↓reduceIte, Int.reduceToNat, reduceCtorEq, Int.reduceNeg, Int.reduceAdd, hq]
theorem l2Same_E (x y : Tm) (hnx : x.nodes ≤ 1099511627776) (hny : y.nodes ≤ 1099511627776) : E 38 [x.sv, y.sv] [] = some (.bool (dec (x = y)), []) :=
  l2Same_of x y hnx hny fun x' hx' y' h h' => l2Same_E x' y' h h'
termination_by SizeOf.sizeOf x
decreasing_by exact Tm.lt_of_mem hx'
end Go.Proofs.YtjafnijgkjjadaaGreat

set_option maxRecDepth 100000
set_option linter.unusedSimpArgs false
set_option linter.unusedVariables false
namespace Go.Proofs.YtjafnijgkjjadaaGreat
open Go.RowKit

def c_impl_countName : SC := (.seq (.reg [⟨(some 2), none, (.boxv 33 2 (.t 0))⟩, ⟨(some 4), none, (.mv (.c (.int .i64 0)))⟩]) (.seq (.reg [⟨(some 5), none, (.mv (.c (.int .i64 0)))⟩]) (.seq (.seq (.reg [⟨(some 8), none, (.faddr 0 (.t 2))⟩, ⟨(some 9), none, (.load false 1 (.t 8))⟩, ⟨(some 10), none, (.mv (.t 1))⟩, ⟨(some 11), none, (.bin .eql false (.t 9) (.t 10))⟩]) (.cond (.t 11) (.reg [⟨(some 5), none, (.mv (.c (.int .i64 1)))⟩]) .skip)) (.seq (.seq (.reg [⟨(some 12), none, (.faddr 1 (.t 2))⟩, ⟨(some 13), none, (.load false 1 (.t 12))⟩, ⟨(some 14), none, (.len false (.t 13))⟩, ⟨(some 15), none, (.mv (.c (.int .i64 0)))⟩]) (.block 0 (.loop [0, 1, 0, 0, 0, 1, 0, 0, 0, 0, 0, 0, 0, 1, 1, 1, 0, 0, 0, 0, 0, 0, 0, 0, 0, 0] (.seq (.reg [⟨(some 16), none, (.bin .lss false (.t 15) (.t 14))⟩]) (.seq (.cond (.t 16) .skip (.exit 0)) (.seq (.block 1 (.seq (.reg [⟨(some 17), none, (.iaddr 2 (.t 13) (.t 15))⟩, ⟨(some 18), none, (.load true 2 (.t 17))⟩, ⟨(some 7), none, (.alloc 33 [(.str ⟨#[]⟩), .nil])⟩, ⟨none, none, (.store 2 (.t 7) (.t 18))⟩]) (.reg [⟨(some 19), none, (.mv (.t 5))⟩, ⟨(some 20), none, (.load true 2 (.t 7))⟩, ⟨(some 21), none, (.mv (.t 1))⟩, ⟨(some 22), none, (.call 92 [(.t 20), (.t 21)])⟩, ⟨(some 23), none, (.bin .add false (.t 19) (.t 22))⟩, ⟨(some 5), none, (.mv (.t 23))⟩]))) (.reg [⟨(some 24), none, (.bin .add false (.t 15) (.c (.int .i64 1)))⟩, ⟨(some 15), none, (.mv (.t 24))⟩]))))))) (.seq (.reg [⟨(some 25), none, (.mv (.t 5))⟩, ⟨(some 4), none, (.mv (.t 25))⟩]) .ret)))))
theorem k_impl_countName : codeOf Tryz.prog 92 = some ⟨26, c_impl_countName, [(.tmp 4)]⟩ := by kernel_rfl
theorem m_impl_countName : modes 92 = ⟨[], .asis, none, false⟩ := by unfold modes; rfl

def c_impl_occurs : SC := (.seq (.reg [⟨(some 3), none, (.boxv 33 2 (.t 1))⟩, ⟨(some 4), none, (.mv (.c (.bool false)))⟩]) (.seq (.reg [⟨(some 5), none, (.load true 2 (.t 3))⟩, ⟨(some 6), none, (.mv (.t 0))⟩, ⟨(some 7), none, (.call 92 [(.t 5), (.t 6)])⟩, ⟨(some 8), none, (.bin .gtr false (.t 7) (.c (.int .i64 0)))⟩, ⟨(some 4), none, (.mv (.t 8))⟩]) .ret))
theorem k_impl_occurs : codeOf Tryz.prog 72 = some ⟨9, c_impl_occurs, [(.tmp 4)]⟩ := by kernel_rfl
theorem m_impl_occurs : modes 72 = ⟨[], .asis, none, false⟩ := by unfold modes; rfl

def c_impl_bindingOf : SC := (.seq (.reg [⟨(some 1), none, (.boxv 62 4 (.t 0))⟩, ⟨(some 2), none, (.alloc 28 [.nil])⟩, ⟨(some 3), none, (.mv (.c (.bool false)))⟩]) (.seq (.dreg [[], [0], [], [2], [], [], [4, 1, 0, 5], [5, 3, 2, 6, 4, 1, 0]] [⟨(some 7), none, (.faddr 0 (.t 1))⟩, ⟨(some 8), none, (.load true 2 (.t 7))⟩, ⟨(some 9), none, (.faddr 2 (.t 1))⟩, ⟨(some 10), none, (.load true 2 (.t 9))⟩, ⟨(some 4), none, (.alloc 33 [(.str ⟨#[]⟩), .nil])⟩, ⟨(some 5), none, (.alloc 33 [(.str ⟨#[]⟩), .nil])⟩, ⟨none, none, (.store 2 (.t 4) (.t 8))⟩, ⟨none, none, (.store 2 (.t 5) (.t 10))⟩]) (.seq (.seq (.reg [⟨(some 11), none, (.load true 2 (.t 4))⟩, ⟨(some 12), none, (.call 45 [(.t 11)])⟩, ⟨(some 13), none, (.un .not (.t 12))⟩, ⟨(some 14), none, (.mv (.t 13))⟩, ⟨(some 15), (some (14, false)), (.load true 2 (.t 5))⟩, ⟨(some 16), (some (14, false)), (.call 45 [(.t 15)])⟩, ⟨(some 17), (some (14, false)), (.mv (.t 16))⟩, ⟨(some 18), (some (17, true)), (.faddr 0 (.t 5))⟩, ⟨(some 19), (some (17, true)), (.load false 1 (.t 18))⟩, ⟨(some 20), (some (17, true)), (.faddr 0 (.t 4))⟩, ⟨(some 21), (some (17, true)), (.load false 1 (.t 20))⟩, ⟨(some 22), (some (17, true)), (.bin .gtr false (.t 19) (.t 21))⟩, ⟨(some 23), (some (14, false)), (.pick (.t 17) (.t 22) (.c (.bool false)))⟩, ⟨(some 24), none, (.pick (.t 14) (.c (.bool true)) (.t 23))⟩]) (.cond (.t 24) (.reg [⟨(some 25), none, (.load true 2 (.t 5))⟩, ⟨(some 26), none, (.load true 2 (.t 4))⟩, ⟨none, none, (.store 2 (.t 4) (.t 25))⟩, ⟨none, none, (.store 2 (.t 5) (.t 26))⟩]) .skip)) (.seq (.reg [⟨(some 27), none, (.faddr 0 (.t 4))⟩, ⟨(some 28), none, (.load false 1 (.t 27))⟩, ⟨(some 29), none, (.load true 2 (.t 5))⟩, ⟨(some 30), none, (.build [(.str ⟨#[]⟩), (.str ⟨#[]⟩), .nil] [(0, (1, (.t 28))), (1, (2, (.t 29)))])⟩, ⟨(some 31), none, (.mkrow 67 3 [(.str ⟨#[]⟩), (.str ⟨#[]⟩), .nil] 1 [(0, (.t 30))])⟩, ⟨(some 32), none, (.build [.nil] [(0, (1, (.t 31)))])⟩, ⟨(some 6), none, (.alloc 28 [.nil])⟩, ⟨none, none, (.store 1 (.t 6) (.t 32))⟩]) (.seq (.dreg [[], [], [1], [], [2, 1, 3], [4, 2, 1, 3], [5, 4, 2, 1, 3], [6, 5, 4, 2, 1, 3], [7, 6, 5, 4, 2, 1, 3], [6, 5, 4, 2, 1, 3, 8, 7], [0, 8, 7, 6, 5, 4, 2, 1, 3], [9, 6, 5, 4, 2, 1, 3, 8, 7, 10, 0]] [⟨(some 33), none, (.load true 1 (.t 6))⟩, ⟨(some 34), none, (.faddr 0 (.t 4))⟩, ⟨(some 35), none, (.load false 1 (.t 34))⟩, ⟨(some 36), none, (.load true 2 (.t 5))⟩, ⟨(some 37), none, (.call 72 [(.t 35), (.t 36)])⟩, ⟨(some 38), none, (.un .not (.t 37))⟩, ⟨(some 39), none, (.mv (.t 38))⟩, ⟨(some 40), (some (39, true)), (.load true 1 (.t 6))⟩, ⟨(some 41), (some (39, true)), (.call 60 [(.t 40)])⟩, ⟨(some 42), none, (.pick (.t 39) (.t 41) (.c (.bool false)))⟩, ⟨none, none, (.store 1 (.t 2) (.t 33))⟩, ⟨(some 3), none, (.mv (.t 42))⟩]) .ret)))))
theorem k_impl_bindingOf : codeOf Tryz.prog 46 = some ⟨43, c_impl_bindingOf, [(.cell 2 true 1), (.tmp 3)]⟩ := by kernel_rfl
theorem m_impl_bindingOf : modes 46 = ⟨[], .frz, none, false⟩ := by unfold modes; rfl

def c_spec_l2In : SC := (.seq (.reg [⟨(some 4), none, (.mv (.c (.bool false)))⟩]) (.seq (.seq (.reg [⟨(some 5), none, (.mv (.c (.int .i64 0)))⟩]) (.block 0 (.loop [1, 1, 0, 0, 0, 1, 0, 0, 0, 0, 0, 0, 0, 0, 0, 0, 0, 0] (.seq (.seq (.reg [⟨(some 6), none, (.mv (.t 5))⟩, ⟨(some 7), none, (.mv (.t 0))⟩, ⟨(some 8), none, (.len false (.t 7))⟩, ⟨(some 9), none, (.bin .lss false (.t 6) (.t 8))⟩]) (.cond (.t 9) .skip (.exit 0))) (.seq (.block 1 (.seq (.reg [⟨(some 12), none, (.mv (.t 0))⟩, ⟨(some 13), none, (.mv (.t 5))⟩, ⟨(some 14), none, (.iaddr 1 (.t 12) (.t 13))⟩, ⟨(some 15), none, (.load false 1 (.t 14))⟩, ⟨(some 16), none, (.mv (.t 1))⟩, ⟨(some 17), none, (.bin .eql false (.t 15) (.t 16))⟩]) (.cond (.t 17) (.seq (.reg [⟨(some 4), none, (.mv (.c (.bool true)))⟩]) .ret) .skip))) (.reg [⟨(some 10), none, (.mv (.t 5))⟩, ⟨(some 11), none, (.bin .add false (.t 10) (.c (.int .i64 1)))⟩, ⟨(some 5), none, (.mv (.t 11))⟩])))))) (.seq (.reg [⟨(some 4), none, (.mv (.c (.bool false)))⟩]) .ret)))
theorem k_spec_l2In : codeOf Tryz.prog 65 = some ⟨18, c_spec_l2In, [(.tmp 4)]⟩ := by kernel_rfl
theorem m_spec_l2In : modes 65 = ⟨[], .asis, none, false⟩ := by unfold modes; rfl

def c_spec_l5Bind : SC := (.seq (.reg [⟨(some 3), none, (.boxv 28 1 (.t 0))⟩, ⟨(some 5), none, (.boxv 33 2 (.t 2))⟩, ⟨(some 6), none, (.alloc 28 [.nil])⟩, ⟨(some 7), none, (.mv (.c (.bool false)))⟩]) (.seq (.seq (.reg [⟨(some 8), none, (.load true 2 (.t 5))⟩, ⟨(some 9), none, (.call 66 [(.t 8)])⟩, ⟨(some 10), none, (.mv (.t 1))⟩, ⟨(some 11), none, (.call 65 [(.t 9), (.t 10)])⟩]) (.cond (.t 11) (.seq (.reg [⟨(some 12), none, (.load true 1 (.t 3))⟩, ⟨none, none, (.store 1 (.t 6) (.t 12))⟩, ⟨(some 7), none, (.mv (.c (.bool false)))⟩]) .ret) .skip)) (.seq (.dreg [[], [], [], [], [1, 2, 3], [0, 4, 1, 2, 3], [5, 0, 4, 1, 2, 3], [5, 0, 4, 1, 2, 3], [6, 5, 0, 4, 1, 2, 3, 7], [7, 5, 0, 4, 1, 2, 3, 8, 6]] [⟨(some 13), none, (.load true 1 (.t 3))⟩, ⟨(some 14), none, (.build [.nil] [])⟩, ⟨(some 15), none, (.mv (.t 1))⟩, ⟨(some 16), none, (.load true 2 (.t 5))⟩, ⟨(some 17), none, (.call 67 [(.t 14), (.t 15), (.t 16)])⟩, ⟨(some 18), none, (.call 29 [(.t 13), (.t 17)])⟩, ⟨(some 19), none, (.ext (.t 18) 0)⟩, ⟨(some 20), none, (.ext (.t 18) 1)⟩, ⟨none, none, (.store 1 (.t 6) (.t 19))⟩, ⟨(some 7), none, (.mv (.t 20))⟩]) .ret)))
theorem k_spec_l5Bind : codeOf Tryz.prog 40 = some ⟨21, c_spec_l5Bind, [(.cell 6 true 1), (.tmp 7)]⟩ := by kernel_rfl
theorem m_spec_l5Bind : modes 40 = ⟨[], .frz, none, false⟩ := by unfold modes; rfl

mutual
/-- How often a name occurs. -/
noncomputable def Tm.cnt (n : ByteArray) : Tm → Nat
  | .mk name args => (bif dec (name = n) then 1 else 0) + Tm.cntL n args
noncomputable def Tm.cntL (n : ByteArray) : List Tm → Nat
  | [] => 0
  | x :: xs => Tm.cnt n x + Tm.cntL n xs
end
theorem Tm.cnt_eq (n : ByteArray) (x : Tm) : x.cnt n = (bif dec (x.name = n) then 1 else 0) + Tm.cntL n x.args := by
  obtain ⟨a, b⟩ := x
  rw [Tm.cnt]; rfl
theorem Tm.cntL_le (n : ByteArray) : ∀ xs : List Tm, (∀ x ∈ xs, x.cnt n ≤ x.nodes) → Tm.cntL n xs ≤ Tm.nodeS xs
  | [], _ => by rw [Tm.cntL]; omega
  | x :: xs, h => by
    have h1 := h x (by simp)
    have h2 := Tm.cntL_le n xs fun y hy => h y (by simp [hy])
    rw [Tm.cntL, Tm.nodeS]; omega
theorem Tm.cnt_le (n : ByteArray) (x : Tm) : x.cnt n ≤ x.nodes := by
  have h := Tm.cntL_le n x.args fun y hy => Tm.cnt_le n y
  rw [Tm.cnt_eq, Tm.nodes_eq]
  cases dec (x.name = n) with
  | true => simp only [cond_true]; omega
  | false => simp only [cond_false]; omega
termination_by SizeOf.sizeOf x
decreasing_by exact Tm.lt_of_mem hy
theorem Tm.cntL_pos {n : ByteArray} : ∀ {xs : List Tm}, 0 < Tm.cntL n xs ↔ ∃ x ∈ xs, 0 < x.cnt n
  | [] => by rw [Tm.cntL]; simp
  | x :: xs => by
    have h := Tm.cntL_pos (n := n) (xs := xs)
    rw [Tm.cntL]
    constructor
    · intro hp
      rcases Nat.eq_zero_or_pos (x.cnt n) with h0 | h0
      · obtain ⟨y, h1, h2⟩ := h.1 (by omega)
        exact ⟨y, by simp [h1], h2⟩
      · exact ⟨x, by simp, h0⟩
    · rintro ⟨y, h1, h2⟩
      rcases List.mem_cons.1 h1 with rfl | h1
      · omega
      · have := h.2 ⟨y, h1, h2⟩; omega
theorem Tm.cnt_vs' {n : ByteArray} (hn : varB n = true) (x : Tm) (hx : varB x.name = true → x.args = []) (ih : ∀ y ∈ x.args, (0 < y.cnt n ↔ n ∈ y.vs)) : 0 < x.cnt n ↔ n ∈ x.vs := by
  rw [Tm.cnt_eq, Tm.vs_eq]
  cases hv : varB x.name with
  | true =>
    rw [hx hv, Tm.cntL, cond_true]
    by_cases h : x.name = n
    · rw [dec_t h, h]; simp
    · rw [dec_f h]
      simp only [cond_false, List.mem_singleton]
      exact ⟨fun k => absurd k (by omega), fun k => absurd k.symm h⟩
  | false =>
    have h : ¬ x.name = n := fun e => by rw [e, hn] at hv; cases hv
    rw [dec_f h, cond_false, cond_false, Nat.zero_add, Tm.cntL_pos, Tm.vsL_mem]
    constructor
    · rintro ⟨y, h1, h2⟩; exact ⟨y, h1, (ih y h1).1 h2⟩
    · rintro ⟨y, h1, h2⟩; exact ⟨y, h1, (ih y h1).2 h2⟩
theorem Tm.cnt_vs {n : ByteArray} (hn : varB n = true) (x : Tm) (hx : x.names = true) : 0 < x.cnt n ↔ n ∈ x.vs :=
  Tm.cnt_vs' hn x (Tm.names_var hx) fun y hy => Tm.cnt_vs hn y (Tm.names_arg hx hy)
termination_by SizeOf.sizeOf x
decreasing_by exact Tm.lt_of_mem hy
theorem Tm.cnt_ex {n : ByteArray} (hn : varB n = true) (x : Tm) (hx : x.expr = true) : dec ((0 : Int) < (x.cnt n : Nat)) = dec (n ∈ x.vs) := by
  have h := Tm.cnt_vs' hn x (Tm.expr_var hx) fun y hy => Tm.cnt_vs hn y (Tm.expr_arg hx hy)
  refine dec_ii ?_
  rw [← h]; omega
theorem Tm.expr_cok {x : Tm} (h : x.expr = true) : x.cok = true := by
  rcases Tm.expr_names h with hn | ⟨he, ha⟩
  · exact Tm.cok_names x hn
  · have hname : x.name = ⟨#[61]⟩ := by unfold Tm.eqn at he; exact dec_iff.1 he
    have hc : nameC ⟨#[61]⟩ = true := by kernel_rfl
    rw [Tm.cok_eq, hname, hc, Bool.true_and]
    have key : ∀ xs : List Tm, (∀ y ∈ xs, y.names = true) → Tm.cokS xs = true := by
      intro xs
      induction xs with
      | nil => intro _; rw [Tm.cokS]
      | cons y ys ih => intro hh; rw [Tm.cokS, Tm.cok_names y (hh y (by simp)), ih fun z hz => hh z (by simp [hz])]; rfl
    exact key _ fun y hy => Tm.expr_arg h hy
set_option maxHeartbeats 4000000 in
theorem countName_of (x : Tm) (n : ByteArray) (hn : x.nodes ≤ 1099511627776) (ih : ∀ y ∈ x.args, E 92 [y.sv, .str n] [] = some (.int .i64 (y.cnt n : Nat), [])) : E 92 [x.sv, .str n] [] = some (.int .i64 (x.cnt n : Nat), []) := by
  have hx := Tm.nodes_eq x
  have hl := Tm.length_le x.args
  have hle := Tm.cnt_le n x
  have hc0 := Tm.cnt_eq n x
  have hsv : x.sv = .agg [.str x.name, .arr (x.args.map Tm.d)] := rfl
  rw [hsv]
  obtain ⟨c0, hc0'⟩ : ∃ c0 : Nat, c0 = bif dec (x.name = n) then 1 else 0 := ⟨_, rfl⟩
  rw [← hc0'] at hc0
  by_cases he : x.name = n
  all_goals
    have hq := he
    first
      | rw [dec_t he, cond_true] at hc0'
      | rw [dec_f he, cond_false] at hc0'
    first
      | have hq := eq_true he
      | have hq := eq_false he
    refine E_walk k_impl_countName m_impl_countName (of_decide_eq_true rfl) ?_
    simp (disch := omega) only [c_impl_countName, go_sem, Nat.reduceAdd, Nat.reduceSub, Nat.reduceLT, Nat.reduceLeDiff, Nat.reduceEqDiff, Nat.reduceBEq, Nat.reduceBneDiff, Nat.reduceMul, ↓reduceIte, Int.reduceToNat, reduceCtorEq, Int.reduceNeg, Int.reduceAdd, hq]
    refine go_loop (α := Int × (Nat)) (fun a => ⟨slots 26 0 [(1, .str n), (5, .int .i64 (((a.2) : Nat) : Int)), (13, .arr (x.args.map Tm.d)), (14, .int .i64 x.args.length), (15, .int .i64 (a.1))], []⟩) (fun a => ∃ k : Nat, a.1 = k ∧ k ≤ (x.args).length ∧ (a.2) + Tm.cntL n (x.args.drop k) = x.cnt n) (fun a => (x.args).length - (a.1).toNat) (0, c0) ⟨0, rfl, Nat.zero_le _, by rw [List.drop_zero]; exact hc0.symm⟩ (by simp (disch := omega) only [go_sem, Nat.reduceAdd, Nat.reduceSub, Nat.reduceLT, Nat.reduceLeDiff, Nat.reduceEqDiff, Nat.reduceBEq, Nat.reduceBneDiff, Nat.reduceMul, ↓reduceIte, Int.reduceToNat, reduceCtorEq, Int.reduceNeg, Int.reduceAdd, hc0', Int.natCast_zero, Int.natCast_one]) ?_
    rintro ⟨i, acc⟩ ⟨k, hi, hk, hR⟩
    dsimp only at hi hR
    have hni : i.toNat = k := by omega
    have hni1 : (i + 1).toNat = k + 1 := by omega
    rcases Nat.lt_or_ge k (x.args).length with hlt | hge
    · have hg := get_at Tm.d hlt
      rw [Tm.d_eq] at hg
      have hc := ih x.args[k] (List.getElem_mem hlt)
      rw [List.drop_eq_getElem_cons hlt, Tm.cntL] at hR
      simp (disch := omega) only [go_sem, Nat.reduceAdd, Nat.reduceSub, Nat.reduceLT, Nat.reduceLeDiff, Nat.reduceEqDiff, Nat.reduceBEq, Nat.reduceBneDiff, Nat.reduceMul, ↓reduceIte, Int.reduceToNat, reduceCtorEq, Int.reduceNeg, Int.reduceAdd, hni, hg, hc, m_impl_countName]
      exact ⟨(i + 1, acc + x.args[k].cnt n), ⟨k + 1, by dsimp only; omega, hlt, by omega⟩, by dsimp only; omega, by simp⟩
    · rw [List.drop_eq_nil_of_le hge, Tm.cntL] at hR
      simp (disch := omega) only [go_sem, Nat.reduceAdd, Nat.reduceSub, Nat.reduceLT, Nat.reduceLeDiff, Nat.reduceEqDiff, Nat.reduceBEq, Nat.reduceBneDiff, Nat.reduceMul, ↓reduceIte, Int.reduceToNat, reduceCtorEq, Int.reduceNeg, Int.reduceAdd, hni]
      try omega
theorem countName_E (x : Tm) (n : ByteArray) (hn : x.nodes ≤ 1099511627776) : E 92 [x.sv, .str n] [] = some (.int .i64 (x.cnt n : Nat), []) :=
  countName_of x n hn fun y hy => countName_E y n (by have := Tm.nodes_mem hy; have := Tm.nodes_eq x; omega)
termination_by SizeOf.sizeOf x
decreasing_by exact Tm.lt_of_mem hy
theorem l2In_E (xs : List ByteArray) (n : ByteArray) (hl : xs.length ≤ 1099511627776) : E 65 [.arr (xs.map fun s => [D.str s]), .str n] [] = some (.bool (dec (n ∈ xs)), []) := by
  refine E_walk k_spec_l2In m_spec_l2In (of_decide_eq_true rfl) ?_
  simp (disch := omega) only [c_spec_l2In, go_sem, Nat.reduceAdd, Nat.reduceSub, Nat.reduceLT, Nat.reduceLeDiff, Nat.reduceEqDiff, Nat.reduceBEq, Nat.reduceBneDiff, Nat.reduceMul, ↓reduceIte, Int.reduceToNat, reduceCtorEq, Int.reduceNeg, Int.reduceAdd]
  refine go_loop (α := Int) (fun a => ⟨slots 18 0 [(0, .arr (xs.map fun s => [D.str s])), (1, .str n), (5, .int .i64 a)], []⟩) (fun a => ∃ k : Nat, a = k ∧ k ≤ (xs).length ∧ dec (n ∈ xs.drop k) = dec (n ∈ xs)) (fun a => (xs).length - (a).toNat) 0 ⟨0, rfl, Nat.zero_le _, by rw [List.drop_zero]⟩ (by simp (disch := omega) only [go_sem, Nat.reduceAdd, Nat.reduceSub, Nat.reduceLT, Nat.reduceLeDiff, Nat.reduceEqDiff, Nat.reduceBEq, Nat.reduceBneDiff, Nat.reduceMul, ↓reduceIte, Int.reduceToNat, reduceCtorEq, Int.reduceNeg, Int.reduceAdd]) ?_
  rintro i ⟨k, hi, hk, hR⟩
  have hni : i.toNat = k := by omega
  have hni1 : (i + 1).toNat = k + 1 := by omega
  rcases Nat.lt_or_ge k (xs).length with hlt | hge
  · have hg := get_at (fun s => [D.str s]) hlt
    rw [List.drop_eq_getElem_cons hlt] at hR
    by_cases hp : xs[k] = n
    · have hq := eq_true hp
      have ht : dec (n ∈ xs) = true := dec_t (hp ▸ List.getElem_mem hlt)
      simp (disch := omega) only [go_sem, Nat.reduceAdd, Nat.reduceSub, Nat.reduceLT, Nat.reduceLeDiff, Nat.reduceEqDiff, Nat.reduceBEq, Nat.reduceBneDiff, Nat.reduceMul, ↓reduceIte, Int.reduceToNat, reduceCtorEq, Int.reduceNeg, Int.reduceAdd, hni, hg, hq]
      exact ht.symm
    · have hq := eq_false hp
      have hR : dec (n ∈ xs.drop (k + 1)) = dec (n ∈ xs) := by
        rw [← hR]
        exact dec_ii (by simp only [List.mem_cons]; exact ⟨.inr, fun h => h.elim (fun e => absurd e.symm hp) id⟩)
      simp (disch := omega) only [go_sem, Nat.reduceAdd, Nat.reduceSub, Nat.reduceLT, Nat.reduceLeDiff, Nat.reduceEqDiff, Nat.reduceBEq, Nat.reduceBneDiff, Nat.reduceMul, ↓reduceIte, Int.reduceToNat, reduceCtorEq, Int.reduceNeg, Int.reduceAdd, hni, hg, hq]
      exact ⟨i + 1, ⟨k + 1, by omega, hlt, hR⟩, by omega, by first | trivial | rfl⟩
  · rw [List.drop_eq_nil_of_le hge, dec_f (by simp)] at hR
    simp (disch := omega) only [go_sem, Nat.reduceAdd, Nat.reduceSub, Nat.reduceLT, Nat.reduceLeDiff, Nat.reduceEqDiff, Nat.reduceBEq, Nat.reduceBneDiff, Nat.reduceMul, ↓reduceIte, Int.reduceToNat, reduceCtorEq, Int.reduceNeg, Int.reduceAdd, hni]
    exact hR
theorem occurs_E (n : ByteArray) (hn : varB n = true) (x : Tm) (hx : x.expr = true) : E 72 [.str n, x.sv] [] = some (.bool (dec (n ∈ x.vs)), []) := by
  have h := countName_E x n (by have := Tm.expr_nodes hx; omega)
  rw [← Tm.cnt_ex hn x hx]
  refine E_walk k_impl_occurs m_impl_occurs (of_decide_eq_true rfl) ?_
  simp (disch := omega) only [c_impl_occurs, go_sem, Nat.reduceAdd, Nat.reduceSub, Nat.reduceLT, Nat.reduceLeDiff, Nat.reduceEqDiff, Nat.reduceBEq, Nat.reduceBneDiff, Nat.reduceMul, ↓reduceIte, Int.reduceToNat, reduceCtorEq, Int.reduceNeg, Int.reduceAdd, h, m_impl_countName]
theorem one_tame {b : Bd} (h : b.term.nodes ≤ 1099511627776) : (Sb.mk [b]).tame := ⟨by simp, fun y hy => by
  have : y = b := by simpa using hy
  rw [this]; exact h⟩
set_option maxHeartbeats 4000000 in
theorem bindingOf_E (x y : Tm) (hx : x.expr = true) (hy : y.expr = true) (hv : (varB x.name || varB y.name) = true) : E 46 [.agg [.str x.name, .arr (x.args.map Tm.d), .str y.name, .arr (y.args.map Tm.d)]] [] = some (.tup [(Sb.mk [bndOf x y]).sv, .bool (bndOk (bndOf x y))], []) := by
  have h1 := isVar_E x (Tm.expr_cok hx)
  have h2 := isVar_E y (Tm.expr_cok hy)
  have n1 := Tm.expr_nodes hx
  have n2 := Tm.expr_nodes hy
  have hor : (bndOf x y = ⟨x.name, y⟩ ∧ varB x.name = true ∧ (varB y.name && strLt x.name y.name) = false) ∨ (bndOf x y = ⟨y.name, x⟩ ∧ varB y.name = true ∧ (varB x.name = false ∨ (varB y.name && strLt x.name y.name) = true)) := by
    unfold bndOf
    cases h1 : varB x.name with
    | true =>
      cases h3 : varB y.name && strLt x.name y.name with
      | true => rw [Bool.and_eq_true] at h3; exact .inr ⟨rfl, h3.1, .inr (by rfl)⟩
      | false => exact .inl ⟨rfl, rfl, rfl⟩
    | false =>
      rw [h1, Bool.false_or] at hv
      exact .inr ⟨rfl, hv, .inl (by rfl)⟩
  rcases hor with ⟨e, k1, k2⟩ | ⟨e, k1, k2⟩
  · rw [e]
    have ho := occurs_E x.name k1 y hy
    have hi := isValidSubstitution_E ⟨[⟨x.name, y⟩]⟩ (one_tame (by show y.nodes ≤ _; omega))
    have hsv : (Sb.mk [⟨x.name, y⟩]).sv = .agg [.arr [[.str x.name, .str y.name, .arr (y.args.map Tm.d)]]] := rfl
    rw [hsv] at hi ⊢
    unfold bndOk
    rw [k1] at h1
    cases hv2 : varB y.name with
    | false =>
      rw [hv2] at h2
      cases hb : dec (x.name ∈ y.vs) with
      | true =>
        rw [hb] at ho
        refine E_walk k_impl_bindingOf m_impl_bindingOf (of_decide_eq_true rfl) ?_
        simp (disch := omega) only [c_impl_bindingOf, go_sem, Nat.reduceAdd, Nat.reduceSub, Nat.reduceLT, Nat.reduceLeDiff, Nat.reduceEqDiff, Nat.reduceBEq, Nat.reduceBneDiff, Nat.reduceMul, ↓reduceIte, Int.reduceToNat, reduceCtorEq, Int.reduceNeg, Int.reduceAdd, h1, h2, ho, hi, hb, m_impl_isVar, m_impl_occurs, m_impl_IsValidSubstitution]
      | false =>
        rw [hb] at ho
        refine E_walk k_impl_bindingOf m_impl_bindingOf (of_decide_eq_true rfl) ?_
        simp (disch := omega) only [c_impl_bindingOf, go_sem, Nat.reduceAdd, Nat.reduceSub, Nat.reduceLT, Nat.reduceLeDiff, Nat.reduceEqDiff, Nat.reduceBEq, Nat.reduceBneDiff, Nat.reduceMul, ↓reduceIte, Int.reduceToNat, reduceCtorEq, Int.reduceNeg, Int.reduceAdd, h1, h2, ho, hi, hb, m_impl_isVar, m_impl_occurs, m_impl_IsValidSubstitution]
    | true =>
      rw [hv2] at h2 k2
      rw [Bool.true_and] at k2
      cases hb : dec (x.name ∈ y.vs) with
      | true =>
        rw [hb] at ho
        refine E_walk k_impl_bindingOf m_impl_bindingOf (of_decide_eq_true rfl) ?_
        simp (disch := omega) only [c_impl_bindingOf, go_sem, Nat.reduceAdd, Nat.reduceSub, Nat.reduceLT, Nat.reduceLeDiff, Nat.reduceEqDiff, Nat.reduceBEq, Nat.reduceBneDiff, Nat.reduceMul, ↓reduceIte, Int.reduceToNat, reduceCtorEq, Int.reduceNeg, Int.reduceAdd, h1, h2, ho, hi, hb, k2, strLe_eq, Bool.not_not, m_impl_isVar, m_impl_occurs, m_impl_IsValidSubstitution]
      | false =>
        rw [hb] at ho
        refine E_walk k_impl_bindingOf m_impl_bindingOf (of_decide_eq_true rfl) ?_
        simp (disch := omega) only [c_impl_bindingOf, go_sem, Nat.reduceAdd, Nat.reduceSub, Nat.reduceLT, Nat.reduceLeDiff, Nat.reduceEqDiff, Nat.reduceBEq, Nat.reduceBneDiff, Nat.reduceMul, ↓reduceIte, Int.reduceToNat, reduceCtorEq, Int.reduceNeg, Int.reduceAdd, h1, h2, ho, hi, hb, k2, strLe_eq, Bool.not_not, m_impl_isVar, m_impl_occurs, m_impl_IsValidSubstitution]
  · rw [e]
    have ho := occurs_E y.name k1 x hx
    have hi := isValidSubstitution_E ⟨[⟨y.name, x⟩]⟩ (one_tame (by show x.nodes ≤ _; omega))
    have hsv : (Sb.mk [⟨y.name, x⟩]).sv = .agg [.arr [[.str y.name, .str x.name, .arr (x.args.map Tm.d)]]] := rfl
    rw [hsv] at hi ⊢
    unfold bndOk
    rw [k1] at h2 k2
    rw [Bool.true_and] at k2
    cases hv1 : varB x.name with
    | false =>
      rw [hv1] at h1
      cases hb : dec (y.name ∈ x.vs) with
      | true =>
        rw [hb] at ho
        refine E_walk k_impl_bindingOf m_impl_bindingOf (of_decide_eq_true rfl) ?_
        simp (disch := omega) only [c_impl_bindingOf, go_sem, Nat.reduceAdd, Nat.reduceSub, Nat.reduceLT, Nat.reduceLeDiff, Nat.reduceEqDiff, Nat.reduceBEq, Nat.reduceBneDiff, Nat.reduceMul, ↓reduceIte, Int.reduceToNat, reduceCtorEq, Int.reduceNeg, Int.reduceAdd, h1, h2, ho, hi, hb, m_impl_isVar, m_impl_occurs, m_impl_IsValidSubstitution]
      | false =>
        rw [hb] at ho
        refine E_walk k_impl_bindingOf m_impl_bindingOf (of_decide_eq_true rfl) ?_
        simp (disch := omega) only [c_impl_bindingOf, go_sem, Nat.reduceAdd, Nat.reduceSub, Nat.reduceLT, Nat.reduceLeDiff, Nat.reduceEqDiff, Nat.reduceBEq, Nat.reduceBneDiff, Nat.reduceMul, ↓reduceIte, Int.reduceToNat, reduceCtorEq, Int.reduceNeg, Int.reduceAdd, h1, h2, ho, hi, hb, m_impl_isVar, m_impl_occurs, m_impl_IsValidSubstitution]
    | true =>
      rw [hv1] at h1 k2
      have k2 : strLt x.name y.name = true := k2.elim (fun h => by cases h) id
      cases hb : dec (y.name ∈ x.vs) with
      | true =>
        rw [hb] at ho
        refine E_walk k_impl_bindingOf m_impl_bindingOf (of_decide_eq_true rfl) ?_
        simp (disch := omega) only [c_impl_bindingOf, go_sem, Nat.reduceAdd, Nat.reduceSub, Nat.reduceLT, Nat.reduceLeDiff, Nat.reduceEqDiff, Nat.reduceBEq, Nat.reduceBneDiff, Nat.reduceMul, ↓reduceIte, Int.reduceToNat, reduceCtorEq, Int.reduceNeg, Int.reduceAdd, h1, h2, ho, hi, hb, k2, strLe_eq, Bool.not_not, m_impl_isVar, m_impl_occurs, m_impl_IsValidSubstitution]
      | false =>
        rw [hb] at ho
        refine E_walk k_impl_bindingOf m_impl_bindingOf (of_decide_eq_true rfl) ?_
        simp (disch := omega) only [c_impl_bindingOf, go_sem, Nat.reduceAdd, Nat.reduceSub, Nat.reduceLT, Nat.reduceLeDiff, Nat.reduceEqDiff, Nat.reduceBEq, Nat.reduceBneDiff, Nat.reduceMul, ↓reduceIte, Int.reduceToNat, reduceCtorEq, Int.reduceNeg, Int.reduceAdd, h1, h2, ho, hi, hb, k2, strLe_eq, Bool.not_not, m_impl_isVar, m_impl_occurs, m_impl_IsValidSubstitution]
set_option maxHeartbeats 4000000 in
theorem l5Bind_E (s : Sb) (hs : s.ok = true) (n : ByteArray) (t : Tm) (ht : t.expr = true) (hne : t.name = n → n ∈ t.vs) : ∃ r : Sb, E 40 [s.sv, .str n, t.sv] [] = some (.tup [r.sv, .bool (bndOk ⟨n, t⟩ && cmpOk s ⟨[⟨n, t⟩]⟩)], []) ∧ ((bndOk ⟨n, t⟩ && cmpOk s ⟨[⟨n, t⟩]⟩) = true → r = cmpS s ⟨[⟨n, t⟩]⟩) := by
  have n1 := Tm.expr_nodes ht
  have h1 := l2Vars_E t (by omega)
  have hl := insA_len t.vs []
  have hvl := Tm.vs_len t
  have h2 := l2In_E (insA [] t.vs) n (by simp only [List.length_nil] at hl; omega)
  have e1 : dec (n ∈ insA [] t.vs) = dec (n ∈ t.vs) := dec_ii (by rw [insA_mem]; simp)
  rw [e1] at h2
  have hss : s.sv = .agg [.arr (s.binds.map Bd.d)] := rfl
  cases hb : dec (n ∈ t.vs) with
  | true =>
    rw [hb] at h2
    refine ⟨s, ?_, fun h => ?_⟩
    · have e2 : bndOk ⟨n, t⟩ = false := by
        unfold bndOk
        show (!dec (n ∈ t.vs) && _) = false
        rw [hb]; rfl
      rw [e2, Bool.false_and, hss]
      refine E_walk k_spec_l5Bind m_spec_l5Bind (of_decide_eq_true rfl) ?_
      simp (disch := omega) only [c_spec_l5Bind, go_sem, Nat.reduceAdd, Nat.reduceSub, Nat.reduceLT, Nat.reduceLeDiff, Nat.reduceEqDiff, Nat.reduceBEq, Nat.reduceBneDiff, Nat.reduceMul, ↓reduceIte, Int.reduceToNat, reduceCtorEq, Int.reduceNeg, Int.reduceAdd, h1, h2, m_spec_l2Vars, m_spec_l2In]
    · unfold bndOk at h
      have h : ((!dec (n ∈ t.vs) && _) && _) = true := h
      rw [hb] at h; cases h
  | false =>
    rw [hb] at h2
    have hnn : ¬ t.name = n := fun e => dec_not.1 hb (hne e)
    have h3 := l4Put_E ⟨[]⟩ n t (by show 0 ≤ _; omega) (by omega)
    have hput : (Sb.mk []).put ⟨n, t⟩ = ⟨[⟨n, t⟩]⟩ := by
      unfold Sb.put
      rw [dec_f hnn]; rfl
    rw [hput] at h3
    have hpsv : (Sb.mk [⟨n, t⟩]).sv = .agg [.arr [[.str n, .str t.name, .arr (t.args.map Tm.d)]]] := rfl
    have htame : s.tame := ⟨by have := ok_len hs; omega, fun c hc => by
      obtain ⟨k, hk, rfl⟩ := List.getElem_of_mem hc
      have := valid_nodes (bdOk_valid (Sb.ok_at hs hk)); omega⟩
    have h4 := specCompose_E s ⟨[⟨n, t⟩]⟩ htame (one_tame (by show t.nodes ≤ _; omega))
    have e0 : (Sb.mk []).sv = .agg [.arr []] := rfl
    rw [e0, hpsv] at h3
    rw [hpsv] at h4
    have e2 : cmOk s ⟨[⟨n, t⟩]⟩ = (bndOk ⟨n, t⟩ && cmpOk s ⟨[⟨n, t⟩]⟩) := by
      unfold cmOk bndOk
      show _ = ((!dec (n ∈ t.vs) && _) && _)
      rw [hs, hb]; rfl
    rw [e2] at h4
    refine ⟨cmTo s ⟨[⟨n, t⟩]⟩, ?_, fun h => ?_⟩
    · have hrs : (cmTo s ⟨[⟨n, t⟩]⟩).sv = .agg [.arr ((cmTo s ⟨[⟨n, t⟩]⟩).binds.map Bd.d)] := rfl
      rw [hss] at h4 ⊢
      rw [hrs] at h4 ⊢
      refine E_walk k_spec_l5Bind m_spec_l5Bind (of_decide_eq_true rfl) ?_
      simp (disch := omega) only [c_spec_l5Bind, go_sem, Nat.reduceAdd, Nat.reduceSub, Nat.reduceLT, Nat.reduceLeDiff, Nat.reduceEqDiff, Nat.reduceBEq, Nat.reduceBneDiff, Nat.reduceMul, ↓reduceIte, Int.reduceToNat, reduceCtorEq, Int.reduceNeg, Int.reduceAdd, h1, h2, h3, h4, m_spec_l2Vars, m_spec_l2In, m_spec_l4Put, m_spec_ComposeSubstitutions]
    · unfold cmTo
      rw [e2, h]; rfl
end Go.Proofs.YtjafnijgkjjadaaGreat

set_option maxRecDepth 100000
set_option linter.unusedSimpArgs false
set_option linter.unusedVariables false
namespace Go.Proofs.YtjafnijgkjjadaaGreat
open Go.RowKit

/-- An equation's cells. -/
def eqD (p : Tm × Tm) : List D := [.str p.1.name, .arr (p.1.args.map Tm.d), .str p.2.name, .arr (p.2.args.map Tm.d)]
def eqO (p : Tm × Tm) : List OT := [.str p.1.name, .sh (p.1.args.map Tm.d), .str p.2.name, .sh (p.2.args.map Tm.d)]
theorem eqO_er : ∀ l : List (Tm × Tm), OT.erss (l.map eqO) = l.map eqD
  | [] => rfl
  | p :: l => by rw [List.map_cons, List.map_cons, OT.erss, eqO_er l]; rfl
theorem eqO_fu : ∀ l : List (Tm × Tm), OT.fullss (l.map eqO) = true
  | [] => rfl
  | p :: l => by rw [List.map_cons, OT.fullss, eqO_fu l]; rfl
theorem eqD_ot (l : List (Tm × Tm)) : (l.map eqD).map (fun x => x.map D.ot) = l.map eqO := by rw [List.map_map]; rfl
theorem eqO_all (l : List (Tm × Tm)) : ((l.map eqO).all fun x => x.length == 4) = true := by
  rw [List.all_map, List.all_eq_true]; intro x _; rfl
theorem eqD_all (l : List (Tm × Tm)) : ((l.map eqD).all fun x => x.length == 4) = true := by
  rw [List.all_map, List.all_eq_true]; intro x _; rfl
noncomputable def uTo (t : Option Sb) : Sb := t.getD ⟨[]⟩
def uOk (t : Option Sb) : Bool := t.isSome
theorem ok_tame {s : Sb} (hs : s.ok = true) : s.tame := ⟨by have := ok_len hs; omega, fun c hc => by
  obtain ⟨k, hk, rfl⟩ := List.getElem_of_mem hc
  have := valid_nodes (bdOk_valid (Sb.ok_at hs hk)); omega⟩
theorem zip_take {α β : Type} {xs : List α} {ys : List β} {k : Nat} (h : k < xs.length) (h' : k < ys.length) : (xs.zip ys).take k ++ [(xs[k], ys[k])] = (xs.zip ys).take (k + 1) := by
  have hz : k < (xs.zip ys).length := by rw [List.length_zip]; omega
  rw [List.take_succ_eq_append_getElem hz, List.getElem_zip]
end Go.Proofs.YtjafnijgkjjadaaGreat
