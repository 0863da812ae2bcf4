/-
  This text holds, one behind the other: This text holds plain laws of substituting a variable in a formula: the program's way and the reference's. No condition.
  This text tells how often a name occurs in a term. No condition.
  This text tells whether a variable occurs in a term, in the program. No condition.
  This text tells what substituting a variable in a formula answers in the program. No condition.
-/
import Derived.Test.YtjgnhifkcgpmjaaGreatK30c
import Derived.Test.YtjgnhifkcgpmjaaGreatK30f
import Derived.Test.YtjgnhifkcgpmjaaGreatK30g
set_option maxRecDepth 100000
set_option linter.unusedSimpArgs false
set_option linter.unusedVariables false
namespace Go.Proofs.YtjgnhifkcgpmjaaGreat
open Go.RowKit

/-- Whether a quantified formula stays as it is. -/
noncomputable def Fm.stays (n : ByteArray) (x : Fm) : Bool := qB x.op && (dec (x.var = n) || !dec (n ∈ x.fv []))
mutual
noncomputable def Fm.subP (n : ByteArray) (t : Tm) : Fm → Fm × Bool
  | .mk op atom var parts => bif Fm.stays n (.mk op atom var parts) then (.mk op atom var parts, true) else bif qB op && dec (var ∈ t.vs) then (Fm.zero, false)
    else (.mk op (bif dec (op = 3) then atom.ap (Sb.mk [⟨n, t⟩]).look else atom) var (Fm.subPL n t parts).1, (Fm.subPL n t parts).2)
noncomputable def Fm.subPL (n : ByteArray) (t : Tm) : List Fm → List Fm × Bool
  | [] => ([], true)
  | x :: xs => ((Fm.subP n t x).1 :: (Fm.subPL n t xs).1, (Fm.subP n t x).2 && (Fm.subPL n t xs).2)
end
theorem Fm.subP_eq (n : ByteArray) (t : Tm) (x : Fm) : x.subP n t = bif x.stays n then (x, true) else bif qB x.op && dec (x.var ∈ t.vs) then (Fm.zero, false)
    else (.mk x.op (bif dec (x.op = 3) then x.atom.ap (Sb.mk [⟨n, t⟩]).look else x.atom) x.var (x.parts.map fun y => (y.subP n t).1), x.parts.all fun y => (y.subP n t).2) := by
  have key : ∀ xs : List Fm, Fm.subPL n t xs = (xs.map fun y => (y.subP n t).1, xs.all fun y => (y.subP n t).2) := by
    intro xs
    induction xs with
    | nil => rw [Fm.subPL]; rfl
    | cons y ys ih => rw [Fm.subPL, ih]; rfl
  obtain ⟨op, atom, var, parts⟩ := x
  rw [Fm.subP, key]; rfl
mutual
noncomputable def Fm.subS (n : ByteArray) (t : Tm) : Fm → Fm × Bool
  | .mk op atom var parts => bif dec (op = 3) then (.mk op (atom.ap (Sb.mk [⟨n, t⟩]).look) var [], (atom.ap (Sb.mk [⟨n, t⟩]).look).atom)
    else bif Fm.stays n (.mk op atom var parts) then (.mk op atom var parts, true) else bif qB op && dec (var ∈ t.vs) then (.mk op (.mk ⟨#[]⟩ []) var [], false)
    else (.mk op (.mk ⟨#[]⟩ []) var (Fm.subSL n t parts).1, (Fm.subSL n t parts).2)
noncomputable def Fm.subSL (n : ByteArray) (t : Tm) : List Fm → List Fm × Bool
  | [] => ([], true)
  | x :: xs => bif (Fm.subS n t x).2 then ((Fm.subS n t x).1 :: (Fm.subSL n t xs).1, (Fm.subSL n t xs).2) else ([], false)
end
theorem Fm.subS_eq (n : ByteArray) (t : Tm) (x : Fm) : x.subS n t = bif dec (x.op = 3) then (.mk x.op (x.atom.ap (Sb.mk [⟨n, t⟩]).look) x.var [], (x.atom.ap (Sb.mk [⟨n, t⟩]).look).atom)
    else bif x.stays n then (x, true) else bif qB x.op && dec (x.var ∈ t.vs) then (.mk x.op (.mk ⟨#[]⟩ []) x.var [], false)
    else (.mk x.op (.mk ⟨#[]⟩ []) x.var (Fm.subSL n t x.parts).1, (Fm.subSL n t x.parts).2) := by
  obtain ⟨op, atom, var, parts⟩ := x
  rw [Fm.subS]; rfl
theorem Fm.mk_op (a : Int) (b : Tm) (c : ByteArray) (d : List Fm) : (Fm.mk a b c d).op = a ∧ (Fm.mk a b c d).atom = b ∧ (Fm.mk a b c d).var = c ∧ (Fm.mk a b c d).parts = d := ⟨rfl, rfl, rfl, rfl⟩
/-- The form of a formula with other parts and, if it is an atom, another atom. -/
theorem Fm.form_with {x : Fm} (h : x.form = true) (a : Tm) (ps : List Fm) (hl : ps.length = x.parts.length) (ha : a = if x.op = 3 then a else x.atom) : (Fm.mk x.op a x.var ps).form = if x.op = 3 then a.atom else true := by
  by_cases h3 : x.op = 3
  · rw [if_pos h3]
    have h4 := Fm.form_atom h h3
    have hp : ps = [] := List.eq_nil_of_length_eq_zero (by rw [hl, h4.1]; rfl)
    unfold Fm.form
    simp only [Fm.mk_op, h3, h4.2.2, hp]
    simp [dec_t]
  · rw [if_neg h3] at ha ⊢
    subst ha
    unfold Fm.form at h ⊢
    simp only [Fm.mk_op, hl]
    exact h
/-- The reference's way and the program's way come to the same. -/
theorem Fm.sub_both (n : ByteArray) (t : Tm) (x : Fm) (hx : x.forms = true) :
    ((x.subS n t).2 = true → x.subP n t = ((x.subS n t).1, true) ∧ (x.subS n t).1.forms = true ∧ (x.subS n t).1.nodes = x.nodes) ∧
    ((x.subS n t).2 = false → ((x.subP n t).2 = false ∨ (x.subP n t).1.forms = false)) := by
  have hf := Fm.forms_form hx
  have ih : ∀ y ∈ x.parts, _ := fun y hy => Fm.sub_both n t y (Fm.forms_part hx hy)
  have hS := Fm.subS_eq n t x
  have hP := Fm.subP_eq n t x
  by_cases h3 : x.op = 3
  · have hp := Fm.form_atom hf h3
    have hq : qB x.op = false := by unfold qB; rw [h3, dec_f (by omega), dec_f (by omega)]; rfl
    have hst : x.stays n = false := by unfold Fm.stays; rw [hq]; rfl
    rw [dec_t h3, cond_true] at hS
    rw [hst, hq, dec_t h3, hp.1] at hP
    simp only [cond_false, cond_true, Bool.false_and, List.map_nil, List.all_nil] at hP
    rw [hS, hP]
    have hw := Fm.form_with hf (x.atom.ap (Sb.mk [⟨n, t⟩]).look) [] (by rw [hp.1]) (by rw [if_pos h3])
    rw [if_pos h3] at hw
    have hfo : (Fm.mk x.op (x.atom.ap (Sb.mk [⟨n, t⟩]).look) x.var []).forms = (x.atom.ap (Sb.mk [⟨n, t⟩]).look).atom := by
      rw [Fm.forms_eq, hw]
      simp [Fm.mk_op, Fm.formS]
    dsimp only
    refine ⟨fun h => ⟨rfl, by rw [hfo]; exact h, ?_⟩, fun h => .inr (by rw [hfo]; exact h)⟩
    rw [Fm.nodes_eq, Fm.nodes_eq, hp.1]
    rfl
  · rw [dec_f h3, cond_false] at hS
    rw [dec_f h3, cond_false] at hP
    cases hst : x.stays n with
    | true =>
      rw [hst] at hS hP
      simp only [cond_true] at hS hP
      rw [hS, hP]
      exact ⟨fun _ => ⟨rfl, hx, rfl⟩, fun h => by cases h⟩
    | false =>
      rw [hst] at hS hP
      simp only [cond_false] at hS hP
      cases hc : qB x.op && dec (x.var ∈ t.vs) with
      | true =>
        rw [hc] at hS hP
        simp only [cond_true] at hS hP
        rw [hS, hP]
        exact ⟨fun h => (by cases h), fun _ => .inl rfl⟩
      | false =>
        rw [hc] at hS hP
        simp only [cond_false] at hS hP
        have hat := Fm.form_other hf h3
        rw [hS, hP, hat]
        -- the parts
        have key : ∀ xs : List Fm, (∀ y ∈ xs, y ∈ x.parts) →
            ((Fm.subSL n t xs).2 = true → (xs.map fun y => (y.subP n t).1) = (Fm.subSL n t xs).1 ∧ (xs.all fun y => (y.subP n t).2) = true ∧ Fm.formS (Fm.subSL n t xs).1 = true ∧ Fm.nodeS (Fm.subSL n t xs).1 = Fm.nodeS xs ∧ (Fm.subSL n t xs).1.length = xs.length) ∧
            ((Fm.subSL n t xs).2 = false → (xs.all fun y => (y.subP n t).2) = false ∨ Fm.formS (xs.map fun y => (y.subP n t).1) = false) := by
          intro xs
          induction xs with
          | nil =>
            intro _
            rw [Fm.subSL]
            exact ⟨fun _ => ⟨rfl, rfl, rfl, rfl, rfl⟩, fun h => by cases h⟩
          | cons y ys ihy =>
            intro hm
            have h1 := ih y (hm y (by simp))
            have h2 := ihy fun z hz => hm z (by simp [hz])
            rw [Fm.subSL]
            cases hy : (y.subS n t).2 with
            | true =>
              obtain ⟨e1, e2, e3⟩ := h1.1 hy
              simp only [cond_true, List.map_cons, List.all_cons, e1, Bool.true_and]
              refine ⟨fun h => ?_, fun h => ?_⟩
              · obtain ⟨f1, f2, f3, f4, f5⟩ := h2.1 h
                refine ⟨by rw [f1], f2, by rw [Fm.formS, e2, f3]; rfl, by rw [Fm.nodeS, Fm.nodeS, e3, f4], by simp [f5]⟩
              · rcases h2.2 h with h | h
                · exact .inl h
                · right
                  rw [Fm.formS, h, Bool.and_false]
            | false =>
              simp only [cond_false, List.map_cons, List.all_cons]
              refine ⟨fun h => (by cases h), fun _ => ?_⟩
              rcases h1.2 hy with h | h
              · left; rw [h, Bool.false_and]
              · right; rw [Fm.formS, h, Bool.false_and]
        have hk := key x.parts fun y hy => hy
        dsimp only
        refine ⟨fun h => ?_, fun h => ?_⟩
        · obtain ⟨f1, f2, f3, f4, f5⟩ := hk.1 h
          refine ⟨by rw [f1, f2], ?_, ?_⟩
          · have hw := Fm.form_with hf (.mk ⟨#[]⟩ []) (Fm.subSL n t x.parts).1 f5 (by rw [if_neg h3, hat])
            rw [if_neg h3] at hw
            rw [Fm.forms_eq, hw]
            simpa [Fm.mk_op] using f3
          · rw [Fm.nodes_eq, Fm.nodes_eq]
            simp only [Fm.mk_op, f4]
        · rcases hk.2 h with h | h
          · exact .inl h
          · right
            rw [Fm.forms_eq]
            simp only [Fm.mk_op, h, Bool.and_false]
termination_by SizeOf.sizeOf x
decreasing_by exact Fm.lt_of_mem hy
/-- The reference asks the part whether the variable is free. -/
theorem Fm.stays_part (n : ByteArray) {x p : Fm} (hx : x.form = true) (hq : qB x.op = true) (hp : x.parts = [p]) : x.stays n = (dec (x.var = n) || !dec (n ∈ p.fv [])) := by
  unfold Fm.stays
  rw [hq, Bool.true_and]
  by_cases hv : x.var = n
  · rw [dec_t hv]; rfl
  · rw [dec_f hv, Bool.false_or, Bool.false_or]
    congr 1
    have h3 : dec (x.op = 3) = false := dec_f (by
      unfold qB at hq
      rw [Bool.or_eq_true, dec_iff, dec_iff] at hq
      omega)
    have e : n ∈ x.fv [] ↔ n ∈ p.fv [] := by
      rw [Fm.fv_eq, h3, hq, hp]
      simp only [cond_false, cond_true, List.nil_append, Fm.fvL, List.append_nil]
      rw [Fm.fv_mem]
      exact ⟨fun h => h.1, fun h => ⟨h, fun h2 => hv (by have h4 : n = x.var := (by simpa using h2); exact h4.symm)⟩⟩
    rw [propext e]
end Go.Proofs.YtjgnhifkcgpmjaaGreat

set_option maxRecDepth 100000
set_option linter.unusedSimpArgs false
set_option linter.unusedVariables false
namespace Go.Proofs.YtjgnhifkcgpmjaaGreat
open Go.RowKit

def c_impl_countName : SC := (.seq (.reg [⟨(some 2), none, (.boxv 31 2 (.t 0))⟩, ⟨(some 4), none, (.mv (.c (.int .i64 0)))⟩]) (.seq (.reg [⟨(some 5), none, (.mv (.c (.int .i64 0)))⟩]) (.seq (.seq (.reg [⟨(some 8), none, (.faddr 0 (.t 2))⟩, ⟨(some 9), none, (.load false 1 (.t 8))⟩, ⟨(some 10), none, (.mv (.t 1))⟩, ⟨(some 11), none, (.bin .eql false (.t 9) (.t 10))⟩]) (.cond (.t 11) (.reg [⟨(some 5), none, (.mv (.c (.int .i64 1)))⟩]) .skip)) (.seq (.seq (.reg [⟨(some 12), none, (.faddr 1 (.t 2))⟩, ⟨(some 13), none, (.load false 1 (.t 12))⟩, ⟨(some 14), none, (.len false (.t 13))⟩, ⟨(some 15), none, (.mv (.c (.int .i64 0)))⟩]) (.block 0 (.loop [0, 1, 0, 0, 0, 1, 0, 0, 0, 0, 0, 0, 0, 1, 1, 1, 0, 0, 0, 0, 0, 0, 0, 0, 0, 0] (.seq (.reg [⟨(some 16), none, (.bin .lss false (.t 15) (.t 14))⟩]) (.seq (.cond (.t 16) .skip (.exit 0)) (.seq (.block 1 (.seq (.reg [⟨(some 17), none, (.iaddr 2 (.t 13) (.t 15))⟩, ⟨(some 18), none, (.load true 2 (.t 17))⟩, ⟨(some 7), none, (.alloc 31 [(.str ⟨#[]⟩), .nil])⟩, ⟨none, none, (.store 2 (.t 7) (.t 18))⟩]) (.reg [⟨(some 19), none, (.mv (.t 5))⟩, ⟨(some 20), none, (.load true 2 (.t 7))⟩, ⟨(some 21), none, (.mv (.t 1))⟩, ⟨(some 22), none, (.call 118 [(.t 20), (.t 21)])⟩, ⟨(some 23), none, (.bin .add false (.t 19) (.t 22))⟩, ⟨(some 5), none, (.mv (.t 23))⟩]))) (.reg [⟨(some 24), none, (.bin .add false (.t 15) (.c (.int .i64 1)))⟩, ⟨(some 15), none, (.mv (.t 24))⟩]))))))) (.seq (.reg [⟨(some 25), none, (.mv (.t 5))⟩, ⟨(some 4), none, (.mv (.t 25))⟩]) .ret)))))
theorem k_impl_countName : codeOf Tryz.prog 118 = some ⟨26, c_impl_countName, [(.tmp 4)]⟩ := by kernel_rfl
theorem m_impl_countName : modes 118 = ⟨[], .asis, none, false⟩ := by unfold modes; rfl

mutual
/-- How often a name occurs. -/
noncomputable def Tm.cnt (n : ByteArray) : Tm → Nat
  | .mk name args => (bif dec (name = n) then 1 else 0) + Tm.cntL n args
noncomputable def Tm.cntL (n : ByteArray) : List Tm → Nat
  | [] => 0
  | x :: xs => Tm.cnt n x + Tm.cntL n xs
end
theorem Tm.cnt_eq (n : ByteArray) (x : Tm) : x.cnt n = (bif dec (x.name = n) then 1 else 0) + Tm.cntL n x.args := by
  obtain ⟨a, b⟩ := x
  rw [Tm.cnt]; rfl
theorem Tm.cntL_le (n : ByteArray) : ∀ xs : List Tm, (∀ x ∈ xs, x.cnt n ≤ x.nodes) → Tm.cntL n xs ≤ Tm.nodeS xs
  | [], _ => by rw [Tm.cntL]; omega
  | x :: xs, h => by
    have h1 := h x (by simp)
    have h2 := Tm.cntL_le n xs fun y hy => h y (by simp [hy])
    rw [Tm.cntL, Tm.nodeS]; omega
theorem Tm.cnt_le (n : ByteArray) (x : Tm) : x.cnt n ≤ x.nodes := by
  have h := Tm.cntL_le n x.args fun y hy => Tm.cnt_le n y
  rw [Tm.cnt_eq, Tm.nodes_eq]
  cases dec (x.name = n) with
  | true => simp only [cond_true]; omega
  | false => simp only [cond_false]; omega
termination_by SizeOf.sizeOf x
decreasing_by exact Tm.lt_of_mem hy
theorem Tm.cntL_pos {n : ByteArray} : ∀ {xs : List Tm}, 0 < Tm.cntL n xs ↔ ∃ x ∈ xs, 0 < x.cnt n
  | [] => by rw [Tm.cntL]; simp
  | x :: xs => by
    have h := Tm.cntL_pos (n := n) (xs := xs)
    rw [Tm.cntL]
    constructor
    · intro hp
      rcases Nat.eq_zero_or_pos (x.cnt n) with h0 | h0
      · obtain ⟨y, h1, h2⟩ := h.1 (by omega)
        exact ⟨y, by simp [h1], h2⟩
      · exact ⟨x, by simp, h0⟩
    · rintro ⟨y, h1, h2⟩
      rcases List.mem_cons.1 h1 with rfl | h1
      · omega
      · have := h.2 ⟨y, h1, h2⟩; omega
set_option maxHeartbeats 4000000 in
theorem countName_of (x : Tm) (n : ByteArray) (hn : x.nodes ≤ 1099511627776) (ih : ∀ y ∈ x.args, E 118 [y.sv, .str n] [] = some (.int .i64 (y.cnt n : Nat), [])) : E 118 [x.sv, .str n] [] = some (.int .i64 (x.cnt n : Nat), []) := by
  have hx := Tm.nodes_eq x
  have hl := Tm.length_le x.args
  have hle := Tm.cnt_le n x
  have hc0 := Tm.cnt_eq n x
  have hsv : x.sv = .agg [.str x.name, .arr (x.args.map Tm.d)] := rfl
  rw [hsv]
  obtain ⟨c0, hc0'⟩ : ∃ c0 : Nat, c0 = bif dec (x.name = n) then 1 else 0 := ⟨_, rfl⟩
  rw [← hc0'] at hc0
  by_cases he : x.name = n
  all_goals
    have hq := he
    first
      | rw [dec_t he, cond_true] at hc0'
      | rw [dec_f he, cond_false] at hc0'
    first
      | have hq := eq_true he
      | have hq := eq_false he
    refine E_walk k_impl_countName m_impl_countName (of_decide_eq_true rfl) ?_
    simp (disch := omega) only [c_impl_countName, go_sem, go_cond, Nat.reduceAdd, Nat.reduceSub, Nat.reduceLT, Nat.reduceLeDiff, Nat.reduceEqDiff, Nat.reduceBEq, Nat.reduceBneDiff, Nat.reduceMul, ↓reduceIte, Int.reduceToNat, reduceCtorEq, Int.reduceNeg, Int.reduceAdd, hq]
    refine go_loop (α := Int × (Nat)) (fun a => ⟨slots 26 0 [(1, .str n), (5, .int .i64 (((a.2) : Nat) : Int)), (13, .arr (x.args.map Tm.d)), (14, .int .i64 x.args.length), (15, .int .i64 (a.1))], []⟩) (fun a => ∃ k : Nat, a.1 = k ∧ k ≤ (x.args).length ∧ (a.2) + Tm.cntL n (x.args.drop k) = x.cnt n) (fun a => (x.args).length - (a.1).toNat) (0, c0) ⟨0, rfl, Nat.zero_le _, by rw [List.drop_zero]; exact hc0.symm⟩ (by simp (disch := omega) only [go_sem, go_cond, Nat.reduceAdd, Nat.reduceSub, Nat.reduceLT, Nat.reduceLeDiff, Nat.reduceEqDiff, Nat.reduceBEq, Nat.reduceBneDiff, Nat.reduceMul, ↓reduceIte, Int.reduceToNat, reduceCtorEq, Int.reduceNeg, Int.reduceAdd, hc0', Int.natCast_zero, Int.natCast_one]) ?_
    rintro ⟨i, acc⟩ ⟨k, hi, hk, hR⟩
    dsimp only at hi hR
    have hni : i.toNat = k := by omega
    have hni1 : (i + 1).toNat = k + 1 := by omega
    rcases Nat.lt_or_ge k (x.args).length with hlt | hge
    · have hg := get_at Tm.d hlt
      rw [Tm.d_eq] at hg
      have hc := ih x.args[k] (List.getElem_mem hlt)
      rw [List.drop_eq_getElem_cons hlt, Tm.cntL] at hR
      simp (disch := omega) only [go_sem, go_cond, Nat.reduceAdd, Nat.reduceSub, Nat.reduceLT, Nat.reduceLeDiff, Nat.reduceEqDiff, Nat.reduceBEq, Nat.reduceBneDiff, Nat.reduceMul, ↓reduceIte, Int.reduceToNat, reduceCtorEq, Int.reduceNeg, Int.reduceAdd, hni, hg, hc, m_impl_countName]
      exact ⟨(i + 1, acc + x.args[k].cnt n), ⟨k + 1, by dsimp only; omega, hlt, by omega⟩, by dsimp only; omega, by simp⟩
    · rw [List.drop_eq_nil_of_le hge, Tm.cntL] at hR
      simp (disch := omega) only [go_sem, go_cond, Nat.reduceAdd, Nat.reduceSub, Nat.reduceLT, Nat.reduceLeDiff, Nat.reduceEqDiff, Nat.reduceBEq, Nat.reduceBneDiff, Nat.reduceMul, ↓reduceIte, Int.reduceToNat, reduceCtorEq, Int.reduceNeg, Int.reduceAdd, hni]
      try omega
theorem countName_E (x : Tm) (n : ByteArray) (hn : x.nodes ≤ 1099511627776) : E 118 [x.sv, .str n] [] = some (.int .i64 (x.cnt n : Nat), []) :=
  countName_of x n hn fun y hy => countName_E y n (by have := Tm.nodes_mem hy; have := Tm.nodes_eq x; omega)
termination_by SizeOf.sizeOf x
decreasing_by exact Tm.lt_of_mem hy
end Go.Proofs.YtjgnhifkcgpmjaaGreat

set_option maxRecDepth 100000
set_option linter.unusedSimpArgs false
set_option linter.unusedVariables false
namespace Go.Proofs.YtjgnhifkcgpmjaaGreat
open Go.RowKit

def c_impl_occurs : SC := (.seq (.reg [⟨(some 3), none, (.boxv 31 2 (.t 1))⟩, ⟨(some 4), none, (.mv (.c (.bool false)))⟩]) (.seq (.reg [⟨(some 5), none, (.load true 2 (.t 3))⟩, ⟨(some 6), none, (.mv (.t 0))⟩, ⟨(some 7), none, (.call 118 [(.t 5), (.t 6)])⟩, ⟨(some 8), none, (.bin .gtr false (.t 7) (.c (.int .i64 0)))⟩, ⟨(some 4), none, (.mv (.t 8))⟩]) .ret))
theorem k_impl_occurs : codeOf Tryz.prog 83 = some ⟨9, c_impl_occurs, [(.tmp 4)]⟩ := by kernel_rfl
theorem m_impl_occurs : modes 83 = ⟨[], .asis, none, false⟩ := by unfold modes; rfl

theorem Tm.cnt_vs' {n : ByteArray} (hn : varB n = true) (x : Tm) (hx : varB x.name = true → x.args = []) (ih : ∀ y ∈ x.args, (0 < y.cnt n ↔ n ∈ y.vs)) : 0 < x.cnt n ↔ n ∈ x.vs := by
  rw [Tm.cnt_eq, Tm.vs_eq]
  cases hv : varB x.name with
  | true =>
    rw [hx hv, Tm.cntL, cond_true]
    by_cases h : x.name = n
    · rw [dec_t h, h]; simp
    · rw [dec_f h]
      simp only [cond_false, List.mem_singleton]
      exact ⟨fun k => absurd k (by omega), fun k => absurd k.symm h⟩
  | false =>
    have h : ¬ x.name = n := fun e => by rw [e, hn] at hv; cases hv
    rw [dec_f h, cond_false, cond_false, Nat.zero_add, Tm.cntL_pos, Tm.vsL_mem]
    constructor
    · rintro ⟨y, h1, h2⟩; exact ⟨y, h1, (ih y h1).1 h2⟩
    · rintro ⟨y, h1, h2⟩; exact ⟨y, h1, (ih y h1).2 h2⟩
theorem Tm.cnt_vs {n : ByteArray} (hn : varB n = true) (x : Tm) (hx : x.names = true) : 0 < x.cnt n ↔ n ∈ x.vs :=
  Tm.cnt_vs' hn x (Tm.names_var hx) fun y hy => Tm.cnt_vs hn y (Tm.names_arg hx hy)
termination_by SizeOf.sizeOf x
decreasing_by exact Tm.lt_of_mem hy
theorem Tm.cnt_ex {n : ByteArray} (hn : varB n = true) (x : Tm) (hx : x.expr = true) : dec ((0 : Int) < (x.cnt n : Nat)) = dec (n ∈ x.vs) := by
  have h := Tm.cnt_vs' hn x (Tm.expr_var hx) fun y hy => Tm.cnt_vs hn y (Tm.expr_arg hx hy)
  refine dec_ii ?_
  rw [← h]; omega
theorem Tm.expr_cok {x : Tm} (h : x.expr = true) : x.cok = true := by
  rcases Tm.expr_names h with hn | ⟨he, ha⟩
  · exact Tm.cok_names x hn
  · have hname : x.name = ⟨#[61]⟩ := by unfold Tm.eqn at he; exact dec_iff.1 he
    have hc : nameC ⟨#[61]⟩ = true := by kernel_rfl
    rw [Tm.cok_eq, hname, hc, Bool.true_and]
    have key : ∀ xs : List Tm, (∀ y ∈ xs, y.names = true) → Tm.cokS xs = true := by
      intro xs
      induction xs with
      | nil => intro _; rw [Tm.cokS]
      | cons y ys ih => intro hh; rw [Tm.cokS, Tm.cok_names y (hh y (by simp)), ih fun z hz => hh z (by simp [hz])]; rfl
    exact key _ fun y hy => Tm.expr_arg h hy
theorem occurs_E (n : ByteArray) (hn : varB n = true) (x : Tm) (hx : x.expr = true) : E 83 [.str n, x.sv] [] = some (.bool (dec (n ∈ x.vs)), []) := by
  have h := countName_E x n (by have := Tm.expr_nodes hx; omega)
  rw [← Tm.cnt_ex hn x hx]
  refine E_walk k_impl_occurs m_impl_occurs (of_decide_eq_true rfl) ?_
  simp (disch := omega) only [c_impl_occurs, go_sem, go_cond, Nat.reduceAdd, Nat.reduceSub, Nat.reduceLT, Nat.reduceLeDiff, Nat.reduceEqDiff, Nat.reduceBEq, Nat.reduceBneDiff, Nat.reduceMul, ↓reduceIte, Int.reduceToNat, reduceCtorEq, Int.reduceNeg, Int.reduceAdd, h, m_impl_countName]
end Go.Proofs.YtjgnhifkcgpmjaaGreat

set_option maxRecDepth 100000
set_option linter.unusedSimpArgs false
set_option linter.unusedVariables false
namespace Go.Proofs.YtjgnhifkcgpmjaaGreat
open Go.RowKit

def c_impl_substituted : SC := (.seq (.reg [⟨(some 3), none, (.boxv 34 5 (.t 0))⟩, ⟨(some 4), none, (.boxv 9 1 (.t 1))⟩, ⟨(some 5), none, (.boxv 31 2 (.t 2))⟩, ⟨(some 6), none, (.alloc 34 [(.int .i64 0), (.str ⟨#[]⟩), .nil, (.str ⟨#[]⟩), .nil])⟩, ⟨(some 7), none, (.mv (.c (.bool false)))⟩]) (.seq (.seq (.dreg [[], [0], [1, 0], [2, 1, 0], [3, 2, 1, 0], [4, 3, 2, 1, 0], [3, 2, 1, 0], [5, 4, 3, 2, 1, 0, 6], [7, 5, 4, 3, 2, 1, 0, 6], [8, 7, 5, 4, 3, 2, 1, 0, 6], [9, 8, 7, 5, 4, 3, 2, 1, 0, 6], [8, 7, 5, 4, 3, 2, 1, 0, 6], [10, 9, 8, 7, 5, 4, 3, 2, 1, 0, 6, 11], [12, 10, 9, 8, 7, 5, 4, 3, 2, 1, 0, 6, 11], [8, 7, 5, 4, 3, 2, 1, 0, 6, 13, 12, 10, 9, 11], [3, 2, 1, 0, 14, 8, 7, 5, 4, 6, 13, 12, 10, 9, 11]] [⟨(some 10), none, (.faddr 0 (.t 3))⟩, ⟨(some 11), none, (.load false 1 (.t 10))⟩, ⟨(some 12), none, (.call 81 [(.t 11)])⟩, ⟨(some 13), none, (.mv (.t 12))⟩, ⟨(some 14), (some (13, true)), (.faddr 3 (.t 3))⟩, ⟨(some 15), (some (13, true)), (.load false 1 (.t 14))⟩, ⟨(some 16), (some (13, true)), (.load false 1 (.t 4))⟩, ⟨(some 17), (some (13, true)), (.bin .eql false (.t 15) (.t 16))⟩, ⟨(some 18), (some (13, true)), (.mv (.t 17))⟩, ⟨(some 19), (some (18, false)), (.load true 5 (.t 3))⟩, ⟨(some 20), (some (18, false)), (.call 62 [(.t 19)])⟩, ⟨(some 21), (some (18, false)), (.load false 1 (.t 4))⟩, ⟨(some 22), (some (18, false)), (.call 82 [(.t 20), (.t 21)])⟩, ⟨(some 23), (some (18, false)), (.un .not (.t 22))⟩, ⟨(some 24), (some (13, true)), (.pick (.t 18) (.c (.bool true)) (.t 23))⟩, ⟨(some 25), none, (.pick (.t 13) (.t 24) (.c (.bool false)))⟩]) (.cond (.t 25) (.seq (.reg [⟨(some 26), none, (.load true 5 (.t 3))⟩, ⟨(some 27), none, (.call 60 [(.t 26)])⟩, ⟨none, none, (.store 5 (.t 6) (.t 27))⟩, ⟨(some 7), none, (.mv (.c (.bool true)))⟩]) .ret) .skip)) (.seq (.seq (.reg [⟨(some 28), none, (.faddr 0 (.t 3))⟩, ⟨(some 29), none, (.load false 1 (.t 28))⟩, ⟨(some 30), none, (.call 81 [(.t 29)])⟩, ⟨(some 31), none, (.mv (.t 30))⟩, ⟨(some 32), (some (31, true)), (.faddr 3 (.t 3))⟩, ⟨(some 33), (some (31, true)), (.load false 1 (.t 32))⟩, ⟨(some 34), (some (31, true)), (.load true 2 (.t 5))⟩, ⟨(some 35), (some (31, true)), (.call 83 [(.t 33), (.t 34)])⟩, ⟨(some 36), none, (.pick (.t 31) (.t 35) (.c (.bool false)))⟩]) (.cond (.t 36) (.seq (.reg [⟨(some 37), none, (.build [(.int .i64 0), (.str ⟨#[]⟩), .nil, (.str ⟨#[]⟩), .nil] [])⟩, ⟨none, none, (.store 5 (.t 6) (.t 37))⟩, ⟨(some 7), none, (.mv (.c (.bool false)))⟩]) .ret) .skip)) (.seq (.reg [⟨(some 8), none, (.alloc 4 [(.bool false)])⟩, ⟨none, none, (.store 1 (.t 8) (.c (.bool true)))⟩]) (.seq (.reg [⟨(some 38), none, (.load true 5 (.t 3))⟩, ⟨(some 39), none, (.mkfn 85 [(.t 4), (.t 5), (.t 8)])⟩, ⟨(some 40), none, (.call 84 [(.t 38), (.t 39)])⟩, ⟨(some 9), none, (.alloc 34 [(.int .i64 0), (.str ⟨#[]⟩), .nil, (.str ⟨#[]⟩), .nil])⟩, ⟨none, none, (.store 5 (.t 9) (.t 40))⟩]) (.seq (.seq (.reg [⟨(some 41), none, (.faddr 0 (.t 3))⟩, ⟨(some 42), none, (.load false 1 (.t 41))⟩, ⟨(some 43), none, (.bin .eql false (.t 42) (.c (.int .i64 3)))⟩]) (.cond (.t 43) (.reg [⟨(some 44), none, (.load false 1 (.t 4))⟩, ⟨(some 45), none, (.load true 2 (.t 5))⟩, ⟨(some 46), none, (.build [(.str ⟨#[]⟩), (.str ⟨#[]⟩), .nil] [(0, (1, (.t 44))), (1, (2, (.t 45)))])⟩, ⟨(some 47), none, (.mkrow 101 3 [(.str ⟨#[]⟩), (.str ⟨#[]⟩), .nil] 1 [(0, (.t 46))])⟩, ⟨(some 48), none, (.build [.nil] [(0, (1, (.t 47)))])⟩, ⟨(some 49), none, (.faddr 1 (.t 3))⟩, ⟨(some 50), none, (.load true 2 (.t 49))⟩, ⟨(some 51), none, (.call 86 [(.t 48), (.t 50)])⟩, ⟨(some 52), none, (.faddr 1 (.t 9))⟩, ⟨none, none, (.store 2 (.t 52) (.t 51))⟩]) .skip)) (.seq (.dreg [[], [], [0], [1, 2, 0]] [⟨(some 53), none, (.load true 5 (.t 9))⟩, ⟨(some 54), none, (.load false 1 (.t 8))⟩, ⟨none, none, (.store 5 (.t 6) (.t 53))⟩, ⟨(some 7), none, (.mv (.t 54))⟩]) .ret)))))))
theorem k_impl_substituted : codeOf Tryz.prog 43 = some ⟨55, c_impl_substituted, [(.cell 6 true 5), (.tmp 7)]⟩ := by kernel_rfl
theorem m_impl_substituted : modes 43 = ⟨[], .own [none, none, some (31, 2), none, some (34, 5), none], none, false⟩ := by unfold modes; rfl

def c_impl_substituted_1 : SC := (.seq (.reg [⟨(some 4), none, (.boxv 34 5 (.t 0))⟩, ⟨(some 5), none, (.alloc 34 [(.int .i64 0), (.str ⟨#[]⟩), .nil, (.str ⟨#[]⟩), .nil])⟩]) (.seq (.reg [⟨(some 9), none, (.load true 5 (.t 4))⟩, ⟨(some 10), none, (.load false 1 (.t 1))⟩, ⟨(some 11), none, (.load true 2 (.t 2))⟩, ⟨(some 12), none, (.call 43 [(.t 9), (.t 10), (.t 11)])⟩, ⟨(some 8), none, (.mv (.t 12))⟩, ⟨(some 13), none, (.ext (.t 8) 0)⟩, ⟨(some 14), none, (.ext (.t 8) 1)⟩, ⟨(some 6), none, (.alloc 34 [(.int .i64 0), (.str ⟨#[]⟩), .nil, (.str ⟨#[]⟩), .nil])⟩, ⟨none, none, (.store 5 (.t 6) (.t 13))⟩, ⟨(some 7), none, (.mv (.t 14))⟩]) (.seq (.reg [⟨(some 15), none, (.load false 1 (.t 3))⟩, ⟨(some 16), none, (.mv (.t 15))⟩, ⟨(some 17), (some (16, true)), (.mv (.t 7))⟩, ⟨(some 18), none, (.pick (.t 16) (.t 17) (.c (.bool false)))⟩, ⟨none, none, (.store 1 (.t 3) (.t 18))⟩]) (.seq (.reg [⟨(some 19), none, (.load true 5 (.t 6))⟩, ⟨none, none, (.store 5 (.t 5) (.t 19))⟩]) .ret))))
theorem k_impl_substituted_1 : codeOf Tryz.prog 85 = some ⟨20, c_impl_substituted_1, [(.cell 5 true 5)]⟩ := by kernel_rfl
theorem m_impl_substituted_1 : modes 85 = ⟨[], .own [none, none, some (31, 2), none, some (34, 5)], none, false⟩ := by unfold modes; rfl

theorem g_impl_substituted_1 : goFn Tryz.prog 85 = true := by kernel_rfl

abbrev nBx (n : ByteArray) : Ob := .box 9 [.str n]
abbrev tBx (t : Tm) : Ob := .box 31 [.str t.name, .arr (t.args.map Tm.d)]
abbrev bBx (b : Bool) : Ob := .box 4 [.bool b]
theorem valid_nodes' {x : Tm} (h : x.valid = true) : x.nodes ≤ 30 := by
  unfold Tm.valid Tm.small at h
  rw [Bool.and_eq_true, Bool.and_eq_true, decide_eq_true_eq] at h
  exact h.1.1
set_option maxHeartbeats 8000000 in
theorem mapPartsC_of (fid : Nat) (n : ByteArray) (t : Tm) (g : Fm → Fm) (ok : Fm → Bool) (x : Fm) (b0 : Bool) (hl : x.parts.length ≤ 1099511627776) (hat : x.atom.nodes ≤ 1099511627776) (hg : goFn Tryz.prog fid = true) (hm : (modes fid).hand = []) (hr : ∀ r, lateF (modes fid).res r = r)
    (hE : ∀ y ∈ x.parts, ∀ b, E fid [y.sv, .ptr 0 0, .ptr 1 0, .ptr 2 0] [.box 9 [.str n], .box 31 [.str t.name, .arr (t.args.map Tm.d)], .box 4 [.bool b]] = some (.agg [.int .i64 (g y).op, .str (g y).atom.name, .ref 3, .str (g y).var, .ref 4], [.box 9 [.str n], .box 31 [.str t.name, .arr (t.args.map Tm.d)], .box 4 [.bool (b && ok y)], .row 31 2 ((g y).atom.args.map Tm.o), .row 34 5 ((g y).parts.map Fm.o)])) :
    E 84 [x.sv, .fn fid [.ptr 0 0, .ptr 1 0, .ptr 2 0]] [.box 9 [.str n], .box 31 [.str t.name, .arr (t.args.map Tm.d)], .box 4 [.bool b0]] = some (.agg [.int .i64 x.op, .str x.atom.name, .ref 3, .str x.var, .ref 4], [.box 9 [.str n], .box 31 [.str t.name, .arr (t.args.map Tm.d)], .box 4 [.bool (b0 && x.parts.all ok)], .row 31 2 (x.atom.args.map Tm.o), .row 34 5 ((x.parts.map g).map Fm.o)]) := by
  have hct := copyTerm_E x.atom hat
  have h10 : ((1 : Int) = 0) = False := by simp
  have hmm : ∀ ys : List Fm, (ys.map g).map Fm.o = ys.map fun y => Fm.o (g y) := fun ys => by rw [List.map_map]; rfl
  rw [hmm]
  refine E_walk k_impl_mapParts m_impl_mapParts (of_decide_eq_true rfl) ?_
  simp (disch := omega) only [c_impl_mapParts, go_sem, go_cond, Nat.reduceAdd, Nat.reduceSub, Nat.reduceLT, Nat.reduceLeDiff, Nat.reduceEqDiff, Nat.reduceBEq, Nat.reduceBneDiff, Nat.reduceMul, ↓reduceIte, Int.reduceToNat, reduceCtorEq, Int.reduceNeg, Int.reduceAdd, hct, m_impl_copyTerm, Tm.osv, Tm.obs]
  refine go_loop (α := Int × (Bool)) (fun a => ⟨slots 33 0 [(1, .fn fid [.ptr 0 0, .ptr 1 0, .ptr 2 0]), (4, .ptr 3 0), (5, .ptr 4 0), (17, .arr (x.parts.map Fm.d)), (18, .int .i64 x.parts.length), (19, .int .i64 (a.1))], (if (a.1) = 0 then [.box 9 [.str n], .box 31 [.str t.name, .arr (t.args.map Tm.d)], .box 4 [.bool (a.2)], .box 34 [.int .i64 0, .str ⟨#[]⟩, .nil, .str ⟨#[]⟩, .nil], .box 34 [.int .i64 x.op, .str x.atom.name, .ref 5, .str x.var, .nil], .row 31 2 (x.atom.args.map Tm.o)] else [.box 9 [.str n], .box 31 [.str t.name, .arr (t.args.map Tm.d)], .box 4 [.bool (a.2)], .box 34 [.int .i64 0, .str ⟨#[]⟩, .nil, .str ⟨#[]⟩, .nil], .box 34 [.int .i64 x.op, .str x.atom.name, .ref 5, .str x.var, .ref 6], .row 31 2 (x.atom.args.map Tm.o), .row 34 5 ((x.parts.take (a.1).toNat).map fun y => Fm.o (g y))])⟩) (fun a => ∃ k : Nat, a.1 = k ∧ k ≤ (x.parts).length ∧ ((a.2) && (x.parts.drop k).all ok) = (b0 && x.parts.all ok)) (fun a => (x.parts).length - (a.1).toNat) (0, b0) ⟨0, rfl, Nat.zero_le _, by rw [List.drop_zero]⟩ (by simp (disch := omega) only [go_sem, go_cond, Nat.reduceAdd, Nat.reduceSub, Nat.reduceLT, Nat.reduceLeDiff, Nat.reduceEqDiff, Nat.reduceBEq, Nat.reduceBneDiff, Nat.reduceMul, ↓reduceIte, Int.reduceToNat, reduceCtorEq, Int.reduceNeg, Int.reduceAdd, eq_self, if_true]) ?_
  rintro ⟨i, b⟩ ⟨k, hi, hk, hR⟩
  dsimp only at hi hR
  have hni : i.toNat = k := by omega
  have hni1 : (i + 1).toNat = k + 1 := by omega
  rcases Nat.lt_or_ge k (x.parts).length with hlt | hge
  · have hgt := get_at Fm.d hlt
    rw [Fm.d_eq] at hgt
    have hc := hE x.parts[k] (List.getElem_mem hlt) b
    have hs := map_snoc (fun y => Fm.o (g y)) hlt
    rw [Fm.o_eq] at hs
    rw [List.drop_eq_getElem_cons hlt, List.all_cons] at hR
    have hR' : ((b && ok x.parts[k]) && (x.parts.drop (k + 1)).all ok) = (b0 && x.parts.all ok) := by rw [← hR, Bool.and_assoc]
    rcases Nat.eq_zero_or_pos k with h0 | h0
    · subst h0
      obtain rfl : i = 0 := hi
      rw [List.take_zero, List.map_nil, List.nil_append] at hs
      simp (disch := omega) only [go_sem, go_cond, Nat.reduceAdd, Nat.reduceSub, Nat.reduceLT, Nat.reduceLeDiff, Nat.reduceEqDiff, Nat.reduceBEq, Nat.reduceBneDiff, Nat.reduceMul, ↓reduceIte, Int.reduceToNat, reduceCtorEq, Int.reduceNeg, Int.reduceAdd, hni, hgt, hc, hg, hm, hr, eq_self, if_true]
      refine ⟨(1, b && ok x.parts[0]), ⟨1, rfl, hlt, hR'⟩, by dsimp only; omega, ?_⟩
      simp (disch := omega) only [go_sem, go_cond, Nat.reduceAdd, Nat.reduceSub, Nat.reduceLT, Nat.reduceLeDiff, Nat.reduceEqDiff, Nat.reduceBEq, Nat.reduceBneDiff, Nat.reduceMul, ↓reduceIte, Int.reduceToNat, reduceCtorEq, Int.reduceNeg, Int.reduceAdd, h10, if_false, hs]
    · have hi0 : (i = 0) = False := by simp; omega
      have hi1 : (i + 1 = 0) = False := by simp; omega
      have htl : (x.parts.take k).length = k := by rw [List.length_take]; omega
      simp (disch := omega) only [go_sem, go_cond, Nat.reduceAdd, Nat.reduceSub, Nat.reduceLT, Nat.reduceLeDiff, Nat.reduceEqDiff, Nat.reduceBEq, Nat.reduceBneDiff, Nat.reduceMul, ↓reduceIte, Int.reduceToNat, reduceCtorEq, Int.reduceNeg, Int.reduceAdd, hni, hgt, hc, hg, hm, hr, hi0, if_false, htl]
      refine ⟨(i + 1, b && ok x.parts[k]), ⟨k + 1, by dsimp only; omega, hlt, hR'⟩, by dsimp only; omega, ?_⟩
      simp (disch := omega) only [go_sem, go_cond, Nat.reduceAdd, Nat.reduceSub, Nat.reduceLT, Nat.reduceLeDiff, Nat.reduceEqDiff, Nat.reduceBEq, Nat.reduceBneDiff, Nat.reduceMul, ↓reduceIte, Int.reduceToNat, reduceCtorEq, Int.reduceNeg, Int.reduceAdd, hni1, hi1, if_false, hs]
  · obtain rfl : k = x.parts.length := by omega
    have ht : x.parts.take x.parts.length = x.parts := List.take_length
    rw [List.drop_eq_nil_of_le hge, List.all_nil, Bool.and_true] at hR
    rw [← hR]
    rcases Nat.eq_zero_or_pos x.parts.length with h0 | h0
    · have hx : x.parts = [] := List.eq_nil_of_length_eq_zero h0
      obtain rfl : i = 0 := by omega
      simp (disch := omega) only [go_sem, go_cond, Nat.reduceAdd, Nat.reduceSub, Nat.reduceLT, Nat.reduceLeDiff, Nat.reduceEqDiff, Nat.reduceBEq, Nat.reduceBneDiff, Nat.reduceMul, ↓reduceIte, Int.reduceToNat, reduceCtorEq, Int.reduceNeg, Int.reduceAdd, hni, hx, eq_self, if_true, List.map_nil, List.length_nil]
    · have hi0 : (i = 0) = False := by simp; omega
      simp (disch := omega) only [go_sem, go_cond, Nat.reduceAdd, Nat.reduceSub, Nat.reduceLT, Nat.reduceLeDiff, Nat.reduceEqDiff, Nat.reduceBEq, Nat.reduceBneDiff, Nat.reduceMul, ↓reduceIte, Int.reduceToNat, reduceCtorEq, Int.reduceNeg, Int.reduceAdd, hni, hi0, if_false, ht]
abbrev SubC (n : ByteArray) (t : Tm) (x : Fm) : Prop := E 43 [x.sv, .str n, t.sv] [] = some (.tup [(x.subP n t).1.osv, .bool (x.subP n t).2], (x.subP n t).1.obs)
theorem sub1_E (n : ByteArray) (t : Tm) (x : Fm) (h : SubC n t x) (b : Bool) : E 85 [x.sv, .ptr 0 0, .ptr 1 0, .ptr 2 0] [.box 9 [.str n], .box 31 [.str t.name, .arr (t.args.map Tm.d)], .box 4 [.bool b]] = some (.agg [.int .i64 (x.subP n t).1.op, .str (x.subP n t).1.atom.name, .ref 3, .str (x.subP n t).1.var, .ref 4], [.box 9 [.str n], .box 31 [.str t.name, .arr (t.args.map Tm.d)], .box 4 [.bool (b && (x.subP n t).2)], .row 31 2 ((x.subP n t).1.atom.args.map Tm.o), .row 34 5 ((x.subP n t).1.parts.map Fm.o)]) := by
  have htv : t.sv = .agg [.str t.name, .arr (t.args.map Tm.d)] := rfl
  unfold SubC at h
  generalize x.subP n t = r at *
  obtain ⟨y, ok⟩ := r
  dsimp only at *
  cases b with
  | true =>
    rw [Bool.true_and]
    refine E_walk k_impl_substituted_1 m_impl_substituted_1 (of_decide_eq_true rfl) ?_
    simp (disch := omega) only [c_impl_substituted_1, go_sem, go_cond, Nat.reduceAdd, Nat.reduceSub, Nat.reduceLT, Nat.reduceLeDiff, Nat.reduceEqDiff, Nat.reduceBEq, Nat.reduceBneDiff, Nat.reduceMul, ↓reduceIte, Int.reduceToNat, reduceCtorEq, Int.reduceNeg, Int.reduceAdd, h, m_impl_substituted, Fm.osv, Fm.obs]
  | false =>
    rw [Bool.false_and]
    refine E_walk k_impl_substituted_1 m_impl_substituted_1 (of_decide_eq_true rfl) ?_
    simp (disch := omega) only [c_impl_substituted_1, go_sem, go_cond, Nat.reduceAdd, Nat.reduceSub, Nat.reduceLT, Nat.reduceLeDiff, Nat.reduceEqDiff, Nat.reduceBEq, Nat.reduceBneDiff, Nat.reduceMul, ↓reduceIte, Int.reduceToNat, reduceCtorEq, Int.reduceNeg, Int.reduceAdd, h, m_impl_substituted, Fm.osv, Fm.obs]
set_option maxHeartbeats 8000000 in
theorem substituted_of (n : ByteArray) (t : Tm) (hn : varB n = true) (ht : t.valid = true) (x : Fm) (hx : x.forms = true) (hsz : x.nodes ≤ 40) (hta : x.tame) (ih : ∀ y ∈ x.parts, SubC n t y) : SubC n t x := by
  have hfo := Fm.forms_form hx
  have hvn := Fm.vn_le x hx
  have hnd := Fm.nodes_eq x
  have hpl := Fm.length_le x.parts
  have hat := Fm.atom_le hfo
  have hu := isQuantifier_E x.op
  have hfr := free_E x hx (by omega) (by omega)
  have hcn := containsS_E x.free n (by
    have h1 := insA_len (x.fv []) []
    have h2 := Fm.fv_len x []
    simp only [List.length_nil] at h1
    show (insA [] (x.fv [])).length ≤ _
    omega)
  have em : dec (n ∈ x.free) = dec (n ∈ x.fv []) := dec_ii (Fm.free_mem x n)
  rw [em] at hcn
  have hcp := copyFormula_E x hta (by omega)
  have hte : t.expr = true := by unfold Tm.expr; rw [ht]; rfl
  have hS := Fm.subP_eq n t x
  have hxs : x.sv = .agg [.int .i64 x.op, .str x.atom.name, .arr (x.atom.args.map Tm.d), .str x.var, .arr (x.parts.map Fm.d)] := rfl
  have htv : t.sv = .agg [.str t.name, .arr (t.args.map Tm.d)] := rfl
  have hmp := mapPartsC_of 85 n t (fun y => (y.subP n t).1) (fun y => (y.subP n t).2) x true (by omega) (by omega) g_impl_substituted_1 (by rw [m_impl_substituted_1]) (fun r => by rw [m_impl_substituted_1]; rfl) (fun y hy b => sub1_E n t y (ih y hy) b)
  rw [Bool.true_and] at hmp
  unfold SubC
  cases hq : qB x.op with
  | true =>
    have hvv := (Fm.form_quant hfo hq).1
    have hoc := occurs_E x.var hvv t hte
    have h3 : dec (x.op = 3) = false := dec_f (by
      unfold qB at hq
      rw [Bool.or_eq_true, dec_iff, dec_iff] at hq
      omega)
    have hst : x.stays n = (dec (x.var = n) || !dec (n ∈ x.fv [])) := by unfold Fm.stays; rw [hq, Bool.true_and]
    rw [hst, hq, h3] at hS
    simp only [Bool.true_and, cond_false] at hS
    unfold qB at hq
    rw [hq] at hu
    cases hv : dec (x.var = n) with
    | true =>
      rw [hv] at hS
      simp only [Bool.true_or, cond_true] at hS
      rw [hS]
      refine E_walk k_impl_substituted m_impl_substituted (of_decide_eq_true rfl) ?_
      simp (disch := omega) only [c_impl_substituted, go_sem, Nat.reduceAdd, Nat.reduceSub, Nat.reduceLT, Nat.reduceLeDiff, Nat.reduceEqDiff, Nat.reduceBEq, Nat.reduceBneDiff, Nat.reduceMul, ↓reduceIte, Int.reduceToNat, reduceCtorEq, Int.reduceNeg, Int.reduceAdd, hu, hv, hfr, hcn, hcp, m_impl_isQuantifier, m_impl_free, m_slices_Contains_string_string, m_impl_copyFormula, Fm.osv, Fm.obs]
      repeat (first | (refine go_condT ?_ ?_; (focus (simp (disch := omega) only [go_sem, Nat.reduceAdd, Nat.reduceSub, Nat.reduceLT, Nat.reduceLeDiff, Nat.reduceEqDiff, Nat.reduceBEq, Nat.reduceBneDiff, Nat.reduceMul, ↓reduceIte, Int.reduceToNat, reduceCtorEq, Int.reduceNeg, Int.reduceAdd, hu, hv, hfr, hcn, hcp, m_impl_isQuantifier, m_impl_free, m_slices_Contains_string_string, m_impl_copyFormula, Fm.osv, Fm.obs]; done)); (try simp (disch := omega) only [go_sem, Nat.reduceAdd, Nat.reduceSub, Nat.reduceLT, Nat.reduceLeDiff, Nat.reduceEqDiff, Nat.reduceBEq, Nat.reduceBneDiff, Nat.reduceMul, ↓reduceIte, Int.reduceToNat, reduceCtorEq, Int.reduceNeg, Int.reduceAdd, hu, hv, hfr, hcn, hcp, m_impl_isQuantifier, m_impl_free, m_slices_Contains_string_string, m_impl_copyFormula, Fm.osv, Fm.obs])) | (refine go_condF ?_ ?_; (focus (simp (disch := omega) only [go_sem, Nat.reduceAdd, Nat.reduceSub, Nat.reduceLT, Nat.reduceLeDiff, Nat.reduceEqDiff, Nat.reduceBEq, Nat.reduceBneDiff, Nat.reduceMul, ↓reduceIte, Int.reduceToNat, reduceCtorEq, Int.reduceNeg, Int.reduceAdd, hu, hv, hfr, hcn, hcp, m_impl_isQuantifier, m_impl_free, m_slices_Contains_string_string, m_impl_copyFormula, Fm.osv, Fm.obs]; done)); (try simp (disch := omega) only [go_sem, Nat.reduceAdd, Nat.reduceSub, Nat.reduceLT, Nat.reduceLeDiff, Nat.reduceEqDiff, Nat.reduceBEq, Nat.reduceBneDiff, Nat.reduceMul, ↓reduceIte, Int.reduceToNat, reduceCtorEq, Int.reduceNeg, Int.reduceAdd, hu, hv, hfr, hcn, hcp, m_impl_isQuantifier, m_impl_free, m_slices_Contains_string_string, m_impl_copyFormula, Fm.osv, Fm.obs])) | fail)
    | false =>
      rw [hv] at hS
      simp only [Bool.false_or] at hS
      cases hf : dec (n ∈ x.fv []) with
      | false =>
        rw [hf] at hS hcn
        simp only [Bool.not_false, cond_true] at hS
        rw [hS]
        refine E_walk k_impl_substituted m_impl_substituted (of_decide_eq_true rfl) ?_
        simp (disch := omega) only [c_impl_substituted, go_sem, Nat.reduceAdd, Nat.reduceSub, Nat.reduceLT, Nat.reduceLeDiff, Nat.reduceEqDiff, Nat.reduceBEq, Nat.reduceBneDiff, Nat.reduceMul, ↓reduceIte, Int.reduceToNat, reduceCtorEq, Int.reduceNeg, Int.reduceAdd, hu, hv, hfr, hcn, hcp, m_impl_isQuantifier, m_impl_free, m_slices_Contains_string_string, m_impl_copyFormula, Fm.osv, Fm.obs]
        repeat (first | (refine go_condT ?_ ?_; (focus (simp (disch := omega) only [go_sem, Nat.reduceAdd, Nat.reduceSub, Nat.reduceLT, Nat.reduceLeDiff, Nat.reduceEqDiff, Nat.reduceBEq, Nat.reduceBneDiff, Nat.reduceMul, ↓reduceIte, Int.reduceToNat, reduceCtorEq, Int.reduceNeg, Int.reduceAdd, hu, hv, hfr, hcn, hcp, m_impl_isQuantifier, m_impl_free, m_slices_Contains_string_string, m_impl_copyFormula, Fm.osv, Fm.obs]; done)); (try simp (disch := omega) only [go_sem, Nat.reduceAdd, Nat.reduceSub, Nat.reduceLT, Nat.reduceLeDiff, Nat.reduceEqDiff, Nat.reduceBEq, Nat.reduceBneDiff, Nat.reduceMul, ↓reduceIte, Int.reduceToNat, reduceCtorEq, Int.reduceNeg, Int.reduceAdd, hu, hv, hfr, hcn, hcp, m_impl_isQuantifier, m_impl_free, m_slices_Contains_string_string, m_impl_copyFormula, Fm.osv, Fm.obs])) | (refine go_condF ?_ ?_; (focus (simp (disch := omega) only [go_sem, Nat.reduceAdd, Nat.reduceSub, Nat.reduceLT, Nat.reduceLeDiff, Nat.reduceEqDiff, Nat.reduceBEq, Nat.reduceBneDiff, Nat.reduceMul, ↓reduceIte, Int.reduceToNat, reduceCtorEq, Int.reduceNeg, Int.reduceAdd, hu, hv, hfr, hcn, hcp, m_impl_isQuantifier, m_impl_free, m_slices_Contains_string_string, m_impl_copyFormula, Fm.osv, Fm.obs]; done)); (try simp (disch := omega) only [go_sem, Nat.reduceAdd, Nat.reduceSub, Nat.reduceLT, Nat.reduceLeDiff, Nat.reduceEqDiff, Nat.reduceBEq, Nat.reduceBneDiff, Nat.reduceMul, ↓reduceIte, Int.reduceToNat, reduceCtorEq, Int.reduceNeg, Int.reduceAdd, hu, hv, hfr, hcn, hcp, m_impl_isQuantifier, m_impl_free, m_slices_Contains_string_string, m_impl_copyFormula, Fm.osv, Fm.obs])) | fail)
      | true =>
        rw [hf] at hS hcn
        simp only [Bool.not_true, cond_false] at hS
        cases ho : dec (x.var ∈ t.vs) with
        | true =>
          rw [ho] at hS hoc
          simp only [cond_true] at hS
          rw [hS]
          refine E_walk k_impl_substituted m_impl_substituted (of_decide_eq_true rfl) ?_
          simp (disch := omega) only [c_impl_substituted, go_sem, Nat.reduceAdd, Nat.reduceSub, Nat.reduceLT, Nat.reduceLeDiff, Nat.reduceEqDiff, Nat.reduceBEq, Nat.reduceBneDiff, Nat.reduceMul, ↓reduceIte, Int.reduceToNat, reduceCtorEq, Int.reduceNeg, Int.reduceAdd, hu, hv, hfr, hcn, hoc, m_impl_isQuantifier, m_impl_free, m_slices_Contains_string_string, m_impl_occurs, Fm.osv, Fm.obs]
          repeat (first | (refine go_condT ?_ ?_; (focus (simp (disch := omega) only [go_sem, Nat.reduceAdd, Nat.reduceSub, Nat.reduceLT, Nat.reduceLeDiff, Nat.reduceEqDiff, Nat.reduceBEq, Nat.reduceBneDiff, Nat.reduceMul, ↓reduceIte, Int.reduceToNat, reduceCtorEq, Int.reduceNeg, Int.reduceAdd, hu, hv, hfr, hcn, hoc, m_impl_isQuantifier, m_impl_free, m_slices_Contains_string_string, m_impl_occurs, Fm.osv, Fm.obs]; done)); (try simp (disch := omega) only [go_sem, Nat.reduceAdd, Nat.reduceSub, Nat.reduceLT, Nat.reduceLeDiff, Nat.reduceEqDiff, Nat.reduceBEq, Nat.reduceBneDiff, Nat.reduceMul, ↓reduceIte, Int.reduceToNat, reduceCtorEq, Int.reduceNeg, Int.reduceAdd, hu, hv, hfr, hcn, hoc, m_impl_isQuantifier, m_impl_free, m_slices_Contains_string_string, m_impl_occurs, Fm.osv, Fm.obs])) | (refine go_condF ?_ ?_; (focus (simp (disch := omega) only [go_sem, Nat.reduceAdd, Nat.reduceSub, Nat.reduceLT, Nat.reduceLeDiff, Nat.reduceEqDiff, Nat.reduceBEq, Nat.reduceBneDiff, Nat.reduceMul, ↓reduceIte, Int.reduceToNat, reduceCtorEq, Int.reduceNeg, Int.reduceAdd, hu, hv, hfr, hcn, hoc, m_impl_isQuantifier, m_impl_free, m_slices_Contains_string_string, m_impl_occurs, Fm.osv, Fm.obs]; done)); (try simp (disch := omega) only [go_sem, Nat.reduceAdd, Nat.reduceSub, Nat.reduceLT, Nat.reduceLeDiff, Nat.reduceEqDiff, Nat.reduceBEq, Nat.reduceBneDiff, Nat.reduceMul, ↓reduceIte, Int.reduceToNat, reduceCtorEq, Int.reduceNeg, Int.reduceAdd, hu, hv, hfr, hcn, hoc, m_impl_isQuantifier, m_impl_free, m_slices_Contains_string_string, m_impl_occurs, Fm.osv, Fm.obs])) | fail)
          try first | rfl | exact ⟨⟨rfl, rfl, rfl⟩, rfl, rfl⟩ | exact ⟨rfl, rfl⟩
        | false =>
          rw [ho] at hS hoc
          simp only [cond_false] at hS
          rw [hS]
          dsimp only
          generalize (x.parts.map fun y => (y.subP n t).1) = ps at *
          generalize (x.parts.all fun y => (y.subP n t).2) = okb at *
          refine E_walk k_impl_substituted m_impl_substituted (of_decide_eq_true rfl) ?_
          simp (disch := omega) only [c_impl_substituted, go_sem, Nat.reduceAdd, Nat.reduceSub, Nat.reduceLT, Nat.reduceLeDiff, Nat.reduceEqDiff, Nat.reduceBEq, Nat.reduceBneDiff, Nat.reduceMul, ↓reduceIte, Int.reduceToNat, reduceCtorEq, Int.reduceNeg, Int.reduceAdd, hu, hv, hfr, hcn, hoc, h3, hmp, m_impl_isQuantifier, m_impl_free, m_slices_Contains_string_string, m_impl_occurs, m_impl_mapParts, Fm.osv, Fm.obs]
          repeat (first | (refine go_condT ?_ ?_; (focus (simp (disch := omega) only [go_sem, Nat.reduceAdd, Nat.reduceSub, Nat.reduceLT, Nat.reduceLeDiff, Nat.reduceEqDiff, Nat.reduceBEq, Nat.reduceBneDiff, Nat.reduceMul, ↓reduceIte, Int.reduceToNat, reduceCtorEq, Int.reduceNeg, Int.reduceAdd, hu, hv, hfr, hcn, hoc, h3, hmp, m_impl_isQuantifier, m_impl_free, m_slices_Contains_string_string, m_impl_occurs, m_impl_mapParts, Fm.osv, Fm.obs]; done)); (try simp (disch := omega) only [go_sem, Nat.reduceAdd, Nat.reduceSub, Nat.reduceLT, Nat.reduceLeDiff, Nat.reduceEqDiff, Nat.reduceBEq, Nat.reduceBneDiff, Nat.reduceMul, ↓reduceIte, Int.reduceToNat, reduceCtorEq, Int.reduceNeg, Int.reduceAdd, hu, hv, hfr, hcn, hoc, h3, hmp, m_impl_isQuantifier, m_impl_free, m_slices_Contains_string_string, m_impl_occurs, m_impl_mapParts, Fm.osv, Fm.obs])) | (refine go_condF ?_ ?_; (focus (simp (disch := omega) only [go_sem, Nat.reduceAdd, Nat.reduceSub, Nat.reduceLT, Nat.reduceLeDiff, Nat.reduceEqDiff, Nat.reduceBEq, Nat.reduceBneDiff, Nat.reduceMul, ↓reduceIte, Int.reduceToNat, reduceCtorEq, Int.reduceNeg, Int.reduceAdd, hu, hv, hfr, hcn, hoc, h3, hmp, m_impl_isQuantifier, m_impl_free, m_slices_Contains_string_string, m_impl_occurs, m_impl_mapParts, Fm.osv, Fm.obs]; done)); (try simp (disch := omega) only [go_sem, Nat.reduceAdd, Nat.reduceSub, Nat.reduceLT, Nat.reduceLeDiff, Nat.reduceEqDiff, Nat.reduceBEq, Nat.reduceBneDiff, Nat.reduceMul, ↓reduceIte, Int.reduceToNat, reduceCtorEq, Int.reduceNeg, Int.reduceAdd, hu, hv, hfr, hcn, hoc, h3, hmp, m_impl_isQuantifier, m_impl_free, m_slices_Contains_string_string, m_impl_occurs, m_impl_mapParts, Fm.osv, Fm.obs])) | fail)
          try first | rfl | exact ⟨⟨rfl, rfl, rfl⟩, rfl, rfl⟩ | exact ⟨rfl, rfl⟩
  | false =>
    have hst : x.stays n = false := by unfold Fm.stays; rw [hq]; rfl
    rw [hst, hq] at hS
    simp only [Bool.false_and, cond_false] at hS
    unfold qB at hq
    rw [hq] at hu
    cases h3 : dec (x.op = 3) with
    | false =>
      rw [h3] at hS
      simp only [cond_false] at hS
      rw [hS]
      dsimp only
      generalize (x.parts.map fun y => (y.subP n t).1) = ps at *
      generalize (x.parts.all fun y => (y.subP n t).2) = okb at *
      refine E_walk k_impl_substituted m_impl_substituted (of_decide_eq_true rfl) ?_
      simp (disch := omega) only [c_impl_substituted, go_sem, Nat.reduceAdd, Nat.reduceSub, Nat.reduceLT, Nat.reduceLeDiff, Nat.reduceEqDiff, Nat.reduceBEq, Nat.reduceBneDiff, Nat.reduceMul, ↓reduceIte, Int.reduceToNat, reduceCtorEq, Int.reduceNeg, Int.reduceAdd, hu, h3, hmp, m_impl_isQuantifier, m_impl_mapParts, Fm.osv, Fm.obs]
      repeat (first | (refine go_condT ?_ ?_; (focus (simp (disch := omega) only [go_sem, Nat.reduceAdd, Nat.reduceSub, Nat.reduceLT, Nat.reduceLeDiff, Nat.reduceEqDiff, Nat.reduceBEq, Nat.reduceBneDiff, Nat.reduceMul, ↓reduceIte, Int.reduceToNat, reduceCtorEq, Int.reduceNeg, Int.reduceAdd, hu, h3, hmp, m_impl_isQuantifier, m_impl_mapParts, Fm.osv, Fm.obs]; done)); (try simp (disch := omega) only [go_sem, Nat.reduceAdd, Nat.reduceSub, Nat.reduceLT, Nat.reduceLeDiff, Nat.reduceEqDiff, Nat.reduceBEq, Nat.reduceBneDiff, Nat.reduceMul, ↓reduceIte, Int.reduceToNat, reduceCtorEq, Int.reduceNeg, Int.reduceAdd, hu, h3, hmp, m_impl_isQuantifier, m_impl_mapParts, Fm.osv, Fm.obs])) | (refine go_condF ?_ ?_; (focus (simp (disch := omega) only [go_sem, Nat.reduceAdd, Nat.reduceSub, Nat.reduceLT, Nat.reduceLeDiff, Nat.reduceEqDiff, Nat.reduceBEq, Nat.reduceBneDiff, Nat.reduceMul, ↓reduceIte, Int.reduceToNat, reduceCtorEq, Int.reduceNeg, Int.reduceAdd, hu, h3, hmp, m_impl_isQuantifier, m_impl_mapParts, Fm.osv, Fm.obs]; done)); (try simp (disch := omega) only [go_sem, Nat.reduceAdd, Nat.reduceSub, Nat.reduceLT, Nat.reduceLeDiff, Nat.reduceEqDiff, Nat.reduceBEq, Nat.reduceBneDiff, Nat.reduceMul, ↓reduceIte, Int.reduceToNat, reduceCtorEq, Int.reduceNeg, Int.reduceAdd, hu, h3, hmp, m_impl_isQuantifier, m_impl_mapParts, Fm.osv, Fm.obs])) | fail)
      try first | rfl | exact ⟨⟨rfl, rfl, rfl⟩, rfl, rfl⟩ | exact ⟨rfl, rfl⟩
    | true =>
      rw [h3] at hS
      simp only [cond_true] at hS
      have ho3 := dec_iff.1 h3
      have hA := (Fm.form_atom hfo ho3).2.1
      have hap := apply_of ⟨[⟨n, t⟩]⟩ (single_fine t hn) ⟨by simp, fun y hy => by
        have e : y = ⟨n, t⟩ := by simpa using hy
        rw [e]
        have := valid_nodes' ht
        show t.nodes ≤ _
        omega⟩ x.atom (Tm.atom_args hA).1 (by omega) (fun y hy => apply_F ⟨[⟨n, t⟩]⟩ (single_fine t hn) ⟨by simp, fun z hz => by
        have e : z = ⟨n, t⟩ := by simpa using hz
        rw [e]
        have := valid_nodes' ht
        show t.nodes ≤ _
        omega⟩ y ((Tm.atom_args hA).2 y hy) (by have := Tm.nodes_mem hy; have := Tm.nodes_eq x.atom; omega))
      have hsb : (Sb.mk [⟨n, t⟩]).sv = .agg [.arr [[.str n, .str t.name, .arr (t.args.map Tm.d)]]] := rfl
      have has : x.atom.sv = .agg [.str x.atom.name, .arr (x.atom.args.map Tm.d)] := rfl
      rw [hsb] at hap
      rw [hS]
      dsimp only
      generalize (x.parts.map fun y => (y.subP n t).1) = ps at *
      generalize (x.parts.all fun y => (y.subP n t).2) = okb at *
      generalize x.atom.ap (Sb.mk [⟨n, t⟩]).look = a' at *
      refine E_walk k_impl_substituted m_impl_substituted (of_decide_eq_true rfl) ?_
      simp (disch := omega) only [c_impl_substituted, go_sem, Nat.reduceAdd, Nat.reduceSub, Nat.reduceLT, Nat.reduceLeDiff, Nat.reduceEqDiff, Nat.reduceBEq, Nat.reduceBneDiff, Nat.reduceMul, ↓reduceIte, Int.reduceToNat, reduceCtorEq, Int.reduceNeg, Int.reduceAdd, hu, h3, hmp, hap, m_impl_isQuantifier, m_impl_mapParts, m_impl_Substitution_apply, Fm.osv, Fm.obs, Tm.osv, Tm.obs]
      repeat (first | (refine go_condT ?_ ?_; (focus (simp (disch := omega) only [go_sem, Nat.reduceAdd, Nat.reduceSub, Nat.reduceLT, Nat.reduceLeDiff, Nat.reduceEqDiff, Nat.reduceBEq, Nat.reduceBneDiff, Nat.reduceMul, ↓reduceIte, Int.reduceToNat, reduceCtorEq, Int.reduceNeg, Int.reduceAdd, hu, h3, hmp, hap, m_impl_isQuantifier, m_impl_mapParts, m_impl_Substitution_apply, Fm.osv, Fm.obs, Tm.osv, Tm.obs]; done)); (try simp (disch := omega) only [go_sem, Nat.reduceAdd, Nat.reduceSub, Nat.reduceLT, Nat.reduceLeDiff, Nat.reduceEqDiff, Nat.reduceBEq, Nat.reduceBneDiff, Nat.reduceMul, ↓reduceIte, Int.reduceToNat, reduceCtorEq, Int.reduceNeg, Int.reduceAdd, hu, h3, hmp, hap, m_impl_isQuantifier, m_impl_mapParts, m_impl_Substitution_apply, Fm.osv, Fm.obs, Tm.osv, Tm.obs])) | (refine go_condF ?_ ?_; (focus (simp (disch := omega) only [go_sem, Nat.reduceAdd, Nat.reduceSub, Nat.reduceLT, Nat.reduceLeDiff, Nat.reduceEqDiff, Nat.reduceBEq, Nat.reduceBneDiff, Nat.reduceMul, ↓reduceIte, Int.reduceToNat, reduceCtorEq, Int.reduceNeg, Int.reduceAdd, hu, h3, hmp, hap, m_impl_isQuantifier, m_impl_mapParts, m_impl_Substitution_apply, Fm.osv, Fm.obs, Tm.osv, Tm.obs]; done)); (try simp (disch := omega) only [go_sem, Nat.reduceAdd, Nat.reduceSub, Nat.reduceLT, Nat.reduceLeDiff, Nat.reduceEqDiff, Nat.reduceBEq, Nat.reduceBneDiff, Nat.reduceMul, ↓reduceIte, Int.reduceToNat, reduceCtorEq, Int.reduceNeg, Int.reduceAdd, hu, h3, hmp, hap, m_impl_isQuantifier, m_impl_mapParts, m_impl_Substitution_apply, Fm.osv, Fm.obs, Tm.osv, Tm.obs])) | fail)
      try first | rfl | exact ⟨⟨rfl, rfl, rfl⟩, rfl, rfl⟩ | exact ⟨rfl, rfl⟩
theorem substituted_E (n : ByteArray) (t : Tm) (hn : varB n = true) (ht : t.valid = true) (x : Fm) (hx : x.forms = true) (hsz : x.nodes ≤ 40) (hta : x.tame) : SubC n t x :=
  substituted_of n t hn ht x hx hsz hta fun y hy => substituted_E n t hn ht y (Fm.forms_part hx hy) (by have := Fm.nodes_mem hy; have := Fm.nodes_eq x; omega) (Fm.tame_part hta hy)
termination_by SizeOf.sizeOf x
decreasing_by exact Fm.lt_of_mem hy
end Go.Proofs.YtjgnhifkcgpmjaaGreat
