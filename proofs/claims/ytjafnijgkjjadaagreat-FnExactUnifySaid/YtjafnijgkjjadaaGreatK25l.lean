/-
  This text holds, one behind the other: This text tells what unifying answers in the reference. No condition.
  This text tells what Unify answers in both packages. No condition.
  This text tells what the law of Unify answers. No condition.
  This text opens arguments: slices of integers, of structs, of tables: what is read as data lies in memory as our words say. No condition.
  This text opens arguments: what is read as data, terms and formulas, lies in memory as our words say. No condition.
  This text turns a function's answer into a walk of the kit's form, and opens arguments that are clauses. No condition.
-/
import Derived.Test.YtjafnijgkjjadaaGreatK25c
import Derived.Test.YtjafnijgkjjadaaGreatK25d
import Derived.Test.YtjafnijgkjjadaaGreatK25f
import Derived.Test.YtjafnijgkjjadaaGreatK25h
import Derived.Test.YtjafnijgkjjadaaGreatK25i
import Derived.Test.YtjafnijgkjjadaaGreatK25j
import Derived.Test.YtjafnijgkjjadaaGreatK25k
import Derived.ProofKit
import Derived.Deep.Slices
import Derived.Deep.Fields
import Derived.ChangeSame
import Derived.OpenShut
import Derived.ShutString
import Derived.ChangeOld
set_option maxRecDepth 100000
set_option linter.unusedSimpArgs false
set_option linter.unusedVariables false
namespace Go.Proofs.YtjafnijgkjjadaaGreat
open Go.RowKit

set_option maxHeartbeats 16000000 in
theorem l5Unify_E (a b : Tm) (ha : a.expr = true) (hb : b.expr = true) (n : Nat) (total : Option Sb) (hr : uRun n ⟨[]⟩ [(a, b)] = some total) : E 21 [a.sv, b.sv] [] = some (.tup [(uTo total).sv, .bool (uOk total)], []) := by
  have hres : ∀ t : Sb, t.sv = .agg [.arr (t.binds.map Bd.d)] := fun t => rfl
  rw [hres]
  refine E_walk k_spec_l5Unify m_spec_l5Unify (of_decide_eq_true rfl) ?_
  simp (disch := omega) only [c_spec_l5Unify, go_sem, Nat.reduceAdd, Nat.reduceSub, Nat.reduceLT, Nat.reduceLeDiff, Nat.reduceEqDiff, Nat.reduceBEq, Nat.reduceBneDiff, Nat.reduceMul, ↓reduceIte, Int.reduceToNat, reduceCtorEq, Int.reduceNeg, Int.reduceAdd]
  refine go_loop (α := Nat × Bool × Bool × Sb × List (Tm × Tm)) u5H (u5R total) (fun a => a.1) (n, true, true, ⟨[]⟩, [(a, b)]) ⟨uInv.start ha hb, hr, fun _ => rfl⟩ (by simp (disch := omega) only [go_sem, Nat.reduceAdd, Nat.reduceSub, Nat.reduceLT, Nat.reduceLeDiff, Nat.reduceEqDiff, Nat.reduceBEq, Nat.reduceBneDiff, Nat.reduceMul, ↓reduceIte, Int.reduceToNat, reduceCtorEq, Int.reduceNeg, Int.reduceAdd, u5H]; rfl) ?_
  clear hr ha hb
  rintro ⟨n, sn, lo, s, l⟩ ⟨hinv, hrun, hsn⟩
  dsimp only at hinv hrun hsn
  have hs := hinv.ok
  have hst := ok_tame hs
  cases n with
  | zero => rw [uRun] at hrun; cases hrun
  | succ n =>
  cases l with
  | nil =>
    rw [uRun] at hrun
    obtain rfl := Option.some.inj hrun
    have hk : uTo (some s) = s := rfl
    rw [hk]
    cases sn with
    | true =>
      obtain rfl : s = ⟨[]⟩ := by obtain ⟨bs⟩ := s; have := hsn rfl; rw [show bs = [] from this]
      cases lo with
      | true =>
        simp (disch := omega) only [go_sem, Nat.reduceAdd, Nat.reduceSub, Nat.reduceLT, Nat.reduceLeDiff, Nat.reduceEqDiff, Nat.reduceBEq, Nat.reduceBneDiff, Nat.reduceMul, ↓reduceIte, Int.reduceToNat, reduceCtorEq, Int.reduceNeg, Int.reduceAdd, u5H, uOk, Option.isSome_some, List.map_nil]
        try rfl
      | false =>
        simp (disch := omega) only [go_sem, Nat.reduceAdd, Nat.reduceSub, Nat.reduceLT, Nat.reduceLeDiff, Nat.reduceEqDiff, Nat.reduceBEq, Nat.reduceBneDiff, Nat.reduceMul, ↓reduceIte, Int.reduceToNat, reduceCtorEq, Int.reduceNeg, Int.reduceAdd, u5H, uOk, Option.isSome_some, List.map_nil]
        try rfl
    | false =>
      cases lo with
      | true =>
        simp (disch := omega) only [go_sem, Nat.reduceAdd, Nat.reduceSub, Nat.reduceLT, Nat.reduceLeDiff, Nat.reduceEqDiff, Nat.reduceBEq, Nat.reduceBneDiff, Nat.reduceMul, ↓reduceIte, Int.reduceToNat, reduceCtorEq, Int.reduceNeg, Int.reduceAdd, u5H, uOk, Option.isSome_some, List.map_nil]
        try rfl
      | false =>
        simp (disch := omega) only [go_sem, Nat.reduceAdd, Nat.reduceSub, Nat.reduceLT, Nat.reduceLeDiff, Nat.reduceEqDiff, Nat.reduceBEq, Nat.reduceBneDiff, Nat.reduceMul, ↓reduceIte, Int.reduceToNat, reduceCtorEq, Int.reduceNeg, Int.reduceAdd, u5H, uOk, Option.isSome_some, List.map_nil]
        try rfl
  | cons p l =>
    have hcmb : (sn = true ∧ lo = true) ∨ (sn = true ∧ lo = false) ∨ (sn = false ∧ lo = true) ∨ (sn = false ∧ lo = false) := by cases sn <;> cases lo <;> simp
    rcases hcmb with ⟨rfl, rfl⟩ | ⟨rfl, rfl⟩ | ⟨rfl, rfl⟩ | ⟨rfl, rfl⟩
    · exact l5U_tt total n s p l hinv hrun hsn
    · exact l5U_tf total n s p l hinv hrun hsn
    · exact l5U_ft total n s p l hinv hrun hsn
    · exact l5U_ff total n s p l hinv hrun hsn
end Go.Proofs.YtjafnijgkjjadaaGreat

set_option maxRecDepth 100000
set_option linter.unusedSimpArgs false
set_option linter.unusedVariables false
namespace Go.Proofs.YtjafnijgkjjadaaGreat
open Go.RowKit

theorem uRun_ok : ∀ (n : Nat) (s : Sb) (l : List (Tm × Tm)) (r : Sb), uInv s l → uRun n s l = some (some r) → r.ok = true
  | 0, s, l, r, h, e => by rw [uRun] at e; cases e
  | n + 1, s, [], r, h, e => by
    rw [uRun] at e
    simp only [Option.some.injEq] at e
    rw [← e]; exact h.ok
  | n + 1, s, p :: l, r, h, e => by
    rw [uRun] at e
    cases h1 : apOk s p.1 with
    | false => simp only [h1, Bool.false_and, cond_false] at e; cases e
    | true =>
      cases h2 : apOk s p.2 with
      | false => simp only [h2, Bool.and_false, cond_false] at e; cases e
      | true =>
        cases h3 : dec (apTo s p.1 = apTo s p.2) with
        | true =>
          simp only [h1, h2, h3, Bool.and_self, cond_true] at e
          exact uRun_ok n s l r h.pop e
        | false =>
          cases h4 : varB (apTo s p.1).name || varB (apTo s p.2).name with
          | true =>
            cases h5 : bndOk (bndOf (apTo s p.1) (apTo s p.2)) && cmpOk s ⟨[bndOf (apTo s p.1) (apTo s p.2)]⟩ with
            | false => simp only [h1, h2, h3, h4, h5, Bool.and_self, cond_true, cond_false] at e; cases e
            | true =>
              simp only [h1, h2, h3, h4, h5, Bool.and_self, cond_true, cond_false] at e
              rw [Bool.and_eq_true] at h5
              exact uRun_ok n _ l r (h.bind h1 h2 h4 h5.1 h5.2).1 e
          | false =>
            have h4' := h4
            rw [Bool.or_eq_false_iff] at h4'
            cases h5 : dec ((apTo s p.1).name = (apTo s p.2).name) && dec ((apTo s p.1).args.length = (apTo s p.2).args.length) with
            | false => simp only [h1, h2, h3, h4, h5, Bool.and_self, cond_true, cond_false] at e; cases e
            | true =>
              simp only [h1, h2, h3, h4, h5, Bool.and_self, cond_true, cond_false] at e
              exact uRun_ok n s _ r (h.dec h1 h2 h4'.1) e
open Classical in
/-- What unifying comes to. -/
noncomputable def unR (a b : Tm) : Option Sb := if h : ∃ r, ∃ n, uRun n ⟨[]⟩ [(a, b)] = some r then h.choose else none
theorem unR_spec {a b : Tm} (ha : a.expr = true) (hb : b.expr = true) : ∃ n, uRun n ⟨[]⟩ [(a, b)] = some (unR a b) := by
  obtain ⟨n, r, h⟩ := uRun_total ha hb
  have he : ∃ r, ∃ n, uRun n ⟨[]⟩ [(a, b)] = some r := ⟨r, n, h⟩
  unfold unR
  rw [dif_pos he]
  exact he.choose_spec
theorem unR_ok {a b : Tm} (ha : a.expr = true) (hb : b.expr = true) {s : Sb} (h : unR a b = some s) : s.ok = true := by
  obtain ⟨n, hn⟩ := unR_spec ha hb
  rw [h] at hn
  exact uRun_ok n _ _ s (uInv.start ha hb) hn
noncomputable def unA (a b : Tm) : Option Sb := bif a.expr && b.expr then unR a b else none
theorem unA_ok {a b : Tm} {s : Sb} (h : unA a b = some s) : s.ok = true := by
  unfold unA at h
  cases hq : a.expr && b.expr with
  | false => rw [hq] at h; cases h
  | true =>
    rw [hq, cond_true] at h
    rw [Bool.and_eq_true] at hq
    exact unR_ok hq.1 hq.2 h
theorem sumB_le : ∀ xs : List Bd, (∀ x ∈ xs, x.bulk ≤ 300) → Bd.sumB xs ≤ 300 * xs.length
  | [], _ => by simp [Bd.sumB]
  | x :: xs, h => by
    have h1 := h x (by simp)
    have h2 := sumB_le xs fun y hy => h y (by simp [hy])
    rw [Bd.sumB]; simp only [List.length_cons]; omega
theorem ok_bulk {x : Sb} (h : x.ok = true) : x.bulk ≤ 1048576 := by
  have hl := ok_len h
  have hb := sumB_le x.binds fun y hy => by
    obtain ⟨k, hk, rfl⟩ := List.getElem_of_mem hy
    have hok := Sb.ok_at h hk
    have h1 := varB_size (bdOk_var hok)
    have h2 := bdOk_valid hok
    have h3 := Tm.names_bulk x.binds[k].term (valid_names h2)
    have h4 := valid_nodes h2
    rw [Bd.bulk_eq]; omega
  rw [Sb.bulk_eq]
  omega
theorem uTo_bulk {t : Option Sb} (h : ∀ s, t = some s → s.ok = true) : (uTo t).bulk ≤ 1048576 := by
  cases t with
  | none => show (Sb.mk []).bulk ≤ _; rw [Sb.bulk_eq]; simp [Bd.sumB]
  | some s => exact ok_bulk (h s rfl)
def c_spec_Unify : SC := (.seq (.reg [⟨(some 2), none, (.boxv 33 2 (.t 0))⟩, ⟨(some 3), none, (.boxv 33 2 (.t 1))⟩, ⟨(some 4), none, (.alloc 28 [.nil])⟩, ⟨(some 5), none, (.mv (.c (.bool false)))⟩]) (.seq (.seq (.reg [⟨(some 6), none, (.load true 2 (.t 2))⟩, ⟨(some 7), none, (.call 20 [(.t 6)])⟩, ⟨(some 8), none, (.un .not (.t 7))⟩, ⟨(some 9), none, (.mv (.t 8))⟩, ⟨(some 10), (some (9, false)), (.load true 2 (.t 3))⟩, ⟨(some 11), (some (9, false)), (.call 20 [(.t 10)])⟩, ⟨(some 12), (some (9, false)), (.un .not (.t 11))⟩, ⟨(some 13), none, (.pick (.t 9) (.c (.bool true)) (.t 12))⟩]) (.cond (.t 13) (.seq (.reg [⟨(some 14), none, (.build [.nil] [])⟩, ⟨none, none, (.store 1 (.t 4) (.t 14))⟩, ⟨(some 5), none, (.mv (.c (.bool false)))⟩]) .ret) .skip)) (.seq (.reg [⟨(some 15), none, (.load true 2 (.t 2))⟩, ⟨(some 16), none, (.load true 2 (.t 3))⟩, ⟨(some 17), none, (.call 21 [(.t 15), (.t 16)])⟩, ⟨(some 18), none, (.ext (.t 17) 0)⟩, ⟨(some 19), none, (.ext (.t 17) 1)⟩, ⟨none, none, (.store 1 (.t 4) (.t 18))⟩, ⟨(some 5), none, (.mv (.t 19))⟩]) .ret)))
theorem k_spec_Unify : codeOf Tryz.prog 6 = some ⟨20, c_spec_Unify, [(.cell 4 true 1), (.tmp 5)]⟩ := by kernel_rfl
theorem m_spec_Unify : modes 6 = ⟨[], .frz, none, false⟩ := by unfold modes; rfl

def c_impl_Unify : SC := (.seq (.reg [⟨(some 2), none, (.boxv 33 2 (.t 0))⟩, ⟨(some 3), none, (.boxv 33 2 (.t 1))⟩, ⟨(some 4), none, (.alloc 28 [.nil])⟩, ⟨(some 5), none, (.mv (.c (.bool false)))⟩]) (.seq (.seq (.reg [⟨(some 6), none, (.load true 2 (.t 2))⟩, ⟨(some 7), none, (.call 22 [(.t 6)])⟩, ⟨(some 8), none, (.un .not (.t 7))⟩, ⟨(some 9), none, (.mv (.t 8))⟩, ⟨(some 10), (some (9, false)), (.load true 2 (.t 3))⟩, ⟨(some 11), (some (9, false)), (.call 22 [(.t 10)])⟩, ⟨(some 12), (some (9, false)), (.un .not (.t 11))⟩, ⟨(some 13), none, (.pick (.t 9) (.c (.bool true)) (.t 12))⟩]) (.cond (.t 13) (.seq (.reg [⟨(some 14), none, (.build [.nil] [])⟩, ⟨none, none, (.store 1 (.t 4) (.t 14))⟩, ⟨(some 5), none, (.mv (.c (.bool false)))⟩]) .ret) .skip)) (.seq (.reg [⟨(some 15), none, (.load true 2 (.t 2))⟩, ⟨(some 16), none, (.load true 2 (.t 3))⟩, ⟨(some 17), none, (.call 23 [(.t 15), (.t 16)])⟩, ⟨(some 18), none, (.ext (.t 17) 0)⟩, ⟨(some 19), none, (.ext (.t 17) 1)⟩, ⟨none, none, (.store 1 (.t 4) (.t 18))⟩, ⟨(some 5), none, (.mv (.t 19))⟩]) .ret)))
theorem k_impl_Unify : codeOf Tryz.prog 8 = some ⟨20, c_impl_Unify, [(.cell 4 true 1), (.tmp 5)]⟩ := by kernel_rfl
theorem m_impl_Unify : modes 8 = ⟨[], .own [some (67, 3), none], none, false⟩ := by unfold modes; rfl

set_option maxHeartbeats 4000000 in
theorem specUnify_E (a b : Tm) (hna : a.nodes ≤ 1099511627776) (hnb : b.nodes ≤ 1099511627776) : E 6 [a.sv, b.sv] [] = some (.tup [(uTo (unA a b)).sv, .bool (uOk (unA a b))], []) := by
  have h1 := l2Any_E a hna
  have h2 := l2Any_E b hnb
  cases ha : a.expr with
  | false =>
    have e : unA a b = none := by unfold unA; rw [ha]; rfl
    rw [e]
    rw [ha] at h1
    refine E_walk k_spec_Unify m_spec_Unify (of_decide_eq_true rfl) ?_
    simp (disch := omega) only [c_spec_Unify, go_sem, Nat.reduceAdd, Nat.reduceSub, Nat.reduceLT, Nat.reduceLeDiff, Nat.reduceEqDiff, Nat.reduceBEq, Nat.reduceBneDiff, Nat.reduceMul, ↓reduceIte, Int.reduceToNat, reduceCtorEq, Int.reduceNeg, Int.reduceAdd, h1, h2, m_spec_l2Any, m_spec_l5Unify]
    first | rfl | exact ⟨rfl, rfl⟩
  | true =>
    rw [ha] at h1
    cases hb : b.expr with
    | false =>
      have e : unA a b = none := by unfold unA; rw [hb, Bool.and_false]; rfl
      rw [e]
      rw [hb] at h2
      refine E_walk k_spec_Unify m_spec_Unify (of_decide_eq_true rfl) ?_
      simp (disch := omega) only [c_spec_Unify, go_sem, Nat.reduceAdd, Nat.reduceSub, Nat.reduceLT, Nat.reduceLeDiff, Nat.reduceEqDiff, Nat.reduceBEq, Nat.reduceBneDiff, Nat.reduceMul, ↓reduceIte, Int.reduceToNat, reduceCtorEq, Int.reduceNeg, Int.reduceAdd, h1, h2, m_spec_l2Any, m_spec_l5Unify]
      first | rfl | exact ⟨rfl, rfl⟩
    | true =>
      rw [hb] at h2
      have e : unA a b = unR a b := by unfold unA; rw [ha, hb]; rfl
      rw [e]
      obtain ⟨n, hn⟩ := unR_spec ha hb
      have h3 := l5Unify_E a b ha hb n (unR a b) hn
      obtain ⟨r, hr⟩ : ∃ r, r = uTo (unR a b) := ⟨_, rfl⟩
      obtain ⟨o, ho⟩ : ∃ o, o = uOk (unR a b) := ⟨_, rfl⟩
      rw [← hr, ← ho] at h3 ⊢
      have hsv : r.sv = .agg [.arr (r.binds.map Bd.d)] := rfl
      try rw [hsv] at h3 ⊢
      refine E_walk k_spec_Unify m_spec_Unify (of_decide_eq_true rfl) ?_
      simp (disch := omega) only [c_spec_Unify, go_sem, Nat.reduceAdd, Nat.reduceSub, Nat.reduceLT, Nat.reduceLeDiff, Nat.reduceEqDiff, Nat.reduceBEq, Nat.reduceBneDiff, Nat.reduceMul, ↓reduceIte, Int.reduceToNat, reduceCtorEq, Int.reduceNeg, Int.reduceAdd, h1, h2, h3, Sb.osv, Sb.obs, m_spec_l2Any, m_spec_l5Unify]
set_option maxHeartbeats 4000000 in
theorem implUnify_E (a b : Tm) (hna : a.nodes ≤ 1099511627776) (hnb : b.nodes ≤ 1099511627776) : E 8 [a.sv, b.sv] [] = some (.tup [(uTo (unA a b)).osv, .bool (uOk (unA a b))], (uTo (unA a b)).obs) := by
  have h1 := isExpression_E a hna
  have h2 := isExpression_E b hnb
  cases ha : a.expr with
  | false =>
    have e : unA a b = none := by unfold unA; rw [ha]; rfl
    rw [e]
    rw [ha] at h1
    refine E_walk k_impl_Unify m_impl_Unify (of_decide_eq_true rfl) ?_
    simp (disch := omega) only [c_impl_Unify, go_sem, Nat.reduceAdd, Nat.reduceSub, Nat.reduceLT, Nat.reduceLeDiff, Nat.reduceEqDiff, Nat.reduceBEq, Nat.reduceBneDiff, Nat.reduceMul, ↓reduceIte, Int.reduceToNat, reduceCtorEq, Int.reduceNeg, Int.reduceAdd, h1, h2, m_impl_isExpression, m_impl_unify]
    first | rfl | exact ⟨rfl, rfl⟩
  | true =>
    rw [ha] at h1
    cases hb : b.expr with
    | false =>
      have e : unA a b = none := by unfold unA; rw [hb, Bool.and_false]; rfl
      rw [e]
      rw [hb] at h2
      refine E_walk k_impl_Unify m_impl_Unify (of_decide_eq_true rfl) ?_
      simp (disch := omega) only [c_impl_Unify, go_sem, Nat.reduceAdd, Nat.reduceSub, Nat.reduceLT, Nat.reduceLeDiff, Nat.reduceEqDiff, Nat.reduceBEq, Nat.reduceBneDiff, Nat.reduceMul, ↓reduceIte, Int.reduceToNat, reduceCtorEq, Int.reduceNeg, Int.reduceAdd, h1, h2, m_impl_isExpression, m_impl_unify]
      first | rfl | exact ⟨rfl, rfl⟩
    | true =>
      rw [hb] at h2
      have e : unA a b = unR a b := by unfold unA; rw [ha, hb]; rfl
      rw [e]
      obtain ⟨n, hn⟩ := unR_spec ha hb
      have h3 := unify_E a b ha hb n (unR a b) hn
      obtain ⟨r, hr⟩ : ∃ r, r = uTo (unR a b) := ⟨_, rfl⟩
      obtain ⟨o, ho⟩ : ∃ o, o = uOk (unR a b) := ⟨_, rfl⟩
      rw [← hr, ← ho] at h3 ⊢
      have hsv : r.sv = .agg [.arr (r.binds.map Bd.d)] := rfl
      try rw [hsv] at h3 ⊢
      refine E_walk k_impl_Unify m_impl_Unify (of_decide_eq_true rfl) ?_
      simp (disch := omega) only [c_impl_Unify, go_sem, Nat.reduceAdd, Nat.reduceSub, Nat.reduceLT, Nat.reduceLeDiff, Nat.reduceEqDiff, Nat.reduceBEq, Nat.reduceBneDiff, Nat.reduceMul, ↓reduceIte, Int.reduceToNat, reduceCtorEq, Int.reduceNeg, Int.reduceAdd, h1, h2, h3, Sb.osv, Sb.obs, m_impl_isExpression, m_impl_unify]
end Go.Proofs.YtjafnijgkjjadaaGreat

set_option maxRecDepth 100000
set_option linter.unusedSimpArgs false
set_option linter.unusedVariables false
namespace Go.Proofs.YtjafnijgkjjadaaGreat
open Go.RowKit

def c_laws_FnExactUnify : SC := (.seq (.reg [⟨(some 2), none, (.boxv 24 2 (.t 0))⟩, ⟨(some 3), none, (.boxv 24 2 (.t 1))⟩, ⟨(some 4), none, (.mv (.c (.bool false)))⟩]) (.seq (.reg [⟨(some 5), none, (.mv (.c (.int .i64 1048576)))⟩]) (.seq (.reg [⟨(some 17), none, (.load true 2 (.t 2))⟩, ⟨(some 18), none, (.mv (.t 5))⟩, ⟨(some 19), none, (.call 5 [(.t 17), (.t 18)])⟩, ⟨(some 5), none, (.mv (.t 19))⟩]) (.seq (.seq (.reg [⟨(some 20), none, (.mv (.t 5))⟩, ⟨(some 21), none, (.bin .lss false (.t 20) (.c (.int .i64 0)))⟩]) (.cond (.t 21) (.seq (.reg [⟨(some 4), none, (.mv (.c (.bool true)))⟩]) .ret) .skip)) (.seq (.reg [⟨(some 22), none, (.load true 2 (.t 3))⟩, ⟨(some 23), none, (.mv (.t 5))⟩, ⟨(some 24), none, (.call 5 [(.t 22), (.t 23)])⟩, ⟨(some 5), none, (.mv (.t 24))⟩]) (.seq (.seq (.reg [⟨(some 25), none, (.mv (.t 5))⟩, ⟨(some 26), none, (.bin .lss false (.t 25) (.c (.int .i64 0)))⟩]) (.cond (.t 26) (.seq (.reg [⟨(some 4), none, (.mv (.c (.bool true)))⟩]) .ret) .skip)) (.seq (.dreg [[], [0], [], [2, 1, 0], [1, 0, 3, 2], [4, 1, 0, 3, 2], [5, 4, 1, 0, 3, 2], [5, 4, 1, 0, 3, 2], [], [8, 6, 5, 4, 1, 0, 3, 2], [7, 5, 4, 1, 0, 3, 2, 9, 8, 6]] [⟨(some 28), none, (.load true 2 (.t 2))⟩, ⟨(some 29), none, (.call 7 [(.t 28)])⟩, ⟨(some 30), none, (.load true 2 (.t 3))⟩, ⟨(some 31), none, (.call 7 [(.t 30)])⟩, ⟨(some 32), none, (.call 6 [(.t 29), (.t 31)])⟩, ⟨(some 27), none, (.mv (.t 32))⟩, ⟨(some 33), none, (.ext (.t 27) 0)⟩, ⟨(some 34), none, (.ext (.t 27) 1)⟩, ⟨(some 6), none, (.alloc 28 [.nil])⟩, ⟨none, none, (.store 1 (.t 6) (.t 33))⟩, ⟨(some 7), none, (.mv (.t 34))⟩]) (.seq (.reg [⟨(some 35), none, (.load true 2 (.t 2))⟩, ⟨(some 36), none, (.call 7 [(.t 35)])⟩, ⟨(some 8), none, (.alloc 33 [(.str ⟨#[]⟩), .nil])⟩, ⟨none, none, (.store 2 (.t 8) (.t 36))⟩]) (.seq (.reg [⟨(some 37), none, (.load true 2 (.t 3))⟩, ⟨(some 38), none, (.call 7 [(.t 37)])⟩, ⟨(some 9), none, (.alloc 33 [(.str ⟨#[]⟩), .nil])⟩, ⟨none, none, (.store 2 (.t 9) (.t 38))⟩]) (.seq (.reg [⟨(some 40), none, (.load true 2 (.t 8))⟩, ⟨(some 41), none, (.load true 2 (.t 9))⟩, ⟨(some 42), none, (.call 8 [(.t 40), (.t 41)])⟩, ⟨(some 39), none, (.mv (.t 42))⟩, ⟨(some 43), none, (.ext (.t 39) 0)⟩, ⟨(some 44), none, (.ext (.t 39) 1)⟩, ⟨(some 10), none, (.alloc 28 [.nil])⟩, ⟨none, none, (.store 1 (.t 10) (.t 43))⟩, ⟨(some 11), none, (.mv (.t 44))⟩]) (.seq (.seq (.reg [⟨(some 45), none, (.load true 1 (.t 10))⟩, ⟨(some 46), none, (.load true 1 (.t 6))⟩, ⟨(some 47), none, (.call 9 [(.t 45), (.t 46)])⟩, ⟨(some 48), none, (.un .not (.t 47))⟩, ⟨(some 49), none, (.mv (.t 48))⟩, ⟨(some 50), (some (49, false)), (.mv (.t 11))⟩, ⟨(some 51), (some (49, false)), (.mv (.t 7))⟩, ⟨(some 52), (some (49, false)), (.bin .neq true (.t 50) (.t 51))⟩, ⟨(some 53), none, (.pick (.t 49) (.c (.bool true)) (.t 52))⟩]) (.cond (.t 53) (.seq (.reg [⟨(some 4), none, (.mv (.c (.bool false)))⟩]) .ret) .skip)) (.seq (.seq (.dreg [[], [], [1], [0, 2, 1], [3, 0, 2, 1]] [⟨(some 54), none, (.load true 2 (.t 8))⟩, ⟨(some 55), none, (.load true 2 (.t 2))⟩, ⟨(some 56), none, (.call 7 [(.t 55)])⟩, ⟨(some 57), none, (.call 10 [(.t 54), (.t 56)])⟩, ⟨(some 58), none, (.un .not (.t 57))⟩]) (.cond (.t 58) (.seq (.reg [⟨(some 4), none, (.mv (.c (.bool false)))⟩]) .ret) .skip)) (.seq (.seq (.dreg [[], [], [1], [0, 2, 1], [3, 0, 2, 1]] [⟨(some 59), none, (.load true 2 (.t 9))⟩, ⟨(some 60), none, (.load true 2 (.t 3))⟩, ⟨(some 61), none, (.call 7 [(.t 60)])⟩, ⟨(some 62), none, (.call 10 [(.t 59), (.t 61)])⟩, ⟨(some 63), none, (.un .not (.t 62))⟩]) (.cond (.t 63) (.seq (.reg [⟨(some 4), none, (.mv (.c (.bool false)))⟩]) .ret) .skip)) (.seq (.reg [⟨(some 12), none, (.mv (.c (.int .i64 1)))⟩]) (.seq (.reg [⟨(some 64), none, (.load true 2 (.t 8))⟩, ⟨(some 65), none, (.mv (.t 12))⟩, ⟨(some 66), none, (.call 11 [(.t 64), (.t 65)])⟩, ⟨(some 12), none, (.mv (.t 66))⟩]) (.seq (.reg [⟨(some 67), none, (.load true 2 (.t 9))⟩, ⟨(some 68), none, (.mv (.t 12))⟩, ⟨(some 69), none, (.call 11 [(.t 67), (.t 68)])⟩, ⟨(some 12), none, (.mv (.t 69))⟩]) (.seq (.seq (.reg [⟨(some 70), none, (.mv (.t 12))⟩, ⟨(some 71), none, (.bin .lss false (.t 70) (.c (.int .i64 0)))⟩, ⟨(some 72), none, (.mv (.t 71))⟩, ⟨(some 73), (some (72, false)), (.load true 1 (.t 10))⟩, ⟨(some 74), (some (72, false)), (.load true 1 (.t 6))⟩, ⟨(some 75), (some (72, false)), (.call 9 [(.t 73), (.t 74)])⟩, ⟨(some 76), (some (72, false)), (.un .not (.t 75))⟩, ⟨(some 77), none, (.pick (.t 72) (.c (.bool true)) (.t 76))⟩, ⟨(some 78), none, (.mv (.t 77))⟩, ⟨(some 79), (some (78, false)), (.mv (.t 11))⟩, ⟨(some 80), (some (78, false)), (.mv (.t 7))⟩, ⟨(some 81), (some (78, false)), (.bin .neq true (.t 79) (.t 80))⟩, ⟨(some 82), none, (.pick (.t 78) (.c (.bool true)) (.t 81))⟩]) (.cond (.t 82) (.seq (.reg [⟨(some 4), none, (.mv (.c (.bool false)))⟩]) .ret) .skip)) (.seq (.reg [⟨(some 13), none, (.mv (.c (.int .i64 1)))⟩]) (.seq (.reg [⟨(some 83), none, (.load true 1 (.t 10))⟩, ⟨(some 84), none, (.mv (.t 13))⟩, ⟨(some 85), none, (.call 12 [(.t 83), (.t 84)])⟩, ⟨(some 13), none, (.mv (.t 85))⟩]) (.seq (.reg [⟨(some 14), none, (.mv (.c (.int .i64 1)))⟩]) (.seq (.reg [⟨(some 86), none, (.load true 1 (.t 10))⟩, ⟨(some 87), none, (.mv (.t 14))⟩, ⟨(some 88), none, (.call 13 [(.t 86), (.t 87)])⟩, ⟨(some 14), none, (.mv (.t 88))⟩]) (.seq (.seq (.reg [⟨(some 89), none, (.mv (.t 14))⟩, ⟨(some 90), none, (.bin .lss false (.t 89) (.c (.int .i64 0)))⟩]) (.cond (.t 90) (.seq (.reg [⟨(some 4), none, (.mv (.c (.bool false)))⟩]) .ret) .skip)) (.seq (.seq (.reg [⟨(some 91), none, (.mv (.t 14))⟩, ⟨(some 92), none, (.mv (.t 13))⟩, ⟨(some 93), none, (.bin .neq false (.t 91) (.t 92))⟩]) (.cond (.t 93) (.seq (.reg [⟨(some 4), none, (.mv (.c (.bool false)))⟩]) .ret) .skip)) (.seq (.dreg [[], [0], [], [2, 1, 0], [1, 0, 3, 2], [4, 1, 0, 3, 2], [5, 4, 1, 0, 3, 2], [5, 4, 1, 0, 3, 2], [], [8, 6, 5, 4, 1, 0, 3, 2], [7, 5, 4, 1, 0, 3, 2, 9, 8, 6]] [⟨(some 95), none, (.load true 2 (.t 2))⟩, ⟨(some 96), none, (.call 7 [(.t 95)])⟩, ⟨(some 97), none, (.load true 2 (.t 3))⟩, ⟨(some 98), none, (.call 7 [(.t 97)])⟩, ⟨(some 99), none, (.call 8 [(.t 96), (.t 98)])⟩, ⟨(some 94), none, (.mv (.t 99))⟩, ⟨(some 100), none, (.ext (.t 94) 0)⟩, ⟨(some 101), none, (.ext (.t 94) 1)⟩, ⟨(some 15), none, (.alloc 28 [.nil])⟩, ⟨none, none, (.store 1 (.t 15) (.t 100))⟩, ⟨(some 16), none, (.mv (.t 101))⟩]) (.seq (.seq (.reg [⟨(some 102), none, (.load true 1 (.t 15))⟩, ⟨(some 103), none, (.load true 1 (.t 6))⟩, ⟨(some 104), none, (.call 9 [(.t 102), (.t 103)])⟩, ⟨(some 105), none, (.un .not (.t 104))⟩, ⟨(some 106), none, (.mv (.t 105))⟩, ⟨(some 107), (some (106, false)), (.mv (.t 16))⟩, ⟨(some 108), (some (106, false)), (.mv (.t 7))⟩, ⟨(some 109), (some (106, false)), (.bin .neq true (.t 107) (.t 108))⟩, ⟨(some 110), none, (.pick (.t 106) (.c (.bool true)) (.t 109))⟩]) (.cond (.t 110) (.seq (.reg [⟨(some 4), none, (.mv (.c (.bool false)))⟩]) .ret) .skip)) (.seq (.reg [⟨(some 14), none, (.mv (.c (.int .i64 1)))⟩]) (.seq (.reg [⟨(some 111), none, (.load true 1 (.t 10))⟩, ⟨(some 112), none, (.mv (.t 14))⟩, ⟨(some 113), none, (.call 13 [(.t 111), (.t 112)])⟩, ⟨(some 14), none, (.mv (.t 113))⟩]) (.seq (.seq (.reg [⟨(some 114), none, (.mv (.t 14))⟩, ⟨(some 115), none, (.bin .lss false (.t 114) (.c (.int .i64 0)))⟩]) (.cond (.t 115) (.seq (.reg [⟨(some 4), none, (.mv (.c (.bool false)))⟩]) .ret) .skip)) (.seq (.seq (.reg [⟨(some 116), none, (.mv (.t 14))⟩, ⟨(some 117), none, (.mv (.t 13))⟩, ⟨(some 118), none, (.bin .neq false (.t 116) (.t 117))⟩]) (.cond (.t 118) (.seq (.reg [⟨(some 4), none, (.mv (.c (.bool false)))⟩]) .ret) .skip)) (.seq (.reg [⟨(some 4), none, (.mv (.c (.bool true)))⟩]) .ret))))))))))))))))))))))))))))))
theorem k_laws_FnExactUnify : codeOf Tryz.prog 3 = some ⟨119, c_laws_FnExactUnify, [(.tmp 4)]⟩ := by kernel_rfl
theorem m_laws_FnExactUnify : modes 3 = ⟨[], .asis, none, false⟩ := by unfold modes; rfl

set_option maxHeartbeats 8000000 in
theorem law25_E (s u : Tm) (hfs : D.fits s.d) (hfu : D.fits u.d) : E 3 [s.sv, u.sv] [] = some (.bool true, []) := by
  have h1 := szT_Term s hfs 1048576 (by omega) (by omega)
  have q := szR_spec 1048576 s.bulk
  obtain ⟨l, hl⟩ : ∃ l, l = szR 1048576 s.bulk := ⟨_, rfl⟩
  rw [← hl] at h1 q
  rcases Int.lt_or_le l 0 with h0 | h0
  · refine E_walk k_laws_FnExactUnify m_laws_FnExactUnify (of_decide_eq_true rfl) ?_
    simp (disch := omega) only [c_laws_FnExactUnify, go_sem, Nat.reduceAdd, Nat.reduceSub, Nat.reduceLT, Nat.reduceLeDiff, Nat.reduceEqDiff, Nat.reduceBEq, Nat.reduceBneDiff, Nat.reduceMul, ↓reduceIte, Int.reduceToNat, reduceCtorEq, Int.reduceNeg, Int.reduceAdd, h1, m_laws_szTerm]
  have h2 := szT_Term u hfu l h0 (by omega)
  have q2 := szR_spec l u.bulk
  obtain ⟨l2, hl2⟩ : ∃ l2, l2 = szR l u.bulk := ⟨_, rfl⟩
  rw [← hl2] at h2 q2
  rcases Int.lt_or_le l2 0 with h02 | h02
  · refine E_walk k_laws_FnExactUnify m_laws_FnExactUnify (of_decide_eq_true rfl) ?_
    simp (disch := omega) only [c_laws_FnExactUnify, go_sem, Nat.reduceAdd, Nat.reduceSub, Nat.reduceLT, Nat.reduceLeDiff, Nat.reduceEqDiff, Nat.reduceBEq, Nat.reduceBneDiff, Nat.reduceMul, ↓reduceIte, Int.reduceToNat, reduceCtorEq, Int.reduceNeg, Int.reduceAdd, h1, h2, m_laws_szTerm]
  have hbs : s.bulk ≤ 1048576 := by omega
  have hbu : u.bulk ≤ 1048576 := by omega
  have hns := Tm.nodes_bulk s
  have hnu := Tm.nodes_bulk u
  have t1 := toT_Term s hbs
  have t2 := toT_Term u hbu
  have a1 := specUnify_E s u (by omega) (by omega)
  have a2 := implUnify_E s u (by omega) (by omega)
  have hbr := uTo_bulk fun r (h : unA s u = some r) => unA_ok h
  obtain ⟨r, hr⟩ : ∃ r, r = uTo (unA s u) := ⟨_, rfl⟩
  obtain ⟨o, ho⟩ : ∃ o, o = uOk (unA s u) := ⟨_, rfl⟩
  rw [← hr] at a1 a2 hbr
  rw [← ho] at a1 a2
  have e1 := eqT_Term s hbs
  have e2 := eqT_Term u hbu
  have e3 := eqT_Substitution r hbr
  have ws := Tm.wtS_bulk s.args
  have wu := Tm.wtS_bulk u.args
  have wr := Bd.wtS_bulk r.binds
  have bs := Tm.bulk_eq s
  have bu := Tm.bulk_eq u
  have br := Sb.bulk_eq r
  have k1 := Tm.mkS_end s.args 1
  have m1 := markT_Term s 1 (.row 33 2 (s.args.map Tm.o)) (by omega) (by omega) rfl
  obtain ⟨n1, hn1⟩ : ∃ n1, n1 = (s.mkr 1).2 := ⟨_, rfl⟩
  have hn1' : n1 = (Tm.mkS s.args 1).2 := hn1
  rw [← hn1] at m1
  have k2 := Tm.mkS_end u.args n1
  have m2 := markT_Term u n1 (.row 33 2 (u.args.map Tm.o)) (by omega) (by omega) rfl
  obtain ⟨n2, hn2⟩ : ∃ n2, n2 = (u.mkr n1).2 := ⟨_, rfl⟩
  have hn2' : n2 = (Tm.mkS u.args n1).2 := hn2
  rw [← hn2] at m2
  have k3 := Bd.mkS_end r.binds 1
  have m3 := markT_Substitution r 1 (.row 67 3 (r.binds.map Bd.o)) (by omega) (by omega) rfl
  have h3 := heldT_Substitution r 1 (by omega) (by omega)
  obtain ⟨n3, hn3⟩ : ∃ n3, n3 = (r.mkr 1).2 := ⟨_, rfl⟩
  have hn3' : n3 = (Bd.mkS r.binds 1).2 := hn3
  rw [← hn3] at m3 h3
  refine E_walk k_laws_FnExactUnify m_laws_FnExactUnify (of_decide_eq_true rfl) ?_
  simp (disch := omega) only [c_laws_FnExactUnify, go_sem, Nat.reduceAdd, Nat.reduceSub, Nat.reduceLT, Nat.reduceLeDiff, Nat.reduceEqDiff, Nat.reduceBEq, Nat.reduceBneDiff, Nat.reduceMul, ↓reduceIte, Int.reduceToNat, reduceCtorEq, Int.reduceNeg, Int.reduceAdd, h1, h2, t1, t2, a1, a2, e1, e2, e3, m1, m2, m3, h3, dec_refl, m_laws_szTerm, m_laws_toTerm, m_spec_Unify, m_impl_Unify, m_laws_eqTerm, m_laws_eqSubstitution, m_laws_markTerm, m_laws_markSubstitution, m_laws_heldSubstitution, Sb.osv, Sb.obs, Tm.osv, Tm.obs, Bd.erss, Bd.noss, Tm.erss, Tm.noss]
end Go.Proofs.YtjafnijgkjjadaaGreat

set_option maxRecDepth 100000
set_option linter.unusedSimpArgs false
set_option linter.unusedVariables false
namespace Go.Proofs.YtjafnijgkjjadaaGreat
open Go.RowKit Go.ChangeShapes Go.WideShapes Go.ChangeAt Go.Deep

section
variable {H : Type} {enc : TypeId × Value → H} {P : Program} {w : World} {base : Nat} {spare : Nat → Bool} {held : Bool}

theorem addr_add_plain {b o k : Nat} : (⟨b, o, none⟩ : Addr).add k = ⟨b, o + k, none⟩ := by
  unfold Addr.add; split
  · subst_vars; rfl
  · rfl
theorem cell_lt {a : Addr} {v : Value} (h : w.cell? a = some v) : a.block < w.heap.size := by
  unfold World.cell? at h
  cases hb : w.heap[a.block]? with
  | none => rw [hb] at h; cases h
  | some o => exact (Array.getElem?_eq_some_iff.1 hb).1

/-- A slice that is read: its cells, and each element's own reading. -/
theorem open_sl {t e : TypeId} {fuel : Nat} {cs : List Value} {x : DataW H × List MemPlace} (sz : Nat) (hsz : P.cellsOf e = sz) (h0 : 0 < sz) (ht : P.underlying t = some (.slice e)) (h : DataW.trod enc P w base spare held fuel t cs = some x) :
    ∃ (a : Option Addr) (len cap : Nat) (f : Nat → Nat → Value), cs = [.slice a len cap] ∧ len ≤ cap ∧ cap ≤ 9223372036854775807 ∧ SlA w 0 sz len f a ∧
      ∀ i, i < len → ∃ n x', DataW.trod enc P w base spare held n e ((List.range sz).map (f i)) = some x' := by
  rcases open_slice ht h with ⟨hcs, _⟩ | ⟨a, len, cap, m, n, D, Pl, hcs, hb, hl, hm, hmm, hx, hi⟩
  · exact ⟨none, 0, 0, fun _ _ => undef, hcs, Nat.le_refl _, by omega, .inl rfl, fun i hi => absurd hi (by omega)⟩
  · have hlm : len ≤ m := by rw [hmm]; split <;> omega
    have hcell : ∀ i j, i < len → j < sz → ∃ v, w.cell? (a.add (i * sz + j)) = some v := by
      intro i j hil hj
      obtain ⟨cs', hc, _⟩ := hi i (by omega)
      rw [hsz] at hc
      obtain ⟨_, hcl, hat⟩ := World.cells?_some hc
      have h1 := hat j hj
      rw [Go.Deep.add_add, List.getElem?_eq_getElem (by omega)] at h1
      exact ⟨_, h1⟩
    refine ⟨some a, len, cap, fun i j => (w.cell? (a.add (i * sz + j))).getD undef, hcs, hl, hm, ?_, ?_⟩
    · rcases Nat.eq_zero_or_pos len with h | h
      · exact .inl h
      · obtain ⟨v, hv⟩ := hcell 0 0 h h0
        rw [Nat.zero_mul, Nat.zero_add] at hv
        have hsp : a.spot = none := by simpa [Addr.add] using World.cell?_spot hv
        have hlt := cell_lt hv
        obtain ⟨b, off, spot⟩ := a
        simp only at hsp
        subst hsp
        refine .inr ⟨b, off, rfl, Nat.zero_le _, by simpa [Addr.add] using hlt, fun i j hil hj => ?_⟩
        obtain ⟨v', hv'⟩ := hcell i j hil hj
        rw [addr_add_plain] at hv'
        show _ = some ((w.cell? ((⟨b, off, none⟩ : Addr).add (i * sz + j))).getD undef)
        rw [addr_add_plain, Nat.add_assoc, hv']
        rfl
    · intro i hil
      obtain ⟨cs', hc, ht'⟩ := hi i (by omega)
      rw [hsz] at hc
      obtain ⟨_, hcl, hat⟩ := World.cells?_some hc
      refine ⟨n, (D i, Pl i), ?_⟩
      · have hcs' : (List.range sz).map (fun j => (w.cell? (a.add (i * sz + j))).getD undef) = cs' := by
          apply List.ext_getElem?
          intro j
          by_cases hj : j < sz
          · rw [List.getElem?_map, List.getElem?_range hj]
            have h1 := hat j hj
            rw [Go.Deep.add_add] at h1
            rw [List.getElem?_eq_getElem (by omega : j < cs'.length)] at h1 ⊢
            simp [h1]
          · rw [List.getElem?_eq_none (by simp; omega), List.getElem?_eq_none (by omega)]
        rw [hcs']
        exact ht'

/-- A struct of one-cell fields: each field's own reading. -/
theorem open_fields {e : TypeId} {fs : Array Field} {n sz : Nat} {g : Nat → Value} {x : DataW H × List MemPlace} (he : P.underlying e = some (.struct fs)) (hone : oneCellFields P fs = true) (hs : fs.size = sz)
    (h : DataW.trod enc P w base spare held n e ((List.range sz).map g) = some x) (j : Nat) (f : Field) (hj : fs[j]? = some f) :
    ∃ n' y, DataW.trod enc P w base spare held n' f.type [g j] = some y := by
  obtain ⟨xs, n', hn, hx, hlen, hxl, hf⟩ := DataW.trod_struct he h
  obtain ⟨ho, hk⟩ := hone_of hone j f hj
  have hjl : j < fs.size := (Array.getElem?_eq_some_iff.1 hj).1
  have h1 := hf j f hj
  rw [ho, hk] at h1
  have e1 : ((((List.range sz).map g).drop j).take 1) = [g j] := by
    rw [List.drop_eq_getElem_cons (by simp; omega)]
    simp
  rw [e1, List.getElem?_eq_getElem (by omega : j < xs.length)] at h1
  exact ⟨n', _, h1⟩

theorem open_intsAt {t e : TypeId} {fuel : Nat} {v : Value} {x : DataW H × List MemPlace} (ht : P.underlying t = some (.slice e)) (he : P.underlying e = some (.int .i64)) (hc : P.cellsOf e = 1)
    (h : DataW.trod enc P w base spare held fuel t [v] = some x) : ∃ xs, IntsAt w 0 v xs ∧ ∀ n ∈ xs, (Lit.int .i64 n).wf = true := by
  obtain ⟨a, len, cap, f, hcs, hl, hm, hS, hr⟩ := open_sl 1 hc (by omega) ht h
  simp only [List.cons.injEq, and_true] at hcs
  subst hcs
  have hint : ∀ i, i < len → ∃ z, f i 0 = .int .i64 z ∧ (Lit.int .i64 z).wf = true := by
    intro i hi
    obtain ⟨n, x', h1⟩ := hr i hi
    obtain ⟨z, hz, _, hw⟩ := DataW.trod_int he h1
    simp at hz
    exact ⟨z, hz, hw⟩
  let g : Nat → Int := fun i => match f i 0 with | .int _ z => z | _ => 0
  have hg : ∀ i, i < len → f i 0 = .int .i64 (g i) ∧ (Lit.int .i64 (g i)).wf = true := by
    intro i hi
    obtain ⟨z, hz, hw⟩ := hint i hi
    have : g i = z := by show (match f i 0 with | .int _ z => z | _ => 0) = z; rw [hz]
    rw [this]; exact ⟨hz, hw⟩
  refine ⟨(List.range len).map g, ⟨a, cap, by simp, by simpa using hl, hm, ?_⟩, ?_⟩
  · have : ((List.range len).map g).length = len := by simp
    rw [this]
    refine hS.congr fun i j hi hj => ?_
    obtain rfl : j = 0 := by omega
    rw [(hg i hi).1, atZ_get (by simpa using hi)]
    simp
  · intro n hn
    simp only [List.mem_map, List.mem_range] at hn
    obtain ⟨i, hi, rfl⟩ := hn
    exact (hg i hi).2
end

section
variable {H : Type} {enc : TypeId × Value → H} {w : World} {base : Nat} {spare : Nat → Bool} {held : Bool}

end
end Go.Proofs.YtjafnijgkjjadaaGreat

set_option maxRecDepth 100000
set_option linter.unusedSimpArgs false
set_option linter.unusedVariables false
namespace Go.Proofs.YtjafnijgkjjadaaGreat
open Go.RowKit Go.ChangeShapes Go.WideShapes Go.ChangeAt Go.Deep

section
variable {H : Type} {enc : TypeId × Value → H} {P : Program} {w : World} {base : Nat} {spare : Nat → Bool} {held : Bool}

/-- A slice that is read: its cells, and each element's own reading, with less fuel. -/
theorem open_sl' {t e : TypeId} {fuel : Nat} {v : Value} {x : DataW H × List MemPlace} (sz : Nat) (hsz : P.cellsOf e = sz) (h0 : 0 < sz) (ht : P.underlying t = some (.slice e)) (h : DataW.trod enc P w base spare held fuel t [v] = some x) :
    ∃ (a : Option Addr) (len cap : Nat) (f : Nat → Nat → Value), v = .slice a len cap ∧ len ≤ cap ∧ cap ≤ 9223372036854775807 ∧ SlA w 0 sz len f a ∧
      ∀ i, i < len → ∃ n x', n < fuel ∧ DataW.trod enc P w base spare held n e ((List.range sz).map (f i)) = some x' := by
  rcases DataW.trod_slice ht h with ⟨hcs, _⟩ | ⟨a, len, cap, elems, rest, n, hf, hcs, hx, hb, hl, hm, hlen, hel, _, _⟩
  · simp only [List.cons.injEq, and_true] at hcs
    exact ⟨none, 0, 0, fun _ _ => undef, hcs, Nat.le_refl _, by omega, .inl rfl, fun i hi => absurd hi (by omega)⟩
  · have hi : ∀ i, i < len → ∃ cs' x', w.cells? base (a.add (i * sz)) sz = some cs' ∧ DataW.trod enc P w base spare held n e cs' = some x' := by
      intro i hi
      have h1 := hel i hi
      rw [hsz, List.getElem?_eq_getElem (by omega)] at h1
      obtain ⟨cs', h2, h3⟩ := Option.bind_eq_some_iff.1 h1
      exact ⟨cs', _, h2, h3⟩
    have hcell : ∀ i j, i < len → j < sz → ∃ v, w.cell? (a.add (i * sz + j)) = some v := by
      intro i j hil hj
      obtain ⟨cs', x', hc, _⟩ := hi i hil
      obtain ⟨_, hcl, hat⟩ := World.cells?_some hc
      have h1 := hat j hj
      rw [Go.Deep.add_add, List.getElem?_eq_getElem (by omega)] at h1
      exact ⟨_, h1⟩
    simp only [List.cons.injEq, and_true] at hcs
    refine ⟨some a, len, cap, fun i j => (w.cell? (a.add (i * sz + j))).getD undef, hcs, hl, hm, ?_, ?_⟩
    · rcases Nat.eq_zero_or_pos len with h | h
      · exact .inl h
      · obtain ⟨v, hv⟩ := hcell 0 0 h h0
        rw [Nat.zero_mul, Nat.zero_add] at hv
        have hsp : a.spot = none := by simpa [Addr.add] using World.cell?_spot hv
        have hlt := cell_lt hv
        obtain ⟨b, off, spot⟩ := a
        simp only at hsp
        subst hsp
        refine .inr ⟨b, off, rfl, Nat.zero_le _, by simpa [Addr.add] using hlt, fun i j hil hj => ?_⟩
        obtain ⟨v', hv'⟩ := hcell i j hil hj
        rw [addr_add_plain] at hv'
        show _ = some ((w.cell? ((⟨b, off, none⟩ : Addr).add (i * sz + j))).getD undef)
        rw [addr_add_plain, Nat.add_assoc, hv']
        rfl
    · intro i hil
      obtain ⟨cs', x', hc, ht'⟩ := hi i hil
      obtain ⟨_, hcl, hat⟩ := World.cells?_some hc
      refine ⟨n, x', by omega, ?_⟩
      have hcs' : (List.range sz).map (fun j => (w.cell? (a.add (i * sz + j))).getD undef) = cs' := by
        apply List.ext_getElem?
        intro j
        by_cases hj : j < sz
        · rw [List.getElem?_map, List.getElem?_range hj]
          have h1 := hat j hj
          rw [Go.Deep.add_add] at h1
          rw [List.getElem?_eq_getElem (by omega : j < cs'.length)] at h1 ⊢
          simp [h1]
        · rw [List.getElem?_eq_none (by simp; omega), List.getElem?_eq_none (by omega)]
      rw [hcs']
      exact ht'
/-- A struct that is read: each field's own reading, with less fuel. -/
theorem open_st' {t : TypeId} {fs : Array Field} {fuel : Nat} {cs : List Value} {x : DataW H × List MemPlace} (ht : P.underlying t = some (.struct fs)) (h : DataW.trod enc P w base spare held fuel t cs = some x) :
    ∃ n, n < fuel ∧ cs.length = P.cellsOf t ∧ ∀ (i : Nat) (f : Field), fs[i]? = some f → ∃ y, DataW.trod enc P w base spare held n f.type ((cs.drop f.offset).take (P.cellsOf f.type)) = some y := by
  obtain ⟨xs, n, hn, hx, hlen, hxl, hf⟩ := DataW.trod_struct ht h
  refine ⟨n, by omega, hlen, fun i f hi => ?_⟩
  have hil : i < fs.size := (Array.getElem?_eq_some_iff.1 hi).1
  have h1 := hf i f hi
  rw [List.getElem?_eq_getElem (by omega : i < xs.length)] at h1
  exact ⟨_, h1⟩
end

/-- Leaves that are read, one by one. -/
inductive Lvs (w : World) : List D → List Value → Prop
  | nil : Lvs w [] []
  | cons {d : D} {v : Value} {ds : List D} {vs : List Value} (h : DAt w d v) (hs : Lvs w ds vs) : Lvs w (d :: ds) (v :: vs)
theorem Lvs.len {w : World} {ds : List D} {vs : List Value} (h : Lvs w ds vs) : ds.length = vs.length := by
  induction h with
  | nil => rfl
  | cons h hs ih => simp [ih]
theorem Lvs.get {w : World} {ds : List D} {vs : List Value} (h : Lvs w ds vs) : ∀ j (h1 : j < ds.length) (h2 : j < vs.length), DAt w ds[j] vs[j] := by
  induction h with
  | nil => intro j h1; simp at h1
  | cons h hs ih =>
    intro j h1 h2
    cases j with
    | zero => exact h
    | succ j => exact ih j (by simpa using h1) (by simpa using h2)
theorem open_arr {α : Type} [Inhabited α] (dd : α → List D) {w : World} {m len cap : Nat} {f : Nat → Nat → Value} {a : Option Addr} (hl : len ≤ cap) (hm : cap ≤ 9223372036854775807) (hS : SlA w 0 m len f a)
    (hel : ∀ i, i < len → ∃ X : α, Lvs w (dd X) ((List.range m).map (f i))) : ∃ xs : List α, DAt w (.arr (xs.map dd)) (.slice a len cap) := by
  obtain ⟨g, hg⟩ : ∃ g : Nat → α, ∀ i, i < len → Lvs w (dd (g i)) ((List.range m).map (f i)) :=
    ⟨fun i => if h : i < len then (hel i h).choose else default, fun i hi => by simp only [hi, dif_pos]; exact (hel i hi).choose_spec⟩
  refine ⟨(List.range len).map g, ?_⟩
  have hlen : (((List.range len).map g).map dd).length = len := by simp
  have := DAt.arr_mk (w := w) (es := ((List.range len).map g).map dd) (sz := m) (cap := cap) (a := a) (f := f) (by rw [hlen]; exact hl) hm (by rw [hlen]; exact hS) (fun i hi => by
    rw [hlen] at hi
    have := (hg i hi).len
    simpa using this) (fun i j hi hj => by
    rw [hlen] at hi
    have h1 := hg i hi
    have h2 := h1.len
    simp only [List.length_map, List.length_range] at h2
    simp only [List.getElem_map, List.getElem_range] at hj ⊢
    have := h1.get j hj (by simp; omega)
    simpa using this)
  rw [hlen] at this
  exact this
instance : Inhabited Tm := ⟨Tm.zero⟩
instance : Inhabited Fm := ⟨Fm.zero⟩

section
variable {H : Type} {enc : TypeId × Value → H} {w : World} {base : Nat} {spare : Nat → Bool} {held : Bool}
theorem open_term_of {fuel : Nat} (ih : ∀ n, n < fuel → ∀ v x, DataW.trod enc Tryz.prog w base spare held n 22 [v] = some x → ∃ xs, TmsAt w xs v) {cs : List Value} {x : DataW H × List MemPlace}
    (h : DataW.trod enc Tryz.prog w base spare held fuel 24 cs = some x) : ∃ X : Tm, Lvs w X.d cs := by
  obtain ⟨n, hn, hlen, hf⟩ := open_st' Tryz.underlying24 h
  rw [show Tryz.prog.cellsOf 24 = 2 by kernel_rfl] at hlen
  match cs, hlen with
  | [c0, c1], _ =>
    obtain ⟨y0, k0⟩ := hf 0 _ rfl
    obtain ⟨y1, k1⟩ := hf 1 _ rfl
    obtain ⟨s, hs, _, hsz⟩ := DataW.trod_string Tryz.underlying9 k0
    have e1 : (([c0, c1].drop 1).take (Tryz.prog.cellsOf 22)) = [c1] := by rw [show Tryz.prog.cellsOf 22 = 1 by kernel_rfl]; rfl
    have e0 : (([c0, c1].drop 0).take (Tryz.prog.cellsOf 9)) = [c0] := by rw [show Tryz.prog.cellsOf 9 = 1 by kernel_rfl]; rfl
    obtain ⟨xs, hxs⟩ := ih n hn c1 y1 (by rw [← e1]; exact k1)
    have hs' : c0 = .string s := by
      have : [c0] = [.string s] := by rw [← e0]; exact hs
      simpa using this
    subst hs'
    exact ⟨.mk s xs, by rw [Tm.d_eq]; exact .cons (.str _ s hsz) (.cons hxs .nil)⟩
theorem open_terms_all : ∀ (fuel : Nat) (v : Value) (x : DataW H × List MemPlace), DataW.trod enc Tryz.prog w base spare held fuel 22 [v] = some x → ∃ xs, TmsAt w xs v := by
  intro fuel
  induction fuel using Nat.strongRecOn with
  | _ fuel ih =>
    intro v x h
    obtain ⟨a, len, cap, f, rfl, hl, hm, hS, hr⟩ := open_sl' (P := Tryz.prog) 2 (by kernel_rfl) (by omega) Tryz.underlying22 h
    exact open_arr Tm.d hl hm hS fun i hi => by
      obtain ⟨n, x', hn, h1⟩ := hr i hi
      exact open_term_of (fun n' hn' => ih n' (by omega)) h1
theorem open_term {fuel : Nat} {cs : List Value} {x : DataW H × List MemPlace} (h : DataW.trod enc Tryz.prog w base spare held fuel 24 cs = some x) : ∃ X : Tm, Lvs w X.d cs :=
  open_term_of (fun n _ => open_terms_all n) h
end
end Go.Proofs.YtjafnijgkjjadaaGreat

set_option maxRecDepth 100000
set_option linter.unusedSimpArgs false
set_option linter.unusedVariables false
namespace Go.Proofs.YtjafnijgkjjadaaGreat
open Go.RowKit

theorem DRep.lt_ {own : Bool} {w : World} {S : Nat → Prop} {d : D} {v : Value} (h : DRep own w S d v) : DRep own w (fun b => S b ∧ b < w.heap.size) d v := by
  induction h with
  | int S n => exact .int _ n
  | bool S b => exact .bool _ b
  | str S s h => exact .str _ s h
  | arr S sz es a cap f Sub h1 h2 h3 h4 h5 h6 h7 ih =>
    refine .arr _ sz es a cap f (fun i j x => Sub i j x ∧ x < w.heap.size) h1 h2 ?_ h4 (fun i j x h => ⟨h5 i j x h.1, h.2⟩) (fun ho i j i' j' x h h' => h6 ho i j i' j' x h.1 h'.1) ih
    rcases h3 with h3 | ⟨b, off, ha, hS, hl, hc, ho⟩
    · exact .inl h3
    · exact .inr ⟨b, off, ha, ⟨hS, hl⟩, hl, hc, fun h => ⟨fun i j hx => (ho h).1 i j hx.1, (ho h).2⟩⟩
theorem DAt.rep {w : World} {es : List (List D)} {v : Value} (h : DAt w (.arr es) v) : RepV w (fun b => b < w.heap.size) (fun _ => none) (.arr es) v := by
  simp only [RepV]
  exact (DRep.lt_ h).up fun b hb => hb.2
/-- A law's function that says yes. -/
theorem Fun.yes {f : FuncId} {args : List SV} (h : Fun Tryz.prog f args [] (.bool true) []) {w : World} {vs : List Value} (hvs : RepVs w (fun b => b < w.heap.size) (fun _ => none) args vs) : Calls Tryz.prog f vs.toArray w (Ret w (.bool true)) := by
  have nl : ∀ g, ¬ (geto [] g).live := fun g hg => by simp [geto, Ob.live] at hg
  refine (h w (fun b => b < w.heap.size) (fun _ => none) (fun _ _ => False) vs ⟨fun b hb => hb, fun g hg => absurd hg (nl g), fun g b hg => absurd hg (nl g), fun g b hg => absurd hg (nl g), fun g g' b hg => absurd hg (nl g), fun g _ => rfl⟩ hvs).mono ?_
  rintro e w' ⟨v, I', V', B', rfl, hr, hp⟩
  simp only [RepV] at hr
  subst hr
  exact ⟨rfl, hp.fr.os, hp.fr.tape, hp.fr.output, hp.fr.size, fun b hb => hp.fr.block b hb fun ⟨g, hg, _⟩ => absurd hg (nl g)⟩

theorem lvs_cons {w : World} {d : D} {ds : List D} {v : Value} {vs : List Value} (h : Lvs w (d :: ds) (v :: vs)) : DAt w d v ∧ Lvs w ds vs := by
  cases h with
  | cons h1 h2 => exact ⟨h1, h2⟩
theorem DAt.rep_sv {w : World} {d : D} {v : Value} (h : DAt w d v) : RepV w (fun b => b < w.heap.size) (fun _ => none) d.sv v :=
  D.rep_sv ((DRep.lt_ h).up fun b hb => hb.2)
theorem Lvs.reps {w : World} {ds : List D} {vs : List Value} (h : Lvs w ds vs) : RepVs w (fun b => b < w.heap.size) (fun _ => none) (ds.map D.sv) vs := by
  induction h with
  | nil => simp [RepVs]
  | cons h hs ih => simp only [List.map_cons, RepVs]; exact ⟨_, _, rfl, h.rep_sv, ih⟩
theorem Lvs.agg {w : World} {ds : List D} {vs : List Value} (h : Lvs w ds vs) : RepV w (fun b => b < w.heap.size) (fun _ => none) (.agg (ds.map D.sv)) (.agg vs.toArray) := by
  simp only [RepV]; exact ⟨vs, rfl, h.reps⟩
theorem Lvs.fits {w : World} {ds : List D} {vs : List Value} (h : Lvs w ds vs) : D.fits ds := by
  induction h with
  | nil => trivial
  | cons h hs ih => exact ⟨DRep.fit h, ih⟩
theorem DAt.fit {w : World} {d : D} {v : Value} (h : DAt w d v) : D.fit d := DRep.fit h
theorem args_nil {w : World} {I : Nat → Prop} {V : Nat → Option Value} : RepVs w I V [] [] := by simp [RepVs]
theorem args_more {w : World} {I : Nat → Prop} {V : Nat → Option Value} {x : SV} {xs : List SV} {v : Value} {vs : List Value} (h : RepV w I V x v) (hs : RepVs w I V xs vs) : RepVs w I V (x :: xs) (v :: vs) := by
  simp only [RepVs]; exact ⟨v, vs, rfl, h, hs⟩
section
variable {H : Type} {enc : TypeId × Value → H} {w : World} {base : Nat} {spare : Nat → Bool} {held : Bool}
theorem opn_Term_of {fuel : Nat} (ih : ∀ n, n < fuel → ∀ v x, DataW.trod enc Tryz.prog w base spare held n 22 [v] = some x → ∃ xs : List Tm, DAt w (.arr (xs.map Tm.d)) v) {cs : List Value} {x : DataW H × List MemPlace} (h : DataW.trod enc Tryz.prog w base spare held fuel 24 cs = some x) : ∃ X : Tm, Lvs w X.d cs := by
  obtain ⟨n, hn, hlen, hf⟩ := open_st' Tryz.underlying24 h
  rw [show Tryz.prog.cellsOf 24 = 2 by kernel_rfl] at hlen
  match cs, hlen with
  | [c0, c1], _ =>
    obtain ⟨y0, k0⟩ := hf 0 _ rfl
    have e0 : (([c0, c1].drop 0).take (Tryz.prog.cellsOf 9)) = [c0] := by rw [show Tryz.prog.cellsOf 9 = 1 by kernel_rfl]; rfl
    obtain ⟨z0, q0, _, s0⟩ := DataW.trod_string Tryz.underlying9 k0
    have q0' : c0 = .string z0 := by
      have : [c0] = [.string z0] := by rw [← e0]; exact q0
      simpa using this
    obtain ⟨y1, k1⟩ := hf 1 _ rfl
    have e1 : (([c0, c1].drop 1).take (Tryz.prog.cellsOf 22)) = [c1] := by rw [show Tryz.prog.cellsOf 22 = 1 by kernel_rfl]; rfl
    have k1' : DataW.trod enc Tryz.prog w base spare held n 22 [c1] = some y1 := by rw [← e1]; exact k1
    obtain ⟨z1, g1⟩ := ih n hn c1 y1 k1'
    subst q0'
    exact ⟨.mk z0 z1, by rw [Tm.d_eq]; exact (.cons (.str _ z0 s0) (.cons g1 .nil))⟩
theorem opnS_Term_all : ∀ (fuel : Nat) (v : Value) (x : DataW H × List MemPlace), DataW.trod enc Tryz.prog w base spare held fuel 22 [v] = some x → ∃ xs : List Tm, DAt w (.arr (xs.map Tm.d)) v := by
  intro fuel
  induction fuel using Nat.strongRecOn with
  | _ fuel ih =>
    intro v x h
    obtain ⟨a, len, cap, f, rfl, hl, hm, hS, hr⟩ := open_sl' (P := Tryz.prog) 2 (by kernel_rfl) (by omega) Tryz.underlying22 h
    exact open_arr Tm.d hl hm hS fun i hi => by
      obtain ⟨n, x', hn, h1⟩ := hr i hi
      exact opn_Term_of (fun n' hn' => ih n' (by omega)) h1
theorem opn_Term {fuel : Nat} {cs : List Value} {x : DataW H × List MemPlace} (h : DataW.trod enc Tryz.prog w base spare held fuel 24 cs = some x) : ∃ X : Tm, Lvs w X.d cs :=
  opn_Term_of (fun n _ => opnS_Term_all n) h
theorem opnS_Term {fuel : Nat} {v : Value} {x : DataW H × List MemPlace} (h : DataW.trod enc Tryz.prog w base spare held fuel 22 [v] = some x) : ∃ xs : List Tm, DAt w (.arr (xs.map Tm.d)) v := by
  exact opnS_Term_all fuel v x h
end
end Go.Proofs.YtjafnijgkjjadaaGreat
