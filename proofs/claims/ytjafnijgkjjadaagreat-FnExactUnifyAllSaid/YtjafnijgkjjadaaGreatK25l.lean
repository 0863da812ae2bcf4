/-
  This text holds, one behind the other: This text tells what unifying answers in the reference. No condition.
  This text tells what Unify answers in both packages. No condition.
  This text tells what UnifyAll answers in both packages. No condition.
  This text tells what the law of UnifyAll answers. No condition.
  This text opens arguments: slices of integers, of structs, of tables: what is read as data lies in memory as our words say. No condition.
  This text opens arguments: what is read as data, terms and formulas, lies in memory as our words say. No condition.
  This text turns a function's answer into a walk of the kit's form, and opens arguments that are clauses. No condition.
-/
import Derived.Test.YtjafnijgkjjadaaGreatK25c
import Derived.Test.YtjafnijgkjjadaaGreatK25d
import Derived.Test.YtjafnijgkjjadaaGreatK25f
import Derived.Test.YtjafnijgkjjadaaGreatK25h
import Derived.Test.YtjafnijgkjjadaaGreatK25i
import Derived.Test.YtjafnijgkjjadaaGreatK25j
import Derived.Test.YtjafnijgkjjadaaGreatK25k
import Derived.ProofKit
import Derived.Deep.Slices
import Derived.Deep.Fields
import Derived.ChangeSame
import Derived.OpenShut
import Derived.ShutString
import Derived.ChangeOld
set_option maxRecDepth 100000
set_option linter.unusedSimpArgs false
set_option linter.unusedVariables false
namespace Go.Proofs.YtjafnijgkjjadaaGreat
open Go.RowKit

set_option maxHeartbeats 16000000 in
theorem l5Unify_E (a b : Tm) (ha : a.expr = true) (hb : b.expr = true) (n : Nat) (total : Option Sb) (hr : uRun n ⟨[]⟩ [(a, b)] = some total) : E 21 [a.sv, b.sv] [] = some (.tup [(uTo total).sv, .bool (uOk total)], []) := by
  have hres : ∀ t : Sb, t.sv = .agg [.arr (t.binds.map Bd.d)] := fun t => rfl
  rw [hres]
  refine E_walk k_spec_l5Unify m_spec_l5Unify (of_decide_eq_true rfl) ?_
  simp (disch := omega) only [c_spec_l5Unify, go_sem, Nat.reduceAdd, Nat.reduceSub, Nat.reduceLT, Nat.reduceLeDiff, Nat.reduceEqDiff, Nat.reduceBEq, Nat.reduceBneDiff, Nat.reduceMul, ↓reduceIte, Int.reduceToNat, reduceCtorEq, Int.reduceNeg, Int.reduceAdd]
  refine go_loop (α := Nat × Bool × Bool × Sb × List (Tm × Tm)) u5H (u5R total) (fun a => a.1) (n, true, true, ⟨[]⟩, [(a, b)]) ⟨uInv.start ha hb, hr, fun _ => rfl⟩ (by simp (disch := omega) only [go_sem, Nat.reduceAdd, Nat.reduceSub, Nat.reduceLT, Nat.reduceLeDiff, Nat.reduceEqDiff, Nat.reduceBEq, Nat.reduceBneDiff, Nat.reduceMul, ↓reduceIte, Int.reduceToNat, reduceCtorEq, Int.reduceNeg, Int.reduceAdd, u5H]; rfl) ?_
  clear hr ha hb
  rintro ⟨n, sn, lo, s, l⟩ ⟨hinv, hrun, hsn⟩
  dsimp only at hinv hrun hsn
  have hs := hinv.ok
  have hst := ok_tame hs
  cases n with
  | zero => rw [uRun] at hrun; cases hrun
  | succ n =>
  cases l with
  | nil =>
    rw [uRun] at hrun
    obtain rfl := Option.some.inj hrun
    have hk : uTo (some s) = s := rfl
    rw [hk]
    cases sn with
    | true =>
      obtain rfl : s = ⟨[]⟩ := by obtain ⟨bs⟩ := s; have := hsn rfl; rw [show bs = [] from this]
      cases lo with
      | true =>
        simp (disch := omega) only [go_sem, Nat.reduceAdd, Nat.reduceSub, Nat.reduceLT, Nat.reduceLeDiff, Nat.reduceEqDiff, Nat.reduceBEq, Nat.reduceBneDiff, Nat.reduceMul, ↓reduceIte, Int.reduceToNat, reduceCtorEq, Int.reduceNeg, Int.reduceAdd, u5H, uOk, Option.isSome_some, List.map_nil]
        try rfl
      | false =>
        simp (disch := omega) only [go_sem, Nat.reduceAdd, Nat.reduceSub, Nat.reduceLT, Nat.reduceLeDiff, Nat.reduceEqDiff, Nat.reduceBEq, Nat.reduceBneDiff, Nat.reduceMul, ↓reduceIte, Int.reduceToNat, reduceCtorEq, Int.reduceNeg, Int.reduceAdd, u5H, uOk, Option.isSome_some, List.map_nil]
        try rfl
    | false =>
      cases lo with
      | true =>
        simp (disch := omega) only [go_sem, Nat.reduceAdd, Nat.reduceSub, Nat.reduceLT, Nat.reduceLeDiff, Nat.reduceEqDiff, Nat.reduceBEq, Nat.reduceBneDiff, Nat.reduceMul, ↓reduceIte, Int.reduceToNat, reduceCtorEq, Int.reduceNeg, Int.reduceAdd, u5H, uOk, Option.isSome_some, List.map_nil]
        try rfl
      | false =>
        simp (disch := omega) only [go_sem, Nat.reduceAdd, Nat.reduceSub, Nat.reduceLT, Nat.reduceLeDiff, Nat.reduceEqDiff, Nat.reduceBEq, Nat.reduceBneDiff, Nat.reduceMul, ↓reduceIte, Int.reduceToNat, reduceCtorEq, Int.reduceNeg, Int.reduceAdd, u5H, uOk, Option.isSome_some, List.map_nil]
        try rfl
  | cons p l =>
    have hcmb : (sn = true ∧ lo = true) ∨ (sn = true ∧ lo = false) ∨ (sn = false ∧ lo = true) ∨ (sn = false ∧ lo = false) := by cases sn <;> cases lo <;> simp
    rcases hcmb with ⟨rfl, rfl⟩ | ⟨rfl, rfl⟩ | ⟨rfl, rfl⟩ | ⟨rfl, rfl⟩
    · exact l5U_tt total n s p l hinv hrun hsn
    · exact l5U_tf total n s p l hinv hrun hsn
    · exact l5U_ft total n s p l hinv hrun hsn
    · exact l5U_ff total n s p l hinv hrun hsn
end Go.Proofs.YtjafnijgkjjadaaGreat

set_option maxRecDepth 100000
set_option linter.unusedSimpArgs false
set_option linter.unusedVariables false
namespace Go.Proofs.YtjafnijgkjjadaaGreat
open Go.RowKit

theorem uRun_ok : ∀ (n : Nat) (s : Sb) (l : List (Tm × Tm)) (r : Sb), uInv s l → uRun n s l = some (some r) → r.ok = true
  | 0, s, l, r, h, e => by rw [uRun] at e; cases e
  | n + 1, s, [], r, h, e => by
    rw [uRun] at e
    simp only [Option.some.injEq] at e
    rw [← e]; exact h.ok
  | n + 1, s, p :: l, r, h, e => by
    rw [uRun] at e
    cases h1 : apOk s p.1 with
    | false => simp only [h1, Bool.false_and, cond_false] at e; cases e
    | true =>
      cases h2 : apOk s p.2 with
      | false => simp only [h2, Bool.and_false, cond_false] at e; cases e
      | true =>
        cases h3 : dec (apTo s p.1 = apTo s p.2) with
        | true =>
          simp only [h1, h2, h3, Bool.and_self, cond_true] at e
          exact uRun_ok n s l r h.pop e
        | false =>
          cases h4 : varB (apTo s p.1).name || varB (apTo s p.2).name with
          | true =>
            cases h5 : bndOk (bndOf (apTo s p.1) (apTo s p.2)) && cmpOk s ⟨[bndOf (apTo s p.1) (apTo s p.2)]⟩ with
            | false => simp only [h1, h2, h3, h4, h5, Bool.and_self, cond_true, cond_false] at e; cases e
            | true =>
              simp only [h1, h2, h3, h4, h5, Bool.and_self, cond_true, cond_false] at e
              rw [Bool.and_eq_true] at h5
              exact uRun_ok n _ l r (h.bind h1 h2 h4 h5.1 h5.2).1 e
          | false =>
            have h4' := h4
            rw [Bool.or_eq_false_iff] at h4'
            cases h5 : dec ((apTo s p.1).name = (apTo s p.2).name) && dec ((apTo s p.1).args.length = (apTo s p.2).args.length) with
            | false => simp only [h1, h2, h3, h4, h5, Bool.and_self, cond_true, cond_false] at e; cases e
            | true =>
              simp only [h1, h2, h3, h4, h5, Bool.and_self, cond_true, cond_false] at e
              exact uRun_ok n s _ r (h.dec h1 h2 h4'.1) e
open Classical in
/-- What unifying comes to. -/
noncomputable def unR (a b : Tm) : Option Sb := if h : ∃ r, ∃ n, uRun n ⟨[]⟩ [(a, b)] = some r then h.choose else none
theorem unR_spec {a b : Tm} (ha : a.expr = true) (hb : b.expr = true) : ∃ n, uRun n ⟨[]⟩ [(a, b)] = some (unR a b) := by
  obtain ⟨n, r, h⟩ := uRun_total ha hb
  have he : ∃ r, ∃ n, uRun n ⟨[]⟩ [(a, b)] = some r := ⟨r, n, h⟩
  unfold unR
  rw [dif_pos he]
  exact he.choose_spec
theorem unR_ok {a b : Tm} (ha : a.expr = true) (hb : b.expr = true) {s : Sb} (h : unR a b = some s) : s.ok = true := by
  obtain ⟨n, hn⟩ := unR_spec ha hb
  rw [h] at hn
  exact uRun_ok n _ _ s (uInv.start ha hb) hn
noncomputable def unA (a b : Tm) : Option Sb := bif a.expr && b.expr then unR a b else none
theorem unA_ok {a b : Tm} {s : Sb} (h : unA a b = some s) : s.ok = true := by
  unfold unA at h
  cases hq : a.expr && b.expr with
  | false => rw [hq] at h; cases h
  | true =>
    rw [hq, cond_true] at h
    rw [Bool.and_eq_true] at hq
    exact unR_ok hq.1 hq.2 h
theorem sumB_le : ∀ xs : List Bd, (∀ x ∈ xs, x.bulk ≤ 300) → Bd.sumB xs ≤ 300 * xs.length
  | [], _ => by simp [Bd.sumB]
  | x :: xs, h => by
    have h1 := h x (by simp)
    have h2 := sumB_le xs fun y hy => h y (by simp [hy])
    rw [Bd.sumB]; simp only [List.length_cons]; omega
theorem ok_bulk {x : Sb} (h : x.ok = true) : x.bulk ≤ 1048576 := by
  have hl := ok_len h
  have hb := sumB_le x.binds fun y hy => by
    obtain ⟨k, hk, rfl⟩ := List.getElem_of_mem hy
    have hok := Sb.ok_at h hk
    have h1 := varB_size (bdOk_var hok)
    have h2 := bdOk_valid hok
    have h3 := Tm.names_bulk x.binds[k].term (valid_names h2)
    have h4 := valid_nodes h2
    rw [Bd.bulk_eq]; omega
  rw [Sb.bulk_eq]
  omega
theorem uTo_bulk {t : Option Sb} (h : ∀ s, t = some s → s.ok = true) : (uTo t).bulk ≤ 1048576 := by
  cases t with
  | none => show (Sb.mk []).bulk ≤ _; rw [Sb.bulk_eq]; simp [Bd.sumB]
  | some s => exact ok_bulk (h s rfl)
def c_spec_Unify : SC := (.seq (.reg [⟨(some 2), none, (.boxv 33 2 (.t 0))⟩, ⟨(some 3), none, (.boxv 33 2 (.t 1))⟩, ⟨(some 4), none, (.alloc 28 [.nil])⟩, ⟨(some 5), none, (.mv (.c (.bool false)))⟩]) (.seq (.seq (.reg [⟨(some 6), none, (.load true 2 (.t 2))⟩, ⟨(some 7), none, (.call 20 [(.t 6)])⟩, ⟨(some 8), none, (.un .not (.t 7))⟩, ⟨(some 9), none, (.mv (.t 8))⟩, ⟨(some 10), (some (9, false)), (.load true 2 (.t 3))⟩, ⟨(some 11), (some (9, false)), (.call 20 [(.t 10)])⟩, ⟨(some 12), (some (9, false)), (.un .not (.t 11))⟩, ⟨(some 13), none, (.pick (.t 9) (.c (.bool true)) (.t 12))⟩]) (.cond (.t 13) (.seq (.reg [⟨(some 14), none, (.build [.nil] [])⟩, ⟨none, none, (.store 1 (.t 4) (.t 14))⟩, ⟨(some 5), none, (.mv (.c (.bool false)))⟩]) .ret) .skip)) (.seq (.reg [⟨(some 15), none, (.load true 2 (.t 2))⟩, ⟨(some 16), none, (.load true 2 (.t 3))⟩, ⟨(some 17), none, (.call 21 [(.t 15), (.t 16)])⟩, ⟨(some 18), none, (.ext (.t 17) 0)⟩, ⟨(some 19), none, (.ext (.t 17) 1)⟩, ⟨none, none, (.store 1 (.t 4) (.t 18))⟩, ⟨(some 5), none, (.mv (.t 19))⟩]) .ret)))
theorem k_spec_Unify : codeOf Tryz.prog 6 = some ⟨20, c_spec_Unify, [(.cell 4 true 1), (.tmp 5)]⟩ := by kernel_rfl
theorem m_spec_Unify : modes 6 = ⟨[], .frz, none, false⟩ := by unfold modes; rfl

def c_impl_Unify : SC := (.seq (.reg [⟨(some 2), none, (.boxv 33 2 (.t 0))⟩, ⟨(some 3), none, (.boxv 33 2 (.t 1))⟩, ⟨(some 4), none, (.alloc 28 [.nil])⟩, ⟨(some 5), none, (.mv (.c (.bool false)))⟩]) (.seq (.seq (.reg [⟨(some 6), none, (.load true 2 (.t 2))⟩, ⟨(some 7), none, (.call 22 [(.t 6)])⟩, ⟨(some 8), none, (.un .not (.t 7))⟩, ⟨(some 9), none, (.mv (.t 8))⟩, ⟨(some 10), (some (9, false)), (.load true 2 (.t 3))⟩, ⟨(some 11), (some (9, false)), (.call 22 [(.t 10)])⟩, ⟨(some 12), (some (9, false)), (.un .not (.t 11))⟩, ⟨(some 13), none, (.pick (.t 9) (.c (.bool true)) (.t 12))⟩]) (.cond (.t 13) (.seq (.reg [⟨(some 14), none, (.build [.nil] [])⟩, ⟨none, none, (.store 1 (.t 4) (.t 14))⟩, ⟨(some 5), none, (.mv (.c (.bool false)))⟩]) .ret) .skip)) (.seq (.reg [⟨(some 15), none, (.load true 2 (.t 2))⟩, ⟨(some 16), none, (.load true 2 (.t 3))⟩, ⟨(some 17), none, (.call 23 [(.t 15), (.t 16)])⟩, ⟨(some 18), none, (.ext (.t 17) 0)⟩, ⟨(some 19), none, (.ext (.t 17) 1)⟩, ⟨none, none, (.store 1 (.t 4) (.t 18))⟩, ⟨(some 5), none, (.mv (.t 19))⟩]) .ret)))
theorem k_impl_Unify : codeOf Tryz.prog 8 = some ⟨20, c_impl_Unify, [(.cell 4 true 1), (.tmp 5)]⟩ := by kernel_rfl
theorem m_impl_Unify : modes 8 = ⟨[], .own [some (67, 3), none], none, false⟩ := by unfold modes; rfl

set_option maxHeartbeats 4000000 in
theorem specUnify_E (a b : Tm) (hna : a.nodes ≤ 1099511627776) (hnb : b.nodes ≤ 1099511627776) : E 6 [a.sv, b.sv] [] = some (.tup [(uTo (unA a b)).sv, .bool (uOk (unA a b))], []) := by
  have h1 := l2Any_E a hna
  have h2 := l2Any_E b hnb
  cases ha : a.expr with
  | false =>
    have e : unA a b = none := by unfold unA; rw [ha]; rfl
    rw [e]
    rw [ha] at h1
    refine E_walk k_spec_Unify m_spec_Unify (of_decide_eq_true rfl) ?_
    simp (disch := omega) only [c_spec_Unify, go_sem, Nat.reduceAdd, Nat.reduceSub, Nat.reduceLT, Nat.reduceLeDiff, Nat.reduceEqDiff, Nat.reduceBEq, Nat.reduceBneDiff, Nat.reduceMul, ↓reduceIte, Int.reduceToNat, reduceCtorEq, Int.reduceNeg, Int.reduceAdd, h1, h2, m_spec_l2Any, m_spec_l5Unify]
    first | rfl | exact ⟨rfl, rfl⟩
  | true =>
    rw [ha] at h1
    cases hb : b.expr with
    | false =>
      have e : unA a b = none := by unfold unA; rw [hb, Bool.and_false]; rfl
      rw [e]
      rw [hb] at h2
      refine E_walk k_spec_Unify m_spec_Unify (of_decide_eq_true rfl) ?_
      simp (disch := omega) only [c_spec_Unify, go_sem, Nat.reduceAdd, Nat.reduceSub, Nat.reduceLT, Nat.reduceLeDiff, Nat.reduceEqDiff, Nat.reduceBEq, Nat.reduceBneDiff, Nat.reduceMul, ↓reduceIte, Int.reduceToNat, reduceCtorEq, Int.reduceNeg, Int.reduceAdd, h1, h2, m_spec_l2Any, m_spec_l5Unify]
      first | rfl | exact ⟨rfl, rfl⟩
    | true =>
      rw [hb] at h2
      have e : unA a b = unR a b := by unfold unA; rw [ha, hb]; rfl
      rw [e]
      obtain ⟨n, hn⟩ := unR_spec ha hb
      have h3 := l5Unify_E a b ha hb n (unR a b) hn
      obtain ⟨r, hr⟩ : ∃ r, r = uTo (unR a b) := ⟨_, rfl⟩
      obtain ⟨o, ho⟩ : ∃ o, o = uOk (unR a b) := ⟨_, rfl⟩
      rw [← hr, ← ho] at h3 ⊢
      have hsv : r.sv = .agg [.arr (r.binds.map Bd.d)] := rfl
      try rw [hsv] at h3 ⊢
      refine E_walk k_spec_Unify m_spec_Unify (of_decide_eq_true rfl) ?_
      simp (disch := omega) only [c_spec_Unify, go_sem, Nat.reduceAdd, Nat.reduceSub, Nat.reduceLT, Nat.reduceLeDiff, Nat.reduceEqDiff, Nat.reduceBEq, Nat.reduceBneDiff, Nat.reduceMul, ↓reduceIte, Int.reduceToNat, reduceCtorEq, Int.reduceNeg, Int.reduceAdd, h1, h2, h3, Sb.osv, Sb.obs, m_spec_l2Any, m_spec_l5Unify]
set_option maxHeartbeats 4000000 in
theorem implUnify_E (a b : Tm) (hna : a.nodes ≤ 1099511627776) (hnb : b.nodes ≤ 1099511627776) : E 8 [a.sv, b.sv] [] = some (.tup [(uTo (unA a b)).osv, .bool (uOk (unA a b))], (uTo (unA a b)).obs) := by
  have h1 := isExpression_E a hna
  have h2 := isExpression_E b hnb
  cases ha : a.expr with
  | false =>
    have e : unA a b = none := by unfold unA; rw [ha]; rfl
    rw [e]
    rw [ha] at h1
    refine E_walk k_impl_Unify m_impl_Unify (of_decide_eq_true rfl) ?_
    simp (disch := omega) only [c_impl_Unify, go_sem, Nat.reduceAdd, Nat.reduceSub, Nat.reduceLT, Nat.reduceLeDiff, Nat.reduceEqDiff, Nat.reduceBEq, Nat.reduceBneDiff, Nat.reduceMul, ↓reduceIte, Int.reduceToNat, reduceCtorEq, Int.reduceNeg, Int.reduceAdd, h1, h2, m_impl_isExpression, m_impl_unify]
    first | rfl | exact ⟨rfl, rfl⟩
  | true =>
    rw [ha] at h1
    cases hb : b.expr with
    | false =>
      have e : unA a b = none := by unfold unA; rw [hb, Bool.and_false]; rfl
      rw [e]
      rw [hb] at h2
      refine E_walk k_impl_Unify m_impl_Unify (of_decide_eq_true rfl) ?_
      simp (disch := omega) only [c_impl_Unify, go_sem, Nat.reduceAdd, Nat.reduceSub, Nat.reduceLT, Nat.reduceLeDiff, Nat.reduceEqDiff, Nat.reduceBEq, Nat.reduceBneDiff, Nat.reduceMul, ↓reduceIte, Int.reduceToNat, reduceCtorEq, Int.reduceNeg, Int.reduceAdd, h1, h2, m_impl_isExpression, m_impl_unify]
      first | rfl | exact ⟨rfl, rfl⟩
    | true =>
      rw [hb] at h2
      have e : unA a b = unR a b := by unfold unA; rw [ha, hb]; rfl
      rw [e]
      obtain ⟨n, hn⟩ := unR_spec ha hb
      have h3 := unify_E a b ha hb n (unR a b) hn
      obtain ⟨r, hr⟩ : ∃ r, r = uTo (unR a b) := ⟨_, rfl⟩
      obtain ⟨o, ho⟩ : ∃ o, o = uOk (unR a b) := ⟨_, rfl⟩
      rw [← hr, ← ho] at h3 ⊢
      have hsv : r.sv = .agg [.arr (r.binds.map Bd.d)] := rfl
      try rw [hsv] at h3 ⊢
      refine E_walk k_impl_Unify m_impl_Unify (of_decide_eq_true rfl) ?_
      simp (disch := omega) only [c_impl_Unify, go_sem, Nat.reduceAdd, Nat.reduceSub, Nat.reduceLT, Nat.reduceLeDiff, Nat.reduceEqDiff, Nat.reduceBEq, Nat.reduceBneDiff, Nat.reduceMul, ↓reduceIte, Int.reduceToNat, reduceCtorEq, Int.reduceNeg, Int.reduceAdd, h1, h2, h3, Sb.osv, Sb.obs, m_impl_isExpression, m_impl_unify]
end Go.Proofs.YtjafnijgkjjadaaGreat

set_option maxRecDepth 100000
set_option linter.unusedSimpArgs false
set_option linter.unusedVariables false
namespace Go.Proofs.YtjafnijgkjjadaaGreat
open Go.RowKit

/-- One term after the other made equal to the first. -/
noncomputable def uaR (h : Tm) : Sb → List Tm → Option Sb
  | s, [] => some s
  | s, t :: ts => bif apOk s h && apOk s t then (match unR (apTo s h) (apTo s t) with
      | none => none
      | some u => bif cmpOk s u then uaR h (cmpS s u) ts else none) else none
noncomputable def uaA (xs : List Tm) : Option Sb := bif dec (1 ≤ xs.length ∧ xs.length ≤ 4) && xs.all Tm.expr then (match xs with
  | [] => none
  | h :: ts => uaR h ⟨[]⟩ ts) else none
theorem uaR_ok (h : Tm) : ∀ (ts : List Tm) (s r : Sb), s.ok = true → uaR h s ts = some r → r.ok = true
  | [], s, r, hs, e => by rw [uaR] at e; obtain rfl := Option.some.inj e; exact hs
  | t :: ts, s, r, hs, e => by
    rw [uaR] at e
    obtain ⟨_, e⟩ := bif_some e
    split at e
    · cases e
    · obtain ⟨h1, e⟩ := bif_some e
      exact uaR_ok h ts _ r h1 e
theorem uaA_ok {xs : List Tm} {s : Sb} (h : uaA xs = some s) : s.ok = true := by
  unfold uaA at h
  obtain ⟨_, h⟩ := bif_some h
  split at h
  · cases h
  · exact uaR_ok _ _ _ _ (by unfold Sb.ok; simp [bdTo]) h
def c_impl_within : SC := (.seq (.reg [⟨(some 6), none, (.mv (.c (.bool false)))⟩]) (.seq (.reg [⟨(some 7), none, (.mv (.t 0))⟩, ⟨(some 8), none, (.mv (.t 1))⟩, ⟨(some 9), none, (.bin .geq false (.t 7) (.t 8))⟩, ⟨(some 10), none, (.mv (.t 9))⟩, ⟨(some 11), (some (10, true)), (.mv (.t 0))⟩, ⟨(some 12), (some (10, true)), (.mv (.t 2))⟩, ⟨(some 13), (some (10, true)), (.bin .leq false (.t 11) (.t 12))⟩, ⟨(some 14), none, (.pick (.t 10) (.t 13) (.c (.bool false)))⟩, ⟨(some 6), none, (.mv (.t 14))⟩]) .ret))
theorem k_impl_within : codeOf Tryz.prog 30 = some ⟨15, c_impl_within, [(.tmp 6)]⟩ := by kernel_rfl
theorem m_impl_within : modes 30 = ⟨[], .asis, none, false⟩ := by unfold modes; rfl

def c_spec_l1In : SC := (.seq (.reg [⟨(some 6), none, (.mv (.c (.bool false)))⟩]) (.seq (.reg [⟨(some 7), none, (.mv (.t 0))⟩, ⟨(some 8), none, (.mv (.t 1))⟩, ⟨(some 9), none, (.bin .geq false (.t 7) (.t 8))⟩, ⟨(some 10), none, (.mv (.t 9))⟩, ⟨(some 11), (some (10, true)), (.mv (.t 0))⟩, ⟨(some 12), (some (10, true)), (.mv (.t 2))⟩, ⟨(some 13), (some (10, true)), (.bin .leq false (.t 11) (.t 12))⟩, ⟨(some 14), none, (.pick (.t 10) (.t 13) (.c (.bool false)))⟩, ⟨(some 6), none, (.mv (.t 14))⟩]) .ret))
theorem k_spec_l1In : codeOf Tryz.prog 27 = some ⟨15, c_spec_l1In, [(.tmp 6)]⟩ := by kernel_rfl
theorem m_spec_l1In : modes 27 = ⟨[], .asis, none, false⟩ := by unfold modes; rfl

def c_impl_UnifyAll_1 : SC := (.seq (.reg [⟨(some 1), none, (.boxv 33 2 (.t 0))⟩, ⟨(some 2), none, (.mv (.c (.bool false)))⟩]) (.seq (.reg [⟨(some 3), none, (.load true 2 (.t 1))⟩, ⟨(some 4), none, (.call 22 [(.t 3)])⟩, ⟨(some 5), none, (.un .not (.t 4))⟩, ⟨(some 2), none, (.mv (.t 5))⟩]) .ret))
theorem k_impl_UnifyAll_1 : codeOf Tryz.prog 32 = some ⟨6, c_impl_UnifyAll_1, [(.tmp 2)]⟩ := by kernel_rfl
theorem m_impl_UnifyAll_1 : modes 32 = ⟨[], .asis, none, false⟩ := by unfold modes; rfl

theorem g_impl_UnifyAll_1 : goFn Tryz.prog 32 = true := by kernel_rfl

def c_impl_UnifyAll : SC := (.seq (.reg [⟨(some 2), none, (.alloc 28 [.nil])⟩, ⟨(some 3), none, (.mv (.c (.bool false)))⟩]) (.seq (.seq (.reg [⟨(some 13), none, (.mv (.t 0))⟩, ⟨(some 14), none, (.len false (.t 13))⟩, ⟨(some 15), none, (.call 30 [(.t 14), (.c (.int .i64 1)), (.c (.int .i64 4))])⟩, ⟨(some 16), none, (.un .not (.t 15))⟩, ⟨(some 17), none, (.mv (.t 16))⟩, ⟨(some 18), (some (17, false)), (.mv (.t 0))⟩, ⟨(some 19), (some (17, false)), (.call 31 [(.t 18), (.c (.fn 32 []))])⟩, ⟨(some 20), none, (.pick (.t 17) (.c (.bool true)) (.t 19))⟩]) (.cond (.t 20) (.seq (.reg [⟨(some 21), none, (.build [.nil] [])⟩, ⟨none, none, (.store 1 (.t 2) (.t 21))⟩, ⟨(some 3), none, (.mv (.c (.bool false)))⟩]) .ret) .skip)) (.seq (.reg [⟨(some 22), none, (.build [.nil] [])⟩, ⟨(some 4), none, (.alloc 28 [.nil])⟩, ⟨none, none, (.store 1 (.t 4) (.t 22))⟩]) (.seq (.seq (.reg [⟨(some 23), none, (.mv (.t 0))⟩, ⟨(some 24), none, (.slice false 2 (.t 23) (some (.c (.int .i64 1))) none)⟩, ⟨(some 25), none, (.len false (.t 24))⟩, ⟨(some 26), none, (.mv (.c (.int .i64 0)))⟩]) (.block 0 (.loop [1, 0, 1, 0, 1, 0, 0, 0, 0, 0, 0, 0, 0, 0, 0, 0, 0, 0, 0, 0, 0, 0, 0, 0, 1, 1, 1, 0, 0, 0, 0, 0, 0, 0, 0, 0, 0, 0, 0, 0, 0, 0, 0, 0, 0, 0, 0, 0, 0, 0, 0, 0, 0, 0, 0, 0, 0, 0, 0, 0, 0, 0, 0, 0, 0, 0, 0, 0, 0, 0, 0] (.seq (.reg [⟨(some 27), none, (.bin .lss false (.t 26) (.t 25))⟩]) (.seq (.cond (.t 27) .skip (.exit 0)) (.seq (.block 1 (.seq (.reg [⟨(some 28), none, (.iaddr 2 (.t 24) (.t 26))⟩, ⟨(some 29), none, (.load true 2 (.t 28))⟩, ⟨(some 6), none, (.alloc 33 [(.str ⟨#[]⟩), .nil])⟩, ⟨none, none, (.store 2 (.t 6) (.t 29))⟩]) (.seq (.dreg [[], [], [1], [2, 1], [0, 3, 2, 1], [4, 0, 3, 2, 1], [5, 4, 0, 3, 2, 1], [5, 4, 0, 3, 2, 1], [], [8, 6, 5, 4, 0, 3, 2, 1], [7, 5, 4, 0, 3, 2, 1, 9, 8, 6]] [⟨(some 31), none, (.load true 1 (.t 4))⟩, ⟨(some 32), none, (.mv (.t 0))⟩, ⟨(some 33), none, (.iaddr 2 (.t 32) (.c (.int .i64 0)))⟩, ⟨(some 34), none, (.load true 2 (.t 33))⟩, ⟨(some 35), none, (.call 33 [(.t 31), (.t 34)])⟩, ⟨(some 30), none, (.mv (.t 35))⟩, ⟨(some 36), none, (.ext (.t 30) 0)⟩, ⟨(some 37), none, (.ext (.t 30) 1)⟩, ⟨(some 7), none, (.alloc 33 [(.str ⟨#[]⟩), .nil])⟩, ⟨none, none, (.store 2 (.t 7) (.t 36))⟩, ⟨(some 8), none, (.mv (.t 37))⟩]) (.seq (.reg [⟨(some 39), none, (.load true 1 (.t 4))⟩, ⟨(some 40), none, (.load true 2 (.t 6))⟩, ⟨(some 41), none, (.call 33 [(.t 39), (.t 40)])⟩, ⟨(some 38), none, (.mv (.t 41))⟩, ⟨(some 42), none, (.ext (.t 38) 0)⟩, ⟨(some 43), none, (.ext (.t 38) 1)⟩, ⟨(some 9), none, (.alloc 33 [(.str ⟨#[]⟩), .nil])⟩, ⟨none, none, (.store 2 (.t 9) (.t 42))⟩, ⟨(some 10), none, (.mv (.t 43))⟩]) (.seq (.seq (.reg [⟨(some 44), none, (.mv (.t 8))⟩, ⟨(some 45), none, (.un .not (.t 44))⟩, ⟨(some 46), none, (.mv (.t 45))⟩, ⟨(some 47), (some (46, false)), (.mv (.t 10))⟩, ⟨(some 48), (some (46, false)), (.un .not (.t 47))⟩, ⟨(some 49), none, (.pick (.t 46) (.c (.bool true)) (.t 48))⟩]) (.cond (.t 49) (.seq (.reg [⟨(some 50), none, (.build [.nil] [])⟩, ⟨none, none, (.store 1 (.t 2) (.t 50))⟩, ⟨(some 3), none, (.mv (.c (.bool false)))⟩]) .ret) .skip)) (.seq (.reg [⟨(some 52), none, (.load true 2 (.t 7))⟩, ⟨(some 53), none, (.load true 2 (.t 9))⟩, ⟨(some 54), none, (.call 23 [(.t 52), (.t 53)])⟩, ⟨(some 51), none, (.mv (.t 54))⟩, ⟨(some 55), none, (.ext (.t 51) 0)⟩, ⟨(some 56), none, (.ext (.t 51) 1)⟩, ⟨(some 11), none, (.alloc 28 [.nil])⟩, ⟨none, none, (.store 1 (.t 11) (.t 55))⟩, ⟨(some 12), none, (.mv (.t 56))⟩]) (.seq (.seq (.reg [⟨(some 57), none, (.mv (.t 12))⟩, ⟨(some 58), none, (.un .not (.t 57))⟩]) (.cond (.t 58) (.seq (.reg [⟨(some 59), none, (.build [.nil] [])⟩, ⟨none, none, (.store 1 (.t 2) (.t 59))⟩, ⟨(some 3), none, (.mv (.c (.bool false)))⟩]) .ret) .skip)) (.seq (.reg [⟨(some 61), none, (.load true 1 (.t 4))⟩, ⟨(some 62), none, (.load true 1 (.t 11))⟩, ⟨(some 63), none, (.call 34 [(.t 61), (.t 62)])⟩, ⟨(some 60), none, (.mv (.t 63))⟩, ⟨(some 64), none, (.ext (.t 60) 0)⟩, ⟨(some 65), none, (.ext (.t 60) 1)⟩, ⟨none, none, (.store 1 (.t 4) (.t 64))⟩, ⟨(some 12), none, (.mv (.t 65))⟩]) (.seq (.reg [⟨(some 66), none, (.mv (.t 12))⟩, ⟨(some 67), none, (.un .not (.t 66))⟩]) (.cond (.t 67) (.seq (.reg [⟨(some 68), none, (.build [.nil] [])⟩, ⟨none, none, (.store 1 (.t 2) (.t 68))⟩, ⟨(some 3), none, (.mv (.c (.bool false)))⟩]) .ret) .skip)))))))))) (.reg [⟨(some 69), none, (.bin .add false (.t 26) (.c (.int .i64 1)))⟩, ⟨(some 26), none, (.mv (.t 69))⟩]))))))) (.seq (.reg [⟨(some 70), none, (.load true 1 (.t 4))⟩, ⟨none, none, (.store 1 (.t 2) (.t 70))⟩, ⟨(some 3), none, (.mv (.c (.bool true)))⟩]) .ret)))))
theorem k_impl_UnifyAll : codeOf Tryz.prog 17 = some ⟨71, c_impl_UnifyAll, [(.cell 2 true 1), (.tmp 3)]⟩ := by kernel_rfl
theorem m_impl_UnifyAll : modes 17 = ⟨[], .own [some (67, 3), none], none, false⟩ := by unfold modes; rfl

def c_spec_UnifyAll : SC := (.seq (.reg [⟨(some 2), none, (.alloc 28 [.nil])⟩, ⟨(some 3), none, (.mv (.c (.bool false)))⟩]) (.seq (.reg [⟨(some 16), none, (.build [.nil] [])⟩, ⟨(some 4), none, (.alloc 28 [.nil])⟩, ⟨none, none, (.store 1 (.t 4) (.t 16))⟩]) (.seq (.reg [⟨(some 17), none, (.build [.nil] [])⟩, ⟨(some 5), none, (.alloc 28 [.nil])⟩, ⟨none, none, (.store 1 (.t 5) (.t 17))⟩]) (.seq (.seq (.reg [⟨(some 18), none, (.mv (.t 0))⟩, ⟨(some 19), none, (.len false (.t 18))⟩, ⟨(some 20), none, (.call 27 [(.t 19), (.c (.int .i64 1)), (.c (.int .i64 4))])⟩, ⟨(some 21), none, (.un .not (.t 20))⟩]) (.cond (.t 21) (.seq (.reg [⟨(some 22), none, (.load true 1 (.t 4))⟩, ⟨none, none, (.store 1 (.t 2) (.t 22))⟩, ⟨(some 3), none, (.mv (.c (.bool false)))⟩]) .ret) .skip)) (.seq (.seq (.reg [⟨(some 6), none, (.mv (.c (.int .i64 0)))⟩]) (.block 0 (.loop [1, 0, 1, 0, 1, 1, 1, 0, 0, 0, 0, 0, 0, 0, 0, 0, 0, 0, 0, 0, 0, 0, 0, 0, 0, 0, 0, 0, 0, 0, 0, 0, 0, 0, 0, 0, 0, 0, 0, 0, 0, 0, 0, 0, 0, 0, 0, 0, 0, 0, 0, 0, 0, 0, 0, 0, 0, 0, 0, 0, 0, 0, 0, 0, 0, 0, 0, 0, 0, 0, 0, 0, 0, 0, 0, 0, 0, 0, 0, 0, 0, 0, 0, 0, 0, 0, 0] (.seq (.seq (.reg [⟨(some 23), none, (.mv (.t 6))⟩, ⟨(some 24), none, (.mv (.t 0))⟩, ⟨(some 25), none, (.len false (.t 24))⟩, ⟨(some 26), none, (.bin .lss false (.t 23) (.t 25))⟩]) (.cond (.t 26) .skip (.exit 0))) (.seq (.block 1 (.seq (.reg [⟨(some 29), none, (.mv (.t 0))⟩, ⟨(some 30), none, (.mv (.t 6))⟩, ⟨(some 31), none, (.iaddr 2 (.t 29) (.t 30))⟩, ⟨(some 32), none, (.load true 2 (.t 31))⟩, ⟨(some 33), none, (.call 20 [(.t 32)])⟩, ⟨(some 34), none, (.un .not (.t 33))⟩]) (.cond (.t 34) (.seq (.reg [⟨(some 35), none, (.load true 1 (.t 4))⟩, ⟨none, none, (.store 1 (.t 2) (.t 35))⟩, ⟨(some 3), none, (.mv (.c (.bool false)))⟩]) .ret) .skip))) (.reg [⟨(some 27), none, (.mv (.t 6))⟩, ⟨(some 28), none, (.bin .add false (.t 27) (.c (.int .i64 1)))⟩, ⟨(some 6), none, (.mv (.t 28))⟩])))))) (.seq (.seq (.reg [⟨(some 7), none, (.mv (.c (.int .i64 1)))⟩]) (.block 2 (.loop [1, 0, 1, 0, 1, 1, 0, 1, 0, 0, 0, 0, 0, 0, 0, 0, 0, 0, 0, 0, 0, 0, 0, 0, 0, 0, 0, 0, 0, 0, 0, 0, 0, 0, 0, 0, 0, 0, 0, 0, 0, 0, 0, 0, 0, 0, 0, 0, 0, 0, 0, 0, 0, 0, 0, 0, 0, 0, 0, 0, 0, 0, 0, 0, 0, 0, 0, 0, 0, 0, 0, 0, 0, 0, 0, 0, 0, 0, 0, 0, 0, 0, 0, 0, 0, 0, 0] (.seq (.seq (.reg [⟨(some 36), none, (.mv (.t 7))⟩, ⟨(some 37), none, (.mv (.t 0))⟩, ⟨(some 38), none, (.len false (.t 37))⟩, ⟨(some 39), none, (.bin .lss false (.t 36) (.t 38))⟩]) (.cond (.t 39) .skip (.exit 2))) (.seq (.block 3 (.seq (.dreg [[], [], [1], [2, 1], [0, 3, 2, 1], [4, 0, 3, 2, 1], [5, 4, 0, 3, 2, 1], [5, 4, 0, 3, 2, 1], [], [8, 6, 5, 4, 0, 3, 2, 1], [7, 5, 4, 0, 3, 2, 1, 9, 8, 6]] [⟨(some 43), none, (.load true 1 (.t 5))⟩, ⟨(some 44), none, (.mv (.t 0))⟩, ⟨(some 45), none, (.iaddr 2 (.t 44) (.c (.int .i64 0)))⟩, ⟨(some 46), none, (.load true 2 (.t 45))⟩, ⟨(some 47), none, (.call 28 [(.t 43), (.t 46)])⟩, ⟨(some 42), none, (.mv (.t 47))⟩, ⟨(some 48), none, (.ext (.t 42) 0)⟩, ⟨(some 49), none, (.ext (.t 42) 1)⟩, ⟨(some 8), none, (.alloc 33 [(.str ⟨#[]⟩), .nil])⟩, ⟨none, none, (.store 2 (.t 8) (.t 48))⟩, ⟨(some 9), none, (.mv (.t 49))⟩]) (.seq (.dreg [[], [], [], [1, 2], [3, 1, 2], [0, 4, 3, 1, 2], [5, 0, 4, 3, 1, 2], [6, 5, 0, 4, 3, 1, 2], [6, 5, 0, 4, 3, 1, 2], [], [9, 7, 6, 5, 0, 4, 3, 1, 2], [8, 6, 5, 0, 4, 3, 1, 2, 10, 9, 7]] [⟨(some 51), none, (.load true 1 (.t 5))⟩, ⟨(some 52), none, (.mv (.t 0))⟩, ⟨(some 53), none, (.mv (.t 7))⟩, ⟨(some 54), none, (.iaddr 2 (.t 52) (.t 53))⟩, ⟨(some 55), none, (.load true 2 (.t 54))⟩, ⟨(some 56), none, (.call 28 [(.t 51), (.t 55)])⟩, ⟨(some 50), none, (.mv (.t 56))⟩, ⟨(some 57), none, (.ext (.t 50) 0)⟩, ⟨(some 58), none, (.ext (.t 50) 1)⟩, ⟨(some 10), none, (.alloc 33 [(.str ⟨#[]⟩), .nil])⟩, ⟨none, none, (.store 2 (.t 10) (.t 57))⟩, ⟨(some 11), none, (.mv (.t 58))⟩]) (.seq (.seq (.reg [⟨(some 59), none, (.mv (.t 9))⟩, ⟨(some 60), none, (.un .not (.t 59))⟩, ⟨(some 61), none, (.mv (.t 60))⟩, ⟨(some 62), (some (61, false)), (.mv (.t 11))⟩, ⟨(some 63), (some (61, false)), (.un .not (.t 62))⟩, ⟨(some 64), none, (.pick (.t 61) (.c (.bool true)) (.t 63))⟩]) (.cond (.t 64) (.seq (.reg [⟨(some 65), none, (.load true 1 (.t 4))⟩, ⟨none, none, (.store 1 (.t 2) (.t 65))⟩, ⟨(some 3), none, (.mv (.c (.bool false)))⟩]) .ret) .skip)) (.seq (.reg [⟨(some 67), none, (.load true 2 (.t 8))⟩, ⟨(some 68), none, (.load true 2 (.t 10))⟩, ⟨(some 69), none, (.call 21 [(.t 67), (.t 68)])⟩, ⟨(some 66), none, (.mv (.t 69))⟩, ⟨(some 70), none, (.ext (.t 66) 0)⟩, ⟨(some 71), none, (.ext (.t 66) 1)⟩, ⟨(some 12), none, (.alloc 28 [.nil])⟩, ⟨none, none, (.store 1 (.t 12) (.t 70))⟩, ⟨(some 13), none, (.mv (.t 71))⟩]) (.seq (.reg [⟨(some 73), none, (.load true 1 (.t 5))⟩, ⟨(some 74), none, (.load true 1 (.t 12))⟩, ⟨(some 75), none, (.call 29 [(.t 73), (.t 74)])⟩, ⟨(some 72), none, (.mv (.t 75))⟩, ⟨(some 76), none, (.ext (.t 72) 0)⟩, ⟨(some 77), none, (.ext (.t 72) 1)⟩, ⟨(some 14), none, (.alloc 28 [.nil])⟩, ⟨none, none, (.store 1 (.t 14) (.t 76))⟩, ⟨(some 15), none, (.mv (.t 77))⟩]) (.seq (.seq (.reg [⟨(some 78), none, (.mv (.t 13))⟩, ⟨(some 79), none, (.un .not (.t 78))⟩, ⟨(some 80), none, (.mv (.t 79))⟩, ⟨(some 81), (some (80, false)), (.mv (.t 15))⟩, ⟨(some 82), (some (80, false)), (.un .not (.t 81))⟩, ⟨(some 83), none, (.pick (.t 80) (.c (.bool true)) (.t 82))⟩]) (.cond (.t 83) (.seq (.reg [⟨(some 84), none, (.load true 1 (.t 4))⟩, ⟨none, none, (.store 1 (.t 2) (.t 84))⟩, ⟨(some 3), none, (.mv (.c (.bool false)))⟩]) .ret) .skip)) (.reg [⟨(some 85), none, (.load true 1 (.t 14))⟩, ⟨none, none, (.store 1 (.t 5) (.t 85))⟩])))))))) (.reg [⟨(some 40), none, (.mv (.t 7))⟩, ⟨(some 41), none, (.bin .add false (.t 40) (.c (.int .i64 1)))⟩, ⟨(some 7), none, (.mv (.t 41))⟩])))))) (.seq (.reg [⟨(some 86), none, (.load true 1 (.t 5))⟩, ⟨none, none, (.store 1 (.t 2) (.t 86))⟩, ⟨(some 3), none, (.mv (.c (.bool true)))⟩]) .ret)))))))
theorem k_spec_UnifyAll : codeOf Tryz.prog 15 = some ⟨87, c_spec_UnifyAll, [(.cell 2 true 1), (.tmp 3)]⟩ := by kernel_rfl
theorem m_spec_UnifyAll : modes 15 = ⟨[], .frz, none, false⟩ := by unfold modes; rfl

theorem within_E (n lo hi : Int) : E 30 [.int .i64 n, .int .i64 lo, .int .i64 hi] [] = some (.bool (dec (lo ≤ n) && dec (n ≤ hi)), []) := by
  cases h1 : dec (lo ≤ n)
  · cases h2 : dec (n ≤ hi)
    · refine E_walk k_impl_within m_impl_within (of_decide_eq_true rfl) ?_
      simp (disch := omega) only [c_impl_within, go_sem, Nat.reduceAdd, Nat.reduceSub, Nat.reduceLT, Nat.reduceLeDiff, Nat.reduceEqDiff, Nat.reduceBEq, Nat.reduceBneDiff, Nat.reduceMul, ↓reduceIte, Int.reduceToNat, reduceCtorEq, Int.reduceNeg, Int.reduceAdd, h1, h2]
    · refine E_walk k_impl_within m_impl_within (of_decide_eq_true rfl) ?_
      simp (disch := omega) only [c_impl_within, go_sem, Nat.reduceAdd, Nat.reduceSub, Nat.reduceLT, Nat.reduceLeDiff, Nat.reduceEqDiff, Nat.reduceBEq, Nat.reduceBneDiff, Nat.reduceMul, ↓reduceIte, Int.reduceToNat, reduceCtorEq, Int.reduceNeg, Int.reduceAdd, h1, h2]
  · cases h2 : dec (n ≤ hi)
    · refine E_walk k_impl_within m_impl_within (of_decide_eq_true rfl) ?_
      simp (disch := omega) only [c_impl_within, go_sem, Nat.reduceAdd, Nat.reduceSub, Nat.reduceLT, Nat.reduceLeDiff, Nat.reduceEqDiff, Nat.reduceBEq, Nat.reduceBneDiff, Nat.reduceMul, ↓reduceIte, Int.reduceToNat, reduceCtorEq, Int.reduceNeg, Int.reduceAdd, h1, h2]
    · refine E_walk k_impl_within m_impl_within (of_decide_eq_true rfl) ?_
      simp (disch := omega) only [c_impl_within, go_sem, Nat.reduceAdd, Nat.reduceSub, Nat.reduceLT, Nat.reduceLeDiff, Nat.reduceEqDiff, Nat.reduceBEq, Nat.reduceBneDiff, Nat.reduceMul, ↓reduceIte, Int.reduceToNat, reduceCtorEq, Int.reduceNeg, Int.reduceAdd, h1, h2]
theorem l1In_E (n lo hi : Int) : E 27 [.int .i64 n, .int .i64 lo, .int .i64 hi] [] = some (.bool (dec (lo ≤ n) && dec (n ≤ hi)), []) := by
  cases h1 : dec (lo ≤ n)
  · cases h2 : dec (n ≤ hi)
    · refine E_walk k_spec_l1In m_spec_l1In (of_decide_eq_true rfl) ?_
      simp (disch := omega) only [c_spec_l1In, go_sem, Nat.reduceAdd, Nat.reduceSub, Nat.reduceLT, Nat.reduceLeDiff, Nat.reduceEqDiff, Nat.reduceBEq, Nat.reduceBneDiff, Nat.reduceMul, ↓reduceIte, Int.reduceToNat, reduceCtorEq, Int.reduceNeg, Int.reduceAdd, h1, h2]
    · refine E_walk k_spec_l1In m_spec_l1In (of_decide_eq_true rfl) ?_
      simp (disch := omega) only [c_spec_l1In, go_sem, Nat.reduceAdd, Nat.reduceSub, Nat.reduceLT, Nat.reduceLeDiff, Nat.reduceEqDiff, Nat.reduceBEq, Nat.reduceBneDiff, Nat.reduceMul, ↓reduceIte, Int.reduceToNat, reduceCtorEq, Int.reduceNeg, Int.reduceAdd, h1, h2]
  · cases h2 : dec (n ≤ hi)
    · refine E_walk k_spec_l1In m_spec_l1In (of_decide_eq_true rfl) ?_
      simp (disch := omega) only [c_spec_l1In, go_sem, Nat.reduceAdd, Nat.reduceSub, Nat.reduceLT, Nat.reduceLeDiff, Nat.reduceEqDiff, Nat.reduceBEq, Nat.reduceBneDiff, Nat.reduceMul, ↓reduceIte, Int.reduceToNat, reduceCtorEq, Int.reduceNeg, Int.reduceAdd, h1, h2]
    · refine E_walk k_spec_l1In m_spec_l1In (of_decide_eq_true rfl) ?_
      simp (disch := omega) only [c_spec_l1In, go_sem, Nat.reduceAdd, Nat.reduceSub, Nat.reduceLT, Nat.reduceLeDiff, Nat.reduceEqDiff, Nat.reduceBEq, Nat.reduceBneDiff, Nat.reduceMul, ↓reduceIte, Int.reduceToNat, reduceCtorEq, Int.reduceNeg, Int.reduceAdd, h1, h2]
set_option maxHeartbeats 16000000 in
theorem implUnifyAll_E (xs : List Tm) (hl : xs.length ≤ 1048576) (hn : ∀ x ∈ xs, x.nodes ≤ 1099511627776) : E 17 [.arr (xs.map Tm.d)] [] = some (.tup [(uTo (uaA xs)).osv, .bool (uOk (uaA xs))], (uTo (uaA xs)).obs) := by
  have hw := within_E xs.length 1 4
  have h1 : ∀ x ∈ xs, E 32 [x.sv] [] = some (.bool (!x.expr), []) := fun x hx => by
    have h := isExpression_E x (hn x hx)
    refine E_walk k_impl_UnifyAll_1 m_impl_UnifyAll_1 (of_decide_eq_true rfl) ?_
    simp (disch := omega) only [c_impl_UnifyAll_1, go_sem, Nat.reduceAdd, Nat.reduceSub, Nat.reduceLT, Nat.reduceLeDiff, Nat.reduceEqDiff, Nat.reduceBEq, Nat.reduceBneDiff, Nat.reduceMul, ↓reduceIte, Int.reduceToNat, reduceCtorEq, Int.reduceNeg, Int.reduceAdd, h, m_impl_isExpression]
  have hc := containsFunc_terms 32 (fun x => !x.expr) xs (by omega) g_impl_UnifyAll_1 (by rw [m_impl_UnifyAll_1]) h1
  have eall : xs.all Tm.expr = !xs.any (fun x => !x.expr) := by
    induction xs with
    | nil => rfl
    | cons z zs ih => simp only [List.all_cons, List.any_cons, Bool.not_or, Bool.not_not]; rw [ih (by simp at hl; omega) (fun x hx => hn x (by simp [hx])) (within_E _ 1 4) (fun x hx => h1 x (by simp [hx])) (containsFunc_terms 32 (fun x => !x.expr) zs (by simp at hl; omega) g_impl_UnifyAll_1 (by rw [m_impl_UnifyAll_1]) fun x hx => h1 x (by simp [hx]))]
  by_cases hlen : 1 ≤ xs.length ∧ xs.length ≤ 4
  · have q1 : dec ((1 : Int) ≤ (xs.length : Int)) = true := dec_t (by omega)
    have q2 : dec ((xs.length : Int) ≤ 4) = true := dec_t (by omega)
    rw [q1, q2] at hw
    cases ha : xs.any (fun x => !x.expr) with
    | true =>
      rw [ha] at hc
      have e : uaA xs = none := by unfold uaA; rw [eall, ha, Bool.not_true, Bool.and_false]; rfl
      rw [e]
      refine E_walk k_impl_UnifyAll m_impl_UnifyAll (of_decide_eq_true rfl) ?_
      simp (disch := omega) only [c_impl_UnifyAll, go_sem, Nat.reduceAdd, Nat.reduceSub, Nat.reduceLT, Nat.reduceLeDiff, Nat.reduceEqDiff, Nat.reduceBEq, Nat.reduceBneDiff, Nat.reduceMul, ↓reduceIte, Int.reduceToNat, reduceCtorEq, Int.reduceNeg, Int.reduceAdd, hw, hc, m_impl_within, m_slices_ContainsFunc_impl_Term_impl_Term]
      first | rfl | exact ⟨rfl, rfl⟩
    | false =>
      rw [ha] at hc
      obtain ⟨h, ts, rfl⟩ : ∃ h ts, xs = h :: ts := by
        cases xs with
        | nil => simp at hlen
        | cons h ts => exact ⟨h, ts, rfl⟩
      have hex : (h :: ts).all Tm.expr = true := by rw [eall, ha]; rfl
      have e : uaA (h :: ts) = uaR h ⟨[]⟩ ts := by unfold uaA; rw [dec_t hlen, hex]; rfl
      rw [e]
      have hh : h.expr = true := List.all_eq_true.1 hex h (by simp)
      obtain ⟨total, htot⟩ : ∃ total, total = uaR h ⟨[]⟩ ts := ⟨_, rfl⟩
      rw [← htot]
      obtain ⟨L, hL⟩ : ∃ L, L = (h :: ts).map Tm.d := ⟨_, rfl⟩
      have h0 : L[(0 : Nat)]? = some [.str h.name, .arr (h.args.map Tm.d)] := by rw [hL, List.map_cons, Tm.d_eq]; rfl
      have hLl : L.length = ts.length + 1 := by rw [hL]; simp
      have hal : (L.all fun x => x.length == 2) = true := by
        rw [hL, List.all_map, List.all_eq_true]
        intro x _
        show (x.d.length == 2) = true
        rw [Tm.d_eq]; rfl
      have hdr : (L.take (ts.length + 1)).drop 1 = ts.map Tm.d := by rw [hL, List.take_of_length_le (by simp)]; rfl
      rw [← hL] at hc ⊢
      have hlc : (h :: ts).length = ts.length + 1 := rfl
      rw [hlc] at hw hlen
      have hok0 : (Sb.mk []).ok = true := by unfold Sb.ok; simp [bdTo]
      refine E_walk k_impl_UnifyAll m_impl_UnifyAll (of_decide_eq_true rfl) ?_
      simp (disch := omega) only [c_impl_UnifyAll, go_sem, Nat.reduceAdd, Nat.reduceSub, Nat.reduceLT, Nat.reduceLeDiff, Nat.reduceEqDiff, Nat.reduceBEq, Nat.reduceBneDiff, Nat.reduceMul, ↓reduceIte, Int.reduceToNat, reduceCtorEq, Int.reduceNeg, Int.reduceAdd, hw, hc, hLl, hal, hdr, m_impl_within, m_slices_ContainsFunc_impl_Term_impl_Term]
      refine go_loop (α := Int × Bool × Sb) (fun a => ⟨slots 71 0 [(0, .arr L), (2, .ptr 0 0), (4, .ptr 1 0), (24, .arr (ts.map Tm.d)), (25, .int .i64 ts.length), (26, .int .i64 a.1)], ([.box 28 [.nil], .box 28 [bif a.2.1 then .nil else .ref 2]] ++ (bif a.2.1 then [] else [.row 67 3 (a.2.2.binds.map Bd.o)]))⟩) (fun a => ∃ k : Nat, a.1 = k ∧ k ≤ ts.length ∧ a.2.2.ok = true ∧ uaR h a.2.2 (ts.drop k) = total ∧ (a.2.1 = true → a.2.2.binds = [])) (fun a => ts.length - a.1.toNat) (0, true, ⟨[]⟩) ⟨0, rfl, Nat.zero_le _, hok0, by rw [List.drop_zero, htot], fun _ => rfl⟩ (by simp (disch := omega) only [go_sem, Nat.reduceAdd, Nat.reduceSub, Nat.reduceLT, Nat.reduceLeDiff, Nat.reduceEqDiff, Nat.reduceBEq, Nat.reduceBneDiff, Nat.reduceMul, ↓reduceIte, Int.reduceToNat, reduceCtorEq, Int.reduceNeg, Int.reduceAdd, hLl, hal, hdr, List.length_map]; try rfl) ?_
      rintro ⟨i, sn, s⟩ ⟨k, hi, hk, hs, hR, hsn⟩
      dsimp only at hi hs hR hsn
      have hni : i.toNat = k := by omega
      have hni1 : (i + 1).toNat = k + 1 := by omega
      have hst := ok_tame hs
      rcases Nat.lt_or_ge k ts.length with hlt | hge
      · have hg := get_at Tm.d hlt
        rw [Tm.d_eq] at hg
        have hte : ts[k].expr = true := List.all_eq_true.1 hex ts[k] (by simp [List.getElem_mem])
        rw [List.drop_eq_getElem_cons hlt, uaR] at hR
        cases sn with
        | true =>
          obtain rfl : s = ⟨[]⟩ := by obtain ⟨bs⟩ := s; have := hsn rfl; rw [show bs = [] from this]
          have hss : (Sb.sv ⟨[]⟩) = .agg [.arr []] := rfl
          simp only [cond_true, cond_false]
          cases o1 : apOk ⟨[]⟩ h with
          | false =>
            have hA := applied_no ⟨[]⟩ hs hst h hh o1
            rw [hss] at hA
            simp only [o1, Bool.false_and, cond_false] at hR
            subst hR
            cases o2 : apOk ⟨[]⟩ ts[k] with
            | false =>
              have hB := applied_no ⟨[]⟩ hs hst ts[k] hte o2
              rw [hss] at hB
              simp (disch := omega) only [go_sem, Nat.reduceAdd, Nat.reduceSub, Nat.reduceLT, Nat.reduceLeDiff, Nat.reduceEqDiff, Nat.reduceBEq, Nat.reduceBneDiff, Nat.reduceMul, ↓reduceIte, Int.reduceToNat, reduceCtorEq, Int.reduceNeg, Int.reduceAdd, hni, h0, hal, hg, hA, hB, m_impl_Substitution_applied, m_impl_unify, m_impl_composed, Tm.osv, Tm.obs, Sb.osv, Sb.obs, Bd.erss, Bd.fus]
              first | rfl | exact ⟨rfl, rfl⟩
            | true =>
              have hB := applied_yes ⟨[]⟩ hs hst ts[k] hte o2
              rw [hss] at hB
              simp (disch := omega) only [go_sem, Nat.reduceAdd, Nat.reduceSub, Nat.reduceLT, Nat.reduceLeDiff, Nat.reduceEqDiff, Nat.reduceBEq, Nat.reduceBneDiff, Nat.reduceMul, ↓reduceIte, Int.reduceToNat, reduceCtorEq, Int.reduceNeg, Int.reduceAdd, hni, h0, hal, hg, hA, hB, m_impl_Substitution_applied, m_impl_unify, m_impl_composed, Tm.osv, Tm.obs, Sb.osv, Sb.obs, Bd.erss, Bd.fus]
              first | rfl | exact ⟨rfl, rfl⟩
          | true =>
            have hA := applied_yes ⟨[]⟩ hs hst h hh o1
            rw [hss] at hA
            have e1 := apOk_ex o1
            cases o2 : apOk ⟨[]⟩ ts[k] with
            | false =>
              have hB := applied_no ⟨[]⟩ hs hst ts[k] hte o2
              rw [hss] at hB
              simp only [o2, Bool.and_false, cond_false] at hR
              subst hR
              simp (disch := omega) only [go_sem, Nat.reduceAdd, Nat.reduceSub, Nat.reduceLT, Nat.reduceLeDiff, Nat.reduceEqDiff, Nat.reduceBEq, Nat.reduceBneDiff, Nat.reduceMul, ↓reduceIte, Int.reduceToNat, reduceCtorEq, Int.reduceNeg, Int.reduceAdd, hni, h0, hal, hg, hA, hB, m_impl_Substitution_applied, m_impl_unify, m_impl_composed, Tm.osv, Tm.obs, Sb.osv, Sb.obs, Bd.erss, Bd.fus]
              first | rfl | exact ⟨rfl, rfl⟩
            | true =>
              have hB := applied_yes ⟨[]⟩ hs hst ts[k] hte o2
              rw [hss] at hB
              have e2 := apOk_ex o2
              obtain ⟨n, hn⟩ := unR_spec e1 e2
              have hU := unify_E _ _ e1 e2 n _ hn
              have hok := fun u (hu : unR (apTo ⟨[]⟩ h) (apTo ⟨[]⟩ ts[k]) = some u) => unR_ok e1 e2 hu
              simp only [o1, o2, Bool.and_self, cond_true] at hR
              obtain ⟨x, hx⟩ : ∃ x, x = apTo ⟨[]⟩ h := ⟨_, rfl⟩
              obtain ⟨y, hy⟩ : ∃ y, y = apTo ⟨[]⟩ ts[k] := ⟨_, rfl⟩
              rw [← hx] at hA hU hR hok
              rw [← hy] at hB hU hR hok
              have hxv : x.sv = .agg [.str x.name, .arr (x.args.map Tm.d)] := rfl
              have hyv : y.sv = .agg [.str y.name, .arr (y.args.map Tm.d)] := rfl
              cases o3 : unR x y with
              | none =>
                rw [o3] at hU hR
                simp only at hR
                subst hR
                have hU : E 23 [x.sv, y.sv] [] = some (.tup [.agg [.ref 0], .bool false], [.row 67 3 []]) := hU
                simp (disch := omega) only [go_sem, Nat.reduceAdd, Nat.reduceSub, Nat.reduceLT, Nat.reduceLeDiff, Nat.reduceEqDiff, Nat.reduceBEq, Nat.reduceBneDiff, Nat.reduceMul, ↓reduceIte, Int.reduceToNat, reduceCtorEq, Int.reduceNeg, Int.reduceAdd, hni, h0, hal, hg, hA, hB, hU, m_impl_Substitution_applied, m_impl_unify, m_impl_composed, Tm.osv, Tm.obs, Sb.osv, Sb.obs, Bd.erss, Bd.fus]
                first | rfl | exact ⟨rfl, rfl⟩
              | some u =>
                rw [o3] at hU hR
                have hu := hok u o3
                have hU : E 23 [x.sv, y.sv] [] = some (.tup [u.osv, .bool true], u.obs) := hU
                simp only at hR
                have hC := composed_E ⟨[]⟩ u hs hu hst (ok_tame hu)
                have huv : u.sv = .agg [.arr (u.binds.map Bd.d)] := rfl
                rw [hss, huv] at hC
                cases o6 : cmpOk ⟨[]⟩ u with
                | false =>
                  have e6 : cmpTo ⟨[]⟩ u = ⟨[]⟩ := by unfold cmpTo; rw [o6]; rfl
                  rw [e6, o6] at hC
                  simp only [o6, cond_false] at hR
                  subst hR
                  simp (disch := omega) only [go_sem, Nat.reduceAdd, Nat.reduceSub, Nat.reduceLT, Nat.reduceLeDiff, Nat.reduceEqDiff, Nat.reduceBEq, Nat.reduceBneDiff, Nat.reduceMul, ↓reduceIte, Int.reduceToNat, reduceCtorEq, Int.reduceNeg, Int.reduceAdd, hni, h0, hal, hg, hA, hB, hU, hC, m_impl_Substitution_applied, m_impl_unify, m_impl_composed, Tm.osv, Tm.obs, Sb.osv, Sb.obs, Bd.erss, Bd.fus]
                  first | rfl | exact ⟨rfl, rfl⟩
                | true =>
                  have e6 : cmpTo ⟨[]⟩ u = cmpS ⟨[]⟩ u := by unfold cmpTo; rw [o6]; rfl
                  rw [e6, o6] at hC
                  simp only [o6, cond_true] at hR
                  simp (disch := omega) only [go_sem, Nat.reduceAdd, Nat.reduceSub, Nat.reduceLT, Nat.reduceLeDiff, Nat.reduceEqDiff, Nat.reduceBEq, Nat.reduceBneDiff, Nat.reduceMul, ↓reduceIte, Int.reduceToNat, reduceCtorEq, Int.reduceNeg, Int.reduceAdd, hni, h0, hal, hg, hA, hB, hU, hC, m_impl_Substitution_applied, m_impl_unify, m_impl_composed, Tm.osv, Tm.obs, Sb.osv, Sb.obs, Bd.erss, Bd.fus]
                  exact ⟨(i + 1, false, cmpS ⟨[]⟩ u), ⟨k + 1, by dsimp only; omega, hlt, o6, hR, fun h => by cases h⟩, by dsimp only; omega, by first | trivial | rfl | (simp only [cond_true, cond_false, List.cons_append, List.nil_append, and_self])⟩
        | false =>
          have hss : (Sb.sv s) = .agg [.arr (s.binds.map Bd.d)] := rfl
          simp only [cond_true, cond_false]
          cases o1 : apOk s h with
          | false =>
            have hA := applied_no s hs hst h hh o1
            rw [hss] at hA
            simp only [o1, Bool.false_and, cond_false] at hR
            subst hR
            cases o2 : apOk s ts[k] with
            | false =>
              have hB := applied_no s hs hst ts[k] hte o2
              rw [hss] at hB
              simp (disch := omega) only [go_sem, Nat.reduceAdd, Nat.reduceSub, Nat.reduceLT, Nat.reduceLeDiff, Nat.reduceEqDiff, Nat.reduceBEq, Nat.reduceBneDiff, Nat.reduceMul, ↓reduceIte, Int.reduceToNat, reduceCtorEq, Int.reduceNeg, Int.reduceAdd, hni, h0, hal, hg, hA, hB, m_impl_Substitution_applied, m_impl_unify, m_impl_composed, Tm.osv, Tm.obs, Sb.osv, Sb.obs, Bd.erss, Bd.fus]
              first | rfl | exact ⟨rfl, rfl⟩
            | true =>
              have hB := applied_yes s hs hst ts[k] hte o2
              rw [hss] at hB
              simp (disch := omega) only [go_sem, Nat.reduceAdd, Nat.reduceSub, Nat.reduceLT, Nat.reduceLeDiff, Nat.reduceEqDiff, Nat.reduceBEq, Nat.reduceBneDiff, Nat.reduceMul, ↓reduceIte, Int.reduceToNat, reduceCtorEq, Int.reduceNeg, Int.reduceAdd, hni, h0, hal, hg, hA, hB, m_impl_Substitution_applied, m_impl_unify, m_impl_composed, Tm.osv, Tm.obs, Sb.osv, Sb.obs, Bd.erss, Bd.fus]
              first | rfl | exact ⟨rfl, rfl⟩
          | true =>
            have hA := applied_yes s hs hst h hh o1
            rw [hss] at hA
            have e1 := apOk_ex o1
            cases o2 : apOk s ts[k] with
            | false =>
              have hB := applied_no s hs hst ts[k] hte o2
              rw [hss] at hB
              simp only [o2, Bool.and_false, cond_false] at hR
              subst hR
              simp (disch := omega) only [go_sem, Nat.reduceAdd, Nat.reduceSub, Nat.reduceLT, Nat.reduceLeDiff, Nat.reduceEqDiff, Nat.reduceBEq, Nat.reduceBneDiff, Nat.reduceMul, ↓reduceIte, Int.reduceToNat, reduceCtorEq, Int.reduceNeg, Int.reduceAdd, hni, h0, hal, hg, hA, hB, m_impl_Substitution_applied, m_impl_unify, m_impl_composed, Tm.osv, Tm.obs, Sb.osv, Sb.obs, Bd.erss, Bd.fus]
              first | rfl | exact ⟨rfl, rfl⟩
            | true =>
              have hB := applied_yes s hs hst ts[k] hte o2
              rw [hss] at hB
              have e2 := apOk_ex o2
              obtain ⟨n, hn⟩ := unR_spec e1 e2
              have hU := unify_E _ _ e1 e2 n _ hn
              have hok := fun u (hu : unR (apTo s h) (apTo s ts[k]) = some u) => unR_ok e1 e2 hu
              simp only [o1, o2, Bool.and_self, cond_true] at hR
              obtain ⟨x, hx⟩ : ∃ x, x = apTo s h := ⟨_, rfl⟩
              obtain ⟨y, hy⟩ : ∃ y, y = apTo s ts[k] := ⟨_, rfl⟩
              rw [← hx] at hA hU hR hok
              rw [← hy] at hB hU hR hok
              have hxv : x.sv = .agg [.str x.name, .arr (x.args.map Tm.d)] := rfl
              have hyv : y.sv = .agg [.str y.name, .arr (y.args.map Tm.d)] := rfl
              cases o3 : unR x y with
              | none =>
                rw [o3] at hU hR
                simp only at hR
                subst hR
                have hU : E 23 [x.sv, y.sv] [] = some (.tup [.agg [.ref 0], .bool false], [.row 67 3 []]) := hU
                simp (disch := omega) only [go_sem, Nat.reduceAdd, Nat.reduceSub, Nat.reduceLT, Nat.reduceLeDiff, Nat.reduceEqDiff, Nat.reduceBEq, Nat.reduceBneDiff, Nat.reduceMul, ↓reduceIte, Int.reduceToNat, reduceCtorEq, Int.reduceNeg, Int.reduceAdd, hni, h0, hal, hg, hA, hB, hU, m_impl_Substitution_applied, m_impl_unify, m_impl_composed, Tm.osv, Tm.obs, Sb.osv, Sb.obs, Bd.erss, Bd.fus]
                first | rfl | exact ⟨rfl, rfl⟩
              | some u =>
                rw [o3] at hU hR
                have hu := hok u o3
                have hU : E 23 [x.sv, y.sv] [] = some (.tup [u.osv, .bool true], u.obs) := hU
                simp only at hR
                have hC := composed_E s u hs hu hst (ok_tame hu)
                have huv : u.sv = .agg [.arr (u.binds.map Bd.d)] := rfl
                rw [hss, huv] at hC
                cases o6 : cmpOk s u with
                | false =>
                  have e6 : cmpTo s u = ⟨[]⟩ := by unfold cmpTo; rw [o6]; rfl
                  rw [e6, o6] at hC
                  simp only [o6, cond_false] at hR
                  subst hR
                  simp (disch := omega) only [go_sem, Nat.reduceAdd, Nat.reduceSub, Nat.reduceLT, Nat.reduceLeDiff, Nat.reduceEqDiff, Nat.reduceBEq, Nat.reduceBneDiff, Nat.reduceMul, ↓reduceIte, Int.reduceToNat, reduceCtorEq, Int.reduceNeg, Int.reduceAdd, hni, h0, hal, hg, hA, hB, hU, hC, m_impl_Substitution_applied, m_impl_unify, m_impl_composed, Tm.osv, Tm.obs, Sb.osv, Sb.obs, Bd.erss, Bd.fus]
                  first | rfl | exact ⟨rfl, rfl⟩
                | true =>
                  have e6 : cmpTo s u = cmpS s u := by unfold cmpTo; rw [o6]; rfl
                  rw [e6, o6] at hC
                  simp only [o6, cond_true] at hR
                  simp (disch := omega) only [go_sem, Nat.reduceAdd, Nat.reduceSub, Nat.reduceLT, Nat.reduceLeDiff, Nat.reduceEqDiff, Nat.reduceBEq, Nat.reduceBneDiff, Nat.reduceMul, ↓reduceIte, Int.reduceToNat, reduceCtorEq, Int.reduceNeg, Int.reduceAdd, hni, h0, hal, hg, hA, hB, hU, hC, m_impl_Substitution_applied, m_impl_unify, m_impl_composed, Tm.osv, Tm.obs, Sb.osv, Sb.obs, Bd.erss, Bd.fus]
                  exact ⟨(i + 1, false, cmpS s u), ⟨k + 1, by dsimp only; omega, hlt, o6, hR, fun h => by cases h⟩, by dsimp only; omega, by first | trivial | rfl | (simp only [cond_true, cond_false, List.cons_append, List.nil_append, and_self])⟩
      · rw [List.drop_eq_nil_of_le hge, uaR] at hR
        subst hR
        have hk2 : uTo (some s) = s := rfl
        rw [hk2]
        cases sn with
        | true =>
          obtain rfl : s = ⟨[]⟩ := by obtain ⟨bs⟩ := s; have := hsn rfl; rw [show bs = [] from this]
          simp only [cond_true, cond_false]
          simp (disch := omega) only [go_sem, Nat.reduceAdd, Nat.reduceSub, Nat.reduceLT, Nat.reduceLeDiff, Nat.reduceEqDiff, Nat.reduceBEq, Nat.reduceBneDiff, Nat.reduceMul, ↓reduceIte, Int.reduceToNat, reduceCtorEq, Int.reduceNeg, Int.reduceAdd, hni, Sb.osv, Sb.obs, uOk, Option.isSome_some, List.map_nil]
          try rfl
        | false =>
          simp only [cond_true, cond_false]
          simp (disch := omega) only [go_sem, Nat.reduceAdd, Nat.reduceSub, Nat.reduceLT, Nat.reduceLeDiff, Nat.reduceEqDiff, Nat.reduceBEq, Nat.reduceBneDiff, Nat.reduceMul, ↓reduceIte, Int.reduceToNat, reduceCtorEq, Int.reduceNeg, Int.reduceAdd, hni, Sb.osv, Sb.obs, uOk, Option.isSome_some, List.map_nil]
          try rfl
  · have e : uaA xs = none := by unfold uaA; rw [dec_f hlen]; rfl
    rw [e]
    have q : (dec ((1 : Int) ≤ (xs.length : Int)) && dec ((xs.length : Int) ≤ 4)) = false := by
      rw [Bool.and_eq_false_iff]
      by_cases h : 1 ≤ xs.length
      · exact .inr (dec_f (by omega))
      · exact .inl (dec_f (by omega))
    rw [q] at hw
    refine E_walk k_impl_UnifyAll m_impl_UnifyAll (of_decide_eq_true rfl) ?_
    simp (disch := omega) only [c_impl_UnifyAll, go_sem, Nat.reduceAdd, Nat.reduceSub, Nat.reduceLT, Nat.reduceLeDiff, Nat.reduceEqDiff, Nat.reduceBEq, Nat.reduceBneDiff, Nat.reduceMul, ↓reduceIte, Int.reduceToNat, reduceCtorEq, Int.reduceNeg, Int.reduceAdd, hw, hc, m_impl_within, m_slices_ContainsFunc_impl_Term_impl_Term]
    first | rfl | exact ⟨rfl, rfl⟩
set_option maxHeartbeats 16000000 in
theorem specUnifyAll_E (xs : List Tm) (hl : xs.length ≤ 1048576) (hn : ∀ x ∈ xs, x.nodes ≤ 1099511627776) : E 15 [.arr (xs.map Tm.d)] [] = some (.tup [(uTo (uaA xs)).sv, .bool (uOk (uaA xs))], []) := by
  have hres : ∀ t : Sb, t.sv = .agg [.arr (t.binds.map Bd.d)] := fun t => rfl
  rw [hres]
  have hw := l1In_E xs.length 1 4
  have hok0 : (Sb.mk []).ok = true := by unfold Sb.ok; simp [bdTo]
  by_cases hlen : 1 ≤ xs.length ∧ xs.length ≤ 4
  · have q1 : dec ((1 : Int) ≤ (xs.length : Int)) = true := dec_t (by omega)
    have q2 : dec ((xs.length : Int) ≤ 4) = true := dec_t (by omega)
    rw [q1, q2] at hw
    obtain ⟨L, hL⟩ : ∃ L, L = xs.map Tm.d := ⟨_, rfl⟩
    have hLl : L.length = xs.length := by rw [hL]; simp
    have hal : (L.all fun x => x.length == 2) = true := by
      rw [hL, List.all_map, List.all_eq_true]
      intro x _
      show (x.d.length == 2) = true
      rw [Tm.d_eq]; rfl
    obtain ⟨total, htot⟩ : ∃ total, total = uaA xs := ⟨_, rfl⟩
    rw [← htot, ← hL]
    refine E_walk k_spec_UnifyAll m_spec_UnifyAll (of_decide_eq_true rfl) ?_
    simp (disch := omega) only [c_spec_UnifyAll, go_sem, Nat.reduceAdd, Nat.reduceSub, Nat.reduceLT, Nat.reduceLeDiff, Nat.reduceEqDiff, Nat.reduceBEq, Nat.reduceBneDiff, Nat.reduceMul, ↓reduceIte, Int.reduceToNat, reduceCtorEq, Int.reduceNeg, Int.reduceAdd, hw, hLl, m_spec_l1In]
    refine go_loop (α := Nat) (fun a => ⟨slots 87 0 [(0, .arr L), (2, .ptr 0 0), (4, .ptr 1 0), (5, .ptr 2 0), (6, .int .i64 (a : Int))], [.box 28 [.nil], .box 28 [.nil], .box 28 [.nil]]⟩) (fun a => a ≤ xs.length ∧ (xs.take a).all Tm.expr = true) (fun a => xs.length - a) 0 ⟨Nat.zero_le _, rfl⟩ (by simp (disch := omega) only [go_sem, Nat.reduceAdd, Nat.reduceSub, Nat.reduceLT, Nat.reduceLeDiff, Nat.reduceEqDiff, Nat.reduceBEq, Nat.reduceBneDiff, Nat.reduceMul, ↓reduceIte, Int.reduceToNat, reduceCtorEq, Int.reduceNeg, Int.reduceAdd, hLl]; try rfl) ?_
    rintro k ⟨hk, hall⟩
    have hnk : ((k : Nat) : Int).toNat = k := Int.toNat_natCast k
    rcases Nat.lt_or_ge k xs.length with hlt | hge
    · have hg : L[k]? = some [.str xs[k].name, .arr (xs[k].args.map Tm.d)] := by rw [hL]; have := get_at Tm.d hlt; rwa [Tm.d_eq] at this
      have hx := l2Any_E xs[k] (hn _ (List.getElem_mem hlt))
      cases he : xs[k].expr with
      | false =>
        have hno : xs.all Tm.expr = false := by
          rw [Bool.eq_false_iff]
          intro h
          rw [List.all_eq_true.1 h xs[k] (List.getElem_mem hlt)] at he; cases he
        have e : total = none := by rw [htot]; unfold uaA; rw [hno, Bool.and_false]; rfl
        rw [e]
        rw [he] at hx
        simp (disch := omega) only [go_sem, Nat.reduceAdd, Nat.reduceSub, Nat.reduceLT, Nat.reduceLeDiff, Nat.reduceEqDiff, Nat.reduceBEq, Nat.reduceBneDiff, Nat.reduceMul, ↓reduceIte, Int.reduceToNat, reduceCtorEq, Int.reduceNeg, Int.reduceAdd, hnk, hLl, hal, hg, hx, m_spec_l2Any]
        first | rfl | exact ⟨rfl, rfl⟩
      | true =>
        rw [he] at hx
        have hall2 : (xs.take (k + 1)).all Tm.expr = true := by
          rw [List.take_succ_eq_append_getElem hlt, List.all_append, hall]
          simp [he]
        simp (disch := omega) only [go_sem, Nat.reduceAdd, Nat.reduceSub, Nat.reduceLT, Nat.reduceLeDiff, Nat.reduceEqDiff, Nat.reduceBEq, Nat.reduceBneDiff, Nat.reduceMul, ↓reduceIte, Int.reduceToNat, reduceCtorEq, Int.reduceNeg, Int.reduceAdd, hnk, hLl, hal, hg, hx, m_spec_l2Any]
        refine ⟨k + 1, ⟨hlt, hall2⟩, by omega, ?_⟩
        first | trivial | rfl | simp only [Int.natCast_add, Int.natCast_one, and_self]
    · obtain rfl : k = xs.length := by omega
      rw [List.take_length] at hall
      obtain ⟨h, ts, rfl⟩ : ∃ h ts, xs = h :: ts := by
        cases xs with
        | nil => simp at hlen
        | cons h ts => exact ⟨h, ts, rfl⟩
      have hh : h.expr = true := List.all_eq_true.1 hall h (by simp)
      have hhn := Tm.expr_nodes hh
      have e : total = uaR h ⟨[]⟩ ts := by rw [htot]; unfold uaA; rw [dec_t hlen, hall]; rfl
      have h0 : L[(0 : Nat)]? = some [.str h.name, .arr (h.args.map Tm.d)] := by rw [hL, List.map_cons, Tm.d_eq]; rfl
      have hLl : L.length = ts.length + 1 := by rw [hL]; simp
      have hlc : (h :: ts).length = ts.length + 1 := rfl
      rw [hlc] at hnk ⊢
      simp (disch := omega) only [go_sem, Nat.reduceAdd, Nat.reduceSub, Nat.reduceLT, Nat.reduceLeDiff, Nat.reduceEqDiff, Nat.reduceBEq, Nat.reduceBneDiff, Nat.reduceMul, ↓reduceIte, Int.reduceToNat, reduceCtorEq, Int.reduceNeg, Int.reduceAdd, hnk, hLl, hal]
      refine go_loop (α := Int × Bool × Sb) (fun a => ⟨slots 87 0 [(0, .arr L), (2, .ptr 0 0), (4, .ptr 1 0), (5, .ptr 2 0), (7, .int .i64 a.1)], [.box 28 [.nil], .box 28 [.nil], .box 28 [bif a.2.1 then .nil else .arr (a.2.2.binds.map Bd.d)]]⟩) (fun a => ∃ k : Nat, a.1 = k + 1 ∧ k ≤ ts.length ∧ a.2.2.ok = true ∧ uaR h a.2.2 (ts.drop k) = total ∧ (a.2.1 = true → a.2.2.binds = [])) (fun a => ts.length + 1 - a.1.toNat) (1, true, ⟨[]⟩) ⟨0, rfl, Nat.zero_le _, hok0, by rw [List.drop_zero, e], fun _ => rfl⟩ (by simp (disch := omega) only [go_sem, Nat.reduceAdd, Nat.reduceSub, Nat.reduceLT, Nat.reduceLeDiff, Nat.reduceEqDiff, Nat.reduceBEq, Nat.reduceBneDiff, Nat.reduceMul, ↓reduceIte, Int.reduceToNat, reduceCtorEq, Int.reduceNeg, Int.reduceAdd, hLl]; try rfl) ?_
      clear e htot
      rintro ⟨i, sn, s⟩ ⟨k, hi, hk, hs, hR, hsn⟩
      dsimp only at hi hs hR hsn
      have hni : i.toNat = k + 1 := by omega
      have hni1 : (i + 1).toNat = k + 2 := by omega
      have hst := ok_tame hs
      rcases Nat.lt_or_ge k ts.length with hlt | hge
      · have hg : L[k + 1]? = some [.str ts[k].name, .arr (ts[k].args.map Tm.d)] := by rw [hL, List.map_cons, List.getElem?_cons_succ]; have := get_at Tm.d hlt; rwa [Tm.d_eq] at this
        have hte : ts[k].expr = true := List.all_eq_true.1 hall ts[k] (by simp [List.getElem_mem])
        have htn := Tm.expr_nodes hte
        rw [List.drop_eq_getElem_cons hlt, uaR] at hR
        cases sn with
        | true =>
          obtain rfl : s = ⟨[]⟩ := by obtain ⟨bs⟩ := s; have := hsn rfl; rw [show bs = [] from this]
          have hss : (Sb.sv ⟨[]⟩) = .agg [.arr []] := rfl
          simp only [cond_true, cond_false]
          have hA := l4ApplySubstitution_E ⟨[]⟩ hst h (by omega)
          have hB := l4ApplySubstitution_E ⟨[]⟩ hst ts[k] (by omega)
          rw [hss] at hA hB
          cases o1 : apOk ⟨[]⟩ h with
          | false =>
            rw [o1] at hA
            simp only [o1, Bool.false_and, cond_false] at hR
            subst hR
            simp (disch := omega) only [go_sem, Nat.reduceAdd, Nat.reduceSub, Nat.reduceLT, Nat.reduceLeDiff, Nat.reduceEqDiff, Nat.reduceBEq, Nat.reduceBneDiff, Nat.reduceMul, ↓reduceIte, Int.reduceToNat, reduceCtorEq, Int.reduceNeg, Int.reduceAdd, hni, h0, hal, hg, hLl, hA, hB, m_spec_ApplySubstitution, m_spec_l5Unify, m_spec_ComposeSubstitutions]
            first | rfl | exact ⟨rfl, rfl⟩
          | true =>
            rw [o1] at hA
            have e1 := apOk_ex o1
            cases o2 : apOk ⟨[]⟩ ts[k] with
            | false =>
              rw [o2] at hB
              simp only [o2, Bool.and_false, cond_false] at hR
              subst hR
              simp (disch := omega) only [go_sem, Nat.reduceAdd, Nat.reduceSub, Nat.reduceLT, Nat.reduceLeDiff, Nat.reduceEqDiff, Nat.reduceBEq, Nat.reduceBneDiff, Nat.reduceMul, ↓reduceIte, Int.reduceToNat, reduceCtorEq, Int.reduceNeg, Int.reduceAdd, hni, h0, hal, hg, hLl, hA, hB, m_spec_ApplySubstitution, m_spec_l5Unify, m_spec_ComposeSubstitutions]
              first | rfl | exact ⟨rfl, rfl⟩
            | true =>
              rw [o2] at hB
              have e2 := apOk_ex o2
              obtain ⟨n, hn⟩ := unR_spec e1 e2
              have hU := l5Unify_E _ _ e1 e2 n _ hn
              have hok := fun u (hu : unR (apTo ⟨[]⟩ h) (apTo ⟨[]⟩ ts[k]) = some u) => unR_ok e1 e2 hu
              simp only [o1, o2, Bool.and_self, cond_true] at hR
              obtain ⟨x, hx⟩ : ∃ x, x = apTo ⟨[]⟩ h := ⟨_, rfl⟩
              obtain ⟨y, hy⟩ : ∃ y, y = apTo ⟨[]⟩ ts[k] := ⟨_, rfl⟩
              rw [← hx] at hA hU hR hok
              rw [← hy] at hB hU hR hok
              have hxv : x.sv = .agg [.str x.name, .arr (x.args.map Tm.d)] := rfl
              have hyv : y.sv = .agg [.str y.name, .arr (y.args.map Tm.d)] := rfl
              cases o3 : unR x y with
              | none =>
                rw [o3] at hU hR
                simp only at hR
                subst hR
                have hU : E 21 [x.sv, y.sv] [] = some (.tup [.agg [.arr []], .bool false], []) := hU
                have hC := specCompose_E ⟨[]⟩ ⟨[]⟩ hst (ok_tame hok0)
                have e0 : (Sb.mk []).sv = .agg [.arr []] := rfl
                obtain ⟨c, hc0⟩ : ∃ c, c = cmTo ⟨[]⟩ ⟨[]⟩ := ⟨_, rfl⟩
                have hcv : c.sv = .agg [.arr (c.binds.map Bd.d)] := rfl
                rw [← hc0, e0, hcv] at hC
                simp (disch := omega) only [go_sem, Nat.reduceAdd, Nat.reduceSub, Nat.reduceLT, Nat.reduceLeDiff, Nat.reduceEqDiff, Nat.reduceBEq, Nat.reduceBneDiff, Nat.reduceMul, ↓reduceIte, Int.reduceToNat, reduceCtorEq, Int.reduceNeg, Int.reduceAdd, hni, h0, hal, hg, hLl, hA, hB, hU, hC, m_spec_ApplySubstitution, m_spec_l5Unify, m_spec_ComposeSubstitutions]
                first | rfl | exact ⟨rfl, rfl⟩
              | some u =>
                rw [o3] at hU hR
                have hu := hok u o3
                have huv : u.sv = .agg [.arr (u.binds.map Bd.d)] := rfl
                have hU : E 21 [x.sv, y.sv] [] = some (.tup [u.sv, .bool true], []) := hU
                simp only at hR
                have hC := specCompose_E ⟨[]⟩ u hst (ok_tame hu)
                have e2 : cmOk ⟨[]⟩ u = cmpOk ⟨[]⟩ u := by unfold cmOk; rw [hs, hu]; rfl
                have e3 : cmTo ⟨[]⟩ u = bif cmpOk ⟨[]⟩ u then cmpS ⟨[]⟩ u else ⟨[]⟩ := by unfold cmTo; rw [e2]
                rw [e2, e3, hss, huv] at hC
                rw [huv] at hU
                cases o6 : cmpOk ⟨[]⟩ u with
                | false =>
                  rw [o6] at hC
                  have hC : E 29 [.agg [.arr []], .agg [.arr (u.binds.map Bd.d)]] [] = some (.tup [.agg [.arr []], .bool false], []) := hC
                  simp only [o6, cond_false] at hR
                  subst hR
                  simp (disch := omega) only [go_sem, Nat.reduceAdd, Nat.reduceSub, Nat.reduceLT, Nat.reduceLeDiff, Nat.reduceEqDiff, Nat.reduceBEq, Nat.reduceBneDiff, Nat.reduceMul, ↓reduceIte, Int.reduceToNat, reduceCtorEq, Int.reduceNeg, Int.reduceAdd, hni, h0, hal, hg, hLl, hA, hB, hU, hC, m_spec_ApplySubstitution, m_spec_l5Unify, m_spec_ComposeSubstitutions]
                  first | rfl | exact ⟨rfl, rfl⟩
                | true =>
                  rw [o6] at hC
                  have hC : E 29 [.agg [.arr []], .agg [.arr (u.binds.map Bd.d)]] [] = some (.tup [.agg [.arr ((cmpS ⟨[]⟩ u).binds.map Bd.d)], .bool true], []) := hC
                  simp only [o6, cond_true] at hR
                  simp (disch := omega) only [go_sem, Nat.reduceAdd, Nat.reduceSub, Nat.reduceLT, Nat.reduceLeDiff, Nat.reduceEqDiff, Nat.reduceBEq, Nat.reduceBneDiff, Nat.reduceMul, ↓reduceIte, Int.reduceToNat, reduceCtorEq, Int.reduceNeg, Int.reduceAdd, hni, h0, hal, hg, hLl, hA, hB, hU, hC, m_spec_ApplySubstitution, m_spec_l5Unify, m_spec_ComposeSubstitutions]
                  exact ⟨(i + 1, false, cmpS ⟨[]⟩ u), ⟨k + 1, by dsimp only; omega, hlt, o6, hR, fun h => by cases h⟩, by dsimp only; omega, by first | trivial | rfl | (simp only [cond_true, cond_false, List.cons_append, List.nil_append, and_self])⟩
        | false =>
          have hss : (Sb.sv s) = .agg [.arr (s.binds.map Bd.d)] := rfl
          simp only [cond_true, cond_false]
          have hA := l4ApplySubstitution_E s hst h (by omega)
          have hB := l4ApplySubstitution_E s hst ts[k] (by omega)
          rw [hss] at hA hB
          cases o1 : apOk s h with
          | false =>
            rw [o1] at hA
            simp only [o1, Bool.false_and, cond_false] at hR
            subst hR
            simp (disch := omega) only [go_sem, Nat.reduceAdd, Nat.reduceSub, Nat.reduceLT, Nat.reduceLeDiff, Nat.reduceEqDiff, Nat.reduceBEq, Nat.reduceBneDiff, Nat.reduceMul, ↓reduceIte, Int.reduceToNat, reduceCtorEq, Int.reduceNeg, Int.reduceAdd, hni, h0, hal, hg, hLl, hA, hB, m_spec_ApplySubstitution, m_spec_l5Unify, m_spec_ComposeSubstitutions]
            first | rfl | exact ⟨rfl, rfl⟩
          | true =>
            rw [o1] at hA
            have e1 := apOk_ex o1
            cases o2 : apOk s ts[k] with
            | false =>
              rw [o2] at hB
              simp only [o2, Bool.and_false, cond_false] at hR
              subst hR
              simp (disch := omega) only [go_sem, Nat.reduceAdd, Nat.reduceSub, Nat.reduceLT, Nat.reduceLeDiff, Nat.reduceEqDiff, Nat.reduceBEq, Nat.reduceBneDiff, Nat.reduceMul, ↓reduceIte, Int.reduceToNat, reduceCtorEq, Int.reduceNeg, Int.reduceAdd, hni, h0, hal, hg, hLl, hA, hB, m_spec_ApplySubstitution, m_spec_l5Unify, m_spec_ComposeSubstitutions]
              first | rfl | exact ⟨rfl, rfl⟩
            | true =>
              rw [o2] at hB
              have e2 := apOk_ex o2
              obtain ⟨n, hn⟩ := unR_spec e1 e2
              have hU := l5Unify_E _ _ e1 e2 n _ hn
              have hok := fun u (hu : unR (apTo s h) (apTo s ts[k]) = some u) => unR_ok e1 e2 hu
              simp only [o1, o2, Bool.and_self, cond_true] at hR
              obtain ⟨x, hx⟩ : ∃ x, x = apTo s h := ⟨_, rfl⟩
              obtain ⟨y, hy⟩ : ∃ y, y = apTo s ts[k] := ⟨_, rfl⟩
              rw [← hx] at hA hU hR hok
              rw [← hy] at hB hU hR hok
              have hxv : x.sv = .agg [.str x.name, .arr (x.args.map Tm.d)] := rfl
              have hyv : y.sv = .agg [.str y.name, .arr (y.args.map Tm.d)] := rfl
              cases o3 : unR x y with
              | none =>
                rw [o3] at hU hR
                simp only at hR
                subst hR
                have hU : E 21 [x.sv, y.sv] [] = some (.tup [.agg [.arr []], .bool false], []) := hU
                have hC := specCompose_E s ⟨[]⟩ hst (ok_tame hok0)
                have e0 : (Sb.mk []).sv = .agg [.arr []] := rfl
                obtain ⟨c, hc0⟩ : ∃ c, c = cmTo s ⟨[]⟩ := ⟨_, rfl⟩
                have hcv : c.sv = .agg [.arr (c.binds.map Bd.d)] := rfl
                rw [← hc0, hss,e0, hcv] at hC
                simp (disch := omega) only [go_sem, Nat.reduceAdd, Nat.reduceSub, Nat.reduceLT, Nat.reduceLeDiff, Nat.reduceEqDiff, Nat.reduceBEq, Nat.reduceBneDiff, Nat.reduceMul, ↓reduceIte, Int.reduceToNat, reduceCtorEq, Int.reduceNeg, Int.reduceAdd, hni, h0, hal, hg, hLl, hA, hB, hU, hC, m_spec_ApplySubstitution, m_spec_l5Unify, m_spec_ComposeSubstitutions]
                first | rfl | exact ⟨rfl, rfl⟩
              | some u =>
                rw [o3] at hU hR
                have hu := hok u o3
                have huv : u.sv = .agg [.arr (u.binds.map Bd.d)] := rfl
                have hU : E 21 [x.sv, y.sv] [] = some (.tup [u.sv, .bool true], []) := hU
                simp only at hR
                have hC := specCompose_E s u hst (ok_tame hu)
                have e2 : cmOk s u = cmpOk s u := by unfold cmOk; rw [hs, hu]; rfl
                have e3 : cmTo s u = bif cmpOk s u then cmpS s u else ⟨[]⟩ := by unfold cmTo; rw [e2]
                rw [e2, e3, hss, huv] at hC
                rw [huv] at hU
                cases o6 : cmpOk s u with
                | false =>
                  rw [o6] at hC
                  have hC : E 29 [.agg [.arr (s.binds.map Bd.d)], .agg [.arr (u.binds.map Bd.d)]] [] = some (.tup [.agg [.arr []], .bool false], []) := hC
                  simp only [o6, cond_false] at hR
                  subst hR
                  simp (disch := omega) only [go_sem, Nat.reduceAdd, Nat.reduceSub, Nat.reduceLT, Nat.reduceLeDiff, Nat.reduceEqDiff, Nat.reduceBEq, Nat.reduceBneDiff, Nat.reduceMul, ↓reduceIte, Int.reduceToNat, reduceCtorEq, Int.reduceNeg, Int.reduceAdd, hni, h0, hal, hg, hLl, hA, hB, hU, hC, m_spec_ApplySubstitution, m_spec_l5Unify, m_spec_ComposeSubstitutions]
                  first | rfl | exact ⟨rfl, rfl⟩
                | true =>
                  rw [o6] at hC
                  have hC : E 29 [.agg [.arr (s.binds.map Bd.d)], .agg [.arr (u.binds.map Bd.d)]] [] = some (.tup [.agg [.arr ((cmpS s u).binds.map Bd.d)], .bool true], []) := hC
                  simp only [o6, cond_true] at hR
                  simp (disch := omega) only [go_sem, Nat.reduceAdd, Nat.reduceSub, Nat.reduceLT, Nat.reduceLeDiff, Nat.reduceEqDiff, Nat.reduceBEq, Nat.reduceBneDiff, Nat.reduceMul, ↓reduceIte, Int.reduceToNat, reduceCtorEq, Int.reduceNeg, Int.reduceAdd, hni, h0, hal, hg, hLl, hA, hB, hU, hC, m_spec_ApplySubstitution, m_spec_l5Unify, m_spec_ComposeSubstitutions]
                  exact ⟨(i + 1, false, cmpS s u), ⟨k + 1, by dsimp only; omega, hlt, o6, hR, fun h => by cases h⟩, by dsimp only; omega, by first | trivial | rfl | (simp only [cond_true, cond_false, List.cons_append, List.nil_append, and_self])⟩
      · rw [List.drop_eq_nil_of_le hge, uaR] at hR
        subst hR
        have hk2 : uTo (some s) = s := rfl
        rw [hk2]
        cases sn with
        | true =>
          obtain rfl : s = ⟨[]⟩ := by obtain ⟨bs⟩ := s; have := hsn rfl; rw [show bs = [] from this]
          simp only [cond_true, cond_false]
          simp (disch := omega) only [go_sem, Nat.reduceAdd, Nat.reduceSub, Nat.reduceLT, Nat.reduceLeDiff, Nat.reduceEqDiff, Nat.reduceBEq, Nat.reduceBneDiff, Nat.reduceMul, ↓reduceIte, Int.reduceToNat, reduceCtorEq, Int.reduceNeg, Int.reduceAdd, hni, hLl, uOk, Option.isSome_some, List.map_nil]
          try rfl
        | false =>
          simp only [cond_true, cond_false]
          simp (disch := omega) only [go_sem, Nat.reduceAdd, Nat.reduceSub, Nat.reduceLT, Nat.reduceLeDiff, Nat.reduceEqDiff, Nat.reduceBEq, Nat.reduceBneDiff, Nat.reduceMul, ↓reduceIte, Int.reduceToNat, reduceCtorEq, Int.reduceNeg, Int.reduceAdd, hni, hLl, uOk, Option.isSome_some, List.map_nil]
          try rfl
  · have e : uaA xs = none := by unfold uaA; rw [dec_f hlen]; rfl
    rw [e]
    have q : (dec ((1 : Int) ≤ (xs.length : Int)) && dec ((xs.length : Int) ≤ 4)) = false := by
      rw [Bool.and_eq_false_iff]
      by_cases h : 1 ≤ xs.length
      · exact .inr (dec_f (by omega))
      · exact .inl (dec_f (by omega))
    rw [q] at hw
    refine E_walk k_spec_UnifyAll m_spec_UnifyAll (of_decide_eq_true rfl) ?_
    simp (disch := omega) only [c_spec_UnifyAll, go_sem, Nat.reduceAdd, Nat.reduceSub, Nat.reduceLT, Nat.reduceLeDiff, Nat.reduceEqDiff, Nat.reduceBEq, Nat.reduceBneDiff, Nat.reduceMul, ↓reduceIte, Int.reduceToNat, reduceCtorEq, Int.reduceNeg, Int.reduceAdd, hw, m_spec_l1In]
    first | rfl | exact ⟨rfl, rfl⟩
end Go.Proofs.YtjafnijgkjjadaaGreat

set_option maxRecDepth 100000
set_option linter.unusedSimpArgs false
set_option linter.unusedVariables false
namespace Go.Proofs.YtjafnijgkjjadaaGreat
open Go.RowKit

def c_laws_FnExactUnifyAll : SC := (.seq (.reg [⟨(some 2), none, (.mv (.c (.bool false)))⟩]) (.seq (.reg [⟨(some 3), none, (.mv (.c (.int .i64 1048576)))⟩]) (.seq (.reg [⟨(some 14), none, (.mv (.t 0))⟩, ⟨(some 15), none, (.mv (.t 3))⟩, ⟨(some 16), none, (.call 14 [(.t 14), (.t 15)])⟩, ⟨(some 3), none, (.mv (.t 16))⟩]) (.seq (.seq (.reg [⟨(some 17), none, (.mv (.t 3))⟩, ⟨(some 18), none, (.bin .lss false (.t 17) (.c (.int .i64 0)))⟩]) (.cond (.t 18) (.seq (.reg [⟨(some 2), none, (.mv (.c (.bool true)))⟩]) .ret) .skip)) (.seq (.reg [⟨(some 20), none, (.mv (.t 0))⟩, ⟨(some 21), none, (.call 16 [(.t 20)])⟩, ⟨(some 22), none, (.call 15 [(.t 21)])⟩, ⟨(some 19), none, (.mv (.t 22))⟩, ⟨(some 23), none, (.ext (.t 19) 0)⟩, ⟨(some 24), none, (.ext (.t 19) 1)⟩, ⟨(some 4), none, (.alloc 28 [.nil])⟩, ⟨none, none, (.store 1 (.t 4) (.t 23))⟩, ⟨(some 5), none, (.mv (.t 24))⟩]) (.seq (.reg [⟨(some 25), none, (.mv (.t 0))⟩, ⟨(some 26), none, (.call 16 [(.t 25)])⟩, ⟨(some 6), none, (.mv (.t 26))⟩]) (.seq (.reg [⟨(some 28), none, (.mv (.t 6))⟩, ⟨(some 29), none, (.call 17 [(.t 28)])⟩, ⟨(some 27), none, (.mv (.t 29))⟩, ⟨(some 30), none, (.ext (.t 27) 0)⟩, ⟨(some 31), none, (.ext (.t 27) 1)⟩, ⟨(some 7), none, (.alloc 28 [.nil])⟩, ⟨none, none, (.store 1 (.t 7) (.t 30))⟩, ⟨(some 8), none, (.mv (.t 31))⟩]) (.seq (.seq (.reg [⟨(some 32), none, (.load true 1 (.t 7))⟩, ⟨(some 33), none, (.load true 1 (.t 4))⟩, ⟨(some 34), none, (.call 9 [(.t 32), (.t 33)])⟩, ⟨(some 35), none, (.un .not (.t 34))⟩, ⟨(some 36), none, (.mv (.t 35))⟩, ⟨(some 37), (some (36, false)), (.mv (.t 8))⟩, ⟨(some 38), (some (36, false)), (.mv (.t 5))⟩, ⟨(some 39), (some (36, false)), (.bin .neq true (.t 37) (.t 38))⟩, ⟨(some 40), none, (.pick (.t 36) (.c (.bool true)) (.t 39))⟩]) (.cond (.t 40) (.seq (.reg [⟨(some 2), none, (.mv (.c (.bool false)))⟩]) .ret) .skip)) (.seq (.seq (.reg [⟨(some 41), none, (.mv (.t 6))⟩, ⟨(some 42), none, (.mv (.t 0))⟩, ⟨(some 43), none, (.call 16 [(.t 42)])⟩, ⟨(some 44), none, (.call 18 [(.t 41), (.t 43)])⟩, ⟨(some 45), none, (.un .not (.t 44))⟩]) (.cond (.t 45) (.seq (.reg [⟨(some 2), none, (.mv (.c (.bool false)))⟩]) .ret) .skip)) (.seq (.reg [⟨(some 9), none, (.mv (.c (.int .i64 1)))⟩]) (.seq (.reg [⟨(some 46), none, (.mv (.t 6))⟩, ⟨(some 47), none, (.mv (.t 9))⟩, ⟨(some 48), none, (.call 19 [(.t 46), (.t 47)])⟩, ⟨(some 9), none, (.mv (.t 48))⟩]) (.seq (.seq (.reg [⟨(some 49), none, (.mv (.t 9))⟩, ⟨(some 50), none, (.bin .lss false (.t 49) (.c (.int .i64 0)))⟩, ⟨(some 51), none, (.mv (.t 50))⟩, ⟨(some 52), (some (51, false)), (.load true 1 (.t 7))⟩, ⟨(some 53), (some (51, false)), (.load true 1 (.t 4))⟩, ⟨(some 54), (some (51, false)), (.call 9 [(.t 52), (.t 53)])⟩, ⟨(some 55), (some (51, false)), (.un .not (.t 54))⟩, ⟨(some 56), none, (.pick (.t 51) (.c (.bool true)) (.t 55))⟩, ⟨(some 57), none, (.mv (.t 56))⟩, ⟨(some 58), (some (57, false)), (.mv (.t 8))⟩, ⟨(some 59), (some (57, false)), (.mv (.t 5))⟩, ⟨(some 60), (some (57, false)), (.bin .neq true (.t 58) (.t 59))⟩, ⟨(some 61), none, (.pick (.t 57) (.c (.bool true)) (.t 60))⟩]) (.cond (.t 61) (.seq (.reg [⟨(some 2), none, (.mv (.c (.bool false)))⟩]) .ret) .skip)) (.seq (.reg [⟨(some 10), none, (.mv (.c (.int .i64 1)))⟩]) (.seq (.reg [⟨(some 62), none, (.load true 1 (.t 7))⟩, ⟨(some 63), none, (.mv (.t 10))⟩, ⟨(some 64), none, (.call 12 [(.t 62), (.t 63)])⟩, ⟨(some 10), none, (.mv (.t 64))⟩]) (.seq (.reg [⟨(some 11), none, (.mv (.c (.int .i64 1)))⟩]) (.seq (.reg [⟨(some 65), none, (.load true 1 (.t 7))⟩, ⟨(some 66), none, (.mv (.t 11))⟩, ⟨(some 67), none, (.call 13 [(.t 65), (.t 66)])⟩, ⟨(some 11), none, (.mv (.t 67))⟩]) (.seq (.seq (.reg [⟨(some 68), none, (.mv (.t 11))⟩, ⟨(some 69), none, (.bin .lss false (.t 68) (.c (.int .i64 0)))⟩]) (.cond (.t 69) (.seq (.reg [⟨(some 2), none, (.mv (.c (.bool false)))⟩]) .ret) .skip)) (.seq (.seq (.reg [⟨(some 70), none, (.mv (.t 11))⟩, ⟨(some 71), none, (.mv (.t 10))⟩, ⟨(some 72), none, (.bin .neq false (.t 70) (.t 71))⟩]) (.cond (.t 72) (.seq (.reg [⟨(some 2), none, (.mv (.c (.bool false)))⟩]) .ret) .skip)) (.seq (.reg [⟨(some 74), none, (.mv (.t 0))⟩, ⟨(some 75), none, (.call 16 [(.t 74)])⟩, ⟨(some 76), none, (.call 17 [(.t 75)])⟩, ⟨(some 73), none, (.mv (.t 76))⟩, ⟨(some 77), none, (.ext (.t 73) 0)⟩, ⟨(some 78), none, (.ext (.t 73) 1)⟩, ⟨(some 12), none, (.alloc 28 [.nil])⟩, ⟨none, none, (.store 1 (.t 12) (.t 77))⟩, ⟨(some 13), none, (.mv (.t 78))⟩]) (.seq (.seq (.reg [⟨(some 79), none, (.load true 1 (.t 12))⟩, ⟨(some 80), none, (.load true 1 (.t 4))⟩, ⟨(some 81), none, (.call 9 [(.t 79), (.t 80)])⟩, ⟨(some 82), none, (.un .not (.t 81))⟩, ⟨(some 83), none, (.mv (.t 82))⟩, ⟨(some 84), (some (83, false)), (.mv (.t 13))⟩, ⟨(some 85), (some (83, false)), (.mv (.t 5))⟩, ⟨(some 86), (some (83, false)), (.bin .neq true (.t 84) (.t 85))⟩, ⟨(some 87), none, (.pick (.t 83) (.c (.bool true)) (.t 86))⟩]) (.cond (.t 87) (.seq (.reg [⟨(some 2), none, (.mv (.c (.bool false)))⟩]) .ret) .skip)) (.seq (.reg [⟨(some 11), none, (.mv (.c (.int .i64 1)))⟩]) (.seq (.reg [⟨(some 88), none, (.load true 1 (.t 7))⟩, ⟨(some 89), none, (.mv (.t 11))⟩, ⟨(some 90), none, (.call 13 [(.t 88), (.t 89)])⟩, ⟨(some 11), none, (.mv (.t 90))⟩]) (.seq (.seq (.reg [⟨(some 91), none, (.mv (.t 11))⟩, ⟨(some 92), none, (.bin .lss false (.t 91) (.c (.int .i64 0)))⟩]) (.cond (.t 92) (.seq (.reg [⟨(some 2), none, (.mv (.c (.bool false)))⟩]) .ret) .skip)) (.seq (.seq (.reg [⟨(some 93), none, (.mv (.t 11))⟩, ⟨(some 94), none, (.mv (.t 10))⟩, ⟨(some 95), none, (.bin .neq false (.t 93) (.t 94))⟩]) (.cond (.t 95) (.seq (.reg [⟨(some 2), none, (.mv (.c (.bool false)))⟩]) .ret) .skip)) (.seq (.reg [⟨(some 2), none, (.mv (.c (.bool true)))⟩]) .ret)))))))))))))))))))))))))
theorem k_laws_FnExactUnifyAll : codeOf Tryz.prog 4 = some ⟨96, c_laws_FnExactUnifyAll, [(.tmp 2)]⟩ := by kernel_rfl
theorem m_laws_FnExactUnifyAll : modes 4 = ⟨[], .asis, none, false⟩ := by unfold modes; rfl

theorem sumB_nodes : ∀ (xs : List Tm), ∀ x ∈ xs, x.nodes ≤ 1 + Tm.sumB xs
  | [], x, h => by cases h
  | y :: ys, x, h => by
    rw [Tm.sumB]
    rcases List.mem_cons.1 h with rfl | h
    · have := Tm.nodes_bulk x; omega
    · have := sumB_nodes ys x h; omega
set_option maxHeartbeats 8000000 in
theorem law26_E (xs : List Tm) (hf : D.fit (.arr (xs.map Tm.d))) : E 4 [.arr (xs.map Tm.d)] [] = some (.bool true, []) := by
  have h1 := szTS_Term xs hf 1048576 (by omega) (by omega)
  have q := szR_spec 1048576 (xs.length + Tm.sumB xs)
  obtain ⟨l, hl⟩ : ∃ l, l = szR 1048576 (xs.length + Tm.sumB xs : Nat) := ⟨_, rfl⟩
  rw [← hl] at h1 q
  rcases Int.lt_or_le l 0 with h0 | h0
  · refine E_walk k_laws_FnExactUnifyAll m_laws_FnExactUnifyAll (of_decide_eq_true rfl) ?_
    simp (disch := omega) only [c_laws_FnExactUnifyAll, go_sem, Nat.reduceAdd, Nat.reduceSub, Nat.reduceLT, Nat.reduceLeDiff, Nat.reduceEqDiff, Nat.reduceBEq, Nat.reduceBneDiff, Nat.reduceMul, ↓reduceIte, Int.reduceToNat, reduceCtorEq, Int.reduceNeg, Int.reduceAdd, h1, m_laws_szTermS]
  have hb : xs.length + Tm.sumB xs ≤ 1048576 := by omega
  have hnd := sumB_nodes xs
  have t1 := toTS_Term xs hb
  have a1 := specUnifyAll_E xs (by omega) (fun x hx => by have := hnd x hx; omega)
  have a2 := implUnifyAll_E xs (by omega) (fun x hx => by have := hnd x hx; omega)
  have hbr := uTo_bulk fun r (h : uaA xs = some r) => uaA_ok h
  obtain ⟨r, hr⟩ : ∃ r, r = uTo (uaA xs) := ⟨_, rfl⟩
  obtain ⟨o, ho⟩ : ∃ o, o = uOk (uaA xs) := ⟨_, rfl⟩
  rw [← hr] at a1 a2 hbr
  rw [← ho] at a1 a2
  have e1 := eqTS_Term xs hb
  have e3 := eqT_Substitution r hbr
  have ws := Tm.wtS_bulk xs
  have wr := Bd.wtS_bulk r.binds
  have br := Sb.bulk_eq r
  have k1 := Tm.mkS_end xs 1
  have m1 := markTS_Term xs 1 [.row 33 2 (xs.map Tm.o)] (by omega) (by omega) rfl
  obtain ⟨n1, hn1⟩ : ∃ n1, n1 = (Tm.mkS xs 1).2 := ⟨_, rfl⟩
  rw [← hn1] at m1
  have k3 := Bd.mkS_end r.binds 1
  have m3 := markT_Substitution r 1 (.row 67 3 (r.binds.map Bd.o)) (by omega) (by omega) rfl
  have h3 := heldT_Substitution r 1 (by omega) (by omega)
  obtain ⟨n3, hn3⟩ : ∃ n3, n3 = (r.mkr 1).2 := ⟨_, rfl⟩
  have hn3' : n3 = (Bd.mkS r.binds 1).2 := hn3
  rw [← hn3] at m3 h3
  refine E_walk k_laws_FnExactUnifyAll m_laws_FnExactUnifyAll (of_decide_eq_true rfl) ?_
  simp (disch := omega) only [c_laws_FnExactUnifyAll, go_sem, Nat.reduceAdd, Nat.reduceSub, Nat.reduceLT, Nat.reduceLeDiff, Nat.reduceEqDiff, Nat.reduceBEq, Nat.reduceBneDiff, Nat.reduceMul, ↓reduceIte, Int.reduceToNat, reduceCtorEq, Int.reduceNeg, Int.reduceAdd, h1, t1, a1, a2, e1, e3, m1, m3, h3, dec_refl, m_laws_szTermS, m_laws_toTermS, m_spec_UnifyAll, m_impl_UnifyAll, m_laws_eqTermS, m_laws_eqSubstitution, m_laws_markTermS, m_laws_markSubstitution, m_laws_heldSubstitution, Sb.osv, Sb.obs, Bd.erss, Bd.noss, Tm.erss, Tm.noss]
end Go.Proofs.YtjafnijgkjjadaaGreat

set_option maxRecDepth 100000
set_option linter.unusedSimpArgs false
set_option linter.unusedVariables false
namespace Go.Proofs.YtjafnijgkjjadaaGreat
open Go.RowKit Go.ChangeShapes Go.WideShapes Go.ChangeAt Go.Deep

section
variable {H : Type} {enc : TypeId × Value → H} {P : Program} {w : World} {base : Nat} {spare : Nat → Bool} {held : Bool}

theorem addr_add_plain {b o k : Nat} : (⟨b, o, none⟩ : Addr).add k = ⟨b, o + k, none⟩ := by
  unfold Addr.add; split
  · subst_vars; rfl
  · rfl
theorem cell_lt {a : Addr} {v : Value} (h : w.cell? a = some v) : a.block < w.heap.size := by
  unfold World.cell? at h
  cases hb : w.heap[a.block]? with
  | none => rw [hb] at h; cases h
  | some o => exact (Array.getElem?_eq_some_iff.1 hb).1

/-- A slice that is read: its cells, and each element's own reading. -/
theorem open_sl {t e : TypeId} {fuel : Nat} {cs : List Value} {x : DataW H × List MemPlace} (sz : Nat) (hsz : P.cellsOf e = sz) (h0 : 0 < sz) (ht : P.underlying t = some (.slice e)) (h : DataW.trod enc P w base spare held fuel t cs = some x) :
    ∃ (a : Option Addr) (len cap : Nat) (f : Nat → Nat → Value), cs = [.slice a len cap] ∧ len ≤ cap ∧ cap ≤ 9223372036854775807 ∧ SlA w 0 sz len f a ∧
      ∀ i, i < len → ∃ n x', DataW.trod enc P w base spare held n e ((List.range sz).map (f i)) = some x' := by
  rcases open_slice ht h with ⟨hcs, _⟩ | ⟨a, len, cap, m, n, D, Pl, hcs, hb, hl, hm, hmm, hx, hi⟩
  · exact ⟨none, 0, 0, fun _ _ => undef, hcs, Nat.le_refl _, by omega, .inl rfl, fun i hi => absurd hi (by omega)⟩
  · have hlm : len ≤ m := by rw [hmm]; split <;> omega
    have hcell : ∀ i j, i < len → j < sz → ∃ v, w.cell? (a.add (i * sz + j)) = some v := by
      intro i j hil hj
      obtain ⟨cs', hc, _⟩ := hi i (by omega)
      rw [hsz] at hc
      obtain ⟨_, hcl, hat⟩ := World.cells?_some hc
      have h1 := hat j hj
      rw [Go.Deep.add_add, List.getElem?_eq_getElem (by omega)] at h1
      exact ⟨_, h1⟩
    refine ⟨some a, len, cap, fun i j => (w.cell? (a.add (i * sz + j))).getD undef, hcs, hl, hm, ?_, ?_⟩
    · rcases Nat.eq_zero_or_pos len with h | h
      · exact .inl h
      · obtain ⟨v, hv⟩ := hcell 0 0 h h0
        rw [Nat.zero_mul, Nat.zero_add] at hv
        have hsp : a.spot = none := by simpa [Addr.add] using World.cell?_spot hv
        have hlt := cell_lt hv
        obtain ⟨b, off, spot⟩ := a
        simp only at hsp
        subst hsp
        refine .inr ⟨b, off, rfl, Nat.zero_le _, by simpa [Addr.add] using hlt, fun i j hil hj => ?_⟩
        obtain ⟨v', hv'⟩ := hcell i j hil hj
        rw [addr_add_plain] at hv'
        show _ = some ((w.cell? ((⟨b, off, none⟩ : Addr).add (i * sz + j))).getD undef)
        rw [addr_add_plain, Nat.add_assoc, hv']
        rfl
    · intro i hil
      obtain ⟨cs', hc, ht'⟩ := hi i (by omega)
      rw [hsz] at hc
      obtain ⟨_, hcl, hat⟩ := World.cells?_some hc
      refine ⟨n, (D i, Pl i), ?_⟩
      · have hcs' : (List.range sz).map (fun j => (w.cell? (a.add (i * sz + j))).getD undef) = cs' := by
          apply List.ext_getElem?
          intro j
          by_cases hj : j < sz
          · rw [List.getElem?_map, List.getElem?_range hj]
            have h1 := hat j hj
            rw [Go.Deep.add_add] at h1
            rw [List.getElem?_eq_getElem (by omega : j < cs'.length)] at h1 ⊢
            simp [h1]
          · rw [List.getElem?_eq_none (by simp; omega), List.getElem?_eq_none (by omega)]
        rw [hcs']
        exact ht'

/-- A struct of one-cell fields: each field's own reading. -/
theorem open_fields {e : TypeId} {fs : Array Field} {n sz : Nat} {g : Nat → Value} {x : DataW H × List MemPlace} (he : P.underlying e = some (.struct fs)) (hone : oneCellFields P fs = true) (hs : fs.size = sz)
    (h : DataW.trod enc P w base spare held n e ((List.range sz).map g) = some x) (j : Nat) (f : Field) (hj : fs[j]? = some f) :
    ∃ n' y, DataW.trod enc P w base spare held n' f.type [g j] = some y := by
  obtain ⟨xs, n', hn, hx, hlen, hxl, hf⟩ := DataW.trod_struct he h
  obtain ⟨ho, hk⟩ := hone_of hone j f hj
  have hjl : j < fs.size := (Array.getElem?_eq_some_iff.1 hj).1
  have h1 := hf j f hj
  rw [ho, hk] at h1
  have e1 : ((((List.range sz).map g).drop j).take 1) = [g j] := by
    rw [List.drop_eq_getElem_cons (by simp; omega)]
    simp
  rw [e1, List.getElem?_eq_getElem (by omega : j < xs.length)] at h1
  exact ⟨n', _, h1⟩

theorem open_intsAt {t e : TypeId} {fuel : Nat} {v : Value} {x : DataW H × List MemPlace} (ht : P.underlying t = some (.slice e)) (he : P.underlying e = some (.int .i64)) (hc : P.cellsOf e = 1)
    (h : DataW.trod enc P w base spare held fuel t [v] = some x) : ∃ xs, IntsAt w 0 v xs ∧ ∀ n ∈ xs, (Lit.int .i64 n).wf = true := by
  obtain ⟨a, len, cap, f, hcs, hl, hm, hS, hr⟩ := open_sl 1 hc (by omega) ht h
  simp only [List.cons.injEq, and_true] at hcs
  subst hcs
  have hint : ∀ i, i < len → ∃ z, f i 0 = .int .i64 z ∧ (Lit.int .i64 z).wf = true := by
    intro i hi
    obtain ⟨n, x', h1⟩ := hr i hi
    obtain ⟨z, hz, _, hw⟩ := DataW.trod_int he h1
    simp at hz
    exact ⟨z, hz, hw⟩
  let g : Nat → Int := fun i => match f i 0 with | .int _ z => z | _ => 0
  have hg : ∀ i, i < len → f i 0 = .int .i64 (g i) ∧ (Lit.int .i64 (g i)).wf = true := by
    intro i hi
    obtain ⟨z, hz, hw⟩ := hint i hi
    have : g i = z := by show (match f i 0 with | .int _ z => z | _ => 0) = z; rw [hz]
    rw [this]; exact ⟨hz, hw⟩
  refine ⟨(List.range len).map g, ⟨a, cap, by simp, by simpa using hl, hm, ?_⟩, ?_⟩
  · have : ((List.range len).map g).length = len := by simp
    rw [this]
    refine hS.congr fun i j hi hj => ?_
    obtain rfl : j = 0 := by omega
    rw [(hg i hi).1, atZ_get (by simpa using hi)]
    simp
  · intro n hn
    simp only [List.mem_map, List.mem_range] at hn
    obtain ⟨i, hi, rfl⟩ := hn
    exact (hg i hi).2
end

section
variable {H : Type} {enc : TypeId × Value → H} {w : World} {base : Nat} {spare : Nat → Bool} {held : Bool}

end
end Go.Proofs.YtjafnijgkjjadaaGreat

set_option maxRecDepth 100000
set_option linter.unusedSimpArgs false
set_option linter.unusedVariables false
namespace Go.Proofs.YtjafnijgkjjadaaGreat
open Go.RowKit Go.ChangeShapes Go.WideShapes Go.ChangeAt Go.Deep

section
variable {H : Type} {enc : TypeId × Value → H} {P : Program} {w : World} {base : Nat} {spare : Nat → Bool} {held : Bool}

/-- A slice that is read: its cells, and each element's own reading, with less fuel. -/
theorem open_sl' {t e : TypeId} {fuel : Nat} {v : Value} {x : DataW H × List MemPlace} (sz : Nat) (hsz : P.cellsOf e = sz) (h0 : 0 < sz) (ht : P.underlying t = some (.slice e)) (h : DataW.trod enc P w base spare held fuel t [v] = some x) :
    ∃ (a : Option Addr) (len cap : Nat) (f : Nat → Nat → Value), v = .slice a len cap ∧ len ≤ cap ∧ cap ≤ 9223372036854775807 ∧ SlA w 0 sz len f a ∧
      ∀ i, i < len → ∃ n x', n < fuel ∧ DataW.trod enc P w base spare held n e ((List.range sz).map (f i)) = some x' := by
  rcases DataW.trod_slice ht h with ⟨hcs, _⟩ | ⟨a, len, cap, elems, rest, n, hf, hcs, hx, hb, hl, hm, hlen, hel, _, _⟩
  · simp only [List.cons.injEq, and_true] at hcs
    exact ⟨none, 0, 0, fun _ _ => undef, hcs, Nat.le_refl _, by omega, .inl rfl, fun i hi => absurd hi (by omega)⟩
  · have hi : ∀ i, i < len → ∃ cs' x', w.cells? base (a.add (i * sz)) sz = some cs' ∧ DataW.trod enc P w base spare held n e cs' = some x' := by
      intro i hi
      have h1 := hel i hi
      rw [hsz, List.getElem?_eq_getElem (by omega)] at h1
      obtain ⟨cs', h2, h3⟩ := Option.bind_eq_some_iff.1 h1
      exact ⟨cs', _, h2, h3⟩
    have hcell : ∀ i j, i < len → j < sz → ∃ v, w.cell? (a.add (i * sz + j)) = some v := by
      intro i j hil hj
      obtain ⟨cs', x', hc, _⟩ := hi i hil
      obtain ⟨_, hcl, hat⟩ := World.cells?_some hc
      have h1 := hat j hj
      rw [Go.Deep.add_add, List.getElem?_eq_getElem (by omega)] at h1
      exact ⟨_, h1⟩
    simp only [List.cons.injEq, and_true] at hcs
    refine ⟨some a, len, cap, fun i j => (w.cell? (a.add (i * sz + j))).getD undef, hcs, hl, hm, ?_, ?_⟩
    · rcases Nat.eq_zero_or_pos len with h | h
      · exact .inl h
      · obtain ⟨v, hv⟩ := hcell 0 0 h h0
        rw [Nat.zero_mul, Nat.zero_add] at hv
        have hsp : a.spot = none := by simpa [Addr.add] using World.cell?_spot hv
        have hlt := cell_lt hv
        obtain ⟨b, off, spot⟩ := a
        simp only at hsp
        subst hsp
        refine .inr ⟨b, off, rfl, Nat.zero_le _, by simpa [Addr.add] using hlt, fun i j hil hj => ?_⟩
        obtain ⟨v', hv'⟩ := hcell i j hil hj
        rw [addr_add_plain] at hv'
        show _ = some ((w.cell? ((⟨b, off, none⟩ : Addr).add (i * sz + j))).getD undef)
        rw [addr_add_plain, Nat.add_assoc, hv']
        rfl
    · intro i hil
      obtain ⟨cs', x', hc, ht'⟩ := hi i hil
      obtain ⟨_, hcl, hat⟩ := World.cells?_some hc
      refine ⟨n, x', by omega, ?_⟩
      have hcs' : (List.range sz).map (fun j => (w.cell? (a.add (i * sz + j))).getD undef) = cs' := by
        apply List.ext_getElem?
        intro j
        by_cases hj : j < sz
        · rw [List.getElem?_map, List.getElem?_range hj]
          have h1 := hat j hj
          rw [Go.Deep.add_add] at h1
          rw [List.getElem?_eq_getElem (by omega : j < cs'.length)] at h1 ⊢
          simp [h1]
        · rw [List.getElem?_eq_none (by simp; omega), List.getElem?_eq_none (by omega)]
      rw [hcs']
      exact ht'
/-- A struct that is read: each field's own reading, with less fuel. -/
theorem open_st' {t : TypeId} {fs : Array Field} {fuel : Nat} {cs : List Value} {x : DataW H × List MemPlace} (ht : P.underlying t = some (.struct fs)) (h : DataW.trod enc P w base spare held fuel t cs = some x) :
    ∃ n, n < fuel ∧ cs.length = P.cellsOf t ∧ ∀ (i : Nat) (f : Field), fs[i]? = some f → ∃ y, DataW.trod enc P w base spare held n f.type ((cs.drop f.offset).take (P.cellsOf f.type)) = some y := by
  obtain ⟨xs, n, hn, hx, hlen, hxl, hf⟩ := DataW.trod_struct ht h
  refine ⟨n, by omega, hlen, fun i f hi => ?_⟩
  have hil : i < fs.size := (Array.getElem?_eq_some_iff.1 hi).1
  have h1 := hf i f hi
  rw [List.getElem?_eq_getElem (by omega : i < xs.length)] at h1
  exact ⟨_, h1⟩
end

/-- Leaves that are read, one by one. -/
inductive Lvs (w : World) : List D → List Value → Prop
  | nil : Lvs w [] []
  | cons {d : D} {v : Value} {ds : List D} {vs : List Value} (h : DAt w d v) (hs : Lvs w ds vs) : Lvs w (d :: ds) (v :: vs)
theorem Lvs.len {w : World} {ds : List D} {vs : List Value} (h : Lvs w ds vs) : ds.length = vs.length := by
  induction h with
  | nil => rfl
  | cons h hs ih => simp [ih]
theorem Lvs.get {w : World} {ds : List D} {vs : List Value} (h : Lvs w ds vs) : ∀ j (h1 : j < ds.length) (h2 : j < vs.length), DAt w ds[j] vs[j] := by
  induction h with
  | nil => intro j h1; simp at h1
  | cons h hs ih =>
    intro j h1 h2
    cases j with
    | zero => exact h
    | succ j => exact ih j (by simpa using h1) (by simpa using h2)
theorem open_arr {α : Type} [Inhabited α] (dd : α → List D) {w : World} {m len cap : Nat} {f : Nat → Nat → Value} {a : Option Addr} (hl : len ≤ cap) (hm : cap ≤ 9223372036854775807) (hS : SlA w 0 m len f a)
    (hel : ∀ i, i < len → ∃ X : α, Lvs w (dd X) ((List.range m).map (f i))) : ∃ xs : List α, DAt w (.arr (xs.map dd)) (.slice a len cap) := by
  obtain ⟨g, hg⟩ : ∃ g : Nat → α, ∀ i, i < len → Lvs w (dd (g i)) ((List.range m).map (f i)) :=
    ⟨fun i => if h : i < len then (hel i h).choose else default, fun i hi => by simp only [hi, dif_pos]; exact (hel i hi).choose_spec⟩
  refine ⟨(List.range len).map g, ?_⟩
  have hlen : (((List.range len).map g).map dd).length = len := by simp
  have := DAt.arr_mk (w := w) (es := ((List.range len).map g).map dd) (sz := m) (cap := cap) (a := a) (f := f) (by rw [hlen]; exact hl) hm (by rw [hlen]; exact hS) (fun i hi => by
    rw [hlen] at hi
    have := (hg i hi).len
    simpa using this) (fun i j hi hj => by
    rw [hlen] at hi
    have h1 := hg i hi
    have h2 := h1.len
    simp only [List.length_map, List.length_range] at h2
    simp only [List.getElem_map, List.getElem_range] at hj ⊢
    have := h1.get j hj (by simp; omega)
    simpa using this)
  rw [hlen] at this
  exact this
instance : Inhabited Tm := ⟨Tm.zero⟩
instance : Inhabited Fm := ⟨Fm.zero⟩

section
variable {H : Type} {enc : TypeId × Value → H} {w : World} {base : Nat} {spare : Nat → Bool} {held : Bool}
theorem open_term_of {fuel : Nat} (ih : ∀ n, n < fuel → ∀ v x, DataW.trod enc Tryz.prog w base spare held n 22 [v] = some x → ∃ xs, TmsAt w xs v) {cs : List Value} {x : DataW H × List MemPlace}
    (h : DataW.trod enc Tryz.prog w base spare held fuel 24 cs = some x) : ∃ X : Tm, Lvs w X.d cs := by
  obtain ⟨n, hn, hlen, hf⟩ := open_st' Tryz.underlying24 h
  rw [show Tryz.prog.cellsOf 24 = 2 by kernel_rfl] at hlen
  match cs, hlen with
  | [c0, c1], _ =>
    obtain ⟨y0, k0⟩ := hf 0 _ rfl
    obtain ⟨y1, k1⟩ := hf 1 _ rfl
    obtain ⟨s, hs, _, hsz⟩ := DataW.trod_string Tryz.underlying9 k0
    have e1 : (([c0, c1].drop 1).take (Tryz.prog.cellsOf 22)) = [c1] := by rw [show Tryz.prog.cellsOf 22 = 1 by kernel_rfl]; rfl
    have e0 : (([c0, c1].drop 0).take (Tryz.prog.cellsOf 9)) = [c0] := by rw [show Tryz.prog.cellsOf 9 = 1 by kernel_rfl]; rfl
    obtain ⟨xs, hxs⟩ := ih n hn c1 y1 (by rw [← e1]; exact k1)
    have hs' : c0 = .string s := by
      have : [c0] = [.string s] := by rw [← e0]; exact hs
      simpa using this
    subst hs'
    exact ⟨.mk s xs, by rw [Tm.d_eq]; exact .cons (.str _ s hsz) (.cons hxs .nil)⟩
theorem open_terms_all : ∀ (fuel : Nat) (v : Value) (x : DataW H × List MemPlace), DataW.trod enc Tryz.prog w base spare held fuel 22 [v] = some x → ∃ xs, TmsAt w xs v := by
  intro fuel
  induction fuel using Nat.strongRecOn with
  | _ fuel ih =>
    intro v x h
    obtain ⟨a, len, cap, f, rfl, hl, hm, hS, hr⟩ := open_sl' (P := Tryz.prog) 2 (by kernel_rfl) (by omega) Tryz.underlying22 h
    exact open_arr Tm.d hl hm hS fun i hi => by
      obtain ⟨n, x', hn, h1⟩ := hr i hi
      exact open_term_of (fun n' hn' => ih n' (by omega)) h1
theorem open_term {fuel : Nat} {cs : List Value} {x : DataW H × List MemPlace} (h : DataW.trod enc Tryz.prog w base spare held fuel 24 cs = some x) : ∃ X : Tm, Lvs w X.d cs :=
  open_term_of (fun n _ => open_terms_all n) h
end
end Go.Proofs.YtjafnijgkjjadaaGreat

set_option maxRecDepth 100000
set_option linter.unusedSimpArgs false
set_option linter.unusedVariables false
namespace Go.Proofs.YtjafnijgkjjadaaGreat
open Go.RowKit

theorem DRep.lt_ {own : Bool} {w : World} {S : Nat → Prop} {d : D} {v : Value} (h : DRep own w S d v) : DRep own w (fun b => S b ∧ b < w.heap.size) d v := by
  induction h with
  | int S n => exact .int _ n
  | bool S b => exact .bool _ b
  | str S s h => exact .str _ s h
  | arr S sz es a cap f Sub h1 h2 h3 h4 h5 h6 h7 ih =>
    refine .arr _ sz es a cap f (fun i j x => Sub i j x ∧ x < w.heap.size) h1 h2 ?_ h4 (fun i j x h => ⟨h5 i j x h.1, h.2⟩) (fun ho i j i' j' x h h' => h6 ho i j i' j' x h.1 h'.1) ih
    rcases h3 with h3 | ⟨b, off, ha, hS, hl, hc, ho⟩
    · exact .inl h3
    · exact .inr ⟨b, off, ha, ⟨hS, hl⟩, hl, hc, fun h => ⟨fun i j hx => (ho h).1 i j hx.1, (ho h).2⟩⟩
theorem DAt.rep {w : World} {es : List (List D)} {v : Value} (h : DAt w (.arr es) v) : RepV w (fun b => b < w.heap.size) (fun _ => none) (.arr es) v := by
  simp only [RepV]
  exact (DRep.lt_ h).up fun b hb => hb.2
/-- A law's function that says yes. -/
theorem Fun.yes {f : FuncId} {args : List SV} (h : Fun Tryz.prog f args [] (.bool true) []) {w : World} {vs : List Value} (hvs : RepVs w (fun b => b < w.heap.size) (fun _ => none) args vs) : Calls Tryz.prog f vs.toArray w (Ret w (.bool true)) := by
  have nl : ∀ g, ¬ (geto [] g).live := fun g hg => by simp [geto, Ob.live] at hg
  refine (h w (fun b => b < w.heap.size) (fun _ => none) (fun _ _ => False) vs ⟨fun b hb => hb, fun g hg => absurd hg (nl g), fun g b hg => absurd hg (nl g), fun g b hg => absurd hg (nl g), fun g g' b hg => absurd hg (nl g), fun g _ => rfl⟩ hvs).mono ?_
  rintro e w' ⟨v, I', V', B', rfl, hr, hp⟩
  simp only [RepV] at hr
  subst hr
  exact ⟨rfl, hp.fr.os, hp.fr.tape, hp.fr.output, hp.fr.size, fun b hb => hp.fr.block b hb fun ⟨g, hg, _⟩ => absurd hg (nl g)⟩

theorem lvs_cons {w : World} {d : D} {ds : List D} {v : Value} {vs : List Value} (h : Lvs w (d :: ds) (v :: vs)) : DAt w d v ∧ Lvs w ds vs := by
  cases h with
  | cons h1 h2 => exact ⟨h1, h2⟩
theorem DAt.rep_sv {w : World} {d : D} {v : Value} (h : DAt w d v) : RepV w (fun b => b < w.heap.size) (fun _ => none) d.sv v :=
  D.rep_sv ((DRep.lt_ h).up fun b hb => hb.2)
theorem Lvs.reps {w : World} {ds : List D} {vs : List Value} (h : Lvs w ds vs) : RepVs w (fun b => b < w.heap.size) (fun _ => none) (ds.map D.sv) vs := by
  induction h with
  | nil => simp [RepVs]
  | cons h hs ih => simp only [List.map_cons, RepVs]; exact ⟨_, _, rfl, h.rep_sv, ih⟩
theorem Lvs.agg {w : World} {ds : List D} {vs : List Value} (h : Lvs w ds vs) : RepV w (fun b => b < w.heap.size) (fun _ => none) (.agg (ds.map D.sv)) (.agg vs.toArray) := by
  simp only [RepV]; exact ⟨vs, rfl, h.reps⟩
theorem Lvs.fits {w : World} {ds : List D} {vs : List Value} (h : Lvs w ds vs) : D.fits ds := by
  induction h with
  | nil => trivial
  | cons h hs ih => exact ⟨DRep.fit h, ih⟩
theorem DAt.fit {w : World} {d : D} {v : Value} (h : DAt w d v) : D.fit d := DRep.fit h
theorem args_nil {w : World} {I : Nat → Prop} {V : Nat → Option Value} : RepVs w I V [] [] := by simp [RepVs]
theorem args_more {w : World} {I : Nat → Prop} {V : Nat → Option Value} {x : SV} {xs : List SV} {v : Value} {vs : List Value} (h : RepV w I V x v) (hs : RepVs w I V xs vs) : RepVs w I V (x :: xs) (v :: vs) := by
  simp only [RepVs]; exact ⟨v, vs, rfl, h, hs⟩
section
variable {H : Type} {enc : TypeId × Value → H} {w : World} {base : Nat} {spare : Nat → Bool} {held : Bool}
theorem opn_Term_of {fuel : Nat} (ih : ∀ n, n < fuel → ∀ v x, DataW.trod enc Tryz.prog w base spare held n 22 [v] = some x → ∃ xs : List Tm, DAt w (.arr (xs.map Tm.d)) v) {cs : List Value} {x : DataW H × List MemPlace} (h : DataW.trod enc Tryz.prog w base spare held fuel 24 cs = some x) : ∃ X : Tm, Lvs w X.d cs := by
  obtain ⟨n, hn, hlen, hf⟩ := open_st' Tryz.underlying24 h
  rw [show Tryz.prog.cellsOf 24 = 2 by kernel_rfl] at hlen
  match cs, hlen with
  | [c0, c1], _ =>
    obtain ⟨y0, k0⟩ := hf 0 _ rfl
    have e0 : (([c0, c1].drop 0).take (Tryz.prog.cellsOf 9)) = [c0] := by rw [show Tryz.prog.cellsOf 9 = 1 by kernel_rfl]; rfl
    obtain ⟨z0, q0, _, s0⟩ := DataW.trod_string Tryz.underlying9 k0
    have q0' : c0 = .string z0 := by
      have : [c0] = [.string z0] := by rw [← e0]; exact q0
      simpa using this
    obtain ⟨y1, k1⟩ := hf 1 _ rfl
    have e1 : (([c0, c1].drop 1).take (Tryz.prog.cellsOf 22)) = [c1] := by rw [show Tryz.prog.cellsOf 22 = 1 by kernel_rfl]; rfl
    have k1' : DataW.trod enc Tryz.prog w base spare held n 22 [c1] = some y1 := by rw [← e1]; exact k1
    obtain ⟨z1, g1⟩ := ih n hn c1 y1 k1'
    subst q0'
    exact ⟨.mk z0 z1, by rw [Tm.d_eq]; exact (.cons (.str _ z0 s0) (.cons g1 .nil))⟩
theorem opnS_Term_all : ∀ (fuel : Nat) (v : Value) (x : DataW H × List MemPlace), DataW.trod enc Tryz.prog w base spare held fuel 22 [v] = some x → ∃ xs : List Tm, DAt w (.arr (xs.map Tm.d)) v := by
  intro fuel
  induction fuel using Nat.strongRecOn with
  | _ fuel ih =>
    intro v x h
    obtain ⟨a, len, cap, f, rfl, hl, hm, hS, hr⟩ := open_sl' (P := Tryz.prog) 2 (by kernel_rfl) (by omega) Tryz.underlying22 h
    exact open_arr Tm.d hl hm hS fun i hi => by
      obtain ⟨n, x', hn, h1⟩ := hr i hi
      exact opn_Term_of (fun n' hn' => ih n' (by omega)) h1
theorem opn_Term {fuel : Nat} {cs : List Value} {x : DataW H × List MemPlace} (h : DataW.trod enc Tryz.prog w base spare held fuel 24 cs = some x) : ∃ X : Tm, Lvs w X.d cs :=
  opn_Term_of (fun n _ => opnS_Term_all n) h
theorem opnS_Term {fuel : Nat} {v : Value} {x : DataW H × List MemPlace} (h : DataW.trod enc Tryz.prog w base spare held fuel 22 [v] = some x) : ∃ xs : List Tm, DAt w (.arr (xs.map Tm.d)) v := by
  exact opnS_Term_all fuel v x h
end
end Go.Proofs.YtjafnijgkjjadaaGreat
