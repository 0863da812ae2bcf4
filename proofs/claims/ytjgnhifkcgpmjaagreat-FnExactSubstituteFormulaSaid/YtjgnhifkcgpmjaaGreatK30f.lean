/-
  This text holds, one behind the other: This text tells what copies of terms answer in both packages. No condition.
  This text holds a rule for runs of which a part of the answer is left open. No condition.
  This text tells what the reference's copies of terms answer. No condition.
  This text tells what copies of formulas answer in both packages. No condition.
  This text tells what the order of terms answers in both packages. No condition.
  This text tells what the variables of a term answer in both packages. No condition.
  This text tells what the variables of a term answer in the reference. No condition.
  This text holds plain laws of the order of names. No condition.
  This text holds plain laws of sorted names: putting one after the other at its place sorts. No condition.
  This text tells what the validity of substitutions answers in both packages, and the place of a binding. No condition.
  This text tells what the search for a binding answers. No condition.
  This text tells what applying a substitution answers in both packages. No condition.
  This text holds plain laws of formulas: free variables, substituting a variable. No condition.
  This text tells whether a name is in a list of names, in the reference. No condition.
-/
import Derived.Test.YtjgnhifkcgpmjaaGreatK30c
import Derived.Test.YtjgnhifkcgpmjaaGreatK30d
import Derived.Test.YtjgnhifkcgpmjaaGreatK30e
set_option maxRecDepth 100000
set_option linter.unusedSimpArgs false
set_option linter.unusedVariables false
namespace Go.Proofs.YtjgnhifkcgpmjaaGreat
open Go.RowKit

def c_impl_copyTerms : SC := (.seq (.reg [⟨(some 2), none, (.mv (.c .nil))⟩]) (.seq (.seq (.reg [⟨(some 6), none, (.mv (.t 0))⟩, ⟨(some 7), none, (.len false (.t 6))⟩, ⟨(some 8), none, (.bin .eql false (.t 7) (.c (.int .i64 0)))⟩]) (.cond (.t 8) (.seq (.reg [⟨(some 2), none, (.mv (.c .nil))⟩]) .ret) .skip)) (.seq (.reg [⟨(some 9), none, (.mv (.t 0))⟩, ⟨(some 10), none, (.len false (.t 9))⟩, ⟨(some 11), none, (.mkslice 31 2 40 [(.str ⟨#[]⟩), .nil] (.t 10))⟩, ⟨(some 3), none, (.mv (.t 11))⟩]) (.seq (.seq (.reg [⟨(some 12), none, (.mv (.t 0))⟩, ⟨(some 13), none, (.len false (.t 12))⟩, ⟨(some 14), none, (.mv (.c (.int .i64 0)))⟩]) (.block 0 (.loop [0, 0, 0, 1, 0, 0, 0, 0, 0, 0, 0, 0, 1, 1, 1, 0, 0, 0, 0, 0, 0, 0, 0, 0, 0, 0] (.seq (.reg [⟨(some 15), none, (.bin .lss false (.t 14) (.t 13))⟩]) (.seq (.cond (.t 15) .skip (.exit 0)) (.seq (.block 1 (.seq (.reg [⟨(some 16), none, (.mv (.t 14))⟩, ⟨(some 17), none, (.iaddr 2 (.t 12) (.t 14))⟩, ⟨(some 18), none, (.load true 2 (.t 17))⟩, ⟨(some 5), none, (.alloc 31 [(.str ⟨#[]⟩), .nil])⟩, ⟨(some 4), none, (.mv (.t 16))⟩, ⟨none, none, (.store 2 (.t 5) (.t 18))⟩]) (.reg [⟨(some 19), none, (.mv (.t 3))⟩, ⟨(some 20), none, (.mv (.t 4))⟩, ⟨(some 21), none, (.load true 2 (.t 5))⟩, ⟨(some 22), none, (.call 119 [(.t 21)])⟩, ⟨(some 23), none, (.iaddr 2 (.t 19) (.t 20))⟩, ⟨none, none, (.store 2 (.t 23) (.t 22))⟩]))) (.reg [⟨(some 24), none, (.bin .add false (.t 14) (.c (.int .i64 1)))⟩, ⟨(some 14), none, (.mv (.t 24))⟩]))))))) (.seq (.reg [⟨(some 25), none, (.mv (.t 3))⟩, ⟨(some 2), none, (.mv (.t 25))⟩]) .ret)))))
theorem k_impl_copyTerms : codeOf Tryz.prog 140 = some ⟨26, c_impl_copyTerms, [(.tmp 2)]⟩ := by kernel_rfl
theorem m_impl_copyTerms : modes 140 = ⟨[], .own [some (31, 2)], none, false⟩ := by unfold modes; rfl

def c_impl_copyTerm : SC := (.seq (.reg [⟨(some 1), none, (.boxv 31 2 (.t 0))⟩, ⟨(some 2), none, (.alloc 31 [(.str ⟨#[]⟩), .nil])⟩]) (.seq (.dreg [[], [0], [], [2], [3, 2], [1, 0, 4, 3, 2], [5, 1, 0, 4, 3, 2]] [⟨(some 3), none, (.faddr 0 (.t 1))⟩, ⟨(some 4), none, (.load false 1 (.t 3))⟩, ⟨(some 5), none, (.faddr 1 (.t 1))⟩, ⟨(some 6), none, (.load false 1 (.t 5))⟩, ⟨(some 7), none, (.call 140 [(.t 6)])⟩, ⟨(some 8), none, (.build [(.str ⟨#[]⟩), .nil] [(0, (1, (.t 4))), (1, (1, (.t 7)))])⟩, ⟨none, none, (.store 2 (.t 2) (.t 8))⟩]) .ret))
theorem k_impl_copyTerm : codeOf Tryz.prog 119 = some ⟨9, c_impl_copyTerm, [(.cell 2 true 2)]⟩ := by kernel_rfl
theorem m_impl_copyTerm : modes 119 = ⟨[], .asis, none, false⟩ := by unfold modes; rfl

def c_spec_l2Own : SC := (.seq (.reg [⟨(some 1), none, (.boxv 31 2 (.t 0))⟩, ⟨(some 2), none, (.alloc 31 [(.str ⟨#[]⟩), .nil])⟩]) (.seq (.reg [⟨(some 5), none, (.faddr 0 (.t 1))⟩, ⟨(some 6), none, (.load false 1 (.t 5))⟩, ⟨(some 7), none, (.build [(.str ⟨#[]⟩), .nil] [(0, (1, (.t 6)))])⟩, ⟨(some 3), none, (.alloc 31 [(.str ⟨#[]⟩), .nil])⟩, ⟨none, none, (.store 2 (.t 3) (.t 7))⟩]) (.seq (.seq (.reg [⟨(some 4), none, (.mv (.c (.int .i64 0)))⟩]) (.block 0 (.loop [0, 1, 1, 1, 1, 0, 0, 0, 0, 0, 0, 0, 0, 0, 0, 0, 0, 0, 0, 0, 0, 0, 0, 0, 0, 0, 0] (.seq (.seq (.reg [⟨(some 8), none, (.mv (.t 4))⟩, ⟨(some 9), none, (.faddr 1 (.t 1))⟩, ⟨(some 10), none, (.load false 1 (.t 9))⟩, ⟨(some 11), none, (.len false (.t 10))⟩, ⟨(some 12), none, (.bin .lss false (.t 8) (.t 11))⟩]) (.cond (.t 12) .skip (.exit 0))) (.seq (.block 1 (.dreg [[], [0], [], [2], [], [3, 2, 4], [5, 3, 2, 4], [6, 5, 3, 2, 4], [7, 6, 5, 3, 2, 4], [1, 0, 8, 7, 6, 5, 3, 2, 4], [0, 1, 2, 3, 4, 5, 6, 7, 8, 9], [10, 0, 1, 2, 3, 4, 5, 6, 7, 8, 9]] [⟨(some 15), none, (.faddr 1 (.t 3))⟩, ⟨(some 16), none, (.load false 1 (.t 15))⟩, ⟨(some 17), none, (.faddr 1 (.t 1))⟩, ⟨(some 18), none, (.load false 1 (.t 17))⟩, ⟨(some 19), none, (.mv (.t 4))⟩, ⟨(some 20), none, (.iaddr 2 (.t 18) (.t 19))⟩, ⟨(some 21), none, (.load true 2 (.t 20))⟩, ⟨(some 22), none, (.call 89 [(.t 21)])⟩, ⟨(some 23), none, (.mkrow 31 2 [(.str ⟨#[]⟩), .nil] 1 [(0, (.t 22))])⟩, ⟨(some 24), none, (.append 31 2 40 [(.str ⟨#[]⟩), .nil] (.t 16) (.t 23))⟩, ⟨(some 25), none, (.faddr 1 (.t 3))⟩, ⟨none, none, (.store 1 (.t 25) (.t 24))⟩])) (.reg [⟨(some 13), none, (.mv (.t 4))⟩, ⟨(some 14), none, (.bin .add false (.t 13) (.c (.int .i64 1)))⟩, ⟨(some 4), none, (.mv (.t 14))⟩])))))) (.seq (.reg [⟨(some 26), none, (.load true 2 (.t 3))⟩, ⟨none, none, (.store 2 (.t 2) (.t 26))⟩]) .ret))))
theorem k_spec_l2Own : codeOf Tryz.prog 89 = some ⟨27, c_spec_l2Own, [(.cell 2 true 2)]⟩ := by kernel_rfl
theorem m_spec_l2Own : modes 89 = ⟨[], .frz, none, false⟩ := by unfold modes; rfl

set_option maxHeartbeats 1000000 in
theorem copyTerms_of (xs : List Tm) (hl : xs.length ≤ 1099511627776) (h : ∀ x ∈ xs, E 119 [x.sv] [] = some (x.osv, x.obs)) : E 140 [.arr (xs.map Tm.d)] [] = some (.ref 0, [.row 31 2 (xs.map Tm.o)]) := by
  cases xs with
  | nil =>
    refine E_walk k_impl_copyTerms m_impl_copyTerms (of_decide_eq_true rfl) ?_
    simp (disch := omega) only [c_impl_copyTerms, go_sem, go_cond, Nat.reduceAdd, Nat.reduceSub, Nat.reduceLT, Nat.reduceLeDiff, Nat.reduceEqDiff, Nat.reduceBEq, Nat.reduceBneDiff, Nat.reduceMul, ↓reduceIte, Int.reduceToNat, reduceCtorEq, Int.reduceNeg, Int.reduceAdd]
  | cons x0 xs0 =>
  generalize hxs : x0 :: xs0 = xs at *
  have hpos : 0 < xs.length := by rw [← hxs]; simp
  refine E_walk k_impl_copyTerms m_impl_copyTerms (of_decide_eq_true rfl) ?_
  simp (disch := omega) only [c_impl_copyTerms, go_sem, go_cond, Nat.reduceAdd, Nat.reduceSub, Nat.reduceLT, Nat.reduceLeDiff, Nat.reduceEqDiff, Nat.reduceBEq, Nat.reduceBneDiff, Nat.reduceMul, ↓reduceIte, Int.reduceToNat, reduceCtorEq, Int.reduceNeg, Int.reduceAdd]
  refine go_loop (α := Int) (fun a => ⟨slots 26 0 [(3, .ref 0), (12, .arr (xs.map Tm.d)), (13, .int .i64 xs.length), (14, .int .i64 a)], [.row 31 2 (fillR Tm.o [.str ⟨#[]⟩, .ow []] xs a.toNat)]⟩) (fun a => ∃ k : Nat, a = k ∧ k ≤ (xs).length) (fun a => (xs).length - (a).toNat) 0 ⟨0, rfl, Nat.zero_le _⟩ (by simp (disch := omega) only [go_sem, go_cond, Nat.reduceAdd, Nat.reduceSub, Nat.reduceLT, Nat.reduceLeDiff, Nat.reduceEqDiff, Nat.reduceBEq, Nat.reduceBneDiff, Nat.reduceMul, ↓reduceIte, Int.reduceToNat, reduceCtorEq, Int.reduceNeg, Int.reduceAdd, fillR_zero, Int.toNat_zero]) ?_
  rintro i ⟨k, hi, hk⟩
  have hni : i.toNat = k := by omega
  have hni1 : (i + 1).toNat = k + 1 := by omega
  rcases Nat.lt_or_ge k (xs).length with hlt | hge
  · have hg := get_at Tm.d hlt
    rw [Tm.d_eq] at hg
    have hz := fillR_get Tm.o [.str ⟨#[]⟩, .ow []] hlt
    have hc := h xs[k] (List.getElem_mem hlt)
    have hs := fillR_set Tm.o [.str ⟨#[]⟩, .ow []] hlt
    rw [Tm.o_eq] at hs
    simp (disch := omega) only [go_sem, go_cond, Nat.reduceAdd, Nat.reduceSub, Nat.reduceLT, Nat.reduceLeDiff, Nat.reduceEqDiff, Nat.reduceBEq, Nat.reduceBneDiff, Nat.reduceMul, ↓reduceIte, Int.reduceToNat, reduceCtorEq, Int.reduceNeg, Int.reduceAdd, hni, hg, hc, hz, fillR_len, m_impl_copyTerm, Tm.osv, Tm.obs]
    refine ⟨i + 1, ⟨k + 1, by omega, hlt⟩, by omega, ?_⟩
    simp (disch := omega) only [go_sem, go_cond, Nat.reduceAdd, Nat.reduceSub, Nat.reduceLT, Nat.reduceLeDiff, Nat.reduceEqDiff, Nat.reduceBEq, Nat.reduceBneDiff, Nat.reduceMul, ↓reduceIte, Int.reduceToNat, reduceCtorEq, Int.reduceNeg, Int.reduceAdd, hni1, hs]
  · obtain rfl : k = xs.length := by omega
    simp (disch := omega) only [go_sem, go_cond, Nat.reduceAdd, Nat.reduceSub, Nat.reduceLT, Nat.reduceLeDiff, Nat.reduceEqDiff, Nat.reduceBEq, Nat.reduceBneDiff, Nat.reduceMul, ↓reduceIte, Int.reduceToNat, reduceCtorEq, Int.reduceNeg, Int.reduceAdd, hni, fillR_end]
set_option maxHeartbeats 1000000 in
theorem copyTerm_of (x : Tm) (h : E 140 [.arr (x.args.map Tm.d)] [] = some (.ref 0, [.row 31 2 (x.args.map Tm.o)])) : E 119 [x.sv] [] = some (x.osv, x.obs) := by
  refine E_walk k_impl_copyTerm m_impl_copyTerm (of_decide_eq_true rfl) ?_
  simp (disch := omega) only [c_impl_copyTerm, go_sem, go_cond, Nat.reduceAdd, Nat.reduceSub, Nat.reduceLT, Nat.reduceLeDiff, Nat.reduceEqDiff, Nat.reduceBEq, Nat.reduceBneDiff, Nat.reduceMul, ↓reduceIte, Int.reduceToNat, reduceCtorEq, Int.reduceNeg, Int.reduceAdd, h, m_impl_copyTerms]
theorem copyTerm_E (x : Tm) (hn : x.nodes ≤ 1099511627776) : E 119 [x.sv] [] = some (x.osv, x.obs) :=
  copyTerm_of x (copyTerms_of x.args (by have := Tm.nodes_eq x; have := Tm.length_le x.args; omega) fun y hy => copyTerm_E y (by have := Tm.nodes_mem hy; have := Tm.nodes_eq x; omega))
termination_by SizeOf.sizeOf x
decreasing_by exact Tm.lt_of_mem hy
end Go.Proofs.YtjgnhifkcgpmjaaGreat

set_option maxRecDepth 100000
set_option linter.unusedSimpArgs false
set_option linter.unusedVariables false
namespace Go.Proofs.YtjgnhifkcgpmjaaGreat
open Go.RowKit

/-- A run ends so that Q is true of its answer. -/
def finQ (res : RM) (n0 : Nat) (rs : List RX) (Q : SV × List Ob → Prop) (x : X) (st : St) : Prop := ∃ out, finK res n0 rs out x st ∧ Q out
theorem exq {α : Type} {a : α} {Q : α → Prop} : (∃ out, some a = some out ∧ Q out) = Q a := propext ⟨fun ⟨o, h, q⟩ => by obtain rfl := Option.some.inj h; exact q, fun q => ⟨a, rfl, q⟩⟩
theorem finQ_r {res : RM} {n0 : Nat} {rs : List RX} {Q : SV × List Ob → Prop} {sl : List SV} {ob : List Ob} : finQ res n0 rs Q .ret ⟨sl, ob⟩ = ∃ out, resF1 res n0 ob (resV ⟨sl, ob⟩ rs) = some out ∧ Q out := rfl
theorem finQ_n {res : RM} {n0 : Nat} {rs : List RX} {Q : SV × List Ob → Prop} {sl : List SV} {ob : List Ob} : finQ res n0 rs Q .normal ⟨sl, ob⟩ = ∃ out, resF1 res n0 ob (resV ⟨sl, ob⟩ rs) = some out ∧ Q out := rfl
theorem E_walkQ {f : FuncId} {fc : FC} {hand : List Bool} {res : RM} {tr : Bool} {xs : List SV} {ob : List Ob} {Q : SV × List Ob → Prop} (hc : codeOf Tryz.prog f = some fc) (hr : modes f = ⟨hand, res, none, tr⟩) (hn : xs.length ≤ fc.nt) (h : go ob.length fc.sc ⟨xs ++ anys (fc.nt - xs.length), entry tr ob⟩ (finQ res ob.length fc.rs Q)) : ∃ out, E f xs ob = some out ∧ Q out := by
  obtain ⟨x, st', h1, out, h2, h3⟩ := h
  exact ⟨out, E_walk hc hr hn ⟨x, st', h1, h2⟩, h3⟩
attribute [go_sem] finQ_r finQ_n exq
/-- A term whose arguments are shared, as an element of a row of one's own. -/
def Tm.osh (x : Tm) : List OT := [.str x.name, .sh (x.args.map Tm.d)]
theorem Tm.osh_eq (x : Tm) : x.osh = [.str x.name, .sh (x.args.map Tm.d)] := rfl
theorem Tm.osh_full : ∀ xs : List Tm, OT.fullss (xs.map Tm.osh) = true
  | [] => rfl
  | x :: xs => by rw [List.map_cons, Tm.osh_eq]; simp [OT.fullss, OT.fulls, OT.full, Tm.osh_full xs]
theorem Tm.osh_er : ∀ xs : List Tm, OT.erss (xs.map Tm.osh) = xs.map Tm.d
  | [] => rfl
  | x :: xs => by rw [List.map_cons, List.map_cons, Tm.osh_eq, Tm.d_eq]; simp [OT.erss, OT.ers, OT.er, Tm.osh_er xs]
theorem map_snoc {α β : Type} (f : α → β) {xs : List α} {k : Nat} (h : k < xs.length) : (xs.take k).map f ++ [f xs[k]] = (xs.take (k + 1)).map f := by
  rw [List.take_succ_eq_append_getElem h, List.map_append]; rfl
end Go.Proofs.YtjgnhifkcgpmjaaGreat

set_option maxRecDepth 100000
set_option linter.unusedSimpArgs false
set_option linter.unusedVariables false
namespace Go.Proofs.YtjgnhifkcgpmjaaGreat
open Go.RowKit

set_option maxHeartbeats 2000000 in
theorem l2Own_of (x : Tm) (hn : x.nodes ≤ 1099511627776) (ih : ∀ y ∈ x.args, E 89 [y.sv] [] = some (y.sv, [])) : E 89 [x.sv] [] = some (x.sv, []) := by
  have hl := Tm.length_le x.args
  have hne := Tm.nodes_eq x
  have h10 : ((1 : Int) = 0) = False := by simp
  have hfu := Tm.osh_full x.args
  have her := Tm.osh_er x.args
  refine E_walk k_spec_l2Own m_spec_l2Own (of_decide_eq_true rfl) ?_
  simp (disch := omega) only [c_spec_l2Own, go_sem, go_cond, Nat.reduceAdd, Nat.reduceSub, Nat.reduceLT, Nat.reduceLeDiff, Nat.reduceEqDiff, Nat.reduceBEq, Nat.reduceBneDiff, Nat.reduceMul, ↓reduceIte, Int.reduceToNat, reduceCtorEq, Int.reduceNeg, Int.reduceAdd]
  refine go_loop (α := Int) (fun a => ⟨slots 27 0 [(1, .ptr 0 0), (2, .ptr 1 0), (3, .ptr 2 0), (4, .int .i64 a)], (if a = 0 then [.box 31 [.str x.name, .arr (x.args.map Tm.d)], .box 31 [.str ⟨#[]⟩, .nil], .box 31 [.str x.name, .nil]] else [.box 31 [.str x.name, .arr (x.args.map Tm.d)], .box 31 [.str ⟨#[]⟩, .nil], .box 31 [.str x.name, .ref 3], .row 31 2 ((x.args.take a.toNat).map Tm.osh)])⟩) (fun a => ∃ k : Nat, a = k ∧ k ≤ (x.args).length) (fun a => (x.args).length - (a).toNat) 0 ⟨0, rfl, Nat.zero_le _⟩ (by simp (disch := omega) only [go_sem, go_cond, Nat.reduceAdd, Nat.reduceSub, Nat.reduceLT, Nat.reduceLeDiff, Nat.reduceEqDiff, Nat.reduceBEq, Nat.reduceBneDiff, Nat.reduceMul, ↓reduceIte, Int.reduceToNat, reduceCtorEq, Int.reduceNeg, Int.reduceAdd, eq_self, if_true]) ?_
  rintro i ⟨k, hi, hk⟩
  have hni : i.toNat = k := by omega
  have hni1 : (i + 1).toNat = k + 1 := by omega
  rcases Nat.lt_or_ge k (x.args).length with hlt | hge
  · have hg := get_at Tm.d hlt
    rw [Tm.d_eq] at hg
    have hc := ih x.args[k] (List.getElem_mem hlt)
    have hs := map_snoc Tm.osh hlt
    rw [Tm.osh_eq] at hs
    rcases Nat.eq_zero_or_pos k with h0 | h0
    · subst h0
      obtain rfl : i = 0 := hi
      rw [List.take_zero, List.map_nil, List.nil_append] at hs
      simp (disch := omega) only [go_sem, go_cond, Nat.reduceAdd, Nat.reduceSub, Nat.reduceLT, Nat.reduceLeDiff, Nat.reduceEqDiff, Nat.reduceBEq, Nat.reduceBneDiff, Nat.reduceMul, ↓reduceIte, Int.reduceToNat, reduceCtorEq, Int.reduceNeg, Int.reduceAdd, hni, hg, hc, m_spec_l2Own, eq_self, if_true]
      refine ⟨1, ⟨1, rfl, hlt⟩, by omega, ?_⟩
      simp (disch := omega) only [go_sem, go_cond, Nat.reduceAdd, Nat.reduceSub, Nat.reduceLT, Nat.reduceLeDiff, Nat.reduceEqDiff, Nat.reduceBEq, Nat.reduceBneDiff, Nat.reduceMul, ↓reduceIte, Int.reduceToNat, reduceCtorEq, Int.reduceNeg, Int.reduceAdd, h10, if_false, hs]
    · have hi0 : (i = 0) = False := by simp; omega
      have hi1 : (i + 1 = 0) = False := by simp; omega
      have htl : (x.args.take k).length = k := by rw [List.length_take]; omega
      simp (disch := omega) only [go_sem, go_cond, Nat.reduceAdd, Nat.reduceSub, Nat.reduceLT, Nat.reduceLeDiff, Nat.reduceEqDiff, Nat.reduceBEq, Nat.reduceBneDiff, Nat.reduceMul, ↓reduceIte, Int.reduceToNat, reduceCtorEq, Int.reduceNeg, Int.reduceAdd, hni, hg, hc, m_spec_l2Own, hi0, if_false, htl]
      refine ⟨i + 1, ⟨k + 1, by omega, hlt⟩, by omega, ?_⟩
      simp (disch := omega) only [go_sem, go_cond, Nat.reduceAdd, Nat.reduceSub, Nat.reduceLT, Nat.reduceLeDiff, Nat.reduceEqDiff, Nat.reduceBEq, Nat.reduceBneDiff, Nat.reduceMul, ↓reduceIte, Int.reduceToNat, reduceCtorEq, Int.reduceNeg, Int.reduceAdd, hni1, hi1, if_false, hs]
  · obtain rfl : k = x.args.length := by omega
    have ht : x.args.take x.args.length = x.args := List.take_length
    rcases Nat.eq_zero_or_pos x.args.length with h0 | h0
    · have hx : x.args = [] := List.eq_nil_of_length_eq_zero h0
      obtain rfl : i = 0 := by omega
      simp (disch := omega) only [go_sem, go_cond, Nat.reduceAdd, Nat.reduceSub, Nat.reduceLT, Nat.reduceLeDiff, Nat.reduceEqDiff, Nat.reduceBEq, Nat.reduceBneDiff, Nat.reduceMul, ↓reduceIte, Int.reduceToNat, reduceCtorEq, Int.reduceNeg, Int.reduceAdd, hni, hx, eq_self, if_true, List.map_nil, List.length_nil]
    · have hi0 : (i = 0) = False := by simp; omega
      simp (disch := omega) only [go_sem, go_cond, Nat.reduceAdd, Nat.reduceSub, Nat.reduceLT, Nat.reduceLeDiff, Nat.reduceEqDiff, Nat.reduceBEq, Nat.reduceBneDiff, Nat.reduceMul, ↓reduceIte, Int.reduceToNat, reduceCtorEq, Int.reduceNeg, Int.reduceAdd, hni, hi0, if_false, ht, hfu, her]
theorem l2Own_E (x : Tm) (hn : x.nodes ≤ 1099511627776) : E 89 [x.sv] [] = some (x.sv, []) :=
  l2Own_of x hn fun y hy => l2Own_E y (by have := Tm.nodes_mem hy; have := Tm.nodes_eq x; omega)
termination_by SizeOf.sizeOf x
decreasing_by exact Tm.lt_of_mem hy
end Go.Proofs.YtjgnhifkcgpmjaaGreat

set_option maxRecDepth 100000
set_option linter.unusedSimpArgs false
set_option linter.unusedVariables false
namespace Go.Proofs.YtjgnhifkcgpmjaaGreat
open Go.RowKit

def Fm.osh (x : Fm) : List OT := [.int x.op, .str x.atom.name, .sh (x.atom.args.map Tm.d), .str x.var, .sh (x.parts.map Fm.d)]
theorem Fm.osh_eq (x : Fm) : x.osh = [.int x.op, .str x.atom.name, .sh (x.atom.args.map Tm.d), .str x.var, .sh (x.parts.map Fm.d)] := rfl
theorem Fm.osh_full : ∀ xs : List Fm, OT.fullss (xs.map Fm.osh) = true
  | [] => rfl
  | x :: xs => by simp only [List.map_cons, OT.fullss, Fm.osh, OT.fulls, OT.full, Fm.osh_full xs, Bool.and_self]
theorem Fm.osh_er : ∀ xs : List Fm, OT.erss (xs.map Fm.osh) = xs.map Fm.d
  | [] => rfl
  | x :: xs => by simp only [List.map_cons, OT.erss, Fm.osh, OT.ers, OT.er, Fm.osh_er xs, Fm.d_eq]
theorem Fm.eta (x : Fm) : Fm.mk x.op x.atom x.var x.parts = x := by
  obtain ⟨a, b, c, d⟩ := x
  rfl
def c_impl_mapParts : SC := (.seq (.reg [⟨(some 2), none, (.boxv 34 5 (.t 0))⟩, ⟨(some 4), none, (.alloc 34 [(.int .i64 0), (.str ⟨#[]⟩), .nil, (.str ⟨#[]⟩), .nil])⟩]) (.seq (.dreg [[], [0], [], [2], [3, 2], [], [5], [1, 0, 4, 3, 2, 6, 5], [], [8, 7, 1, 0, 4, 3, 2, 6, 5]] [⟨(some 8), none, (.faddr 0 (.t 2))⟩, ⟨(some 9), none, (.load false 1 (.t 8))⟩, ⟨(some 10), none, (.faddr 1 (.t 2))⟩, ⟨(some 11), none, (.load true 2 (.t 10))⟩, ⟨(some 12), none, (.call 119 [(.t 11)])⟩, ⟨(some 13), none, (.faddr 3 (.t 2))⟩, ⟨(some 14), none, (.load false 1 (.t 13))⟩, ⟨(some 15), none, (.build [(.int .i64 0), (.str ⟨#[]⟩), .nil, (.str ⟨#[]⟩), .nil] [(0, (1, (.t 9))), (1, (2, (.t 12))), (3, (1, (.t 14)))])⟩, ⟨(some 5), none, (.alloc 34 [(.int .i64 0), (.str ⟨#[]⟩), .nil, (.str ⟨#[]⟩), .nil])⟩, ⟨none, none, (.store 5 (.t 5) (.t 15))⟩]) (.seq (.seq (.reg [⟨(some 16), none, (.faddr 4 (.t 2))⟩, ⟨(some 17), none, (.load false 1 (.t 16))⟩, ⟨(some 18), none, (.len false (.t 17))⟩, ⟨(some 19), none, (.mv (.c (.int .i64 0)))⟩]) (.block 0 (.loop [0, 1, 0, 0, 1, 1, 0, 0, 0, 0, 0, 0, 0, 0, 0, 0, 0, 1, 1, 1, 0, 0, 0, 0, 0, 0, 0, 0, 0, 0, 0, 0, 0] (.seq (.reg [⟨(some 20), none, (.bin .lss false (.t 19) (.t 18))⟩]) (.seq (.cond (.t 20) .skip (.exit 0)) (.seq (.block 1 (.seq (.reg [⟨(some 21), none, (.iaddr 5 (.t 17) (.t 19))⟩, ⟨(some 22), none, (.load true 5 (.t 21))⟩, ⟨(some 7), none, (.alloc 34 [(.int .i64 0), (.str ⟨#[]⟩), .nil, (.str ⟨#[]⟩), .nil])⟩, ⟨none, none, (.store 5 (.t 7) (.t 22))⟩]) (.dreg [[], [0], [], [], [2, 3], [4, 2, 3], [1, 0, 5, 4, 2, 3], [0, 1, 2, 3, 4, 5, 6], [7, 0, 1, 2, 3, 4, 5, 6]] [⟨(some 23), none, (.faddr 4 (.t 5))⟩, ⟨(some 24), none, (.load false 1 (.t 23))⟩, ⟨(some 25), none, (.mv (.t 1))⟩, ⟨(some 26), none, (.load true 5 (.t 7))⟩, ⟨(some 27), none, (.callv (.t 25) [(.t 26)])⟩, ⟨(some 28), none, (.mkrow 34 5 [(.int .i64 0), (.str ⟨#[]⟩), .nil, (.str ⟨#[]⟩), .nil] 1 [(0, (.t 27))])⟩, ⟨(some 29), none, (.append 34 5 88 [(.int .i64 0), (.str ⟨#[]⟩), .nil, (.str ⟨#[]⟩), .nil] (.t 24) (.t 28))⟩, ⟨(some 30), none, (.faddr 4 (.t 5))⟩, ⟨none, none, (.store 1 (.t 30) (.t 29))⟩]))) (.reg [⟨(some 31), none, (.bin .add false (.t 19) (.c (.int .i64 1)))⟩, ⟨(some 19), none, (.mv (.t 31))⟩]))))))) (.seq (.reg [⟨(some 32), none, (.load true 5 (.t 5))⟩, ⟨none, none, (.store 5 (.t 4) (.t 32))⟩]) .ret))))
theorem k_impl_mapParts : codeOf Tryz.prog 84 = some ⟨33, c_impl_mapParts, [(.cell 4 true 5)]⟩ := by kernel_rfl
theorem m_impl_mapParts : modes 84 = ⟨[], .own [none, none, some (31, 2), none, some (34, 5)], none, false⟩ := by unfold modes; rfl

def c_impl_copyFormula : SC := (.seq (.reg [⟨(some 1), none, (.boxv 34 5 (.t 0))⟩, ⟨(some 2), none, (.alloc 34 [(.int .i64 0), (.str ⟨#[]⟩), .nil, (.str ⟨#[]⟩), .nil])⟩]) (.seq (.reg [⟨(some 3), none, (.load true 5 (.t 1))⟩, ⟨(some 4), none, (.call 84 [(.t 3), (.c (.fn 60 []))])⟩, ⟨none, none, (.store 5 (.t 2) (.t 4))⟩]) .ret))
theorem k_impl_copyFormula : codeOf Tryz.prog 60 = some ⟨5, c_impl_copyFormula, [(.cell 2 true 5)]⟩ := by kernel_rfl
theorem m_impl_copyFormula : modes 60 = ⟨[], .own [none, none, some (31, 2), none, some (34, 5)], none, false⟩ := by unfold modes; rfl

theorem g_impl_copyFormula : goFn Tryz.prog 60 = true := by kernel_rfl

def c_spec_l8Own : SC := (.seq (.reg [⟨(some 1), none, (.boxv 34 5 (.t 0))⟩, ⟨(some 2), none, (.alloc 34 [(.int .i64 0), (.str ⟨#[]⟩), .nil, (.str ⟨#[]⟩), .nil])⟩]) (.seq (.dreg [[], [0], [], [2], [3, 2], [], [5], [1, 0, 4, 3, 2, 6, 5], [], [8, 7, 1, 0, 4, 3, 2, 6, 5]] [⟨(some 5), none, (.faddr 0 (.t 1))⟩, ⟨(some 6), none, (.load false 1 (.t 5))⟩, ⟨(some 7), none, (.faddr 1 (.t 1))⟩, ⟨(some 8), none, (.load true 2 (.t 7))⟩, ⟨(some 9), none, (.call 89 [(.t 8)])⟩, ⟨(some 10), none, (.faddr 3 (.t 1))⟩, ⟨(some 11), none, (.load false 1 (.t 10))⟩, ⟨(some 12), none, (.build [(.int .i64 0), (.str ⟨#[]⟩), .nil, (.str ⟨#[]⟩), .nil] [(0, (1, (.t 6))), (1, (2, (.t 9))), (3, (1, (.t 11)))])⟩, ⟨(some 3), none, (.alloc 34 [(.int .i64 0), (.str ⟨#[]⟩), .nil, (.str ⟨#[]⟩), .nil])⟩, ⟨none, none, (.store 5 (.t 3) (.t 12))⟩]) (.seq (.seq (.reg [⟨(some 4), none, (.mv (.c (.int .i64 0)))⟩]) (.block 0 (.loop [0, 1, 1, 1, 1, 0, 0, 0, 0, 0, 0, 0, 0, 0, 0, 0, 0, 0, 0, 0, 0, 0, 0, 0, 0, 0, 0, 0, 0, 0, 0, 0] (.seq (.seq (.reg [⟨(some 13), none, (.mv (.t 4))⟩, ⟨(some 14), none, (.faddr 4 (.t 1))⟩, ⟨(some 15), none, (.load false 1 (.t 14))⟩, ⟨(some 16), none, (.len false (.t 15))⟩, ⟨(some 17), none, (.bin .lss false (.t 13) (.t 16))⟩]) (.cond (.t 17) .skip (.exit 0))) (.seq (.block 1 (.dreg [[], [0], [], [2], [], [3, 2, 4], [5, 3, 2, 4], [6, 5, 3, 2, 4], [7, 6, 5, 3, 2, 4], [1, 0, 8, 7, 6, 5, 3, 2, 4], [0, 1, 2, 3, 4, 5, 6, 7, 8, 9], [10, 0, 1, 2, 3, 4, 5, 6, 7, 8, 9]] [⟨(some 20), none, (.faddr 4 (.t 3))⟩, ⟨(some 21), none, (.load false 1 (.t 20))⟩, ⟨(some 22), none, (.faddr 4 (.t 1))⟩, ⟨(some 23), none, (.load false 1 (.t 22))⟩, ⟨(some 24), none, (.mv (.t 4))⟩, ⟨(some 25), none, (.iaddr 5 (.t 23) (.t 24))⟩, ⟨(some 26), none, (.load true 5 (.t 25))⟩, ⟨(some 27), none, (.call 56 [(.t 26)])⟩, ⟨(some 28), none, (.mkrow 34 5 [(.int .i64 0), (.str ⟨#[]⟩), .nil, (.str ⟨#[]⟩), .nil] 1 [(0, (.t 27))])⟩, ⟨(some 29), none, (.append 34 5 88 [(.int .i64 0), (.str ⟨#[]⟩), .nil, (.str ⟨#[]⟩), .nil] (.t 21) (.t 28))⟩, ⟨(some 30), none, (.faddr 4 (.t 3))⟩, ⟨none, none, (.store 1 (.t 30) (.t 29))⟩])) (.reg [⟨(some 18), none, (.mv (.t 4))⟩, ⟨(some 19), none, (.bin .add false (.t 18) (.c (.int .i64 1)))⟩, ⟨(some 4), none, (.mv (.t 19))⟩])))))) (.seq (.reg [⟨(some 31), none, (.load true 5 (.t 3))⟩, ⟨none, none, (.store 5 (.t 2) (.t 31))⟩]) .ret))))
theorem k_spec_l8Own : codeOf Tryz.prog 56 = some ⟨32, c_spec_l8Own, [(.cell 2 true 5)]⟩ := by kernel_rfl
theorem m_spec_l8Own : modes 56 = ⟨[], .frz, none, false⟩ := by unfold modes; rfl

set_option maxHeartbeats 4000000 in
theorem mapParts_of (fid : Nat) (g : Fm → Fm) (x : Fm) (hl : x.parts.length ≤ 1099511627776) (hat : x.atom.nodes ≤ 1099511627776) (hg : goFn Tryz.prog fid = true) (hm : (modes fid).hand = []) (hr : ∀ r, lateF (modes fid).res r = r) (hE : ∀ y ∈ x.parts, E fid [y.sv] [] = some ((g y).osv, (g y).obs)) : E 84 [x.sv, .fn fid []] [] = some ((Fm.mk x.op x.atom x.var (x.parts.map g)).osv, (Fm.mk x.op x.atom x.var (x.parts.map g)).obs) := by
  have hct := copyTerm_E x.atom hat
  have h10 : ((1 : Int) = 0) = False := by simp
  have hmm : ∀ ys : List Fm, (ys.map g).map Fm.o = ys.map fun y => Fm.o (g y) := fun ys => by rw [List.map_map]; rfl
  show _ = some (SV.agg [.int .i64 x.op, .str x.atom.name, .ref 0, .str x.var, .ref 1], [Ob.row 31 2 (x.atom.args.map Tm.o), .row 34 5 ((x.parts.map g).map Fm.o)])
  rw [hmm]
  refine E_walk k_impl_mapParts m_impl_mapParts (of_decide_eq_true rfl) ?_
  simp (disch := omega) only [c_impl_mapParts, go_sem, go_cond, Nat.reduceAdd, Nat.reduceSub, Nat.reduceLT, Nat.reduceLeDiff, Nat.reduceEqDiff, Nat.reduceBEq, Nat.reduceBneDiff, Nat.reduceMul, ↓reduceIte, Int.reduceToNat, reduceCtorEq, Int.reduceNeg, Int.reduceAdd, hct, m_impl_copyTerm, Tm.osv, Tm.obs]
  refine go_loop (α := Int) (fun a => ⟨slots 33 0 [(1, .fn fid []), (4, .ptr 0 0), (5, .ptr 1 0), (17, .arr (x.parts.map Fm.d)), (18, .int .i64 x.parts.length), (19, .int .i64 a)], (if a = 0 then [.box 34 [.int .i64 0, .str ⟨#[]⟩, .nil, .str ⟨#[]⟩, .nil], .box 34 [.int .i64 x.op, .str x.atom.name, .ref 2, .str x.var, .nil], .row 31 2 (x.atom.args.map Tm.o)] else [.box 34 [.int .i64 0, .str ⟨#[]⟩, .nil, .str ⟨#[]⟩, .nil], .box 34 [.int .i64 x.op, .str x.atom.name, .ref 2, .str x.var, .ref 3], .row 31 2 (x.atom.args.map Tm.o), .row 34 5 ((x.parts.take a.toNat).map fun y => Fm.o (g y))])⟩) (fun a => ∃ k : Nat, a = k ∧ k ≤ (x.parts).length) (fun a => (x.parts).length - (a).toNat) 0 ⟨0, rfl, Nat.zero_le _⟩ (by simp (disch := omega) only [go_sem, go_cond, Nat.reduceAdd, Nat.reduceSub, Nat.reduceLT, Nat.reduceLeDiff, Nat.reduceEqDiff, Nat.reduceBEq, Nat.reduceBneDiff, Nat.reduceMul, ↓reduceIte, Int.reduceToNat, reduceCtorEq, Int.reduceNeg, Int.reduceAdd, eq_self, if_true]) ?_
  rintro i ⟨k, hi, hk⟩
  have hni : i.toNat = k := by omega
  have hni1 : (i + 1).toNat = k + 1 := by omega
  rcases Nat.lt_or_ge k (x.parts).length with hlt | hge
  · have hgt := get_at Fm.d hlt
    rw [Fm.d_eq] at hgt
    have hc := hE x.parts[k] (List.getElem_mem hlt)
    have hs := map_snoc (fun y => Fm.o (g y)) hlt
    rw [Fm.o_eq] at hs
    rcases Nat.eq_zero_or_pos k with h0 | h0
    · subst h0
      obtain rfl : i = 0 := hi
      rw [List.take_zero, List.map_nil, List.nil_append] at hs
      simp (disch := omega) only [go_sem, go_cond, Nat.reduceAdd, Nat.reduceSub, Nat.reduceLT, Nat.reduceLeDiff, Nat.reduceEqDiff, Nat.reduceBEq, Nat.reduceBneDiff, Nat.reduceMul, ↓reduceIte, Int.reduceToNat, reduceCtorEq, Int.reduceNeg, Int.reduceAdd, hni, hgt, hc, hg, hm, hr, Fm.osv, Fm.obs, eq_self, if_true]
      refine ⟨1, ⟨1, rfl, hlt⟩, by omega, ?_⟩
      simp (disch := omega) only [go_sem, go_cond, Nat.reduceAdd, Nat.reduceSub, Nat.reduceLT, Nat.reduceLeDiff, Nat.reduceEqDiff, Nat.reduceBEq, Nat.reduceBneDiff, Nat.reduceMul, ↓reduceIte, Int.reduceToNat, reduceCtorEq, Int.reduceNeg, Int.reduceAdd, h10, if_false, hs]
    · have hi0 : (i = 0) = False := by simp; omega
      have hi1 : (i + 1 = 0) = False := by simp; omega
      have htl : (x.parts.take k).length = k := by rw [List.length_take]; omega
      simp (disch := omega) only [go_sem, go_cond, Nat.reduceAdd, Nat.reduceSub, Nat.reduceLT, Nat.reduceLeDiff, Nat.reduceEqDiff, Nat.reduceBEq, Nat.reduceBneDiff, Nat.reduceMul, ↓reduceIte, Int.reduceToNat, reduceCtorEq, Int.reduceNeg, Int.reduceAdd, hni, hgt, hc, hg, hm, hr, Fm.osv, Fm.obs, hi0, if_false, htl]
      refine ⟨i + 1, ⟨k + 1, by omega, hlt⟩, by omega, ?_⟩
      simp (disch := omega) only [go_sem, go_cond, Nat.reduceAdd, Nat.reduceSub, Nat.reduceLT, Nat.reduceLeDiff, Nat.reduceEqDiff, Nat.reduceBEq, Nat.reduceBneDiff, Nat.reduceMul, ↓reduceIte, Int.reduceToNat, reduceCtorEq, Int.reduceNeg, Int.reduceAdd, hni1, hi1, if_false, hs]
  · obtain rfl : k = x.parts.length := by omega
    have ht : x.parts.take x.parts.length = x.parts := List.take_length
    rcases Nat.eq_zero_or_pos x.parts.length with h0 | h0
    · have hx : x.parts = [] := List.eq_nil_of_length_eq_zero h0
      obtain rfl : i = 0 := by omega
      simp (disch := omega) only [go_sem, go_cond, Nat.reduceAdd, Nat.reduceSub, Nat.reduceLT, Nat.reduceLeDiff, Nat.reduceEqDiff, Nat.reduceBEq, Nat.reduceBneDiff, Nat.reduceMul, ↓reduceIte, Int.reduceToNat, reduceCtorEq, Int.reduceNeg, Int.reduceAdd, hni, hx, eq_self, if_true, List.map_nil, List.length_nil]
    · have hi0 : (i = 0) = False := by simp; omega
      simp (disch := omega) only [go_sem, go_cond, Nat.reduceAdd, Nat.reduceSub, Nat.reduceLT, Nat.reduceLeDiff, Nat.reduceEqDiff, Nat.reduceBEq, Nat.reduceBneDiff, Nat.reduceMul, ↓reduceIte, Int.reduceToNat, reduceCtorEq, Int.reduceNeg, Int.reduceAdd, hni, hi0, if_false, ht]
theorem copyFormula_of (x : Fm) (ht : x.tame) (hn : x.nodes ≤ 1099511627776) (ih : ∀ y ∈ x.parts, E 60 [y.sv] [] = some (y.osv, y.obs)) : E 60 [x.sv] [] = some (x.osv, x.obs) := by
  have hx := Fm.nodes_eq x
  have hl := Fm.length_le x.parts
  have hat := Fm.tame_at ht
  have h := mapParts_of 60 (fun y => y) x (by omega) (by omega) g_impl_copyFormula (by rw [m_impl_copyFormula]) (fun r => by rw [m_impl_copyFormula]; rfl) ih
  rw [List.map_id', Fm.eta] at h
  refine E_walk k_impl_copyFormula m_impl_copyFormula (of_decide_eq_true rfl) ?_
  simp (disch := omega) only [c_impl_copyFormula, go_sem, go_cond, Nat.reduceAdd, Nat.reduceSub, Nat.reduceLT, Nat.reduceLeDiff, Nat.reduceEqDiff, Nat.reduceBEq, Nat.reduceBneDiff, Nat.reduceMul, ↓reduceIte, Int.reduceToNat, reduceCtorEq, Int.reduceNeg, Int.reduceAdd, h, m_impl_mapParts, Fm.osv, Fm.obs]
theorem copyFormula_E (x : Fm) (ht : x.tame) (hn : x.nodes ≤ 1099511627776) : E 60 [x.sv] [] = some (x.osv, x.obs) :=
  copyFormula_of x ht hn fun y hy => copyFormula_E y (Fm.tame_part ht hy) (by have := Fm.nodes_mem hy; have := Fm.nodes_eq x; omega)
termination_by SizeOf.sizeOf x
decreasing_by exact Fm.lt_of_mem hy
set_option maxHeartbeats 4000000 in
theorem l8Own_of (x : Fm) (ht : x.tame) (hn : x.nodes ≤ 1099511627776) (ih : ∀ y ∈ x.parts, E 56 [y.sv] [] = some (y.sv, [])) : E 56 [x.sv] [] = some (x.sv, []) := by
  have hx0 := Fm.nodes_eq x
  have hl := Fm.length_le x.parts
  have hat := Fm.tame_at ht
  have hct := l2Own_E x.atom (by omega)
  have h10 : ((1 : Int) = 0) = False := by simp
  have hfu := Fm.osh_full x.parts
  have her := Fm.osh_er x.parts
  refine E_walk k_spec_l8Own m_spec_l8Own (of_decide_eq_true rfl) ?_
  simp (disch := omega) only [c_spec_l8Own, go_sem, go_cond, Nat.reduceAdd, Nat.reduceSub, Nat.reduceLT, Nat.reduceLeDiff, Nat.reduceEqDiff, Nat.reduceBEq, Nat.reduceBneDiff, Nat.reduceMul, ↓reduceIte, Int.reduceToNat, reduceCtorEq, Int.reduceNeg, Int.reduceAdd, hct, m_spec_l2Own]
  refine go_loop (α := Int) (fun a => ⟨slots 32 0 [(1, .ptr 0 0), (2, .ptr 1 0), (3, .ptr 2 0), (4, .int .i64 a)], (if a = 0 then [.box 34 [.int .i64 x.op, .str x.atom.name, .arr (x.atom.args.map Tm.d), .str x.var, .arr (x.parts.map Fm.d)], .box 34 [.int .i64 0, .str ⟨#[]⟩, .nil, .str ⟨#[]⟩, .nil], .box 34 [.int .i64 x.op, .str x.atom.name, .arr (x.atom.args.map Tm.d), .str x.var, .nil]] else [.box 34 [.int .i64 x.op, .str x.atom.name, .arr (x.atom.args.map Tm.d), .str x.var, .arr (x.parts.map Fm.d)], .box 34 [.int .i64 0, .str ⟨#[]⟩, .nil, .str ⟨#[]⟩, .nil], .box 34 [.int .i64 x.op, .str x.atom.name, .arr (x.atom.args.map Tm.d), .str x.var, .ref 3], .row 34 5 ((x.parts.take a.toNat).map Fm.osh)])⟩) (fun a => ∃ k : Nat, a = k ∧ k ≤ (x.parts).length) (fun a => (x.parts).length - (a).toNat) 0 ⟨0, rfl, Nat.zero_le _⟩ (by simp (disch := omega) only [go_sem, go_cond, Nat.reduceAdd, Nat.reduceSub, Nat.reduceLT, Nat.reduceLeDiff, Nat.reduceEqDiff, Nat.reduceBEq, Nat.reduceBneDiff, Nat.reduceMul, ↓reduceIte, Int.reduceToNat, reduceCtorEq, Int.reduceNeg, Int.reduceAdd, eq_self, if_true]) ?_
  rintro i ⟨k, hi, hk⟩
  have hni : i.toNat = k := by omega
  have hni1 : (i + 1).toNat = k + 1 := by omega
  rcases Nat.lt_or_ge k (x.parts).length with hlt | hge
  · have hg := get_at Fm.d hlt
    rw [Fm.d_eq] at hg
    have hc := ih x.parts[k] (List.getElem_mem hlt)
    have hs := map_snoc Fm.osh hlt
    rw [Fm.osh_eq] at hs
    rcases Nat.eq_zero_or_pos k with h0 | h0
    · subst h0
      obtain rfl : i = 0 := hi
      rw [List.take_zero, List.map_nil, List.nil_append] at hs
      simp (disch := omega) only [go_sem, go_cond, Nat.reduceAdd, Nat.reduceSub, Nat.reduceLT, Nat.reduceLeDiff, Nat.reduceEqDiff, Nat.reduceBEq, Nat.reduceBneDiff, Nat.reduceMul, ↓reduceIte, Int.reduceToNat, reduceCtorEq, Int.reduceNeg, Int.reduceAdd, hni, hg, hc, m_spec_l8Own, eq_self, if_true]
      refine ⟨1, ⟨1, rfl, hlt⟩, by omega, ?_⟩
      simp (disch := omega) only [go_sem, go_cond, Nat.reduceAdd, Nat.reduceSub, Nat.reduceLT, Nat.reduceLeDiff, Nat.reduceEqDiff, Nat.reduceBEq, Nat.reduceBneDiff, Nat.reduceMul, ↓reduceIte, Int.reduceToNat, reduceCtorEq, Int.reduceNeg, Int.reduceAdd, h10, if_false, hs]
    · have hi0 : (i = 0) = False := by simp; omega
      have hi1 : (i + 1 = 0) = False := by simp; omega
      have htl : (x.parts.take k).length = k := by rw [List.length_take]; omega
      simp (disch := omega) only [go_sem, go_cond, Nat.reduceAdd, Nat.reduceSub, Nat.reduceLT, Nat.reduceLeDiff, Nat.reduceEqDiff, Nat.reduceBEq, Nat.reduceBneDiff, Nat.reduceMul, ↓reduceIte, Int.reduceToNat, reduceCtorEq, Int.reduceNeg, Int.reduceAdd, hni, hg, hc, m_spec_l8Own, hi0, if_false, htl]
      refine ⟨i + 1, ⟨k + 1, by omega, hlt⟩, by omega, ?_⟩
      simp (disch := omega) only [go_sem, go_cond, Nat.reduceAdd, Nat.reduceSub, Nat.reduceLT, Nat.reduceLeDiff, Nat.reduceEqDiff, Nat.reduceBEq, Nat.reduceBneDiff, Nat.reduceMul, ↓reduceIte, Int.reduceToNat, reduceCtorEq, Int.reduceNeg, Int.reduceAdd, hni1, hi1, if_false, hs]
  · obtain rfl : k = x.parts.length := by omega
    have ht2 : x.parts.take x.parts.length = x.parts := List.take_length
    rcases Nat.eq_zero_or_pos x.parts.length with h0 | h0
    · have hx : x.parts = [] := List.eq_nil_of_length_eq_zero h0
      obtain rfl : i = 0 := by omega
      simp (disch := omega) only [go_sem, go_cond, Nat.reduceAdd, Nat.reduceSub, Nat.reduceLT, Nat.reduceLeDiff, Nat.reduceEqDiff, Nat.reduceBEq, Nat.reduceBneDiff, Nat.reduceMul, ↓reduceIte, Int.reduceToNat, reduceCtorEq, Int.reduceNeg, Int.reduceAdd, hni, hx, eq_self, if_true, List.map_nil, List.length_nil]
    · have hi0 : (i = 0) = False := by simp; omega
      simp (disch := omega) only [go_sem, go_cond, Nat.reduceAdd, Nat.reduceSub, Nat.reduceLT, Nat.reduceLeDiff, Nat.reduceEqDiff, Nat.reduceBEq, Nat.reduceBneDiff, Nat.reduceMul, ↓reduceIte, Int.reduceToNat, reduceCtorEq, Int.reduceNeg, Int.reduceAdd, hni, hi0, if_false, ht2, hfu, her]
theorem l8Own_E (x : Fm) (ht : x.tame) (hn : x.nodes ≤ 1099511627776) : E 56 [x.sv] [] = some (x.sv, []) :=
  l8Own_of x ht hn fun y hy => l8Own_E y (Fm.tame_part ht hy) (by have := Fm.nodes_mem hy; have := Fm.nodes_eq x; omega)
termination_by SizeOf.sizeOf x
decreasing_by exact Fm.lt_of_mem hy
end Go.Proofs.YtjgnhifkcgpmjaaGreat

set_option maxRecDepth 100000
set_option linter.unusedSimpArgs false
set_option linter.unusedVariables false
namespace Go.Proofs.YtjgnhifkcgpmjaaGreat
open Go.RowKit

noncomputable def cmpB (a b : ByteArray) : Int := bif strLt a b then -1 else bif dec (a = b) then 0 else 1
noncomputable def cmpI (a b : Int) : Int := bif dec (a < b) then -1 else bif dec (b < a) then 1 else 0
def orZ (x y : Int) : Int := if x = 0 then y else x
/-! The order of terms. -/
mutual
noncomputable def Tm.cmp : Tm → Tm → Int
  | .mk n xs, y => if varB n && !varB y.name then -1 else if varB y.name && !varB n then 1 else orZ (orZ (cmpB n y.name) (cmpI xs.length y.args.length)) (Tm.cmpL xs y.args)
noncomputable def Tm.cmpL : List Tm → List Tm → Int
  | [], [] => 0
  | [], _ :: _ => -1
  | _ :: _, [] => 1
  | x :: xs, y :: ys => orZ (Tm.cmp x y) (Tm.cmpL xs ys)
end
theorem Tm.cmp_eq (x y : Tm) : x.cmp y = if varB x.name && !varB y.name then -1 else if varB y.name && !varB x.name then 1 else orZ (orZ (cmpB x.name y.name) (cmpI x.args.length y.args.length)) (Tm.cmpL x.args y.args) := by
  obtain ⟨n, xs⟩ := x
  rw [Tm.cmp]; rfl
/-- The name begins with a capital if and only if it is a variable's. -/
def nameC (s : ByteArray) : Bool := decide (0 < s.size) && (uppB (byteZ s 0) == varB s)
mutual
def Tm.cok : Tm → Bool
  | .mk n xs => nameC n && Tm.cokS xs
def Tm.cokS : List Tm → Bool
  | [] => true
  | x :: xs => Tm.cok x && Tm.cokS xs
end
theorem Tm.cok_eq (x : Tm) : x.cok = (nameC x.name && Tm.cokS x.args) := by
  obtain ⟨n, xs⟩ := x
  rw [Tm.cok]; rfl
theorem Tm.cokS_mem {xs : List Tm} (h : Tm.cokS xs = true) {y : Tm} (hy : y ∈ xs) : y.cok = true := by
  induction xs with
  | nil => cases hy
  | cons x xs ih =>
    rw [Tm.cokS, Bool.and_eq_true] at h
    rcases List.mem_cons.1 hy with rfl | hy
    · exact h.1
    · exact ih h.2 hy
theorem cmpL_drop {xs ys : List Tm} {k : Nat} (h : k < xs.length) (h' : k < ys.length) : Tm.cmpL (xs.drop k) (ys.drop k) = orZ (xs[k].cmp ys[k]) (Tm.cmpL (xs.drop (k + 1)) (ys.drop (k + 1))) := by
  rw [List.drop_eq_getElem_cons h, List.drop_eq_getElem_cons h', Tm.cmpL]
theorem cmpL_short {xs ys : List Tm} {k : Nat} (h : k < xs.length) (h' : ys.length ≤ k) : Tm.cmpL (xs.drop k) (ys.drop k) = 1 := by
  rw [List.drop_eq_getElem_cons h, List.drop_eq_nil_of_le h', Tm.cmpL]
theorem cmpL_end {xs ys : List Tm} {k : Nat} (h : xs.length ≤ k) (h' : k < ys.length) : Tm.cmpL (xs.drop k) (ys.drop k) = -1 := by
  rw [List.drop_eq_getElem_cons h', List.drop_eq_nil_of_le h, Tm.cmpL]
theorem cmpL_both {xs ys : List Tm} {k : Nat} (h : xs.length ≤ k) (h' : ys.length ≤ k) : Tm.cmpL (xs.drop k) (ys.drop k) = 0 := by
  rw [List.drop_eq_nil_of_le h', List.drop_eq_nil_of_le h, Tm.cmpL]

theorem loopB_zero {p : Nat → Int → Bool} {s : ByteArray} (h : loopB p s s.size = true) (hs : 0 < s.size) : p 0 (byteZ s 0) = true := by
  unfold loopB at h
  rw [List.all_eq_true] at h
  exact h 0 (List.mem_range.2 hs)
theorem nameC_var {s : ByteArray} (h : varB s = true) : nameC s = true := by
  have h0 := h
  unfold varB inB at h
  rw [Bool.and_eq_true, Bool.and_eq_true, decide_eq_true_eq, decide_eq_true_eq] at h
  have hs : 0 < s.size := by omega
  have h1 := loopB_zero h.1 hs
  unfold varOk at h1
  unfold nameC
  rw [h0]
  simp at h1
  simp [hs, h1]
theorem nameC_not {s : ByteArray} (hs : 0 < s.size) (h : uppB (byteZ s 0) = false) : nameC s = true := by
  have hv : varB s = false := by
    rw [Bool.eq_false_iff]
    intro hv
    unfold varB at hv
    rw [Bool.and_eq_true] at hv
    have h1 := loopB_zero hv.1 hs
    unfold varOk at h1
    rw [h] at h1
    simp at h1
  unfold nameC
  rw [hv, h]
  simp [hs]
theorem nameC_sym {s : ByteArray} (h : symB s = true) : nameC s = true := by
  unfold symB inB at h
  rw [Bool.and_eq_true, Bool.and_eq_true, Bool.and_eq_true, decide_eq_true_eq, decide_eq_true_eq] at h
  have hs : 0 < s.size := by omega
  refine nameC_not hs ?_
  have h1 := loopB_zero h.1.1 hs
  unfold symOk at h1
  simp at h1
  have h2 := h1.1
  unfold lowB at h2
  unfold uppB
  simp at h2 ⊢
  omega
theorem nameC_eqn {s : ByteArray} (h : s.toList = [61]) : nameC s = true := by
  have hs : s.size = 1 := by
    have := congrArg List.length h
    rw [ByteArray.toList_eq] at this
    simpa using this
  refine nameC_not (by omega) ?_
  unfold byteZ
  rw [h]
  rfl
mutual
theorem Tm.cok_names : ∀ x : Tm, x.names = true → x.cok = true
  | .mk n xs, h => by
    rw [Tm.names] at h
    rw [Tm.cok, Bool.and_eq_true]
    split at h
    · rename_i hv
      have : xs = [] := by
        rw [beq_iff_eq] at h
        exact List.eq_nil_of_length_eq_zero h
      subst this
      exact ⟨nameC_var hv, rfl⟩
    · rw [Bool.and_eq_true, Bool.and_eq_true] at h
      exact ⟨nameC_sym h.1.1, Tm.cokS_names xs h.2⟩
theorem Tm.cokS_names : ∀ xs : List Tm, Tm.nameS xs = true → Tm.cokS xs = true
  | [], _ => rfl
  | x :: xs, h => by
    rw [Tm.nameS, Bool.and_eq_true] at h
    rw [Tm.cokS, Bool.and_eq_true]
    exact ⟨Tm.cok_names x h.1, Tm.cokS_names xs h.2⟩
end
theorem Tm.atom_cok {x : Tm} (h : x.atom = true) : x.cok = true := by
  unfold Tm.atom at h
  rcases he : x.eqn with _ | _
  · rw [he, if_neg (by simp), Bool.and_eq_true] at h
    unfold Tm.valid at h
    rw [Bool.and_eq_true] at h
    exact Tm.cok_names x h.2.2
  · rw [he, if_pos rfl, Bool.and_eq_true, Bool.and_eq_true] at h
    unfold Tm.eqn at he
    rw [dec_iff] at he
    rw [Tm.cok_eq, Bool.and_eq_true]
    exact ⟨nameC_eqn (by rw [he, ByteArray.toList_eq]), Tm.cokS_names _ h.2⟩
theorem byteAt_eq {s : ByteArray} {k : Nat} (h : k < s.size) : byteAt s k = byteZ s k := by
  rw [← byteZ_get h]
  unfold byteAt
  rw [show s[k]? = some s[k] from getElem?_pos s k h]; rfl
theorem nameC_upp {s : ByteArray} (h : nameC s = true) : 0 < s.size ∧ (dec (65 ≤ byteAt s 0) && dec (byteAt s 0 ≤ 90)) = varB s := by
  unfold nameC at h
  rw [Bool.and_eq_true, decide_eq_true_eq, beq_iff_eq] at h
  refine ⟨h.1, ?_⟩
  rw [← h.2, byteAt_eq h.1, dec_of, dec_of]
  unfold uppB
  rfl

theorem strLt_self (a : ByteArray) : strLt a a = false := by
  unfold strLt
  have key : ∀ l : List UInt8, Op.bytesLess l l = false := by
    intro l
    induction l with
    | nil => rfl
    | cons x l ih => simp [Op.bytesLess, ih]
  exact key _
def c_cmp_isNaN_string : SC := (.seq (.reg [⟨(some 2), none, (.mv (.c (.bool false)))⟩]) (.seq (.reg [⟨(some 3), none, (.mv (.t 0))⟩, ⟨(some 4), none, (.mv (.t 0))⟩, ⟨(some 5), none, (.bin .neq false (.t 3) (.t 4))⟩, ⟨(some 2), none, (.mv (.t 5))⟩]) .ret))
theorem k_cmp_isNaN_string : codeOf Tryz.prog 160 = some ⟨6, c_cmp_isNaN_string, [(.tmp 2)]⟩ := by kernel_rfl
theorem m_cmp_isNaN_string : modes 160 = ⟨[], .asis, none, false⟩ := by unfold modes; rfl

def c_cmp_isNaN_int : SC := (.seq (.reg [⟨(some 2), none, (.mv (.c (.bool false)))⟩]) (.seq (.reg [⟨(some 3), none, (.mv (.t 0))⟩, ⟨(some 4), none, (.mv (.t 0))⟩, ⟨(some 5), none, (.bin .neq false (.t 3) (.t 4))⟩, ⟨(some 2), none, (.mv (.t 5))⟩]) .ret))
theorem k_cmp_isNaN_int : codeOf Tryz.prog 147 = some ⟨6, c_cmp_isNaN_int, [(.tmp 2)]⟩ := by kernel_rfl
theorem m_cmp_isNaN_int : modes 147 = ⟨[], .asis, none, false⟩ := by unfold modes; rfl

def c_cmp_Compare_string : SC := (.seq (.reg [⟨(some 4), none, (.mv (.c (.int .i64 0)))⟩]) (.seq (.reg [⟨(some 7), none, (.mv (.t 0))⟩, ⟨(some 8), none, (.call 160 [(.t 7)])⟩, ⟨(some 5), none, (.mv (.t 8))⟩]) (.seq (.reg [⟨(some 9), none, (.mv (.t 1))⟩, ⟨(some 10), none, (.call 160 [(.t 9)])⟩, ⟨(some 6), none, (.mv (.t 10))⟩]) (.seq (.seq (.reg [⟨(some 11), none, (.mv (.t 5))⟩]) (.cond (.t 11) (.seq (.seq (.reg [⟨(some 12), none, (.mv (.t 6))⟩]) (.cond (.t 12) (.seq (.reg [⟨(some 4), none, (.mv (.c (.int .i64 0)))⟩]) .ret) .skip)) (.seq (.reg [⟨(some 4), none, (.mv (.c (.int .i64 (-(0 + 1)))))⟩]) .ret)) .skip)) (.seq (.seq (.reg [⟨(some 13), none, (.mv (.t 6))⟩]) (.cond (.t 13) (.seq (.reg [⟨(some 4), none, (.mv (.c (.int .i64 1)))⟩]) .ret) .skip)) (.seq (.seq (.reg [⟨(some 14), none, (.mv (.t 0))⟩, ⟨(some 15), none, (.mv (.t 1))⟩, ⟨(some 16), none, (.bin .lss false (.t 14) (.t 15))⟩]) (.cond (.t 16) (.seq (.reg [⟨(some 4), none, (.mv (.c (.int .i64 (-(0 + 1)))))⟩]) .ret) .skip)) (.seq (.seq (.reg [⟨(some 17), none, (.mv (.t 0))⟩, ⟨(some 18), none, (.mv (.t 1))⟩, ⟨(some 19), none, (.bin .gtr false (.t 17) (.t 18))⟩]) (.cond (.t 19) (.seq (.reg [⟨(some 4), none, (.mv (.c (.int .i64 1)))⟩]) .ret) .skip)) (.seq (.reg [⟨(some 4), none, (.mv (.c (.int .i64 0)))⟩]) .ret))))))))
theorem k_cmp_Compare_string : codeOf Tryz.prog 143 = some ⟨20, c_cmp_Compare_string, [(.tmp 4)]⟩ := by kernel_rfl
theorem m_cmp_Compare_string : modes 143 = ⟨[], .asis, none, false⟩ := by unfold modes; rfl

def c_cmp_Compare_int : SC := (.seq (.reg [⟨(some 4), none, (.mv (.c (.int .i64 0)))⟩]) (.seq (.reg [⟨(some 7), none, (.mv (.t 0))⟩, ⟨(some 8), none, (.call 147 [(.t 7)])⟩, ⟨(some 5), none, (.mv (.t 8))⟩]) (.seq (.reg [⟨(some 9), none, (.mv (.t 1))⟩, ⟨(some 10), none, (.call 147 [(.t 9)])⟩, ⟨(some 6), none, (.mv (.t 10))⟩]) (.seq (.seq (.reg [⟨(some 11), none, (.mv (.t 5))⟩]) (.cond (.t 11) (.seq (.seq (.reg [⟨(some 12), none, (.mv (.t 6))⟩]) (.cond (.t 12) (.seq (.reg [⟨(some 4), none, (.mv (.c (.int .i64 0)))⟩]) .ret) .skip)) (.seq (.reg [⟨(some 4), none, (.mv (.c (.int .i64 (-(0 + 1)))))⟩]) .ret)) .skip)) (.seq (.seq (.reg [⟨(some 13), none, (.mv (.t 6))⟩]) (.cond (.t 13) (.seq (.reg [⟨(some 4), none, (.mv (.c (.int .i64 1)))⟩]) .ret) .skip)) (.seq (.seq (.reg [⟨(some 14), none, (.mv (.t 0))⟩, ⟨(some 15), none, (.mv (.t 1))⟩, ⟨(some 16), none, (.bin .lss false (.t 14) (.t 15))⟩]) (.cond (.t 16) (.seq (.reg [⟨(some 4), none, (.mv (.c (.int .i64 (-(0 + 1)))))⟩]) .ret) .skip)) (.seq (.seq (.reg [⟨(some 17), none, (.mv (.t 0))⟩, ⟨(some 18), none, (.mv (.t 1))⟩, ⟨(some 19), none, (.bin .gtr false (.t 17) (.t 18))⟩]) (.cond (.t 19) (.seq (.reg [⟨(some 4), none, (.mv (.c (.int .i64 1)))⟩]) .ret) .skip)) (.seq (.reg [⟨(some 4), none, (.mv (.c (.int .i64 0)))⟩]) .ret))))))))
theorem k_cmp_Compare_int : codeOf Tryz.prog 124 = some ⟨20, c_cmp_Compare_int, [(.tmp 4)]⟩ := by kernel_rfl
theorem m_cmp_Compare_int : modes 124 = ⟨[], .asis, none, false⟩ := by unfold modes; rfl

def c_cmp_Or_int : SC := (.seq (.reg [⟨(some 2), none, (.mv (.c (.int .i64 0)))⟩]) (.seq (.reg [⟨(some 3), none, (.mv (.c (.int .i64 0)))⟩]) (.seq (.seq (.reg [⟨(some 6), none, (.mv (.t 0))⟩, ⟨(some 7), none, (.len false (.t 6))⟩, ⟨(some 8), none, (.mv (.c (.int .i64 0)))⟩]) (.block 0 (.loop [0, 0, 0, 1, 0, 0, 1, 1, 1, 0, 0, 0, 0, 0, 0, 0, 0, 0] (.seq (.reg [⟨(some 9), none, (.bin .lss false (.t 8) (.t 7))⟩]) (.seq (.cond (.t 9) .skip (.exit 0)) (.seq (.block 1 (.seq (.reg [⟨(some 10), none, (.iaddr 1 (.t 6) (.t 8))⟩, ⟨(some 11), none, (.load false 1 (.t 10))⟩, ⟨(some 5), none, (.mv (.t 11))⟩]) (.seq (.reg [⟨(some 12), none, (.mv (.t 5))⟩, ⟨(some 13), none, (.mv (.t 3))⟩, ⟨(some 14), none, (.bin .neq false (.t 12) (.t 13))⟩]) (.cond (.t 14) (.seq (.reg [⟨(some 15), none, (.mv (.t 5))⟩, ⟨(some 2), none, (.mv (.t 15))⟩]) .ret) .skip)))) (.reg [⟨(some 16), none, (.bin .add false (.t 8) (.c (.int .i64 1)))⟩, ⟨(some 8), none, (.mv (.t 16))⟩]))))))) (.seq (.reg [⟨(some 17), none, (.mv (.t 3))⟩, ⟨(some 2), none, (.mv (.t 17))⟩]) .ret))))
theorem k_cmp_Or_int : codeOf Tryz.prog 122 = some ⟨18, c_cmp_Or_int, [(.tmp 2)]⟩ := by kernel_rfl
theorem m_cmp_Or_int : modes 122 = ⟨[], .asis, none, false⟩ := by unfold modes; rfl

theorem isNaNS_E (a : ByteArray) : E 160 [.str a] [] = some (.bool false, []) := by
  refine E_walk k_cmp_isNaN_string m_cmp_isNaN_string (of_decide_eq_true rfl) ?_
  simp (disch := omega) only [c_cmp_isNaN_string, go_sem, go_cond, Nat.reduceAdd, Nat.reduceSub, Nat.reduceLT, Nat.reduceLeDiff, Nat.reduceEqDiff, Nat.reduceBEq, Nat.reduceBneDiff, Nat.reduceMul, ↓reduceIte, Int.reduceToNat, reduceCtorEq, Int.reduceNeg, Int.reduceAdd]
theorem isNaNI_E (a : Int) : E 147 [.int .i64 a] [] = some (.bool false, []) := by
  refine E_walk k_cmp_isNaN_int m_cmp_isNaN_int (of_decide_eq_true rfl) ?_
  simp (disch := omega) only [c_cmp_isNaN_int, go_sem, go_cond, Nat.reduceAdd, Nat.reduceSub, Nat.reduceLT, Nat.reduceLeDiff, Nat.reduceEqDiff, Nat.reduceBEq, Nat.reduceBneDiff, Nat.reduceMul, ↓reduceIte, Int.reduceToNat, reduceCtorEq, Int.reduceNeg, Int.reduceAdd]
theorem compareS_E (a b : ByteArray) : E 143 [.str a, .str b] [] = some (.int .i64 (cmpB a b), []) := by
  have h1 := isNaNS_E a
  have h2 := isNaNS_E b
  unfold cmpB
  cases h3 : strLt a b
  · cases h4 : dec (a = b)
    · refine E_walk k_cmp_Compare_string m_cmp_Compare_string (of_decide_eq_true rfl) ?_
      simp (disch := omega) only [c_cmp_Compare_string, go_sem, go_cond, Nat.reduceAdd, Nat.reduceSub, Nat.reduceLT, Nat.reduceLeDiff, Nat.reduceEqDiff, Nat.reduceBEq, Nat.reduceBneDiff, Nat.reduceMul, ↓reduceIte, Int.reduceToNat, reduceCtorEq, Int.reduceNeg, Int.reduceAdd, h1, h2, h3, h4, m_cmp_isNaN_string]
    · refine E_walk k_cmp_Compare_string m_cmp_Compare_string (of_decide_eq_true rfl) ?_
      simp (disch := omega) only [c_cmp_Compare_string, go_sem, go_cond, Nat.reduceAdd, Nat.reduceSub, Nat.reduceLT, Nat.reduceLeDiff, Nat.reduceEqDiff, Nat.reduceBEq, Nat.reduceBneDiff, Nat.reduceMul, ↓reduceIte, Int.reduceToNat, reduceCtorEq, Int.reduceNeg, Int.reduceAdd, h1, h2, h3, h4, m_cmp_isNaN_string]
  · refine E_walk k_cmp_Compare_string m_cmp_Compare_string (of_decide_eq_true rfl) ?_
    simp (disch := omega) only [c_cmp_Compare_string, go_sem, go_cond, Nat.reduceAdd, Nat.reduceSub, Nat.reduceLT, Nat.reduceLeDiff, Nat.reduceEqDiff, Nat.reduceBEq, Nat.reduceBneDiff, Nat.reduceMul, ↓reduceIte, Int.reduceToNat, reduceCtorEq, Int.reduceNeg, Int.reduceAdd, h1, h2, h3, m_cmp_isNaN_string]
theorem compareI_E (a b : Int) : E 124 [.int .i64 a, .int .i64 b] [] = some (.int .i64 (cmpI a b), []) := by
  have h1 := isNaNI_E a
  have h2 := isNaNI_E b
  unfold cmpI
  cases h3 : dec (a < b)
  · cases h4 : dec (b < a)
    · refine E_walk k_cmp_Compare_int m_cmp_Compare_int (of_decide_eq_true rfl) ?_
      simp (disch := omega) only [c_cmp_Compare_int, go_sem, go_cond, Nat.reduceAdd, Nat.reduceSub, Nat.reduceLT, Nat.reduceLeDiff, Nat.reduceEqDiff, Nat.reduceBEq, Nat.reduceBneDiff, Nat.reduceMul, ↓reduceIte, Int.reduceToNat, reduceCtorEq, Int.reduceNeg, Int.reduceAdd, h1, h2, h3, h4, m_cmp_isNaN_int]
    · refine E_walk k_cmp_Compare_int m_cmp_Compare_int (of_decide_eq_true rfl) ?_
      simp (disch := omega) only [c_cmp_Compare_int, go_sem, go_cond, Nat.reduceAdd, Nat.reduceSub, Nat.reduceLT, Nat.reduceLeDiff, Nat.reduceEqDiff, Nat.reduceBEq, Nat.reduceBneDiff, Nat.reduceMul, ↓reduceIte, Int.reduceToNat, reduceCtorEq, Int.reduceNeg, Int.reduceAdd, h1, h2, h3, h4, m_cmp_isNaN_int]
  · refine E_walk k_cmp_Compare_int m_cmp_Compare_int (of_decide_eq_true rfl) ?_
    simp (disch := omega) only [c_cmp_Compare_int, go_sem, go_cond, Nat.reduceAdd, Nat.reduceSub, Nat.reduceLT, Nat.reduceLeDiff, Nat.reduceEqDiff, Nat.reduceBEq, Nat.reduceBneDiff, Nat.reduceMul, ↓reduceIte, Int.reduceToNat, reduceCtorEq, Int.reduceNeg, Int.reduceAdd, h1, h2, h3, m_cmp_isNaN_int]
def orL : List Int → Int
  | [] => 0
  | x :: xs => if x = 0 then orL xs else x
theorem or_E (xs : List Int) (hl : xs.length ≤ 1099511627776) : E 122 [.arr (xs.map fun n => [D.int n])] [] = some (.int .i64 (orL xs), []) := by
  refine E_walk k_cmp_Or_int m_cmp_Or_int (of_decide_eq_true rfl) ?_
  simp (disch := omega) only [c_cmp_Or_int, go_sem, go_cond, Nat.reduceAdd, Nat.reduceSub, Nat.reduceLT, Nat.reduceLeDiff, Nat.reduceEqDiff, Nat.reduceBEq, Nat.reduceBneDiff, Nat.reduceMul, ↓reduceIte, Int.reduceToNat, reduceCtorEq, Int.reduceNeg, Int.reduceAdd]
  refine go_loop (α := Int) (fun a => ⟨slots 18 0 [(3, .int .i64 0), (6, .arr (xs.map fun n => [D.int n])), (7, .int .i64 xs.length), (8, .int .i64 a)], []⟩) (fun a => ∃ k : Nat, a = k ∧ k ≤ (xs).length ∧ orL (xs.drop k) = orL xs) (fun a => (xs).length - (a).toNat) 0 ⟨0, rfl, Nat.zero_le _, by rw [List.drop_zero]⟩ (by simp (disch := omega) only [go_sem, go_cond, Nat.reduceAdd, Nat.reduceSub, Nat.reduceLT, Nat.reduceLeDiff, Nat.reduceEqDiff, Nat.reduceBEq, Nat.reduceBneDiff, Nat.reduceMul, ↓reduceIte, Int.reduceToNat, reduceCtorEq, Int.reduceNeg, Int.reduceAdd]) ?_
  rintro i ⟨k, hi, hk, hR⟩
  have hni : i.toNat = k := by omega
  have hni1 : (i + 1).toNat = k + 1 := by omega
  rcases Nat.lt_or_ge k (xs).length with hlt | hge
  · have hg := get_at (fun n => [D.int n]) hlt
    rw [List.drop_eq_getElem_cons hlt, orL] at hR
    by_cases h0 : xs[k] = 0
    · rw [if_pos h0] at hR
      simp (disch := omega) only [go_sem, go_cond, Nat.reduceAdd, Nat.reduceSub, Nat.reduceLT, Nat.reduceLeDiff, Nat.reduceEqDiff, Nat.reduceBEq, Nat.reduceBneDiff, Nat.reduceMul, ↓reduceIte, Int.reduceToNat, reduceCtorEq, Int.reduceNeg, Int.reduceAdd, hni, hg, h0]
      exact ⟨i + 1, ⟨k + 1, by omega, hlt, hR⟩, by omega, by first | trivial | rfl⟩
    · rw [if_neg h0] at hR
      simp (disch := omega) only [go_sem, go_cond, Nat.reduceAdd, Nat.reduceSub, Nat.reduceLT, Nat.reduceLeDiff, Nat.reduceEqDiff, Nat.reduceBEq, Nat.reduceBneDiff, Nat.reduceMul, ↓reduceIte, Int.reduceToNat, reduceCtorEq, Int.reduceNeg, Int.reduceAdd, hni, hg, h0]
      exact hR
  · rw [List.drop_eq_nil_of_le hge, orL] at hR
    simp (disch := omega) only [go_sem, go_cond, Nat.reduceAdd, Nat.reduceSub, Nat.reduceLT, Nat.reduceLeDiff, Nat.reduceEqDiff, Nat.reduceBEq, Nat.reduceBneDiff, Nat.reduceMul, ↓reduceIte, Int.reduceToNat, reduceCtorEq, Int.reduceNeg, Int.reduceAdd, hni]
    exact hR
theorem or2_E (a b : Int) : E 122 [.arr [[.int a], [.int b]]] [] = some (.int .i64 (orZ a b), []) := by
  have h := or_E [a, b] (by simp)
  have e : orL [a, b] = orZ a b := by
    simp only [orL, orZ]
    split
    · split <;> omega
    · rfl
  rw [e] at h
  exact h
def c_impl_isUpper : SC := (.seq (.reg [⟨(some 2), none, (.mv (.c (.bool false)))⟩]) (.seq (.reg [⟨(some 3), none, (.mv (.t 0))⟩, ⟨(some 4), none, (.bin .geq false (.t 3) (.c (.int .u8 65)))⟩, ⟨(some 5), none, (.mv (.t 4))⟩, ⟨(some 6), (some (5, true)), (.mv (.t 0))⟩, ⟨(some 7), (some (5, true)), (.bin .leq false (.t 6) (.c (.int .u8 90)))⟩, ⟨(some 8), none, (.pick (.t 5) (.t 7) (.c (.bool false)))⟩, ⟨(some 2), none, (.mv (.t 8))⟩]) .ret))
theorem k_impl_isUpper : codeOf Tryz.prog 75 = some ⟨9, c_impl_isUpper, [(.tmp 2)]⟩ := by kernel_rfl
theorem m_impl_isUpper : modes 75 = ⟨[], .asis, none, false⟩ := by unfold modes; rfl

def c_impl_isVar : SC := (.seq (.reg [⟨(some 1), none, (.boxv 31 2 (.t 0))⟩, ⟨(some 2), none, (.mv (.c (.bool false)))⟩]) (.seq (.reg [⟨(some 3), none, (.faddr 0 (.t 1))⟩, ⟨(some 4), none, (.load false 1 (.t 3))⟩, ⟨(some 5), none, (.idx (.t 4) (.c (.int .i64 0)))⟩, ⟨(some 6), none, (.call 75 [(.t 5)])⟩, ⟨(some 2), none, (.mv (.t 6))⟩]) .ret))
theorem k_impl_isVar : codeOf Tryz.prog 145 = some ⟨7, c_impl_isVar, [(.tmp 2)]⟩ := by kernel_rfl
theorem m_impl_isVar : modes 145 = ⟨[], .asis, none, false⟩ := by unfold modes; rfl

theorem isUpper_E (n : Int) : E 75 [.int .u8 n] [] = some (.bool (dec (65 ≤ n) && dec (n ≤ 90)), []) := by
  cases h1 : dec (65 ≤ n)
  · refine E_walk k_impl_isUpper m_impl_isUpper (of_decide_eq_true rfl) ?_
    simp (disch := omega) only [c_impl_isUpper, go_sem, go_cond, Nat.reduceAdd, Nat.reduceSub, Nat.reduceLT, Nat.reduceLeDiff, Nat.reduceEqDiff, Nat.reduceBEq, Nat.reduceBneDiff, Nat.reduceMul, ↓reduceIte, Int.reduceToNat, reduceCtorEq, Int.reduceNeg, Int.reduceAdd, h1]
  · refine E_walk k_impl_isUpper m_impl_isUpper (of_decide_eq_true rfl) ?_
    simp (disch := omega) only [c_impl_isUpper, go_sem, go_cond, Nat.reduceAdd, Nat.reduceSub, Nat.reduceLT, Nat.reduceLeDiff, Nat.reduceEqDiff, Nat.reduceBEq, Nat.reduceBneDiff, Nat.reduceMul, ↓reduceIte, Int.reduceToNat, reduceCtorEq, Int.reduceNeg, Int.reduceAdd, h1]
theorem isVar_E (x : Tm) (h : x.cok = true) : E 145 [x.sv] [] = some (.bool (varB x.name), []) := by
  rw [Tm.cok_eq, Bool.and_eq_true] at h
  obtain ⟨h1, h2⟩ := nameC_upp h.1
  have h3 := isUpper_E (byteAt x.name 0)
  rw [h2] at h3
  refine E_walk k_impl_isVar m_impl_isVar (of_decide_eq_true rfl) ?_
  simp (disch := omega) only [c_impl_isVar, go_sem, go_cond, Nat.reduceAdd, Nat.reduceSub, Nat.reduceLT, Nat.reduceLeDiff, Nat.reduceEqDiff, Nat.reduceBEq, Nat.reduceBneDiff, Nat.reduceMul, ↓reduceIte, Int.reduceToNat, reduceCtorEq, Int.reduceNeg, Int.reduceAdd, h3, m_impl_isUpper]
end Go.Proofs.YtjgnhifkcgpmjaaGreat

set_option maxRecDepth 100000
set_option linter.unusedSimpArgs false
set_option linter.unusedVariables false
namespace Go.Proofs.YtjgnhifkcgpmjaaGreat
open Go.RowKit

/-! Plain: the variables of a term, in the order of the text. -/
mutual
noncomputable def Tm.vs : Tm → List ByteArray
  | .mk name args => bif varB name then [name] else Tm.vsL args
noncomputable def Tm.vsL : List Tm → List ByteArray
  | [] => []
  | x :: xs => Tm.vs x ++ Tm.vsL xs
end
theorem Tm.vs_eq (x : Tm) : x.vs = bif varB x.name then [x.name] else Tm.vsL x.args := by
  obtain ⟨n, a⟩ := x
  rw [Tm.vs]; rfl
theorem Tm.vsL_mem {v : ByteArray} : ∀ {xs : List Tm}, v ∈ Tm.vsL xs ↔ ∃ x ∈ xs, v ∈ x.vs
  | [] => by simp [Tm.vsL]
  | x :: xs => by rw [Tm.vsL, List.mem_append, Tm.vsL_mem (xs := xs)]; simp
theorem Tm.vsL_len : ∀ xs : List Tm, (∀ x ∈ xs, x.vs.length ≤ x.nodes) → (Tm.vsL xs).length ≤ Tm.nodeS xs
  | [], _ => by simp [Tm.vsL]
  | x :: xs, h => by
    have h1 := h x (by simp)
    have h2 := Tm.vsL_len xs fun y hy => h y (by simp [hy])
    rw [Tm.vsL, Tm.nodeS, List.length_append]; omega
theorem Tm.vs_len (x : Tm) : x.vs.length ≤ x.nodes := by
  have h := Tm.vsL_len x.args fun y hy => Tm.vs_len y
  rw [Tm.vs_eq, Tm.nodes_eq]
  cases varB x.name with
  | true => simp
  | false => simp only [cond_false]; omega
termination_by SizeOf.sizeOf x
decreasing_by exact Tm.lt_of_mem hy
/-- A name put behind a list, unless it is there. -/
noncomputable def addU (l : List ByteArray) (n : ByteArray) : List ByteArray := bif dec (n ∈ l) then l else l ++ [n]
theorem addU_len (l : List ByteArray) (n : ByteArray) : (addU l n).length ≤ l.length + 1 := by
  unfold addU
  cases dec (n ∈ l) <;> simp
theorem addU_mem {l : List ByteArray} {n m : ByteArray} : m ∈ addU l n ↔ m ∈ l ∨ m = n := by
  unfold addU
  by_cases h : n ∈ l
  · rw [dec_t h, cond_true]
    exact ⟨.inl, fun h' => h'.elim id fun e => e ▸ h⟩
  · rw [dec_f h, cond_false]
    simp
theorem addU_nodup {l : List ByteArray} {n : ByteArray} (h : l.Nodup) : (addU l n).Nodup := by
  unfold addU
  by_cases k : n ∈ l
  · rw [dec_t k]; exact h
  · rw [dec_f k, cond_false, List.nodup_append]
    exact ⟨h, by simp, fun a ha b hb e => by simp at hb; subst hb; subst e; exact k ha⟩
noncomputable def addA (l ns : List ByteArray) : List ByteArray := ns.foldl addU l
theorem addA_len : ∀ (ns l : List ByteArray), (addA l ns).length ≤ l.length + ns.length
  | [], l => by simp [addA]
  | n :: ns, l => by
    have h := addA_len ns (addU l n)
    have h2 := addU_len l n
    simp only [addA, List.foldl_cons, List.length_cons] at h ⊢
    omega
theorem addA_mem : ∀ {ns l : List ByteArray} {m : ByteArray}, m ∈ addA l ns ↔ m ∈ l ∨ m ∈ ns
  | [], l, m => by simp [addA]
  | n :: ns, l, m => by
    have h := addA_mem (ns := ns) (l := addU l n) (m := m)
    simp only [addA, List.foldl_cons] at h ⊢
    rw [h, addU_mem]
    simp only [List.mem_cons]
    exact or_assoc
theorem addA_nodup : ∀ {ns l : List ByteArray}, l.Nodup → (addA l ns).Nodup
  | [], l, h => h
  | n :: ns, l, h => addA_nodup (ns := ns) (addU_nodup h)
theorem addA_app (l a b : List ByteArray) : addA l (a ++ b) = addA (addA l a) b := List.foldl_append
def c_slices_Index_string_string : SC := (.seq (.reg [⟨(some 4), none, (.mv (.c (.int .i64 0)))⟩]) (.seq (.seq (.reg [⟨(some 6), none, (.mv (.t 0))⟩, ⟨(some 7), none, (.len false (.t 6))⟩, ⟨(some 8), none, (.mv (.c (.int .i64 0)))⟩]) (.block 0 (.loop [1, 1, 0, 0, 0, 0, 0, 1, 1, 0, 0, 0, 0, 0, 0, 0, 0, 0, 0] (.seq (.reg [⟨(some 9), none, (.bin .lss false (.t 8) (.t 7))⟩]) (.seq (.cond (.t 9) .skip (.exit 0)) (.seq (.block 1 (.seq (.reg [⟨(some 10), none, (.mv (.t 8))⟩, ⟨(some 5), none, (.mv (.t 10))⟩]) (.seq (.reg [⟨(some 11), none, (.mv (.t 1))⟩, ⟨(some 12), none, (.mv (.t 0))⟩, ⟨(some 13), none, (.mv (.t 5))⟩, ⟨(some 14), none, (.iaddr 1 (.t 12) (.t 13))⟩, ⟨(some 15), none, (.load false 1 (.t 14))⟩, ⟨(some 16), none, (.bin .eql false (.t 11) (.t 15))⟩]) (.cond (.t 16) (.seq (.reg [⟨(some 17), none, (.mv (.t 5))⟩, ⟨(some 4), none, (.mv (.t 17))⟩]) .ret) .skip)))) (.reg [⟨(some 18), none, (.bin .add false (.t 8) (.c (.int .i64 1)))⟩, ⟨(some 8), none, (.mv (.t 18))⟩]))))))) (.seq (.reg [⟨(some 4), none, (.mv (.c (.int .i64 (-(0 + 1)))))⟩]) .ret)))
theorem k_slices_Index_string_string : codeOf Tryz.prog 117 = some ⟨19, c_slices_Index_string_string, [(.tmp 4)]⟩ := by kernel_rfl
theorem m_slices_Index_string_string : modes 117 = ⟨[], .asis, none, false⟩ := by unfold modes; rfl

def c_slices_Contains_string_string : SC := (.seq (.reg [⟨(some 4), none, (.mv (.c (.bool false)))⟩]) (.seq (.reg [⟨(some 5), none, (.mv (.t 0))⟩, ⟨(some 6), none, (.mv (.t 1))⟩, ⟨(some 7), none, (.call 117 [(.t 5), (.t 6)])⟩, ⟨(some 8), none, (.bin .geq false (.t 7) (.c (.int .i64 0)))⟩, ⟨(some 4), none, (.mv (.t 8))⟩]) .ret))
theorem k_slices_Contains_string_string : codeOf Tryz.prog 82 = some ⟨9, c_slices_Contains_string_string, [(.tmp 4)]⟩ := by kernel_rfl
theorem m_slices_Contains_string_string : modes 82 = ⟨[], .asis, none, false⟩ := by unfold modes; rfl

theorem indexS_E (xs : List ByteArray) (n : ByteArray) (hl : xs.length ≤ 1099511627776) : E 117 [.arr (xs.map fun s => [D.str s]), .str n] [] = some (.int .i64 (idxP (fun s => dec (n = s)) xs 0), []) := by
  refine E_walk k_slices_Index_string_string m_slices_Index_string_string (of_decide_eq_true rfl) ?_
  simp (disch := omega) only [c_slices_Index_string_string, go_sem, go_cond, Nat.reduceAdd, Nat.reduceSub, Nat.reduceLT, Nat.reduceLeDiff, Nat.reduceEqDiff, Nat.reduceBEq, Nat.reduceBneDiff, Nat.reduceMul, ↓reduceIte, Int.reduceToNat, reduceCtorEq, Int.reduceNeg, Int.reduceAdd]
  refine go_loop (α := Int) (fun a => ⟨slots 19 0 [(0, .arr (xs.map fun s => [D.str s])), (1, .str n), (7, .int .i64 xs.length), (8, .int .i64 a)], []⟩) (fun a => ∃ k : Nat, a = k ∧ k ≤ (xs).length ∧ idxP (fun s => dec (n = s)) (xs.drop k) a = idxP (fun s => dec (n = s)) xs 0) (fun a => (xs).length - (a).toNat) 0 ⟨0, rfl, Nat.zero_le _, by rw [List.drop_zero]⟩ (by simp (disch := omega) only [go_sem, go_cond, Nat.reduceAdd, Nat.reduceSub, Nat.reduceLT, Nat.reduceLeDiff, Nat.reduceEqDiff, Nat.reduceBEq, Nat.reduceBneDiff, Nat.reduceMul, ↓reduceIte, Int.reduceToNat, reduceCtorEq, Int.reduceNeg, Int.reduceAdd]) ?_
  rintro i ⟨k, hi, hk, hR⟩
  have hni : i.toNat = k := by omega
  have hni1 : (i + 1).toNat = k + 1 := by omega
  rcases Nat.lt_or_ge k (xs).length with hlt | hge
  · have hg := get_at (fun s => [D.str s]) hlt
    rw [List.drop_eq_getElem_cons hlt, idxP] at hR
    cases hp : dec (n = xs[k]) with
    | true =>
      rw [hp] at hR
      simp (disch := omega) only [go_sem, go_cond, Nat.reduceAdd, Nat.reduceSub, Nat.reduceLT, Nat.reduceLeDiff, Nat.reduceEqDiff, Nat.reduceBEq, Nat.reduceBneDiff, Nat.reduceMul, ↓reduceIte, Int.reduceToNat, reduceCtorEq, Int.reduceNeg, Int.reduceAdd, hni, hg, hp]
      simpa using hR
    | false =>
      rw [hp] at hR
      simp (disch := omega) only [go_sem, go_cond, Nat.reduceAdd, Nat.reduceSub, Nat.reduceLT, Nat.reduceLeDiff, Nat.reduceEqDiff, Nat.reduceBEq, Nat.reduceBneDiff, Nat.reduceMul, ↓reduceIte, Int.reduceToNat, reduceCtorEq, Int.reduceNeg, Int.reduceAdd, hni, hg, hp]
      exact ⟨i + 1, ⟨k + 1, by omega, hlt, by simpa using hR⟩, by omega, by first | trivial | rfl⟩
  · rw [List.drop_eq_nil_of_le hge, idxP] at hR
    simp (disch := omega) only [go_sem, go_cond, Nat.reduceAdd, Nat.reduceSub, Nat.reduceLT, Nat.reduceLeDiff, Nat.reduceEqDiff, Nat.reduceBEq, Nat.reduceBneDiff, Nat.reduceMul, ↓reduceIte, Int.reduceToNat, reduceCtorEq, Int.reduceNeg, Int.reduceAdd, hni]
    exact hR
theorem containsS_E (xs : List ByteArray) (n : ByteArray) (hl : xs.length ≤ 1099511627776) : E 82 [.arr (xs.map fun s => [D.str s]), .str n] [] = some (.bool (dec (n ∈ xs)), []) := by
  have h := indexS_E xs n hl
  have e : dec (n ∈ xs) = dec (0 ≤ idxP (fun s => dec (n = s)) xs 0) := by
    rw [idxP_any]
    by_cases hm : n ∈ xs
    · rw [dec_t hm]
      exact (List.any_eq_true.2 ⟨n, hm, dec_t rfl⟩).symm
    · rw [dec_f hm]
      refine Eq.symm (Bool.eq_false_iff.2 fun h => ?_)
      obtain ⟨x, h1, h2⟩ := List.any_eq_true.1 h
      have e := dec_iff.1 h2
      subst e
      exact hm h1
  rw [e]
  refine E_walk k_slices_Contains_string_string m_slices_Contains_string_string (of_decide_eq_true rfl) ?_
  simp (disch := omega) only [c_slices_Contains_string_string, go_sem, go_cond, Nat.reduceAdd, Nat.reduceSub, Nat.reduceLT, Nat.reduceLeDiff, Nat.reduceEqDiff, Nat.reduceBEq, Nat.reduceBneDiff, Nat.reduceMul, ↓reduceIte, Int.reduceToNat, reduceCtorEq, Int.reduceNeg, Int.reduceAdd, h, m_slices_Index_string_string]
theorem addA_grow : ∀ (ns l : List ByteArray), l.length ≤ (addA l ns).length
  | [], l => by simp [addA]
  | n :: ns, l => by
    have h := addA_grow ns (addU l n)
    have h2 : l.length ≤ (addU l n).length := by unfold addU; cases dec (n ∈ l) <;> simp
    simp only [addA, List.foldl_cons] at h ⊢
    omega
def c_impl_collect : SC := (.seq (.reg [⟨(some 3), none, (.boxv 31 2 (.t 1))⟩, ⟨(some 4), none, (.mv (.c .nil))⟩]) (.seq (.seq (.reg [⟨(some 7), none, (.faddr 1 (.t 3))⟩, ⟨(some 8), none, (.load false 1 (.t 7))⟩, ⟨(some 9), none, (.len false (.t 8))⟩, ⟨(some 10), none, (.bin .eql false (.t 9) (.c (.int .i64 0)))⟩, ⟨(some 11), none, (.mv (.t 10))⟩, ⟨(some 12), (some (11, true)), (.load true 2 (.t 3))⟩, ⟨(some 13), (some (11, true)), (.call 145 [(.t 12)])⟩, ⟨(some 14), none, (.pick (.t 11) (.t 13) (.c (.bool false)))⟩]) (.cond (.t 14) (.seq (.seq (.reg [⟨(some 15), none, (.mv (.t 0))⟩, ⟨(some 16), none, (.faddr 0 (.t 3))⟩, ⟨(some 17), none, (.load false 1 (.t 16))⟩, ⟨(some 18), none, (.call 82 [(.t 15), (.t 17)])⟩, ⟨(some 19), none, (.un .not (.t 18))⟩]) (.cond (.t 19) (.reg [⟨(some 20), none, (.mv (.t 0))⟩, ⟨(some 21), none, (.faddr 0 (.t 3))⟩, ⟨(some 22), none, (.load false 1 (.t 21))⟩, ⟨(some 23), none, (.mkrow 9 1 [(.str ⟨#[]⟩)] 1 [(0, (.t 22))])⟩, ⟨(some 24), none, (.append 9 1 16 [(.str ⟨#[]⟩)] (.t 20) (.t 23))⟩, ⟨(some 0), none, (.mv (.t 24))⟩]) .skip)) (.seq (.reg [⟨(some 25), none, (.mv (.t 0))⟩, ⟨(some 4), none, (.mv (.t 25))⟩]) .ret)) .skip)) (.seq (.seq (.reg [⟨(some 26), none, (.faddr 1 (.t 3))⟩, ⟨(some 27), none, (.load false 1 (.t 26))⟩, ⟨(some 28), none, (.len false (.t 27))⟩, ⟨(some 29), none, (.mv (.c (.int .i64 0)))⟩]) (.block 0 (.loop [1, 0, 0, 0, 0, 0, 0, 0, 0, 0, 0, 0, 0, 0, 0, 0, 0, 0, 0, 0, 0, 0, 0, 0, 0, 0, 0, 1, 1, 1, 0, 0, 0, 0, 0, 0, 0, 0] (.seq (.reg [⟨(some 30), none, (.bin .lss false (.t 29) (.t 28))⟩]) (.seq (.cond (.t 30) .skip (.exit 0)) (.seq (.block 1 (.seq (.reg [⟨(some 31), none, (.iaddr 2 (.t 27) (.t 29))⟩, ⟨(some 32), none, (.load true 2 (.t 31))⟩, ⟨(some 6), none, (.alloc 31 [(.str ⟨#[]⟩), .nil])⟩, ⟨none, none, (.store 2 (.t 6) (.t 32))⟩]) (.reg [⟨(some 33), none, (.mv (.t 0))⟩, ⟨(some 34), none, (.load true 2 (.t 6))⟩, ⟨(some 35), none, (.call 148 [(.t 33), (.t 34)])⟩, ⟨(some 0), none, (.mv (.t 35))⟩]))) (.reg [⟨(some 36), none, (.bin .add false (.t 29) (.c (.int .i64 1)))⟩, ⟨(some 29), none, (.mv (.t 36))⟩]))))))) (.seq (.reg [⟨(some 37), none, (.mv (.t 0))⟩, ⟨(some 4), none, (.mv (.t 37))⟩]) .ret))))
theorem k_impl_collect : codeOf Tryz.prog 148 = some ⟨38, c_impl_collect, [(.tmp 4)]⟩ := by kernel_rfl
theorem m_impl_collect : modes 148 = ⟨[true], .asis, none, false⟩ := by unfold modes; rfl

abbrev ColC (x : Tm) : Prop := ∀ l : List ByteArray, l.length + x.nodes ≤ 1048576 → E 148 [.ref 0, x.sv] [.row 9 1 (l.map fun s => [OT.str s])] = some ((bif dec (l.length < (addA l x.vs).length) then .ref 1 else .ref 0), (bif dec (l.length < (addA l x.vs).length) then [.gone, .row 9 1 ((addA l x.vs).map fun s => [OT.str s])] else [.row 9 1 ((addA l x.vs).map fun s => [OT.str s])]))
set_option maxHeartbeats 4000000 in
theorem collect_of (x : Tm) (hva : varB x.name = true → x.args = []) (hc : x.cok = true) (ih : ∀ y ∈ x.args, ColC y) : ColC x := by
  intro l hn
  have hl := Tm.length_le x.args
  have hne := Tm.nodes_eq x
  have hv := isVar_E x hc
  have hvs := Tm.vs_eq x
  rcases Nat.eq_zero_or_pos x.args.length with h0 | h0
  · have hx0 : x.args = [] := List.eq_nil_of_length_eq_zero h0
    have hz : ((x.args.length : Int) = 0) = True := by rw [hx0]; simp
    cases hvv : varB x.name with
    | true =>
      rw [hvv] at hv hvs
      have h1 := containsS_E l x.name (by omega)
      rw [hvs]
      cases hm : dec (x.name ∈ l) with
      | true =>
        have e : addA l [x.name] = l := by simp only [addA, List.foldl_cons, List.foldl_nil, addU, hm, cond_true]
        rw [hm] at h1
        simp only [cond_true, e]
        refine E_walk k_impl_collect m_impl_collect (of_decide_eq_true rfl) ?_
        simp (disch := omega) only [c_impl_collect, go_sem, go_cond, Nat.reduceAdd, Nat.reduceSub, Nat.reduceLT, Nat.reduceLeDiff, Nat.reduceEqDiff, Nat.reduceBEq, Nat.reduceBneDiff, Nat.reduceMul, ↓reduceIte, Int.reduceToNat, reduceCtorEq, Int.reduceNeg, Int.reduceAdd, hz, hv, h1, m_impl_isVar, m_slices_Contains_string_string]
      | false =>
        have e : addA l [x.name] = l ++ [x.name] := by simp only [addA, List.foldl_cons, List.foldl_nil, addU, hm, cond_false]
        have hg : l.length < (l ++ [x.name]).length := by simp
        rw [hm] at h1
        simp only [cond_true, e, dec_t hg]
        refine E_walk k_impl_collect m_impl_collect (of_decide_eq_true rfl) ?_
        simp (disch := omega) only [c_impl_collect, go_sem, go_cond, Nat.reduceAdd, Nat.reduceSub, Nat.reduceLT, Nat.reduceLeDiff, Nat.reduceEqDiff, Nat.reduceBEq, Nat.reduceBneDiff, Nat.reduceMul, ↓reduceIte, Int.reduceToNat, reduceCtorEq, Int.reduceNeg, Int.reduceAdd, hz, hv, h1, m_impl_isVar, m_slices_Contains_string_string]
        simp only [List.map_append, List.map_cons, List.map_nil]
    | false =>
      rw [hvv] at hv hvs
      have e : addA l x.vs = l := by rw [hvs, hx0]; simp only [cond_false, Tm.vsL]; rfl
      rw [e]
      refine E_walk k_impl_collect m_impl_collect (of_decide_eq_true rfl) ?_
      simp (disch := omega) only [c_impl_collect, go_sem, go_cond, Nat.reduceAdd, Nat.reduceSub, Nat.reduceLT, Nat.reduceLeDiff, Nat.reduceEqDiff, Nat.reduceBEq, Nat.reduceBneDiff, Nat.reduceMul, ↓reduceIte, Int.reduceToNat, reduceCtorEq, Int.reduceNeg, Int.reduceAdd, hz, hv, m_impl_isVar]
      refine go_loop (α := Int) (fun a => ⟨slots 38 0 [(0, .ref 0), (27, .arr (x.args.map Tm.d)), (28, .int .i64 x.args.length), (29, .int .i64 a)], [.row 9 1 (l.map fun s => [OT.str s])]⟩) (fun a => ∃ k : Nat, a = k ∧ k ≤ (x.args).length) (fun a => (x.args).length - (a).toNat) 0 ⟨0, rfl, Nat.zero_le _⟩ (by simp (disch := omega) only [go_sem, go_cond, Nat.reduceAdd, Nat.reduceSub, Nat.reduceLT, Nat.reduceLeDiff, Nat.reduceEqDiff, Nat.reduceBEq, Nat.reduceBneDiff, Nat.reduceMul, ↓reduceIte, Int.reduceToNat, reduceCtorEq, Int.reduceNeg, Int.reduceAdd]) ?_
      rintro i ⟨k, hi, hk⟩
      have hni : i.toNat = k := by omega
      have hni1 : (i + 1).toNat = k + 1 := by omega
      rcases Nat.lt_or_ge k (x.args).length with hlt | hge
      · omega
      · simp (disch := omega) only [go_sem, go_cond, Nat.reduceAdd, Nat.reduceSub, Nat.reduceLT, Nat.reduceLeDiff, Nat.reduceEqDiff, Nat.reduceBEq, Nat.reduceBneDiff, Nat.reduceMul, ↓reduceIte, Int.reduceToNat, reduceCtorEq, Int.reduceNeg, Int.reduceAdd, hni]
  · have hz : ((x.args.length : Int) = 0) = False := eq_false (by omega)
    have hvv : varB x.name = false := by
      cases h : varB x.name with
      | false => rfl
      | true => rw [hva h] at h0; simp at h0
    rw [hvv] at hvs
    simp only [cond_false] at hvs
    rw [hvs]
    refine E_walk k_impl_collect m_impl_collect (of_decide_eq_true rfl) ?_
    simp (disch := omega) only [c_impl_collect, go_sem, go_cond, Nat.reduceAdd, Nat.reduceSub, Nat.reduceLT, Nat.reduceLeDiff, Nat.reduceEqDiff, Nat.reduceBEq, Nat.reduceBneDiff, Nat.reduceMul, ↓reduceIte, Int.reduceToNat, reduceCtorEq, Int.reduceNeg, Int.reduceAdd, hz]
    refine go_loop (α := Int × (List ByteArray)) (fun a => ⟨slots 38 0 [(0, (bif dec (l.length < (a.2).length) then .ref 1 else .ref 0)), (27, .arr (x.args.map Tm.d)), (28, .int .i64 x.args.length), (29, .int .i64 (a.1))], (bif dec (l.length < (a.2).length) then [.gone, .row 9 1 ((a.2).map fun s => [OT.str s])] else [.row 9 1 ((a.2).map fun s => [OT.str s])])⟩) (fun a => ∃ k : Nat, a.1 = k ∧ k ≤ (x.args).length ∧ addA (a.2) (Tm.vsL (x.args.drop k)) = addA l (Tm.vsL x.args) ∧ (a.2).length + Tm.nodeS (x.args.drop k) ≤ 1048576 ∧ l.length ≤ (a.2).length) (fun a => (x.args).length - (a.1).toNat) (0, l) ⟨0, rfl, Nat.zero_le _, by rw [List.drop_zero], by rw [List.drop_zero]; dsimp only; omega, Nat.le_refl _⟩ (by simp (disch := omega) only [go_sem, go_cond, Nat.reduceAdd, Nat.reduceSub, Nat.reduceLT, Nat.reduceLeDiff, Nat.reduceEqDiff, Nat.reduceBEq, Nat.reduceBneDiff, Nat.reduceMul, ↓reduceIte, Int.reduceToNat, reduceCtorEq, Int.reduceNeg, Int.reduceAdd]) ?_
    rintro ⟨i, acc⟩ ⟨k, hi, hk, hR⟩
    dsimp only at hi hR
    have hni : i.toNat = k := by omega
    have hni1 : (i + 1).toNat = k + 1 := by omega
    rcases Nat.lt_or_ge k (x.args).length with hlt | hge
    · have hg := get_at Tm.d hlt
      rw [Tm.d_eq] at hg
      obtain ⟨hR1, hR2, hR3⟩ := hR
      rw [List.drop_eq_getElem_cons hlt, Tm.vsL, addA_app] at hR1
      rw [List.drop_eq_getElem_cons hlt, Tm.nodeS] at hR2
      have hc := ih x.args[k] (List.getElem_mem hlt) acc (by omega)
      have hlen := addA_len x.args[k].vs acc
      have hgr := addA_grow x.args[k].vs acc
      have hvl := Tm.vs_len x.args[k]
      obtain ⟨acc2, ha2⟩ : ∃ a, a = addA acc x.args[k].vs := ⟨_, rfl⟩
      rw [← ha2] at hc hlen hgr hR1
      rcases Nat.lt_or_ge l.length acc.length with q1 | q1 <;> rcases Nat.lt_or_ge acc.length acc2.length with q2 | q2
      all_goals
        first
          | rw [dec_t q2] at hc
          | rw [dec_f (Nat.not_lt.2 q2)] at hc
        simp only [cond_true, cond_false] at hc
        simp (disch := omega) only [go_sem, go_cond, Nat.reduceAdd, Nat.reduceSub, Nat.reduceLT, Nat.reduceLeDiff, Nat.reduceEqDiff, Nat.reduceBEq, Nat.reduceBneDiff, Nat.reduceMul, ↓reduceIte, Int.reduceToNat, reduceCtorEq, Int.reduceNeg, Int.reduceAdd, hni, hg, hc, m_impl_collect]
        refine ⟨(i + 1, acc2), ⟨k + 1, by dsimp only; omega, hlt, hR1, by dsimp only; omega, by dsimp only; omega⟩, by dsimp only; omega, ?_⟩
        first | done | simp (disch := omega) only [go_sem, go_cond, Nat.reduceAdd, Nat.reduceSub, Nat.reduceLT, Nat.reduceLeDiff, Nat.reduceEqDiff, Nat.reduceBEq, Nat.reduceBneDiff, Nat.reduceMul, ↓reduceIte, Int.reduceToNat, reduceCtorEq, Int.reduceNeg, Int.reduceAdd]
    · rw [List.drop_eq_nil_of_le hge, Tm.vsL] at hR
      obtain ⟨hR1, hR2, hR3⟩ := hR
      have hR1 : acc = addA l (Tm.vsL x.args) := hR1
      rw [← hR1]
      rcases Nat.lt_or_ge l.length acc.length with q1 | q1
      · simp (disch := omega) only [go_sem, go_cond, Nat.reduceAdd, Nat.reduceSub, Nat.reduceLT, Nat.reduceLeDiff, Nat.reduceEqDiff, Nat.reduceBEq, Nat.reduceBneDiff, Nat.reduceMul, ↓reduceIte, Int.reduceToNat, reduceCtorEq, Int.reduceNeg, Int.reduceAdd, hni]
      · simp (disch := omega) only [go_sem, go_cond, Nat.reduceAdd, Nat.reduceSub, Nat.reduceLT, Nat.reduceLeDiff, Nat.reduceEqDiff, Nat.reduceBEq, Nat.reduceBneDiff, Nat.reduceMul, ↓reduceIte, Int.reduceToNat, reduceCtorEq, Int.reduceNeg, Int.reduceAdd, hni]
theorem collect_E (x : Tm) (hx : x.names = true) (hc : x.cok = true) : ColC x :=
  collect_of x (fun h => Tm.names_var hx h) hc fun y hy => collect_E y (Tm.names_arg hx hy) (by rw [Tm.cok_eq, Bool.and_eq_true] at hc; exact Tm.cokS_mem hc.2 hy)
termination_by SizeOf.sizeOf x
decreasing_by exact Tm.lt_of_mem hy
/-! The variables of a term, sorted. -/
noncomputable def srtB (l : List ByteArray) : List ByteArray := (srt (l.map (·.toList))).map fun x => ⟨x.toArray⟩
theorem srtB_perm (l : List ByteArray) : (srtB l).Perm l := by
  unfold srtB
  have h : (srt (l.map (·.toList))).Perm (l.map (·.toList)) := List.mergeSort_perm _ _
  have h2 := h.map fun x : List UInt8 => (⟨x.toArray⟩ : ByteArray)
  rw [List.map_map] at h2
  have e : ((fun x : List UInt8 => (⟨x.toArray⟩ : ByteArray)) ∘ fun x : ByteArray => x.toList) = id := by
    funext x
    exact bytes_back x
  rw [e, List.map_id] at h2
  exact h2
theorem m_slices_Sort_string_string : modes 106 = ⟨[true], .asis, some sortStr, false⟩ := by unfold modes; rfl
theorem sortS_E (l : List ByteArray) (hl : l.length ≤ 1099511627776) : E 106 [.ref 0] [.row 9 1 (l.map fun s => [OT.str s])] = some (.tup [], [.row 9 1 ((srtB l).map fun s => [OT.str s])]) := by
  rw [E_extO (g := sortStr) (congrArg FM.ext m_slices_Sort_string_string)]
  unfold sortStr
  simp only
  rw [dec_t ⟨by first | trivial | rfl, fun e he => by obtain ⟨s, _, rfl⟩ := List.mem_map.1 he; exact ⟨s, rfl⟩, by simpa using hl⟩, cond_true]
  have e1 : (l.map fun s => [OT.str s]).map (fun e => (keyB e).toList) = l.map (·.toList) := by rw [List.map_map]; rfl
  rw [e1]
  unfold srtB
  rw [List.map_map]
  rfl
def c_impl_variables : SC := (.seq (.reg [⟨(some 1), none, (.boxv 31 2 (.t 0))⟩, ⟨(some 2), none, (.mv (.c .nil))⟩]) (.seq (.reg [⟨(some 4), none, (.mkrow 9 1 [(.str ⟨#[]⟩)] 0 [])⟩, ⟨(some 5), none, (.load true 2 (.t 1))⟩, ⟨(some 6), none, (.call 148 [(.t 4), (.t 5)])⟩, ⟨(some 3), none, (.mv (.t 6))⟩]) (.seq (.reg [⟨(some 7), none, (.mv (.t 3))⟩, ⟨(some 8), none, (.call 106 [(.t 7)])⟩]) (.seq (.reg [⟨(some 9), none, (.mv (.t 3))⟩, ⟨(some 2), none, (.mv (.t 9))⟩]) .ret))))
theorem k_impl_variables : codeOf Tryz.prog 133 = some ⟨10, c_impl_variables, [(.tmp 2)]⟩ := by kernel_rfl
theorem m_impl_variables : modes 133 = ⟨[], .asis, none, false⟩ := by unfold modes; rfl

noncomputable def Tm.vars (x : Tm) : List ByteArray := srtB (addA [] x.vs)
theorem Tm.vars_mem (x : Tm) (n : ByteArray) : n ∈ x.vars ↔ n ∈ x.vs := by
  unfold Tm.vars
  rw [(srtB_perm _).mem_iff, addA_mem]
  simp
theorem variables_of (x : Tm) (hcol : ColC x) (hn : x.nodes ≤ 1048576) : E 133 [x.sv] [] = some (.ref 0, [.row 9 1 (x.vars.map fun s => [OT.str s])]) := by
  have h1 := hcol [] (by simpa using hn)
  have hl := addA_len x.vs []
  have hv := Tm.vs_len x
  rw [List.length_nil, Nat.zero_add] at hl
  have h2 := sortS_E (addA [] x.vs) (by omega)
  rw [List.map_nil, List.length_nil] at h1
  unfold Tm.vars
  rcases Nat.lt_or_ge 0 (addA [] x.vs).length with q | q
  · rw [dec_t q] at h1
    simp only [cond_true] at h1
    refine E_walk k_impl_variables m_impl_variables (of_decide_eq_true rfl) ?_
    simp (disch := omega) only [c_impl_variables, go_sem, go_cond, Nat.reduceAdd, Nat.reduceSub, Nat.reduceLT, Nat.reduceLeDiff, Nat.reduceEqDiff, Nat.reduceBEq, Nat.reduceBneDiff, Nat.reduceMul, ↓reduceIte, Int.reduceToNat, reduceCtorEq, Int.reduceNeg, Int.reduceAdd, h1, h2, m_impl_collect, m_slices_Sort_string_string]
  · rw [dec_f (by omega)] at h1
    simp only [cond_false] at h1
    refine E_walk k_impl_variables m_impl_variables (of_decide_eq_true rfl) ?_
    simp (disch := omega) only [c_impl_variables, go_sem, go_cond, Nat.reduceAdd, Nat.reduceSub, Nat.reduceLT, Nat.reduceLeDiff, Nat.reduceEqDiff, Nat.reduceBEq, Nat.reduceBneDiff, Nat.reduceMul, ↓reduceIte, Int.reduceToNat, reduceCtorEq, Int.reduceNeg, Int.reduceAdd, h1, h2, m_impl_collect, m_slices_Sort_string_string]
theorem variables_E (x : Tm) (hx : x.names = true) (hc : x.cok = true) (hn : x.nodes ≤ 1048576) : E 133 [x.sv] [] = some (.ref 0, [.row 9 1 (x.vars.map fun s => [OT.str s])]) := variables_of x (collect_E x hx hc) hn
theorem Tm.atom_args {x : Tm} (h : x.atom = true) : (varB x.name = true → x.args = []) ∧ ∀ y ∈ x.args, y.names = true := by
  unfold Tm.atom at h
  cases he : x.eqn with
  | true =>
    rw [he, if_pos rfl, Bool.and_eq_true, Bool.and_eq_true] at h
    have h2 := h.2
    rw [Tm.nameS_all, List.all_eq_true] at h2
    refine ⟨fun hv => ?_, h2⟩
    have hn := dec_iff.1 he
    have hnv0 : varB ⟨#[61]⟩ = false := by kernel_rfl
    rw [hn, hnv0] at hv
    cases hv
  | false =>
    rw [he, if_neg (by simp), Bool.and_eq_true] at h
    have hnm : x.names = true := by have h3 := h.2; unfold Tm.valid at h3; rw [Bool.and_eq_true] at h3; exact h3.2
    exact ⟨fun hv => Tm.names_var hnm hv, fun y hy => Tm.names_arg hnm hy⟩
theorem collectA_E (x : Tm) (h : x.atom = true) : ColC x :=
  collect_of x (Tm.atom_args h).1 (Tm.atom_cok h) fun y hy => collect_E y ((Tm.atom_args h).2 y hy) (Tm.cok_names y ((Tm.atom_args h).2 y hy))
end Go.Proofs.YtjgnhifkcgpmjaaGreat

set_option maxRecDepth 100000
set_option linter.unusedSimpArgs false
set_option linter.unusedVariables false
namespace Go.Proofs.YtjgnhifkcgpmjaaGreat
open Go.RowKit

/-- A name put at its place in an ascending list. -/
noncomputable def insU : List ByteArray → ByteArray → List ByteArray
  | [], n => [n]
  | x :: xs, n => bif strLt x n then x :: insU xs n else bif dec (x = n) then x :: xs else n :: x :: xs
noncomputable def lowS : List ByteArray → ByteArray → Nat
  | [], _ => 0
  | x :: xs, n => bif strLt x n then lowS xs n + 1 else 0
theorem insU_mem : ∀ {xs : List ByteArray} {n m : ByteArray}, m ∈ insU xs n ↔ m ∈ xs ∨ m = n
  | [], n, m => by simp [insU]
  | x :: xs, n, m => by
    rw [insU]
    cases strLt x n with
    | true => rw [cond_true, List.mem_cons, insU_mem, List.mem_cons, or_assoc]
    | false =>
      rw [cond_false]
      by_cases h : x = n
      · rw [dec_t h, cond_true]
        exact ⟨.inl, fun h' => h'.elim id fun e => by subst e; subst h; simp⟩
      · rw [dec_f h, cond_false, List.mem_cons]
        exact or_comm
theorem insU_len : ∀ (xs : List ByteArray) (n : ByteArray), (insU xs n).length ≤ xs.length + 1
  | [], n => by simp [insU]
  | x :: xs, n => by
    have h := insU_len xs n
    rw [insU]
    cases strLt x n with
    | true => simp only [cond_true, List.length_cons]; omega
    | false =>
      rw [cond_false]
      cases dec (x = n) with
      | true => simp only [cond_true, List.length_cons]; omega
      | false => simp only [cond_false, List.length_cons]; omega
theorem lowS_le : ∀ (xs : List ByteArray) (n : ByteArray), lowS xs n ≤ xs.length
  | [], n => by simp [lowS]
  | x :: xs, n => by
    have h := lowS_le xs n
    rw [lowS]
    cases strLt x n with
    | true => simp only [cond_true, List.length_cons]; omega
    | false => simp only [cond_false, List.length_cons]; omega
/-- Where the name goes. -/
theorem insU_there : ∀ {xs : List ByteArray} {n : ByteArray} (h : lowS xs n < xs.length), xs[lowS xs n] = n → insU xs n = xs
  | [], n, h, _ => by simp at h
  | x :: xs, n, h, e => by
    rw [insU]
    cases hq : strLt x n with
    | true =>
      simp only [lowS, hq, cond_true, List.length_cons, List.getElem_cons_succ] at h e
      rw [cond_true, insU_there (by omega) e]
    | false =>
      simp only [lowS, hq, cond_false, List.getElem_cons_zero] at e
      rw [cond_false, dec_t e]; rfl
theorem insU_new : ∀ {xs : List ByteArray} {n : ByteArray}, (∀ h : lowS xs n < xs.length, ¬ xs[lowS xs n] = n) → insU xs n = xs.take (lowS xs n) ++ n :: xs.drop (lowS xs n)
  | [], n, _ => by simp [insU, lowS]
  | x :: xs, n, h => by
    rw [insU]
    cases hq : strLt x n with
    | true =>
      simp only [lowS, hq, cond_true, List.length_cons, List.getElem_cons_succ] at h ⊢
      rw [insU_new fun h' => h (by omega)]
      simp
    | false =>
      simp only [lowS, hq, cond_false, List.getElem_cons_zero] at h ⊢
      rw [dec_f (h (by simp))]
      simp
theorem lowS_drop {xs : List ByteArray} {n : ByteArray} {k : Nat} (h : k + lowS (xs.drop k) n = lowS xs n) (hk : k < xs.length) : (strLt xs[k] n = true ∧ k + 1 + lowS (xs.drop (k + 1)) n = lowS xs n) ∨ (strLt xs[k] n = false ∧ k = lowS xs n) := by
  rw [List.drop_eq_getElem_cons hk, lowS] at h
  cases hq : strLt xs[k] n with
  | true => rw [hq, cond_true] at h; exact .inl ⟨rfl, by omega⟩
  | false => rw [hq, cond_false] at h; exact .inr ⟨rfl, by omega⟩
theorem ot_take (xs : List ByteArray) (k : Nat) : ((xs.map fun s => [D.str s]).take k).map (fun x => x.map D.ot) = (xs.take k).map fun s => [OT.str s] := by
  rw [← List.map_take, List.map_map]; rfl
theorem ot_drop (xs : List ByteArray) (k : Nat) : ((xs.map fun s => [D.str s]).drop k).map (fun x => x.map D.ot) = (xs.drop k).map fun s => [OT.str s] := by
  rw [← List.map_drop, List.map_map]; rfl
theorem al_strs (xs : List ByteArray) : ((xs.map fun s => [OT.str s]).all fun l => l.length == 1) = true := by
  rw [List.all_map, List.all_eq_true]
  intro x _; rfl
theorem al_dstrs (xs : List ByteArray) : ((xs.map fun s => [D.str s]).all fun l => l.length == 1) = true := by
  rw [List.all_map, List.all_eq_true]
  intro x _; rfl
def c_spec_l2Put : SC := (.seq (.reg [⟨(some 4), none, (.mv (.c .nil))⟩]) (.seq (.reg [⟨(some 5), none, (.mv (.c (.int .i64 0)))⟩]) (.seq (.block 0 (.loop [1, 1, 0, 0, 0, 1, 0, 0, 0, 0, 0, 0, 0, 0, 0, 0, 0, 0, 0, 0, 0, 0, 0, 0, 0, 0, 0, 0, 0, 0, 0, 0, 0, 0, 0, 0, 0, 0, 0, 0, 0, 0, 0, 0, 0] (.seq (.seq (.reg [⟨(some 6), none, (.mv (.t 5))⟩, ⟨(some 7), none, (.mv (.t 0))⟩, ⟨(some 8), none, (.len false (.t 7))⟩, ⟨(some 9), none, (.bin .lss false (.t 6) (.t 8))⟩, ⟨(some 10), none, (.mv (.t 9))⟩, ⟨(some 11), (some (10, true)), (.mv (.t 0))⟩, ⟨(some 12), (some (10, true)), (.mv (.t 5))⟩, ⟨(some 13), (some (10, true)), (.iaddr 1 (.t 11) (.t 12))⟩, ⟨(some 14), (some (10, true)), (.load false 1 (.t 13))⟩, ⟨(some 15), (some (10, true)), (.mv (.t 1))⟩, ⟨(some 16), (some (10, true)), (.bin .lss false (.t 14) (.t 15))⟩, ⟨(some 17), none, (.pick (.t 10) (.t 16) (.c (.bool false)))⟩]) (.cond (.t 17) .skip (.exit 0))) (.block 1 (.reg [⟨(some 18), none, (.mv (.t 5))⟩, ⟨(some 19), none, (.bin .add false (.t 18) (.c (.int .i64 1)))⟩, ⟨(some 5), none, (.mv (.t 19))⟩]))))) (.seq (.seq (.reg [⟨(some 20), none, (.mv (.t 5))⟩, ⟨(some 21), none, (.mv (.t 0))⟩, ⟨(some 22), none, (.len false (.t 21))⟩, ⟨(some 23), none, (.bin .lss false (.t 20) (.t 22))⟩, ⟨(some 24), none, (.mv (.t 23))⟩, ⟨(some 25), (some (24, true)), (.mv (.t 0))⟩, ⟨(some 26), (some (24, true)), (.mv (.t 5))⟩, ⟨(some 27), (some (24, true)), (.iaddr 1 (.t 25) (.t 26))⟩, ⟨(some 28), (some (24, true)), (.load false 1 (.t 27))⟩, ⟨(some 29), (some (24, true)), (.mv (.t 1))⟩, ⟨(some 30), (some (24, true)), (.bin .eql false (.t 28) (.t 29))⟩, ⟨(some 31), none, (.pick (.t 24) (.t 30) (.c (.bool false)))⟩]) (.cond (.t 31) (.seq (.reg [⟨(some 32), none, (.mv (.t 0))⟩, ⟨(some 4), none, (.mv (.t 32))⟩]) .ret) .skip)) (.seq (.dreg [[], [], [], [1, 2], [0, 3, 1, 2], [], [5], [4, 0, 3, 1, 2, 6, 5], [], [], [8, 9], [7, 4, 0, 3, 1, 2, 6, 5, 10, 8, 9], [11, 7, 4, 0, 3, 1, 2, 6, 5, 10, 8, 9]] [⟨(some 33), none, (.mkrow 9 1 [(.str ⟨#[]⟩)] 0 [])⟩, ⟨(some 34), none, (.mv (.t 0))⟩, ⟨(some 35), none, (.mv (.t 5))⟩, ⟨(some 36), none, (.slice false 1 (.t 34) none (some (.t 35)))⟩, ⟨(some 37), none, (.append 9 1 16 [(.str ⟨#[]⟩)] (.t 33) (.t 36))⟩, ⟨(some 38), none, (.mv (.t 1))⟩, ⟨(some 39), none, (.mkrow 9 1 [(.str ⟨#[]⟩)] 1 [(0, (.t 38))])⟩, ⟨(some 40), none, (.append 9 1 16 [(.str ⟨#[]⟩)] (.t 37) (.t 39))⟩, ⟨(some 41), none, (.mv (.t 0))⟩, ⟨(some 42), none, (.mv (.t 5))⟩, ⟨(some 43), none, (.slice false 1 (.t 41) (some (.t 42)) none)⟩, ⟨(some 44), none, (.append 9 1 16 [(.str ⟨#[]⟩)] (.t 40) (.t 43))⟩, ⟨(some 4), none, (.mv (.t 44))⟩]) .ret)))))
theorem k_spec_l2Put : codeOf Tryz.prog 130 = some ⟨45, c_spec_l2Put, [(.tmp 4)]⟩ := by kernel_rfl
theorem m_spec_l2Put : modes 130 = ⟨[], .frz, none, false⟩ := by unfold modes; rfl

set_option maxHeartbeats 4000000 in
theorem l2Put_E (xs : List ByteArray) (n : ByteArray) (hl : xs.length ≤ 1048576) : E 130 [.arr (xs.map fun s => [D.str s]), .str n] [] = some (.arr ((insU xs n).map fun s => [D.str s]), []) := by
  have e1 := ot_take xs (lowS xs n)
  have e2 := ot_drop xs (lowS xs n)
  have e3 := al_strs (xs.take (lowS xs n))
  have e4 := al_strs (xs.drop (lowS xs n))
  have e5 := al_dstrs xs
  have l1 := lowS_le xs n
  have e6 : (xs.map fun s => [D.str s]).take xs.length = xs.map fun s => [D.str s] := List.take_of_length_le (by simp)
  have e7 : (xs.take (lowS xs n)).length = lowS xs n := by rw [List.length_take]; omega
  have e8 : (xs.drop (lowS xs n)).length = xs.length - lowS xs n := List.length_drop
  have hf : ∀ ys : List ByteArray, ys = insU xs n → (ys.map fun s => [OT.str s]) = (insU xs n).map fun s => [OT.str s] := fun ys h => by rw [h]
  refine E_walk k_spec_l2Put m_spec_l2Put (of_decide_eq_true rfl) ?_
  simp (disch := omega) only [c_spec_l2Put, go_sem, go_cond, Nat.reduceAdd, Nat.reduceSub, Nat.reduceLT, Nat.reduceLeDiff, Nat.reduceEqDiff, Nat.reduceBEq, Nat.reduceBneDiff, Nat.reduceMul, ↓reduceIte, Int.reduceToNat, reduceCtorEq, Int.reduceNeg, Int.reduceAdd]
  refine go_loop (α := Int) (fun a => ⟨slots 45 0 [(0, .arr (xs.map fun s => [D.str s])), (1, .str n), (5, .int .i64 a)], []⟩) (fun a => ∃ k : Nat, a = k ∧ k ≤ (xs).length ∧ k + lowS (xs.drop k) n = lowS xs n) (fun a => (xs).length - (a).toNat) 0 ⟨0, rfl, Nat.zero_le _, by rw [List.drop_zero, Nat.zero_add]⟩ (by simp (disch := omega) only [go_sem, go_cond, Nat.reduceAdd, Nat.reduceSub, Nat.reduceLT, Nat.reduceLeDiff, Nat.reduceEqDiff, Nat.reduceBEq, Nat.reduceBneDiff, Nat.reduceMul, ↓reduceIte, Int.reduceToNat, reduceCtorEq, Int.reduceNeg, Int.reduceAdd]) ?_
  rintro i ⟨k, hi, hk, hR⟩
  have hni : i.toNat = k := by omega
  have hni1 : (i + 1).toNat = k + 1 := by omega
  rcases Nat.lt_or_ge k (xs).length with hlt | hge
  · have hg := get_at (fun s => [D.str s]) hlt
    rcases lowS_drop hR hlt with ⟨q, hR'⟩ | ⟨q, hk'⟩
    · simp (disch := omega) only [go_sem, go_cond, Nat.reduceAdd, Nat.reduceSub, Nat.reduceLT, Nat.reduceLeDiff, Nat.reduceEqDiff, Nat.reduceBEq, Nat.reduceBneDiff, Nat.reduceMul, ↓reduceIte, Int.reduceToNat, reduceCtorEq, Int.reduceNeg, Int.reduceAdd, hni, hg, q]
      exact ⟨i + 1, ⟨k + 1, by omega, hlt, hR'⟩, by omega, by first | trivial | rfl⟩
    · subst hk'
      by_cases h0 : xs[lowS xs n] = n
      · have hi0 := insU_there hlt h0
        rw [hi0]
        simp (disch := omega) only [go_sem, go_cond, Nat.reduceAdd, Nat.reduceSub, Nat.reduceLT, Nat.reduceLeDiff, Nat.reduceEqDiff, Nat.reduceBEq, Nat.reduceBneDiff, Nat.reduceMul, ↓reduceIte, Int.reduceToNat, reduceCtorEq, Int.reduceNeg, Int.reduceAdd, hni, hg, q, h0, e6, strLt_self, dec_refl]
      · have hi0 := insU_new (fun _ => h0)
        have hx : (xs.take (lowS xs n)).map (fun s => [OT.str s]) ++ ([[OT.str n]] ++ (xs.drop (lowS xs n)).map (fun s => [OT.str s])) = (insU xs n).map fun s => [OT.str s] := by rw [hi0]; simp
        have hx2 : (xs.take (lowS xs n)).map (fun s => [OT.str s]) ++ [[OT.str n]] ++ (xs.drop (lowS xs n)).map (fun s => [OT.str s]) = (insU xs n).map fun s => [OT.str s] := by rw [hi0]; simp
        simp (disch := omega) only [go_sem, go_cond, Nat.reduceAdd, Nat.reduceSub, Nat.reduceLT, Nat.reduceLeDiff, Nat.reduceEqDiff, Nat.reduceBEq, Nat.reduceBneDiff, Nat.reduceMul, ↓reduceIte, Int.reduceToNat, reduceCtorEq, Int.reduceNeg, Int.reduceAdd, hni, hg, q, h0, e1, e2, e3, e4, e5, e6, e7, e8, hx2, List.length_append, Int.toNat_zero]
  · obtain rfl : k = xs.length := by omega
    have hk' : xs.length = lowS xs n := by rw [← hR, List.drop_eq_nil_of_le (Nat.le_refl _)]; simp [lowS]
    have hi0 := insU_new (xs := xs) (n := n) (fun h => by omega)
    have hx2 : (xs.take (lowS xs n)).map (fun s => [OT.str s]) ++ [[OT.str n]] ++ (xs.drop (lowS xs n)).map (fun s => [OT.str s]) = (insU xs n).map fun s => [OT.str s] := by rw [hi0]; simp
    rw [hk'] at hni
    simp (disch := omega) only [go_sem, go_cond, Nat.reduceAdd, Nat.reduceSub, Nat.reduceLT, Nat.reduceLeDiff, Nat.reduceEqDiff, Nat.reduceBEq, Nat.reduceBneDiff, Nat.reduceMul, ↓reduceIte, Int.reduceToNat, reduceCtorEq, Int.reduceNeg, Int.reduceAdd, hni, e1, e2, e3, e4, e5, e6, e7, e8, hx2, List.length_append, Int.toNat_zero]
noncomputable def insA (l ns : List ByteArray) : List ByteArray := ns.foldl insU l
theorem insA_len : ∀ (ns l : List ByteArray), (insA l ns).length ≤ l.length + ns.length
  | [], l => by simp [insA]
  | n :: ns, l => by
    have h := insA_len ns (insU l n)
    have h2 := insU_len l n
    simp only [insA, List.foldl_cons, List.length_cons] at h ⊢
    omega
theorem insA_mem : ∀ {ns l : List ByteArray} {m : ByteArray}, m ∈ insA l ns ↔ m ∈ l ∨ m ∈ ns
  | [], l, m => by simp [insA]
  | n :: ns, l, m => by
    have h := insA_mem (ns := ns) (l := insU l n) (m := m)
    simp only [insA, List.foldl_cons] at h ⊢
    rw [h, insU_mem]
    simp only [List.mem_cons]
    exact or_assoc
theorem insA_app (l a b : List ByteArray) : insA l (a ++ b) = insA (insA l a) b := List.foldl_append
def c_spec_l2Into : SC := (.seq (.reg [⟨(some 3), none, (.boxv 31 2 (.t 1))⟩, ⟨(some 4), none, (.mv (.c .nil))⟩]) (.seq (.seq (.reg [⟨(some 6), none, (.faddr 0 (.t 3))⟩, ⟨(some 7), none, (.load false 1 (.t 6))⟩, ⟨(some 8), none, (.call 37 [(.t 7)])⟩]) (.cond (.t 8) (.seq (.reg [⟨(some 9), none, (.mv (.t 0))⟩, ⟨(some 10), none, (.faddr 0 (.t 3))⟩, ⟨(some 11), none, (.load false 1 (.t 10))⟩, ⟨(some 12), none, (.call 130 [(.t 9), (.t 11)])⟩, ⟨(some 4), none, (.mv (.t 12))⟩]) .ret) .skip)) (.seq (.seq (.reg [⟨(some 5), none, (.mv (.c (.int .i64 0)))⟩]) (.block 0 (.loop [1, 0, 0, 1, 0, 1, 0, 0, 0, 0, 0, 0, 0, 0, 0, 0, 0, 0, 0, 0, 0, 0, 0, 0, 0, 0, 0, 0] (.seq (.seq (.reg [⟨(some 13), none, (.mv (.t 5))⟩, ⟨(some 14), none, (.faddr 1 (.t 3))⟩, ⟨(some 15), none, (.load false 1 (.t 14))⟩, ⟨(some 16), none, (.len false (.t 15))⟩, ⟨(some 17), none, (.bin .lss false (.t 13) (.t 16))⟩]) (.cond (.t 17) .skip (.exit 0))) (.seq (.block 1 (.reg [⟨(some 20), none, (.mv (.t 0))⟩, ⟨(some 21), none, (.faddr 1 (.t 3))⟩, ⟨(some 22), none, (.load false 1 (.t 21))⟩, ⟨(some 23), none, (.mv (.t 5))⟩, ⟨(some 24), none, (.iaddr 2 (.t 22) (.t 23))⟩, ⟨(some 25), none, (.load true 2 (.t 24))⟩, ⟨(some 26), none, (.call 111 [(.t 20), (.t 25)])⟩, ⟨(some 0), none, (.mv (.t 26))⟩])) (.reg [⟨(some 18), none, (.mv (.t 5))⟩, ⟨(some 19), none, (.bin .add false (.t 18) (.c (.int .i64 1)))⟩, ⟨(some 5), none, (.mv (.t 19))⟩])))))) (.seq (.reg [⟨(some 27), none, (.mv (.t 0))⟩, ⟨(some 4), none, (.mv (.t 27))⟩]) .ret))))
theorem k_spec_l2Into : codeOf Tryz.prog 111 = some ⟨28, c_spec_l2Into, [(.tmp 4)]⟩ := by kernel_rfl
theorem m_spec_l2Into : modes 111 = ⟨[], .asis, none, false⟩ := by unfold modes; rfl

def c_spec_l2Vars : SC := (.seq (.reg [⟨(some 1), none, (.boxv 31 2 (.t 0))⟩, ⟨(some 2), none, (.mv (.c .nil))⟩]) (.seq (.reg [⟨(some 3), none, (.mkrow 9 1 [(.str ⟨#[]⟩)] 0 [])⟩, ⟨(some 4), none, (.load true 2 (.t 1))⟩, ⟨(some 5), none, (.call 111 [(.t 3), (.t 4)])⟩, ⟨(some 2), none, (.mv (.t 5))⟩]) .ret))
theorem k_spec_l2Vars : codeOf Tryz.prog 74 = some ⟨6, c_spec_l2Vars, [(.tmp 2)]⟩ := by kernel_rfl
theorem m_spec_l2Vars : modes 74 = ⟨[], .frz, none, false⟩ := by unfold modes; rfl

abbrev IntoC (x : Tm) : Prop := ∀ l : List ByteArray, l.length + x.nodes ≤ 1048576 → E 111 [.arr (l.map fun s => [D.str s]), x.sv] [] = some (.arr ((insA l x.vs).map fun s => [D.str s]), [])
set_option maxHeartbeats 4000000 in
theorem l2Into_of (x : Tm) (ih : ∀ y ∈ x.args, IntoC y) : IntoC x := by
  intro l hn
  have hl := Tm.length_le x.args
  have hne := Tm.nodes_eq x
  have hvs := Tm.vs_eq x
  have hp := l2Put_E l x.name (by omega)
  cases hvv : varB x.name with
  | true =>
    rw [hvv] at hvs
    have e : insA l x.vs = insU l x.name := by rw [hvs]; rfl
    rw [e]
    refine E_walk k_spec_l2Into m_spec_l2Into (of_decide_eq_true rfl) ?_
    simp (disch := omega) only [c_spec_l2Into, go_sem, go_cond, Nat.reduceAdd, Nat.reduceSub, Nat.reduceLT, Nat.reduceLeDiff, Nat.reduceEqDiff, Nat.reduceBEq, Nat.reduceBneDiff, Nat.reduceMul, ↓reduceIte, Int.reduceToNat, reduceCtorEq, Int.reduceNeg, Int.reduceAdd, hvv, hp, m_spec_l2Var, l2Var_E, m_spec_l2Put]
  | false =>
    rw [hvv] at hvs
    simp only [cond_false] at hvs
    rw [hvs]
    refine E_walk k_spec_l2Into m_spec_l2Into (of_decide_eq_true rfl) ?_
    simp (disch := omega) only [c_spec_l2Into, go_sem, go_cond, Nat.reduceAdd, Nat.reduceSub, Nat.reduceLT, Nat.reduceLeDiff, Nat.reduceEqDiff, Nat.reduceBEq, Nat.reduceBneDiff, Nat.reduceMul, ↓reduceIte, Int.reduceToNat, reduceCtorEq, Int.reduceNeg, Int.reduceAdd, hvv, m_spec_l2Var, l2Var_E]
    refine go_loop (α := Int × (List ByteArray)) (fun a => ⟨slots 28 0 [(0, .arr ((a.2).map fun s => [D.str s])), (3, .ptr 0 0), (5, .int .i64 (a.1))], [.box 31 [.str x.name, .arr (x.args.map Tm.d)]]⟩) (fun a => ∃ k : Nat, a.1 = k ∧ k ≤ (x.args).length ∧ insA (a.2) (Tm.vsL (x.args.drop k)) = insA l (Tm.vsL x.args) ∧ (a.2).length + Tm.nodeS (x.args.drop k) ≤ 1048576) (fun a => (x.args).length - (a.1).toNat) (0, l) ⟨0, rfl, Nat.zero_le _, by rw [List.drop_zero], by rw [List.drop_zero]; dsimp only; omega⟩ (by simp (disch := omega) only [go_sem, go_cond, Nat.reduceAdd, Nat.reduceSub, Nat.reduceLT, Nat.reduceLeDiff, Nat.reduceEqDiff, Nat.reduceBEq, Nat.reduceBneDiff, Nat.reduceMul, ↓reduceIte, Int.reduceToNat, reduceCtorEq, Int.reduceNeg, Int.reduceAdd]) ?_
    rintro ⟨i, acc⟩ ⟨k, hi, hk, hR⟩
    dsimp only at hi hR
    have hni : i.toNat = k := by omega
    have hni1 : (i + 1).toNat = k + 1 := by omega
    rcases Nat.lt_or_ge k (x.args).length with hlt | hge
    · have hg := get_at Tm.d hlt
      rw [Tm.d_eq] at hg
      obtain ⟨hR1, hR2⟩ := hR
      rw [List.drop_eq_getElem_cons hlt, Tm.vsL, insA_app] at hR1
      rw [List.drop_eq_getElem_cons hlt, Tm.nodeS] at hR2
      have hc := ih x.args[k] (List.getElem_mem hlt) acc (by omega)
      have hlen := insA_len x.args[k].vs acc
      have hvl := Tm.vs_len x.args[k]
      simp (disch := omega) only [go_sem, go_cond, Nat.reduceAdd, Nat.reduceSub, Nat.reduceLT, Nat.reduceLeDiff, Nat.reduceEqDiff, Nat.reduceBEq, Nat.reduceBneDiff, Nat.reduceMul, ↓reduceIte, Int.reduceToNat, reduceCtorEq, Int.reduceNeg, Int.reduceAdd, hni, hg, hc, m_spec_l2Into]
      exact ⟨(i + 1, insA acc x.args[k].vs), ⟨k + 1, by dsimp only; omega, hlt, hR1, by dsimp only; omega⟩, by dsimp only; omega, by first | trivial | rfl⟩
    · rw [List.drop_eq_nil_of_le hge, Tm.vsL] at hR
      obtain ⟨hR1, hR2⟩ := hR
      have hR1 : acc = insA l (Tm.vsL x.args) := hR1
      rw [← hR1]
      simp (disch := omega) only [go_sem, go_cond, Nat.reduceAdd, Nat.reduceSub, Nat.reduceLT, Nat.reduceLeDiff, Nat.reduceEqDiff, Nat.reduceBEq, Nat.reduceBneDiff, Nat.reduceMul, ↓reduceIte, Int.reduceToNat, reduceCtorEq, Int.reduceNeg, Int.reduceAdd, hni]
theorem l2Into_E (x : Tm) : IntoC x := l2Into_of x fun y hy => l2Into_E y
termination_by SizeOf.sizeOf x
decreasing_by exact Tm.lt_of_mem hy
theorem l2Vars_E (x : Tm) (hn : x.nodes ≤ 1048576) : E 74 [x.sv] [] = some (.arr ((insA [] x.vs).map fun s => [D.str s]), []) := by
  have h := l2Into_E x [] (by simpa using hn)
  rw [List.map_nil] at h
  refine E_walk k_spec_l2Vars m_spec_l2Vars (of_decide_eq_true rfl) ?_
  simp (disch := omega) only [c_spec_l2Vars, go_sem, go_cond, Nat.reduceAdd, Nat.reduceSub, Nat.reduceLT, Nat.reduceLeDiff, Nat.reduceEqDiff, Nat.reduceBEq, Nat.reduceBneDiff, Nat.reduceMul, ↓reduceIte, Int.reduceToNat, reduceCtorEq, Int.reduceNeg, Int.reduceAdd, h, m_spec_l2Into]
end Go.Proofs.YtjgnhifkcgpmjaaGreat

set_option maxRecDepth 100000
set_option linter.unusedSimpArgs false
set_option linter.unusedVariables false
namespace Go.Proofs.YtjgnhifkcgpmjaaGreat
open Go.RowKit

theorem less_irrefl : ∀ x : List UInt8, Op.bytesLess x x = false
  | [] => rfl
  | a :: x => by simp [Op.bytesLess, less_irrefl x]
theorem less_asymm : ∀ x y : List UInt8, Op.bytesLess x y = true → Op.bytesLess y x = false
  | [], [], h => by simp [Op.bytesLess] at h
  | [], _ :: _, _ => rfl
  | _ :: _, [], h => by simp [Op.bytesLess] at h
  | a :: x, b :: y, h => by
    simp only [Op.bytesLess, Bool.or_eq_true, decide_eq_true_eq, Bool.and_eq_true, beq_iff_eq] at h
    simp only [Op.bytesLess, Bool.or_eq_false_iff, decide_eq_false_iff_not]
    rcases h with h | ⟨rfl, h⟩
    · have h2 : ¬ b < a := by intro h3; exact absurd (UInt8.lt_trans h h3) (UInt8.lt_irrefl _)
      have h3 : (b == a) = false := by
        rw [beq_eq_false_iff_ne]; rintro rfl; exact UInt8.lt_irrefl _ h
      exact ⟨h2, by rw [h3]; rfl⟩
    · exact ⟨UInt8.lt_irrefl _, by rw [less_asymm x y h]; simp⟩
theorem less_total : ∀ x y : List UInt8, Op.bytesLess x y = false → Op.bytesLess y x = false → x = y
  | [], [], _, _ => rfl
  | [], _ :: _, h, _ => by simp [Op.bytesLess] at h
  | _ :: _, [], _, h => by simp [Op.bytesLess] at h
  | a :: x, b :: y, h, k => by
    simp only [Op.bytesLess, Bool.or_eq_false_iff, decide_eq_false_iff_not] at h k
    have hab : a = b := by
      have h1 := h.1; have h2 := k.1
      rw [UInt8.lt_iff_toNat_lt] at h1 h2
      exact UInt8.toNat_inj.1 (by omega)
    subst hab
    have h1 : Op.bytesLess x y = false := by simpa using h.2
    have h2 : Op.bytesLess y x = false := by simpa using k.2
    rw [less_total x y h1 h2]

theorem strLt_asymm {a b : ByteArray} (h : strLt a b = true) : strLt b a = false := less_asymm _ _ h
theorem strLt_total {a b : ByteArray} (h : strLt a b = false) (h' : strLt b a = false) : a = b := bytes_ext (less_total _ _ h h')
theorem strLe_eq (a b : ByteArray) : (strLt a b || dec (a = b)) = !strLt b a := by
  cases h : strLt b a with
  | false =>
    cases h2 : strLt a b with
    | false => rw [dec_t (strLt_total h2 h)]; rfl
    | true => rfl
  | true =>
    rw [strLt_asymm h, dec_f (by rintro rfl; rw [strLt_self] at h; cases h)]
    rfl

theorem less_trans : ∀ x y z : List UInt8, Op.bytesLess x y = true → Op.bytesLess y z = true → Op.bytesLess x z = true
  | _, _, [], _, h => by simp [Op.bytesLess] at h
  | [], [], _ :: _, h, _ => by simp [Op.bytesLess] at h
  | [], _ :: _, _ :: _, _, _ => rfl
  | _ :: _, [], _ :: _, h, _ => by simp [Op.bytesLess] at h
  | a :: x, b :: y, c :: z, h, k => by
    simp only [Op.bytesLess, Bool.or_eq_true, decide_eq_true_eq, Bool.and_eq_true, beq_iff_eq] at h k ⊢
    rcases h with h | ⟨rfl, h⟩
    · rcases k with k | ⟨rfl, k⟩
      · exact .inl (UInt8.lt_trans h k)
      · exact .inl h
    · rcases k with k | ⟨rfl, k⟩
      · exact .inl k
      · exact .inr ⟨rfl, less_trans x y z h k⟩
theorem strLt_trans {a b c : ByteArray} (h : strLt a b = true) (k : strLt b c = true) : strLt a c = true := less_trans _ _ _ h k
theorem strLt_ne {a b : ByteArray} (h : strLt a b = true) : ¬ a = b := by rintro rfl; rw [strLt_self] at h; cases h
theorem cmpB_neg (a b : ByteArray) : dec (cmpB a b < 0) = strLt a b := by
  unfold cmpB
  cases strLt a b
  · cases dec (a = b)
    · exact dec_f (by simp)
    · exact dec_f (by simp)
  · exact dec_t (by simp)
theorem cmpB_zero (a b : ByteArray) : dec (cmpB a b = 0) = dec (a = b) := by
  unfold cmpB
  cases h : strLt a b
  · cases h2 : dec (a = b)
    · exact dec_f (by simp)
    · exact dec_t (by simp)
  · rw [dec_f (strLt_ne h)]
    exact dec_f (by simp)

theorem wrap_u64 {n : Int} (h0 : 0 ≤ n) (h1 : n ≤ 18446744073709551615) : IntKind.u64.wrap n = n := inK_wrap (by
  have e1 : IntKind.u64.min = 0 := by decide
  have e2 : IntKind.u64.max = 18446744073709551615 := by decide
  unfold inK
  rw [e1, e2]
  exact ⟨h0, h1⟩)

end Go.Proofs.YtjgnhifkcgpmjaaGreat

set_option maxRecDepth 100000
set_option linter.unusedSimpArgs false
set_option linter.unusedVariables false
namespace Go.Proofs.YtjgnhifkcgpmjaaGreat
open Go.RowKit

theorem less_lt : ∀ x y : List UInt8, Op.bytesLess x y = true ↔ x < y
  | [], [] => by simp [Op.bytesLess]
  | [], b :: y => by simp [Op.bytesLess]
  | a :: x, [] => by simp [Op.bytesLess]
  | a :: x, b :: y => by
    have h := less_lt x y
    rw [List.cons_lt_cons_iff, ← h]
    simp only [Op.bytesLess, Bool.or_eq_true, decide_eq_true_eq, Bool.and_eq_true, beq_iff_eq]
theorem strLt_lt (a b : ByteArray) : strLt a b = true ↔ a.toList < b.toList := less_lt _ _
theorem insU_pair (n : ByteArray) : ∀ xs : List ByteArray, xs.Pairwise (fun x y => strLt x y = true) → (insU xs n).Pairwise fun x y => strLt x y = true
  | [], _ => by simp [insU]
  | x :: xs, h => by
    rw [insU]
    rw [List.pairwise_cons] at h
    cases hq : strLt x n with
    | true =>
      rw [cond_true, List.pairwise_cons]
      refine ⟨fun y hy => ?_, insU_pair n xs h.2⟩
      rcases insU_mem.1 hy with hy | rfl
      · exact h.1 y hy
      · exact hq
    | false =>
      rw [cond_false]
      by_cases he : x = n
      · rw [dec_t he, cond_true, List.pairwise_cons]; exact h
      · rw [dec_f he, cond_false, List.pairwise_cons, List.pairwise_cons]
        have hn : strLt n x = true := by
          cases hh : strLt n x with
          | true => rfl
          | false => exact absurd (strLt_total hq hh) he
        refine ⟨fun y hy => ?_, h⟩
        rcases List.mem_cons.1 hy with rfl | hy
        · exact hn
        · exact strLt_trans hn (h.1 y hy)
theorem insA_pair : ∀ (ns xs : List ByteArray), xs.Pairwise (fun x y => strLt x y = true) → (insA xs ns).Pairwise fun x y => strLt x y = true
  | [], xs, h => h
  | n :: ns, xs, h => insA_pair ns (insU xs n) (insU_pair n xs h)
theorem pair_nodup {xs : List ByteArray} (h : xs.Pairwise fun x y => strLt x y = true) : xs.Nodup :=
  h.imp fun {a b} hab e => by rw [e, strLt_self] at hab; cases hab
theorem srtB_pair (l : List ByteArray) : (srtB l).Pairwise fun x y => strLt y x = false := by
  unfold srtB srt
  rw [List.pairwise_map]
  have h := List.pairwise_mergeSort (le := fun x y : List UInt8 => decide (x ≤ y)) (fun a b c h k => by
    rw [decide_eq_true_eq] at h k ⊢; exact List.le_trans h k) (fun a b => by
    rw [Bool.or_eq_true, decide_eq_true_eq, decide_eq_true_eq]; exact List.le_total a b) (l.map (·.toList))
  refine h.imp fun {a b} hab => ?_
  rw [decide_eq_true_eq] at hab
  rw [Bool.eq_false_iff]
  intro hh
  have := (strLt_lt _ _).1 hh
  rw [ByteArray.toList_eq, ByteArray.toList_eq] at this
  exact absurd this (List.not_lt.2 hab)
/-- Sorting what was put together is putting one after the other at its place. -/
theorem srtB_insA (ns : List ByteArray) : srtB (addA [] ns) = insA [] ns := by
  have h1 := insA_pair ns [] List.Pairwise.nil
  have n1 := pair_nodup h1
  have n2 : (addA [] ns).Nodup := addA_nodup List.nodup_nil
  have hp : (srtB (addA [] ns)).Perm (insA [] ns) := (srtB_perm _).trans ((List.perm_ext_iff_of_nodup n2 n1).2 fun a => by rw [addA_mem, insA_mem])
  refine List.Perm.eq_of_pairwise (le := fun x y => strLt y x = false) (fun a b _ _ h k => strLt_total k h) (srtB_pair _) (h1.imp fun h => strLt_asymm h) hp
end Go.Proofs.YtjgnhifkcgpmjaaGreat

set_option maxRecDepth 100000
set_option linter.unusedSimpArgs false
set_option linter.unusedVariables false
namespace Go.Proofs.YtjgnhifkcgpmjaaGreat
open Go.RowKit

noncomputable def bdOk (x : Bd) : Bool := varB x.var && (x.term.valid && !dec (x.term.name = x.var))
noncomputable def bdAt (xs : List Bd) (k : Nat) : Bool := match xs[k]? with
  | none => true
  | some x => bdOk x && (match k with
    | 0 => true
    | j + 1 => match xs[j]? with
      | none => true
      | some y => strLt y.var x.var)
noncomputable def bdTo (xs : List Bd) : Nat → Bool
  | 0 => true
  | k + 1 => bdTo xs k && bdAt xs k
theorem bdTo_mono {xs : List Bd} {k n : Nat} (h : bdTo xs k = false) (hn : k ≤ n) : bdTo xs n = false := by
  induction n with
  | zero => obtain rfl : k = 0 := by omega
            exact h
  | succ n ih =>
    rcases Nat.lt_or_ge n k with h1 | h1
    · obtain rfl : k = n + 1 := by omega
      exact h
    · rw [bdTo, ih h1]; rfl
theorem bdAt_zero {xs : List Bd} (h : 0 < xs.length) : bdAt xs 0 = bdOk xs[0] := by
  unfold bdAt
  rw [List.getElem?_eq_getElem h]
  simp
theorem bdAt_succ {xs : List Bd} {j : Nat} (h : j + 1 < xs.length) : bdAt xs (j + 1) = (bdOk xs[j + 1] && strLt xs[j].var xs[j + 1].var) := by
  unfold bdAt
  rw [List.getElem?_eq_getElem h]
  simp only [List.getElem?_eq_getElem (show j < xs.length by omega)]
theorem bdTo_at {xs : List Bd} {k j : Nat} (h : bdTo xs k = true) (hj : j < k) : bdAt xs j = true := by
  induction k with
  | zero => omega
  | succ k ih =>
    rw [bdTo, Bool.and_eq_true] at h
    rcases Nat.lt_or_ge j k with h1 | h1
    · exact ih h.1 h1
    · obtain rfl : j = k := by omega
      exact h.2
theorem bdAt_ok {xs : List Bd} {j : Nat} (hl : j < xs.length) (h : bdAt xs j = true) : bdOk xs[j] = true := by
  cases j with
  | zero => rw [← bdAt_zero hl]; exact h
  | succ j => rw [bdAt_succ hl, Bool.and_eq_true] at h; exact h.1
noncomputable def Sb.ok (x : Sb) : Bool := decide (x.binds.length ≤ 12) && bdTo x.binds x.binds.length
theorem Sb.not_ok {x : Sb} {k : Nat} (h : bdTo x.binds k = true) (h' : bdAt x.binds k = false) (hk : k < x.binds.length) : x.ok = false := by
  have : bdTo x.binds x.binds.length = false := bdTo_mono (k := k + 1) (by rw [bdTo, h, h']; rfl) (by omega)
  unfold Sb.ok
  rw [this, Bool.and_false]
def Sb.tame (x : Sb) : Prop := x.binds.length ≤ 1099511627776 ∧ ∀ y ∈ x.binds, y.term.nodes ≤ 1099511627776
theorem Sb.tame_at {x : Sb} (h : x.tame) {k : Nat} (hk : k < x.binds.length) : x.binds[k].term.nodes ≤ 1099511627776 := h.2 _ (List.getElem_mem hk)



def c_spec_l4Find : SC := (.seq (.reg [⟨(some 2), none, (.boxv 93 1 (.t 0))⟩, ⟨(some 4), none, (.mv (.c (.int .i64 0)))⟩]) (.seq (.seq (.reg [⟨(some 5), none, (.mv (.c (.int .i64 0)))⟩]) (.block 0 (.loop [0, 1, 1, 0, 0, 1, 0, 0, 0, 0, 0, 0, 0, 0, 0, 0, 0, 0, 0, 0, 0, 0] (.seq (.seq (.reg [⟨(some 6), none, (.mv (.t 5))⟩, ⟨(some 7), none, (.faddr 0 (.t 2))⟩, ⟨(some 8), none, (.load false 1 (.t 7))⟩, ⟨(some 9), none, (.len false (.t 8))⟩, ⟨(some 10), none, (.bin .lss false (.t 6) (.t 9))⟩]) (.cond (.t 10) .skip (.exit 0))) (.seq (.block 1 (.seq (.reg [⟨(some 13), none, (.faddr 0 (.t 2))⟩, ⟨(some 14), none, (.load false 1 (.t 13))⟩, ⟨(some 15), none, (.mv (.t 5))⟩, ⟨(some 16), none, (.iaddr 3 (.t 14) (.t 15))⟩, ⟨(some 17), none, (.faddr 0 (.t 16))⟩, ⟨(some 18), none, (.load false 1 (.t 17))⟩, ⟨(some 19), none, (.mv (.t 1))⟩, ⟨(some 20), none, (.bin .eql false (.t 18) (.t 19))⟩]) (.cond (.t 20) (.seq (.reg [⟨(some 21), none, (.mv (.t 5))⟩, ⟨(some 4), none, (.mv (.t 21))⟩]) .ret) .skip))) (.reg [⟨(some 11), none, (.mv (.t 5))⟩, ⟨(some 12), none, (.bin .add false (.t 11) (.c (.int .i64 1)))⟩, ⟨(some 5), none, (.mv (.t 12))⟩])))))) (.seq (.reg [⟨(some 4), none, (.mv (.c (.int .i64 (-(0 + 1)))))⟩]) .ret)))
theorem k_spec_l4Find : codeOf Tryz.prog 110 = some ⟨22, c_spec_l4Find, [(.tmp 4)]⟩ := by kernel_rfl
theorem m_spec_l4Find : modes 110 = ⟨[], .asis, none, false⟩ := by unfold modes; rfl

set_option maxHeartbeats 2000000 in
theorem l4Find_E (x : Sb) (n : ByteArray) (hl : x.binds.length ≤ 1099511627776) : E 110 [x.sv, .str n] [] = some (.int .i64 (idxP (fun b => dec (b.var = n)) x.binds 0), []) := by
  refine E_walk k_spec_l4Find m_spec_l4Find (of_decide_eq_true rfl) ?_
  simp (disch := omega) only [c_spec_l4Find, go_sem, go_cond, Nat.reduceAdd, Nat.reduceSub, Nat.reduceLT, Nat.reduceLeDiff, Nat.reduceEqDiff, Nat.reduceBEq, Nat.reduceBneDiff, Nat.reduceMul, ↓reduceIte, Int.reduceToNat, reduceCtorEq, Int.reduceNeg, Int.reduceAdd]
  refine go_loop (α := Int) (fun a => ⟨slots 22 0 [(1, .str n), (2, .ptr 0 0), (5, .int .i64 a)], [.box 93 [.arr (x.binds.map Bd.d)]]⟩) (fun a => ∃ k : Nat, a = k ∧ k ≤ (x.binds).length ∧ idxP (fun b => dec (b.var = n)) (x.binds.drop k) a = idxP (fun b => dec (b.var = n)) x.binds 0) (fun a => (x.binds).length - (a).toNat) 0 ⟨0, rfl, Nat.zero_le _, by rw [List.drop_zero]⟩ (by simp (disch := omega) only [go_sem, go_cond, Nat.reduceAdd, Nat.reduceSub, Nat.reduceLT, Nat.reduceLeDiff, Nat.reduceEqDiff, Nat.reduceBEq, Nat.reduceBneDiff, Nat.reduceMul, ↓reduceIte, Int.reduceToNat, reduceCtorEq, Int.reduceNeg, Int.reduceAdd]) ?_
  rintro i ⟨k, hi, hk, hR⟩
  have hni : i.toNat = k := by omega
  have hni1 : (i + 1).toNat = k + 1 := by omega
  rcases Nat.lt_or_ge k (x.binds).length with hlt | hge
  · have hg := get_at Bd.d hlt
    rw [Bd.d_eq] at hg
    rw [List.drop_eq_getElem_cons hlt, idxP] at hR
    cases hp : dec (x.binds[k].var = n) with
    | true =>
      rw [hp] at hR
      simp (disch := omega) only [go_sem, go_cond, Nat.reduceAdd, Nat.reduceSub, Nat.reduceLT, Nat.reduceLeDiff, Nat.reduceEqDiff, Nat.reduceBEq, Nat.reduceBneDiff, Nat.reduceMul, ↓reduceIte, Int.reduceToNat, reduceCtorEq, Int.reduceNeg, Int.reduceAdd, hni, hg, hp]
      simpa using hR
    | false =>
      rw [hp] at hR
      simp (disch := omega) only [go_sem, go_cond, Nat.reduceAdd, Nat.reduceSub, Nat.reduceLT, Nat.reduceLeDiff, Nat.reduceEqDiff, Nat.reduceBEq, Nat.reduceBneDiff, Nat.reduceMul, ↓reduceIte, Int.reduceToNat, reduceCtorEq, Int.reduceNeg, Int.reduceAdd, hni, hg, hp]
      exact ⟨i + 1, ⟨k + 1, by omega, hlt, by simpa using hR⟩, by omega, by first | trivial | rfl⟩
  · rw [List.drop_eq_nil_of_le hge, idxP] at hR
    simp (disch := omega) only [go_sem, go_cond, Nat.reduceAdd, Nat.reduceSub, Nat.reduceLT, Nat.reduceLeDiff, Nat.reduceEqDiff, Nat.reduceBEq, Nat.reduceBneDiff, Nat.reduceMul, ↓reduceIte, Int.reduceToNat, reduceCtorEq, Int.reduceNeg, Int.reduceAdd, hni]
    exact hR
end Go.Proofs.YtjgnhifkcgpmjaaGreat

set_option maxRecDepth 100000
set_option linter.unusedSimpArgs false
set_option linter.unusedVariables false
namespace Go.Proofs.YtjgnhifkcgpmjaaGreat
open Go.RowKit

def bdUp (xs : List Bd) : Prop := ∀ j k (h : j < k) (hk : k < xs.length), strLt xs[j].var xs[k].var = true
theorem bdTo_up {xs : List Bd} (h : bdTo xs xs.length = true) : bdUp xs := by
  intro j k hjk hk
  induction k with
  | zero => omega
  | succ k ih =>
    have h1 := bdTo_at h hk
    rw [bdAt_succ hk, Bool.and_eq_true] at h1
    rcases Nat.lt_or_ge j k with h2 | h2
    · exact strLt_trans (ih h2 (by omega)) h1.2
    · obtain rfl : j = k := by omega
      exact h1.2
theorem Sb.ok_up {x : Sb} (h : x.ok = true) : bdUp x.binds := by
  unfold Sb.ok at h
  rw [Bool.and_eq_true] at h
  exact bdTo_up h.2
/-- How many of the first bindings lie before a name. -/
def lowI : List Bd → ByteArray → Nat
  | [], _ => 0
  | x :: xs, n => if strLt x.var n then lowI xs n + 1 else 0
theorem lowI_le (n : ByteArray) : ∀ xs : List Bd, lowI xs n ≤ xs.length
  | [] => Nat.le_refl _
  | x :: xs => by
    have := lowI_le n xs
    rw [lowI]; simp only [List.length_cons]; split <;> omega
theorem lowI_before (n : ByteArray) : ∀ (xs : List Bd) (j : Nat) (h : j < xs.length), j < lowI xs n → strLt xs[j].var n = true
  | [], j, h, _ => absurd h (by simp)
  | x :: xs, j, h, hj => by
    rw [lowI] at hj
    split at hj
    · rename_i hx
      cases j with
      | zero => exact hx
      | succ j => exact lowI_before n xs j (by simpa using h) (by omega)
    · omega
theorem lowI_at (n : ByteArray) : ∀ (xs : List Bd) (h : lowI xs n < xs.length), strLt (xs[lowI xs n]).var n = false
  | [], h => absurd h (by simp)
  | x :: xs, h => by
    cases hx : strLt x.var n with
    | false =>
      have e : lowI (x :: xs) n = 0 := by rw [lowI, if_neg (by rw [hx]; simp)]
      simp only [e, List.getElem_cons_zero]; exact hx
    | true =>
      have e : lowI (x :: xs) n = lowI xs n + 1 := by rw [lowI, if_pos hx]
      have h2 : lowI xs n < xs.length := by rw [e] at h; simpa using h
      simp only [e, List.getElem_cons_succ]; exact lowI_at n xs h2
theorem lowI_iff {xs : List Bd} (hs : bdUp xs) (n : ByteArray) {m : Nat} (h : m < xs.length) : strLt xs[m].var n = true ↔ m < lowI xs n := by
  constructor
  · intro h1
    rcases Nat.lt_or_ge m (lowI xs n) with h2 | h2
    · exact h2
    · have h3 := lowI_at n xs (by omega)
      rcases Nat.lt_or_ge (lowI xs n) m with h4 | h4
      · rw [strLt_trans (hs _ _ h4 h) h1] at h3; cases h3
      · have e : lowI xs n = m := by omega
        simp only [e] at h3
        rw [h1] at h3; cases h3
  · exact lowI_before n xs m h
noncomputable def hitB (xs : List Bd) (n : ByteArray) : Bool := match xs[lowI xs n]? with
  | none => false
  | some b => dec (b.var = n)


def c_impl_Substitution_term_1 : SC := (.seq (.reg [⟨(some 2), none, (.boxv 101 3 (.t 0))⟩, ⟨(some 4), none, (.mv (.c (.int .i64 0)))⟩]) (.seq (.reg [⟨(some 5), none, (.faddr 0 (.t 2))⟩, ⟨(some 6), none, (.load false 1 (.t 5))⟩, ⟨(some 7), none, (.mv (.t 1))⟩, ⟨(some 8), none, (.call 143 [(.t 6), (.t 7)])⟩, ⟨(some 4), none, (.mv (.t 8))⟩]) .ret))
theorem k_impl_Substitution_term_1 : codeOf Tryz.prog 142 = some ⟨9, c_impl_Substitution_term_1, [(.tmp 4)]⟩ := by kernel_rfl
theorem m_impl_Substitution_term_1 : modes 142 = ⟨[], .asis, none, false⟩ := by unfold modes; rfl

theorem g_impl_Substitution_term_1 : goFn Tryz.prog 142 = true := by kernel_rfl

def c_slices_BinarySearchFunc_impl_Binding_impl_Binding_string : SC := (.seq (.reg [⟨(some 6), none, (.mv (.c (.int .i64 0)))⟩, ⟨(some 7), none, (.mv (.c (.bool false)))⟩]) (.seq (.reg [⟨(some 12), none, (.mv (.t 0))⟩, ⟨(some 13), none, (.len false (.t 12))⟩, ⟨(some 8), none, (.mv (.t 13))⟩]) (.seq (.reg [⟨(some 14), none, (.mv (.t 8))⟩, ⟨(some 9), none, (.mv (.c (.int .i64 0)))⟩, ⟨(some 10), none, (.mv (.t 14))⟩]) (.seq (.block 0 (.loop [1, 1, 1, 0, 0, 0, 0, 0, 1, 1, 1, 0, 0, 0, 0, 0, 0, 0, 0, 0, 0, 0, 0, 0, 0, 0, 0, 0, 0, 0, 0, 0, 0, 0, 0, 0, 0, 0, 0, 0, 0, 0, 0, 0, 0, 0, 0, 0, 0] (.seq (.seq (.reg [⟨(some 15), none, (.mv (.t 9))⟩, ⟨(some 16), none, (.mv (.t 10))⟩, ⟨(some 17), none, (.bin .lss false (.t 15) (.t 16))⟩]) (.cond (.t 17) .skip (.exit 0))) (.block 1 (.seq (.reg [⟨(some 18), none, (.mv (.t 9))⟩, ⟨(some 19), none, (.mv (.t 10))⟩, ⟨(some 20), none, (.bin .add false (.t 18) (.t 19))⟩, ⟨(some 21), none, (.conv .u64 (.t 20))⟩, ⟨(some 22), none, (.bin .shr false (.t 21) (.c (.int .u64 1)))⟩, ⟨(some 23), none, (.conv .i64 (.t 22))⟩, ⟨(some 11), none, (.mv (.t 23))⟩]) (.seq (.reg [⟨(some 24), none, (.mv (.t 2))⟩, ⟨(some 25), none, (.mv (.t 0))⟩, ⟨(some 26), none, (.mv (.t 11))⟩, ⟨(some 27), none, (.iaddr 3 (.t 25) (.t 26))⟩, ⟨(some 28), none, (.load true 3 (.t 27))⟩, ⟨(some 29), none, (.mv (.t 1))⟩, ⟨(some 30), none, (.callv (.t 24) [(.t 28), (.t 29)])⟩, ⟨(some 31), none, (.bin .lss false (.t 30) (.c (.int .i64 0)))⟩]) (.cond (.t 31) (.reg [⟨(some 32), none, (.mv (.t 11))⟩, ⟨(some 33), none, (.bin .add false (.t 32) (.c (.int .i64 1)))⟩, ⟨(some 9), none, (.mv (.t 33))⟩]) (.reg [⟨(some 34), none, (.mv (.t 11))⟩, ⟨(some 10), none, (.mv (.t 34))⟩])))))))) (.seq (.reg [⟨(some 35), none, (.mv (.t 9))⟩, ⟨(some 36), none, (.mv (.t 9))⟩, ⟨(some 37), none, (.mv (.t 8))⟩, ⟨(some 38), none, (.bin .lss false (.t 36) (.t 37))⟩, ⟨(some 39), none, (.mv (.t 38))⟩, ⟨(some 40), (some (39, true)), (.mv (.t 2))⟩, ⟨(some 41), (some (39, true)), (.mv (.t 0))⟩, ⟨(some 42), (some (39, true)), (.mv (.t 9))⟩, ⟨(some 43), (some (39, true)), (.iaddr 3 (.t 41) (.t 42))⟩, ⟨(some 44), (some (39, true)), (.load true 3 (.t 43))⟩, ⟨(some 45), (some (39, true)), (.mv (.t 1))⟩, ⟨(some 46), (some (39, true)), (.callv (.t 40) [(.t 44), (.t 45)])⟩, ⟨(some 47), (some (39, true)), (.bin .eql false (.t 46) (.c (.int .i64 0)))⟩, ⟨(some 48), none, (.pick (.t 39) (.t 47) (.c (.bool false)))⟩, ⟨(some 6), none, (.mv (.t 35))⟩, ⟨(some 7), none, (.mv (.t 48))⟩]) .ret)))))
theorem k_slices_BinarySearchFunc_impl_Binding_impl_Binding_string : codeOf Tryz.prog 141 = some ⟨49, c_slices_BinarySearchFunc_impl_Binding_impl_Binding_string, [(.tmp 6), (.tmp 7)]⟩ := by kernel_rfl
theorem m_slices_BinarySearchFunc_impl_Binding_impl_Binding_string : modes 141 = ⟨[], .asis, none, false⟩ := by unfold modes; rfl

def c_impl_Substitution_term : SC := (.seq (.reg [⟨(some 2), none, (.boxv 93 1 (.t 0))⟩, ⟨(some 4), none, (.alloc 31 [(.str ⟨#[]⟩), .nil])⟩, ⟨(some 5), none, (.mv (.c (.bool false)))⟩]) (.seq (.reg [⟨(some 9), none, (.faddr 0 (.t 2))⟩, ⟨(some 10), none, (.load false 1 (.t 9))⟩, ⟨(some 11), none, (.mv (.t 1))⟩, ⟨(some 12), none, (.call 141 [(.t 10), (.t 11), (.c (.fn 142 []))])⟩, ⟨(some 8), none, (.mv (.t 12))⟩, ⟨(some 13), none, (.ext (.t 8) 0)⟩, ⟨(some 14), none, (.ext (.t 8) 1)⟩, ⟨(some 6), none, (.mv (.t 13))⟩, ⟨(some 7), none, (.mv (.t 14))⟩]) (.seq (.seq (.reg [⟨(some 15), none, (.mv (.t 7))⟩, ⟨(some 16), none, (.un .not (.t 15))⟩]) (.cond (.t 16) (.seq (.reg [⟨(some 17), none, (.build [(.str ⟨#[]⟩), .nil] [])⟩, ⟨none, none, (.store 2 (.t 4) (.t 17))⟩, ⟨(some 5), none, (.mv (.c (.bool false)))⟩]) .ret) .skip)) (.seq (.reg [⟨(some 18), none, (.faddr 0 (.t 2))⟩, ⟨(some 19), none, (.load false 1 (.t 18))⟩, ⟨(some 20), none, (.mv (.t 6))⟩, ⟨(some 21), none, (.iaddr 3 (.t 19) (.t 20))⟩, ⟨(some 22), none, (.faddr 1 (.t 21))⟩, ⟨(some 23), none, (.load true 2 (.t 22))⟩, ⟨none, none, (.store 2 (.t 4) (.t 23))⟩, ⟨(some 5), none, (.mv (.c (.bool true)))⟩]) .ret))))
theorem k_impl_Substitution_term : codeOf Tryz.prog 120 = some ⟨24, c_impl_Substitution_term, [(.cell 4 true 2), (.tmp 5)]⟩ := by kernel_rfl
theorem m_impl_Substitution_term : modes 120 = ⟨[], .frz, none, false⟩ := by unfold modes; rfl

theorem term1_E (b : Bd) (n : ByteArray) : E 142 [b.sv, .str n] [] = some (.int .i64 (cmpB b.var n), []) := by
  have h := compareS_E b.var n
  refine E_walk k_impl_Substitution_term_1 m_impl_Substitution_term_1 (of_decide_eq_true rfl) ?_
  simp (disch := omega) only [c_impl_Substitution_term_1, go_sem, go_cond, Nat.reduceAdd, Nat.reduceSub, Nat.reduceLT, Nat.reduceLeDiff, Nat.reduceEqDiff, Nat.reduceBEq, Nat.reduceBneDiff, Nat.reduceMul, ↓reduceIte, Int.reduceToNat, reduceCtorEq, Int.reduceNeg, Int.reduceAdd, h, m_cmp_Compare_string]
set_option maxHeartbeats 2000000 in
theorem bsearch_E (xs : List Bd) (n : ByteArray) (hl : xs.length ≤ 1099511627776) (hs : bdUp xs) : E 141 [.arr (xs.map Bd.d), .str n, .fn 142 []] [] = some (.tup [.int .i64 (lowI xs n : Nat), .bool (hitB xs n)], []) := by
  have hlow := lowI_le n xs
  obtain ⟨L, hL⟩ : ∃ L : Int, L = (lowI xs n : Nat) := ⟨_, rfl⟩
  rw [← hL]
  refine E_walk k_slices_BinarySearchFunc_impl_Binding_impl_Binding_string m_slices_BinarySearchFunc_impl_Binding_impl_Binding_string (of_decide_eq_true rfl) ?_
  simp (disch := omega) only [c_slices_BinarySearchFunc_impl_Binding_impl_Binding_string, go_sem, go_cond, Nat.reduceAdd, Nat.reduceSub, Nat.reduceLT, Nat.reduceLeDiff, Nat.reduceEqDiff, Nat.reduceBEq, Nat.reduceBneDiff, Nat.reduceMul, ↓reduceIte, Int.reduceToNat, reduceCtorEq, Int.reduceNeg, Int.reduceAdd]
  refine go_loop (α := Int × Int) (fun a => ⟨slots 49 0 [(0, .arr (xs.map Bd.d)), (1, .str n), (2, .fn 142 []), (8, .int .i64 xs.length), (9, .int .i64 a.1), (10, .int .i64 a.2)], []⟩) (fun a => 0 ≤ a.1 ∧ a.1 ≤ L ∧ L ≤ a.2 ∧ a.2 ≤ xs.length) (fun a => (a.2 - a.1).toNat) (0, xs.length) ⟨by simp, by dsimp only; omega, by dsimp only; omega, by dsimp only; omega⟩ (by simp (disch := omega) only [go_sem, go_cond, Nat.reduceAdd, Nat.reduceSub, Nat.reduceLT, Nat.reduceLeDiff, Nat.reduceEqDiff, Nat.reduceBEq, Nat.reduceBneDiff, Nat.reduceMul, ↓reduceIte, Int.reduceToNat, reduceCtorEq, Int.reduceNeg, Int.reduceAdd]) ?_
  rintro ⟨i, j⟩ ⟨h0, h1, h2, h3⟩
  dsimp only at h0 h1 h2 h3
  rcases Int.lt_or_le i j with hij | hij
  · obtain ⟨m, hm⟩ : ∃ m : Nat, (i + j) / 2 = (m : Int) := ⟨((i + j) / 2).toNat, by omega⟩
    have hlt : m < xs.length := by omega
    have hni : (m : Int).toNat = m := Int.toNat_natCast m
    have hg := get_at Bd.d hlt
    rw [Bd.d_eq] at hg
    have hc := term1_E xs[m] n
    have hw : IntKind.u64.wrap (i + j) = i + j := wrap_u64 (by omega) (by omega)
    have hi := lowI_iff hs n hlt
    obtain ⟨M, hM⟩ : ∃ M : Int, (i + j) / 2 = M := ⟨_, rfl⟩
    have hni : M.toNat = m := by omega
    cases hq : strLt xs[m].var n with
    | true =>
      have hi2 := hi.1 hq
      simp (disch := omega) only [go_sem, go_cond, Nat.reduceAdd, Nat.reduceSub, Nat.reduceLT, Nat.reduceLeDiff, Nat.reduceEqDiff, Nat.reduceBEq, Nat.reduceBneDiff, Nat.reduceMul, ↓reduceIte, Int.reduceToNat, reduceCtorEq, Int.reduceNeg, Int.reduceAdd, hw, hni, hg, hc, g_impl_Substitution_term_1, m_impl_Substitution_term_1, cmpB_neg, hq, hM]
      exact ⟨(M + 1, j), ⟨by dsimp only; omega, by dsimp only; omega, by dsimp only; omega, by dsimp only; omega⟩, by dsimp only; omega, by first | trivial | rfl⟩
    | false =>
      have hi2 : ¬ m < lowI xs n := by rw [← hi, hq]; simp
      simp (disch := omega) only [go_sem, go_cond, Nat.reduceAdd, Nat.reduceSub, Nat.reduceLT, Nat.reduceLeDiff, Nat.reduceEqDiff, Nat.reduceBEq, Nat.reduceBneDiff, Nat.reduceMul, ↓reduceIte, Int.reduceToNat, reduceCtorEq, Int.reduceNeg, Int.reduceAdd, hw, hni, hg, hc, g_impl_Substitution_term_1, m_impl_Substitution_term_1, cmpB_neg, hq, hM]
      exact ⟨(i, M), ⟨by dsimp only; omega, by dsimp only; omega, by dsimp only; omega, by dsimp only; omega⟩, by dsimp only; omega, by first | trivial | rfl⟩
  · obtain rfl : i = L := by omega
    rcases Nat.lt_or_ge (lowI xs n) xs.length with hlt | hge
    · have hg := get_at Bd.d hlt
      rw [Bd.d_eq] at hg
      have hni : i.toNat = lowI xs n := by omega
      have hc := term1_E xs[lowI xs n] n
      have hh : hitB xs n = dec (xs[lowI xs n].var = n) := by unfold hitB; rw [List.getElem?_eq_getElem hlt]
      rw [hh]
      simp (disch := omega) only [go_sem, go_cond, Nat.reduceAdd, Nat.reduceSub, Nat.reduceLT, Nat.reduceLeDiff, Nat.reduceEqDiff, Nat.reduceBEq, Nat.reduceBneDiff, Nat.reduceMul, ↓reduceIte, Int.reduceToNat, reduceCtorEq, Int.reduceNeg, Int.reduceAdd, hni, hg, hc, g_impl_Substitution_term_1, m_impl_Substitution_term_1, cmpB_zero]
    · have hh : hitB xs n = false := by unfold hitB; rw [List.getElem?_eq_none hge]
      rw [hh]
      simp (disch := omega) only [go_sem, go_cond, Nat.reduceAdd, Nat.reduceSub, Nat.reduceLT, Nat.reduceLeDiff, Nat.reduceEqDiff, Nat.reduceBEq, Nat.reduceBneDiff, Nat.reduceMul, ↓reduceIte, Int.reduceToNat, reduceCtorEq, Int.reduceNeg, Int.reduceAdd]
theorem idxP_hit {α : Type} (p : α → Bool) : ∀ (xs : List α) (k : Nat) (i : Int) (h : k < xs.length), (∀ j (hj : j < k), p xs[j] = false) → p xs[k] = true → idxP p xs i = i + k
  | [], k, i, h, _, _ => absurd h (by simp)
  | x :: xs, 0, i, h, _, hp => by rw [idxP, if_pos (show p x = true from hp)]; simp
  | x :: xs, k + 1, i, h, hb, hp => by
    have h0 : p x = false := hb 0 (by omega)
    have := idxP_hit p xs k (i + 1) (by simpa using h) (fun j hj => hb (j + 1) (by omega)) hp
    rw [idxP, if_neg (by rw [h0]; simp), this]; omega
theorem idxP_no {α : Type} (p : α → Bool) : ∀ (xs : List α) (i : Int), (∀ j (hj : j < xs.length), p xs[j] = false) → idxP p xs i = -1
  | [], i, _ => by rw [idxP]
  | x :: xs, i, h => by
    have h0 : p x = false := h 0 (by simp)
    rw [idxP, if_neg (by rw [h0]; simp)]
    exact idxP_no p xs (i + 1) fun j hj => h (j + 1) (by simpa using hj)
/-- The place of a name among ascending bindings. -/
theorem idxP_low {xs : List Bd} (hs : bdUp xs) (n : ByteArray) : idxP (fun b => dec (b.var = n)) xs 0 = if hitB xs n then ((lowI xs n : Nat) : Int) else -1 := by
  have before : ∀ j (hj : j < xs.length), j < lowI xs n → dec (xs[j].var = n) = false := fun j hj hL => dec_f (strLt_ne (lowI_before n xs j hj hL))
  rcases Nat.lt_or_ge (lowI xs n) xs.length with hlt | hge
  · have hh : hitB xs n = dec (xs[lowI xs n].var = n) := by unfold hitB; rw [List.getElem?_eq_getElem hlt]
    cases hq : dec (xs[lowI xs n].var = n) with
    | true =>
      rw [hh, hq, if_pos rfl, idxP_hit _ xs (lowI xs n) 0 hlt (fun j hj => before j (by omega) hj) hq]; omega
    | false =>
      rw [hh, hq, if_neg (by simp)]
      refine idxP_no _ xs 0 fun j hj => ?_
      rcases Nat.lt_trichotomy j (lowI xs n) with h | h | h
      · exact before j hj h
      · subst h; exact hq
      · refine dec_f fun e => ?_
        have h1 := hs _ _ h hj
        rw [e, lowI_at n xs hlt] at h1
        cases h1
  · have hh : hitB xs n = false := by unfold hitB; rw [List.getElem?_eq_none hge]
    rw [hh, if_neg (by simp)]
    exact idxP_no _ xs 0 fun j hj => before j hj (by omega)
theorem hitB_lt {xs : List Bd} {n : ByteArray} (h : hitB xs n = true) : lowI xs n < xs.length := by
  rcases Nat.lt_or_ge (lowI xs n) xs.length with h1 | h1
  · exact h1
  · unfold hitB at h; rw [List.getElem?_eq_none h1] at h; cases h
/-- The term to which a name is bound. -/
noncomputable def Sb.look (x : Sb) (n : ByteArray) : Option Tm := if h : hitB x.binds n = true then some (x.binds[lowI x.binds n]'(hitB_lt h)).term else none
theorem term_F_yes (x : Sb) (hx : bdUp x.binds) (n : ByteArray) (hl : x.binds.length ≤ 1099511627776) (hh : hitB x.binds n = true) (hlt : lowI x.binds n < x.binds.length) : E 120 [x.sv, .str n] [] = some (.tup [(x.binds[lowI x.binds n]).term.sv, .bool true], []) := by
  have hb := bsearch_E x.binds n hl hx
  have hg := get_at Bd.d hlt
  rw [Bd.d_eq] at hg
  have hni : ((lowI x.binds n : Nat) : Int).toNat = lowI x.binds n := Int.toNat_natCast _
  refine E_walk k_impl_Substitution_term m_impl_Substitution_term (of_decide_eq_true rfl) ?_
  simp (disch := omega) only [c_impl_Substitution_term, go_sem, go_cond, Nat.reduceAdd, Nat.reduceSub, Nat.reduceLT, Nat.reduceLeDiff, Nat.reduceEqDiff, Nat.reduceBEq, Nat.reduceBneDiff, Nat.reduceMul, ↓reduceIte, Int.reduceToNat, reduceCtorEq, Int.reduceNeg, Int.reduceAdd, hb, hni, hg, hh, m_slices_BinarySearchFunc_impl_Binding_impl_Binding_string]
theorem term_F_no (x : Sb) (hx : bdUp x.binds) (n : ByteArray) (hl : x.binds.length ≤ 1099511627776) (hh : hitB x.binds n = false) : E 120 [x.sv, .str n] [] = some (.tup [.agg [.str ⟨#[]⟩, .arr []], .bool false], []) := by
  have hb := bsearch_E x.binds n hl hx
  refine E_walk k_impl_Substitution_term m_impl_Substitution_term (of_decide_eq_true rfl) ?_
  simp (disch := omega) only [c_impl_Substitution_term, go_sem, go_cond, Nat.reduceAdd, Nat.reduceSub, Nat.reduceLT, Nat.reduceLeDiff, Nat.reduceEqDiff, Nat.reduceBEq, Nat.reduceBneDiff, Nat.reduceMul, ↓reduceIte, Int.reduceToNat, reduceCtorEq, Int.reduceNeg, Int.reduceAdd, hb, hh, m_slices_BinarySearchFunc_impl_Binding_impl_Binding_string]
theorem term_E_yes (x : Sb) (hx : x.ok = true) (n : ByteArray) (hl : x.binds.length ≤ 1099511627776) (hh : hitB x.binds n = true) (hlt : lowI x.binds n < x.binds.length) : E 120 [x.sv, .str n] [] = some (.tup [(x.binds[lowI x.binds n]).term.sv, .bool true], []) := term_F_yes x (Sb.ok_up hx) n hl hh hlt
theorem term_E_no (x : Sb) (hx : x.ok = true) (n : ByteArray) (hl : x.binds.length ≤ 1099511627776) (hh : hitB x.binds n = false) : E 120 [x.sv, .str n] [] = some (.tup [.agg [.str ⟨#[]⟩, .arr []], .bool false], []) := term_F_no x (Sb.ok_up hx) n hl hh
end Go.Proofs.YtjgnhifkcgpmjaaGreat

set_option maxRecDepth 100000
set_option linter.unusedSimpArgs false
set_option linter.unusedVariables false
namespace Go.Proofs.YtjgnhifkcgpmjaaGreat
open Go.RowKit

theorem Sb.ok_at {x : Sb} (h : x.ok = true) {k : Nat} (hk : k < x.binds.length) : bdOk x.binds[k] = true := by
  unfold Sb.ok at h
  rw [Bool.and_eq_true] at h
  exact bdAt_ok hk (bdTo_at h.2 hk)
theorem bdOk_var {x : Bd} (h : bdOk x = true) : varB x.var = true := by unfold bdOk at h; rw [Bool.and_eq_true] at h; exact h.1
theorem bdOk_valid {x : Bd} (h : bdOk x = true) : x.term.valid = true := by unfold bdOk at h; rw [Bool.and_eq_true, Bool.and_eq_true] at h; exact h.2.1
theorem hitB_eq {xs : List Bd} {n : ByteArray} (h : hitB xs n = true) (hlt : lowI xs n < xs.length) : (xs[lowI xs n]).var = n := by
  have hh : hitB xs n = dec (xs[lowI xs n].var = n) := by unfold hitB; rw [List.getElem?_eq_getElem hlt]
  rw [hh] at h
  exact dec_iff.1 h
theorem Sb.look_okF {x : Sb} (h : x.ok = true) : okF x.look := by
  intro n t ht
  unfold Sb.look at ht
  split at ht
  · rename_i hh
    have hv := bdOk_valid (Sb.ok_at h (hitB_lt hh))
    obtain rfl := Option.some.inj ht
    unfold Tm.valid Tm.small at hv
    rw [Bool.and_eq_true, Bool.and_eq_true, decide_eq_true_eq] at hv
    exact ⟨hv.2, hv.1.1⟩
  · cases ht
theorem Sb.look_yes {x : Sb} {n : ByteArray} (h : hitB x.binds n = true) (hlt : lowI x.binds n < x.binds.length) : x.look n = some (x.binds[lowI x.binds n]).term := by
  unfold Sb.look; rw [dif_pos h]
theorem Sb.look_no {x : Sb} {n : ByteArray} (h : hitB x.binds n = false) : x.look n = none := by
  unfold Sb.look; rw [dif_neg (by rw [h]; simp)]

/-- A substitution in order, of variables. -/
def Sb.fine (s : Sb) : Prop := bdUp s.binds ∧ ∀ b ∈ s.binds, varB b.var = true
theorem Sb.ok_fine {s : Sb} (h : s.ok = true) : s.fine := ⟨Sb.ok_up h, fun b hb => by
  obtain ⟨k, hk, rfl⟩ := List.getElem_of_mem hb
  exact bdOk_var (Sb.ok_at h hk)⟩
def c_impl_Substitution_apply : SC := (.seq (.reg [⟨(some 2), none, (.boxv 93 1 (.t 0))⟩, ⟨(some 3), none, (.boxv 31 2 (.t 1))⟩, ⟨(some 4), none, (.alloc 31 [(.str ⟨#[]⟩), .nil])⟩]) (.seq (.seq (.reg [⟨(some 10), none, (.faddr 1 (.t 3))⟩, ⟨(some 11), none, (.load false 1 (.t 10))⟩, ⟨(some 12), none, (.len false (.t 11))⟩, ⟨(some 13), none, (.bin .eql false (.t 12) (.c (.int .i64 0)))⟩]) (.cond (.t 13) (.seq (.seq (.reg [⟨(some 15), none, (.load true 1 (.t 2))⟩, ⟨(some 16), none, (.faddr 0 (.t 3))⟩, ⟨(some 17), none, (.load false 1 (.t 16))⟩, ⟨(some 18), none, (.call 120 [(.t 15), (.t 17)])⟩, ⟨(some 14), none, (.mv (.t 18))⟩, ⟨(some 19), none, (.ext (.t 14) 0)⟩, ⟨(some 20), none, (.ext (.t 14) 1)⟩, ⟨(some 5), none, (.alloc 31 [(.str ⟨#[]⟩), .nil])⟩, ⟨none, none, (.store 2 (.t 5) (.t 19))⟩, ⟨(some 6), none, (.mv (.t 20))⟩]) (.seq (.reg [⟨(some 21), none, (.mv (.t 6))⟩]) (.cond (.t 21) (.seq (.reg [⟨(some 22), none, (.load true 2 (.t 5))⟩, ⟨(some 23), none, (.call 119 [(.t 22)])⟩, ⟨none, none, (.store 2 (.t 4) (.t 23))⟩]) .ret) .skip))) (.seq (.reg [⟨(some 24), none, (.faddr 0 (.t 3))⟩, ⟨(some 25), none, (.load false 1 (.t 24))⟩, ⟨(some 26), none, (.build [(.str ⟨#[]⟩), .nil] [(0, (1, (.t 25)))])⟩, ⟨none, none, (.store 2 (.t 4) (.t 26))⟩]) .ret)) .skip)) (.seq (.dreg [[], [0], [], [2], [3, 2], [4, 3, 2], [1, 0, 5, 4, 3, 2], [], [7, 6, 1, 0, 5, 4, 3, 2]] [⟨(some 27), none, (.faddr 0 (.t 3))⟩, ⟨(some 28), none, (.load false 1 (.t 27))⟩, ⟨(some 29), none, (.faddr 1 (.t 3))⟩, ⟨(some 30), none, (.load false 1 (.t 29))⟩, ⟨(some 31), none, (.len false (.t 30))⟩, ⟨(some 32), none, (.mkslice 31 2 40 [(.str ⟨#[]⟩), .nil] (.t 31))⟩, ⟨(some 33), none, (.build [(.str ⟨#[]⟩), .nil] [(0, (1, (.t 28))), (1, (1, (.t 32)))])⟩, ⟨(some 7), none, (.alloc 31 [(.str ⟨#[]⟩), .nil])⟩, ⟨none, none, (.store 2 (.t 7) (.t 33))⟩]) (.seq (.seq (.reg [⟨(some 34), none, (.faddr 1 (.t 3))⟩, ⟨(some 35), none, (.load false 1 (.t 34))⟩, ⟨(some 36), none, (.len false (.t 35))⟩, ⟨(some 37), none, (.mv (.c (.int .i64 0)))⟩]) (.block 0 (.loop [0, 0, 1, 0, 1, 0, 0, 1, 0, 0, 0, 0, 0, 0, 0, 0, 0, 0, 0, 0, 0, 0, 0, 0, 0, 0, 0, 0, 0, 0, 0, 0, 0, 0, 0, 1, 1, 1, 0, 0, 0, 0, 0, 0, 0, 0, 0, 0, 0, 0, 0] (.seq (.reg [⟨(some 38), none, (.bin .lss false (.t 37) (.t 36))⟩]) (.seq (.cond (.t 38) .skip (.exit 0)) (.seq (.block 1 (.seq (.reg [⟨(some 39), none, (.mv (.t 37))⟩, ⟨(some 40), none, (.iaddr 2 (.t 35) (.t 37))⟩, ⟨(some 41), none, (.load true 2 (.t 40))⟩, ⟨(some 9), none, (.alloc 31 [(.str ⟨#[]⟩), .nil])⟩, ⟨(some 8), none, (.mv (.t 39))⟩, ⟨none, none, (.store 2 (.t 9) (.t 41))⟩]) (.dreg [[], [0], [], [], [], [3, 4], [1, 0, 2, 3, 4, 5], [6, 1, 0, 2, 3, 4, 5]] [⟨(some 42), none, (.faddr 1 (.t 7))⟩, ⟨(some 43), none, (.load false 1 (.t 42))⟩, ⟨(some 44), none, (.mv (.t 8))⟩, ⟨(some 45), none, (.load true 1 (.t 2))⟩, ⟨(some 46), none, (.load true 2 (.t 9))⟩, ⟨(some 47), none, (.call 86 [(.t 45), (.t 46)])⟩, ⟨(some 48), none, (.iaddr 2 (.t 43) (.t 44))⟩, ⟨none, none, (.store 2 (.t 48) (.t 47))⟩]))) (.reg [⟨(some 49), none, (.bin .add false (.t 37) (.c (.int .i64 1)))⟩, ⟨(some 37), none, (.mv (.t 49))⟩]))))))) (.seq (.reg [⟨(some 50), none, (.load true 2 (.t 7))⟩, ⟨none, none, (.store 2 (.t 4) (.t 50))⟩]) .ret)))))
theorem k_impl_Substitution_apply : codeOf Tryz.prog 86 = some ⟨51, c_impl_Substitution_apply, [(.cell 4 true 2)]⟩ := by kernel_rfl
theorem m_impl_Substitution_apply : modes 86 = ⟨[], .own [none, some (31, 2)], none, false⟩ := by unfold modes; rfl

def c_spec_l4Apply : SC := (.seq (.reg [⟨(some 2), none, (.boxv 93 1 (.t 0))⟩, ⟨(some 3), none, (.boxv 31 2 (.t 1))⟩, ⟨(some 4), none, (.alloc 31 [(.str ⟨#[]⟩), .nil])⟩]) (.seq (.seq (.reg [⟨(some 8), none, (.faddr 0 (.t 3))⟩, ⟨(some 9), none, (.load false 1 (.t 8))⟩, ⟨(some 10), none, (.call 37 [(.t 9)])⟩]) (.cond (.t 10) (.seq (.seq (.reg [⟨(some 11), none, (.load true 1 (.t 2))⟩, ⟨(some 12), none, (.faddr 0 (.t 3))⟩, ⟨(some 13), none, (.load false 1 (.t 12))⟩, ⟨(some 14), none, (.call 110 [(.t 11), (.t 13)])⟩, ⟨(some 5), none, (.mv (.t 14))⟩]) (.seq (.reg [⟨(some 15), none, (.mv (.t 5))⟩, ⟨(some 16), none, (.bin .geq false (.t 15) (.c (.int .i64 0)))⟩]) (.cond (.t 16) (.seq (.reg [⟨(some 17), none, (.faddr 0 (.t 2))⟩, ⟨(some 18), none, (.load false 1 (.t 17))⟩, ⟨(some 19), none, (.mv (.t 5))⟩, ⟨(some 20), none, (.iaddr 3 (.t 18) (.t 19))⟩, ⟨(some 21), none, (.faddr 1 (.t 20))⟩, ⟨(some 22), none, (.load true 2 (.t 21))⟩, ⟨(some 23), none, (.call 89 [(.t 22)])⟩, ⟨none, none, (.store 2 (.t 4) (.t 23))⟩]) .ret) .skip))) (.seq (.reg [⟨(some 24), none, (.faddr 0 (.t 3))⟩, ⟨(some 25), none, (.load false 1 (.t 24))⟩, ⟨(some 26), none, (.build [(.str ⟨#[]⟩), .nil] [(0, (1, (.t 25)))])⟩, ⟨none, none, (.store 2 (.t 4) (.t 26))⟩]) .ret)) .skip)) (.seq (.reg [⟨(some 27), none, (.faddr 0 (.t 3))⟩, ⟨(some 28), none, (.load false 1 (.t 27))⟩, ⟨(some 29), none, (.build [(.str ⟨#[]⟩), .nil] [(0, (1, (.t 28)))])⟩, ⟨(some 6), none, (.alloc 31 [(.str ⟨#[]⟩), .nil])⟩, ⟨none, none, (.store 2 (.t 6) (.t 29))⟩]) (.seq (.seq (.reg [⟨(some 7), none, (.mv (.c (.int .i64 0)))⟩]) (.block 0 (.loop [0, 0, 1, 1, 1, 0, 1, 1, 0, 0, 0, 0, 0, 0, 0, 0, 0, 0, 0, 0, 0, 0, 0, 0, 0, 0, 0, 0, 0, 0, 0, 0, 0, 0, 0, 0, 0, 0, 0, 0, 0, 0, 0, 0, 0, 0, 0, 0, 0, 0] (.seq (.seq (.reg [⟨(some 30), none, (.mv (.t 7))⟩, ⟨(some 31), none, (.faddr 1 (.t 3))⟩, ⟨(some 32), none, (.load false 1 (.t 31))⟩, ⟨(some 33), none, (.len false (.t 32))⟩, ⟨(some 34), none, (.bin .lss false (.t 30) (.t 33))⟩]) (.cond (.t 34) .skip (.exit 0))) (.seq (.block 1 (.dreg [[], [0], [], [], [3], [], [4, 3, 5], [6, 4, 3, 5], [2, 7, 6, 4, 3, 5], [8, 2, 7, 6, 4, 3, 5], [1, 0, 9, 8, 2, 7, 6, 4, 3, 5], [0, 1, 2, 3, 4, 5, 6, 7, 8, 9, 10], [11, 0, 1, 2, 3, 4, 5, 6, 7, 8, 9, 10]] [⟨(some 37), none, (.faddr 1 (.t 6))⟩, ⟨(some 38), none, (.load false 1 (.t 37))⟩, ⟨(some 39), none, (.load true 1 (.t 2))⟩, ⟨(some 40), none, (.faddr 1 (.t 3))⟩, ⟨(some 41), none, (.load false 1 (.t 40))⟩, ⟨(some 42), none, (.mv (.t 7))⟩, ⟨(some 43), none, (.iaddr 2 (.t 41) (.t 42))⟩, ⟨(some 44), none, (.load true 2 (.t 43))⟩, ⟨(some 45), none, (.call 70 [(.t 39), (.t 44)])⟩, ⟨(some 46), none, (.mkrow 31 2 [(.str ⟨#[]⟩), .nil] 1 [(0, (.t 45))])⟩, ⟨(some 47), none, (.append 31 2 40 [(.str ⟨#[]⟩), .nil] (.t 38) (.t 46))⟩, ⟨(some 48), none, (.faddr 1 (.t 6))⟩, ⟨none, none, (.store 1 (.t 48) (.t 47))⟩])) (.reg [⟨(some 35), none, (.mv (.t 7))⟩, ⟨(some 36), none, (.bin .add false (.t 35) (.c (.int .i64 1)))⟩, ⟨(some 7), none, (.mv (.t 36))⟩])))))) (.seq (.reg [⟨(some 49), none, (.load true 2 (.t 6))⟩, ⟨none, none, (.store 2 (.t 4) (.t 49))⟩]) .ret)))))
theorem k_spec_l4Apply : codeOf Tryz.prog 70 = some ⟨50, c_spec_l4Apply, [(.cell 4 true 2)]⟩ := by kernel_rfl
theorem m_spec_l4Apply : modes 70 = ⟨[], .frz, none, false⟩ := by unfold modes; rfl

set_option maxHeartbeats 4000000 in
theorem apply_of (s : Sb) (hs : s.fine) (ht : s.tame) (x : Tm) (hx : varB x.name = true → x.args = []) (hn : x.nodes ≤ 1099511627776) (ih : ∀ y ∈ x.args, E 86 [s.sv, y.sv] [] = some ((y.ap s.look).osv, (y.ap s.look).obs)) : E 86 [s.sv, x.sv] [] = some ((x.ap s.look).osv, (x.ap s.look).obs) := by
  have hsl := ht.1
  have hl := Tm.length_le x.args
  have hne := Tm.nodes_eq x
  rcases Nat.eq_zero_or_pos x.args.length with h0 | h0
  · have hx0 : x.args = [] := List.eq_nil_of_length_eq_zero h0
    cases hh : hitB s.binds x.name with
    | true =>
      have hlt := hitB_lt hh
      have hc := term_F_yes s hs.1 x.name hsl hh hlt
      have hd := copyTerm_E (s.binds[lowI s.binds x.name]).term (Sb.tame_at ht hlt)
      have hv : varB x.name = true := by rw [← hitB_eq hh hlt]; exact hs.2 _ (List.getElem_mem hlt)
      have e : x.ap s.look = (s.binds[lowI s.binds x.name]).term := by rw [Tm.ap_eq, if_pos hv, Sb.look_yes hh hlt]; rfl
      rw [e]
      refine E_walk k_impl_Substitution_apply m_impl_Substitution_apply (of_decide_eq_true rfl) ?_
      simp (disch := omega) only [c_impl_Substitution_apply, go_sem, go_cond, Nat.reduceAdd, Nat.reduceSub, Nat.reduceLT, Nat.reduceLeDiff, Nat.reduceEqDiff, Nat.reduceBEq, Nat.reduceBneDiff, Nat.reduceMul, ↓reduceIte, Int.reduceToNat, reduceCtorEq, Int.reduceNeg, Int.reduceAdd, hx0, hc, hd, List.map_nil, List.length_nil, m_impl_Substitution_term, m_impl_copyTerm, Tm.osv, Tm.obs]
    | false =>
      have hc := term_F_no s hs.1 x.name hsl hh
      have e : x.ap s.look = .mk x.name [] := by
        rw [Tm.ap_eq, Sb.look_no hh, hx0]
        split
        · rfl
        · rw [Tm.apL]
      rw [e]
      have e1 : (Tm.mk x.name []).osv = .agg [.str x.name, .ref 0] := rfl
      have e2 : (Tm.mk x.name []).obs = [.row 31 2 []] := rfl
      rw [e1, e2]
      refine E_walk k_impl_Substitution_apply m_impl_Substitution_apply (of_decide_eq_true rfl) ?_
      simp (disch := omega) only [c_impl_Substitution_apply, go_sem, go_cond, Nat.reduceAdd, Nat.reduceSub, Nat.reduceLT, Nat.reduceLeDiff, Nat.reduceEqDiff, Nat.reduceBEq, Nat.reduceBneDiff, Nat.reduceMul, ↓reduceIte, Int.reduceToNat, reduceCtorEq, Int.reduceNeg, Int.reduceAdd, hx0, hc, List.map_nil, List.length_nil, m_impl_Substitution_term]
  · have hv : ¬ varB x.name = true := fun h => by rw [hx h] at h0; simp at h0
    have e : x.ap s.look = .mk x.name (x.args.map (Tm.ap s.look)) := by rw [Tm.ap_eq, if_neg hv, Tm.apL_map]
    rw [e]
    have e1 : (Tm.mk x.name (x.args.map (Tm.ap s.look))).osv = .agg [.str x.name, .ref 0] := rfl
    have e2 : (Tm.mk x.name (x.args.map (Tm.ap s.look))).obs = [.row 31 2 ((x.args.map (Tm.ap s.look)).map Tm.o)] := rfl
    rw [e1, e2]
    have hrl : List.replicate x.args.length ([.str ⟨#[]⟩, .ow []] : List OT) = fillR Tm.o [.str ⟨#[]⟩, .ow []] (x.args.map (Tm.ap s.look)) 0 := by rw [fillR_zero, List.length_map]
    refine E_walk k_impl_Substitution_apply m_impl_Substitution_apply (of_decide_eq_true rfl) ?_
    simp (disch := omega) only [c_impl_Substitution_apply, go_sem, go_cond, Nat.reduceAdd, Nat.reduceSub, Nat.reduceLT, Nat.reduceLeDiff, Nat.reduceEqDiff, Nat.reduceBEq, Nat.reduceBneDiff, Nat.reduceMul, ↓reduceIte, Int.reduceToNat, reduceCtorEq, Int.reduceNeg, Int.reduceAdd]
    refine go_loop (α := Int) (fun a => ⟨slots 51 0 [(2, .ptr 0 0), (4, .ptr 1 0), (7, .ptr 2 0), (35, .arr (x.args.map Tm.d)), (36, .int .i64 x.args.length), (37, .int .i64 a)], [.box 93 [.arr (s.binds.map Bd.d)], .box 31 [.str ⟨#[]⟩, .nil], .box 31 [.str x.name, .ref 3], .row 31 2 (fillR Tm.o [.str ⟨#[]⟩, .ow []] (x.args.map (Tm.ap s.look)) a.toNat)]⟩) (fun a => ∃ k : Nat, a = k ∧ k ≤ (x.args).length) (fun a => (x.args).length - (a).toNat) 0 ⟨0, rfl, Nat.zero_le _⟩ (by simp (disch := omega) only [go_sem, go_cond, Nat.reduceAdd, Nat.reduceSub, Nat.reduceLT, Nat.reduceLeDiff, Nat.reduceEqDiff, Nat.reduceBEq, Nat.reduceBneDiff, Nat.reduceMul, ↓reduceIte, Int.reduceToNat, reduceCtorEq, Int.reduceNeg, Int.reduceAdd, hrl, Int.toNat_zero]) ?_
    rintro i ⟨k, hi, hk⟩
    have hni : i.toNat = k := by omega
    have hni1 : (i + 1).toNat = k + 1 := by omega
    rcases Nat.lt_or_ge k (x.args).length with hlt | hge
    · have hg := get_at Tm.d hlt
      rw [Tm.d_eq] at hg
      have hltm : k < (x.args.map (Tm.ap s.look)).length := by rw [List.length_map]; exact hlt
      have hz := fillR_get Tm.o [.str ⟨#[]⟩, .ow []] hltm
      have hc := ih x.args[k] (List.getElem_mem hlt)
      have hse := fillR_set Tm.o [.str ⟨#[]⟩, .ow []] hltm
      rw [Tm.o_eq, List.getElem_map] at hse
      simp (disch := omega) only [go_sem, go_cond, Nat.reduceAdd, Nat.reduceSub, Nat.reduceLT, Nat.reduceLeDiff, Nat.reduceEqDiff, Nat.reduceBEq, Nat.reduceBneDiff, Nat.reduceMul, ↓reduceIte, Int.reduceToNat, reduceCtorEq, Int.reduceNeg, Int.reduceAdd, hni, hg, hc, hz, fillR_len, List.length_map, m_impl_Substitution_apply, Tm.osv, Tm.obs]
      refine ⟨i + 1, ⟨k + 1, by omega, hlt⟩, by omega, ?_⟩
      simp (disch := omega) only [go_sem, go_cond, Nat.reduceAdd, Nat.reduceSub, Nat.reduceLT, Nat.reduceLeDiff, Nat.reduceEqDiff, Nat.reduceBEq, Nat.reduceBneDiff, Nat.reduceMul, ↓reduceIte, Int.reduceToNat, reduceCtorEq, Int.reduceNeg, Int.reduceAdd, hni1, hse]
    · obtain rfl : k = x.args.length := by omega
      have hend : fillR Tm.o [.str ⟨#[]⟩, .ow []] (x.args.map (Tm.ap s.look)) x.args.length = (x.args.map (Tm.ap s.look)).map Tm.o := by
        have := fillR_end Tm.o [.str ⟨#[]⟩, .ow []] (xs := x.args.map (Tm.ap s.look))
        rwa [List.length_map] at this
      simp (disch := omega) only [go_sem, go_cond, Nat.reduceAdd, Nat.reduceSub, Nat.reduceLT, Nat.reduceLeDiff, Nat.reduceEqDiff, Nat.reduceBEq, Nat.reduceBneDiff, Nat.reduceMul, ↓reduceIte, Int.reduceToNat, reduceCtorEq, Int.reduceNeg, Int.reduceAdd, hni, hend]
theorem apply_F (s : Sb) (hs : s.fine) (ht : s.tame) (x : Tm) (hx : x.names = true) (hn : x.nodes ≤ 1099511627776) : E 86 [s.sv, x.sv] [] = some ((x.ap s.look).osv, (x.ap s.look).obs) :=
  apply_of s hs ht x (Tm.names_var hx) hn fun y hy => apply_F s hs ht y (Tm.names_arg hx hy) (by have := Tm.nodes_mem hy; have := Tm.nodes_eq x; omega)
termination_by SizeOf.sizeOf x
decreasing_by exact Tm.lt_of_mem hy
theorem apply_E (s : Sb) (hs : s.ok = true) (ht : s.tame) (x : Tm) (hx : x.names = true) (hn : x.nodes ≤ 1099511627776) : E 86 [s.sv, x.sv] [] = some ((x.ap s.look).osv, (x.ap s.look).obs) := apply_F s (Sb.ok_fine hs) ht x hx hn
set_option maxHeartbeats 4000000 in
theorem l4Apply_of (s : Sb) (hs : s.fine) (ht : s.tame) (x : Tm) (hn : x.nodes ≤ 1099511627776) (ih : ∀ y ∈ x.args, E 70 [s.sv, y.sv] [] = some ((y.ap s.look).sv, [])) : E 70 [s.sv, x.sv] [] = some ((x.ap s.look).sv, []) := by
  have hsl := ht.1
  have hl := Tm.length_le x.args
  have hne := Tm.nodes_eq x
  have hf := l4Find_E s x.name hsl
  rw [idxP_low hs.1] at hf
  cases hv : varB x.name with
  | true =>
    cases hh : hitB s.binds x.name with
    | true =>
      have hlt := hitB_lt hh
      have hg := get_at Bd.d hlt
      rw [Bd.d_eq] at hg
      have hni : ((lowI s.binds x.name : Nat) : Int).toNat = lowI s.binds x.name := Int.toNat_natCast _
      have hd := l2Own_E (s.binds[lowI s.binds x.name]).term (Sb.tame_at ht hlt)
      have e : x.ap s.look = (s.binds[lowI s.binds x.name]).term := by rw [Tm.ap_eq, if_pos hv, Sb.look_yes hh hlt]; rfl
      rw [hh, if_pos rfl] at hf
      rw [e]
      refine E_walk k_spec_l4Apply m_spec_l4Apply (of_decide_eq_true rfl) ?_
      simp (disch := omega) only [c_spec_l4Apply, go_sem, go_cond, Nat.reduceAdd, Nat.reduceSub, Nat.reduceLT, Nat.reduceLeDiff, Nat.reduceEqDiff, Nat.reduceBEq, Nat.reduceBneDiff, Nat.reduceMul, ↓reduceIte, Int.reduceToNat, reduceCtorEq, Int.reduceNeg, Int.reduceAdd, hv, hf, hg, hni, hd, m_spec_l4Find, m_spec_l2Var, l2Var_E, m_spec_l2Own]
    | false =>
      have e : x.ap s.look = .mk x.name [] := by rw [Tm.ap_eq, if_pos hv, Sb.look_no hh]; rfl
      rw [hh, if_neg (by simp)] at hf
      rw [e]
      have e1 : (Tm.mk x.name []).sv = .agg [.str x.name, .arr []] := rfl
      rw [e1]
      refine E_walk k_spec_l4Apply m_spec_l4Apply (of_decide_eq_true rfl) ?_
      simp (disch := omega) only [c_spec_l4Apply, go_sem, go_cond, Nat.reduceAdd, Nat.reduceSub, Nat.reduceLT, Nat.reduceLeDiff, Nat.reduceEqDiff, Nat.reduceBEq, Nat.reduceBneDiff, Nat.reduceMul, ↓reduceIte, Int.reduceToNat, reduceCtorEq, Int.reduceNeg, Int.reduceAdd, hv, hf, m_spec_l4Find, m_spec_l2Var, l2Var_E]
  | false =>
    have e : x.ap s.look = .mk x.name (x.args.map (Tm.ap s.look)) := by rw [Tm.ap_eq, if_neg (by rw [hv]; simp), Tm.apL_map]
    rw [e]
    have e1 : (Tm.mk x.name (x.args.map (Tm.ap s.look))).sv = .agg [.str x.name, .arr ((x.args.map (Tm.ap s.look)).map Tm.d)] := rfl
    rw [e1]
    have h10 : ((1 : Int) = 0) = False := by simp
    have hfu := Tm.osh_full (x.args.map (Tm.ap s.look))
    have her := Tm.osh_er (x.args.map (Tm.ap s.look))
    refine E_walk k_spec_l4Apply m_spec_l4Apply (of_decide_eq_true rfl) ?_
    simp (disch := omega) only [c_spec_l4Apply, go_sem, go_cond, Nat.reduceAdd, Nat.reduceSub, Nat.reduceLT, Nat.reduceLeDiff, Nat.reduceEqDiff, Nat.reduceBEq, Nat.reduceBneDiff, Nat.reduceMul, ↓reduceIte, Int.reduceToNat, reduceCtorEq, Int.reduceNeg, Int.reduceAdd, hv, m_spec_l4Find, m_spec_l2Var, l2Var_E]
    refine go_loop (α := Int) (fun a => ⟨slots 50 0 [(2, .ptr 0 0), (3, .ptr 1 0), (4, .ptr 2 0), (6, .ptr 3 0), (7, .int .i64 a)], (if a = 0 then [.box 93 [.arr (s.binds.map Bd.d)], .box 31 [.str x.name, .arr (x.args.map Tm.d)], .box 31 [.str ⟨#[]⟩, .nil], .box 31 [.str x.name, .nil]] else [.box 93 [.arr (s.binds.map Bd.d)], .box 31 [.str x.name, .arr (x.args.map Tm.d)], .box 31 [.str ⟨#[]⟩, .nil], .box 31 [.str x.name, .ref 4], .row 31 2 (((x.args.map (Tm.ap s.look)).take a.toNat).map Tm.osh)])⟩) (fun a => ∃ k : Nat, a = k ∧ k ≤ (x.args).length) (fun a => (x.args).length - (a).toNat) 0 ⟨0, rfl, Nat.zero_le _⟩ (by simp (disch := omega) only [go_sem, go_cond, Nat.reduceAdd, Nat.reduceSub, Nat.reduceLT, Nat.reduceLeDiff, Nat.reduceEqDiff, Nat.reduceBEq, Nat.reduceBneDiff, Nat.reduceMul, ↓reduceIte, Int.reduceToNat, reduceCtorEq, Int.reduceNeg, Int.reduceAdd, eq_self, if_true]) ?_
    rintro i ⟨k, hi, hk⟩
    have hni : i.toNat = k := by omega
    have hni1 : (i + 1).toNat = k + 1 := by omega
    rcases Nat.lt_or_ge k (x.args).length with hlt | hge
    · have hg := get_at Tm.d hlt
      rw [Tm.d_eq] at hg
      have hltm : k < (x.args.map (Tm.ap s.look)).length := by rw [List.length_map]; exact hlt
      have hc := ih x.args[k] (List.getElem_mem hlt)
      have hse := map_snoc Tm.osh hltm
      rw [Tm.osh_eq, List.getElem_map] at hse
      rcases Nat.eq_zero_or_pos k with h0 | h0
      · subst h0
        obtain rfl : i = 0 := hi
        rw [List.take_zero, List.map_nil, List.nil_append] at hse
        simp (disch := omega) only [go_sem, go_cond, Nat.reduceAdd, Nat.reduceSub, Nat.reduceLT, Nat.reduceLeDiff, Nat.reduceEqDiff, Nat.reduceBEq, Nat.reduceBneDiff, Nat.reduceMul, ↓reduceIte, Int.reduceToNat, reduceCtorEq, Int.reduceNeg, Int.reduceAdd, hni, hg, hc, m_spec_l4Apply, eq_self, if_true]
        refine ⟨1, ⟨1, rfl, hlt⟩, by omega, ?_⟩
        simp (disch := omega) only [go_sem, go_cond, Nat.reduceAdd, Nat.reduceSub, Nat.reduceLT, Nat.reduceLeDiff, Nat.reduceEqDiff, Nat.reduceBEq, Nat.reduceBneDiff, Nat.reduceMul, ↓reduceIte, Int.reduceToNat, reduceCtorEq, Int.reduceNeg, Int.reduceAdd, h10, if_false, hse]
      · have hi0 : (i = 0) = False := by simp; omega
        have hi1 : (i + 1 = 0) = False := by simp; omega
        have htl : ((x.args.map (Tm.ap s.look)).take k).length = k := by rw [List.length_take]; omega
        simp (disch := omega) only [go_sem, go_cond, Nat.reduceAdd, Nat.reduceSub, Nat.reduceLT, Nat.reduceLeDiff, Nat.reduceEqDiff, Nat.reduceBEq, Nat.reduceBneDiff, Nat.reduceMul, ↓reduceIte, Int.reduceToNat, reduceCtorEq, Int.reduceNeg, Int.reduceAdd, hni, hg, hc, m_spec_l4Apply, hi0, if_false, htl]
        refine ⟨i + 1, ⟨k + 1, by omega, hlt⟩, by omega, ?_⟩
        simp (disch := omega) only [go_sem, go_cond, Nat.reduceAdd, Nat.reduceSub, Nat.reduceLT, Nat.reduceLeDiff, Nat.reduceEqDiff, Nat.reduceBEq, Nat.reduceBneDiff, Nat.reduceMul, ↓reduceIte, Int.reduceToNat, reduceCtorEq, Int.reduceNeg, Int.reduceAdd, hni1, hi1, if_false, hse]
    · obtain rfl : k = x.args.length := by omega
      have hta : (x.args.map (Tm.ap s.look)).take x.args.length = x.args.map (Tm.ap s.look) := by
        have := List.take_length (l := x.args.map (Tm.ap s.look))
        rwa [List.length_map] at this
      rcases Nat.eq_zero_or_pos x.args.length with h0 | h0
      · have hx : x.args = [] := List.eq_nil_of_length_eq_zero h0
        obtain rfl : i = 0 := by omega
        simp (disch := omega) only [go_sem, go_cond, Nat.reduceAdd, Nat.reduceSub, Nat.reduceLT, Nat.reduceLeDiff, Nat.reduceEqDiff, Nat.reduceBEq, Nat.reduceBneDiff, Nat.reduceMul, ↓reduceIte, Int.reduceToNat, reduceCtorEq, Int.reduceNeg, Int.reduceAdd, hni, hx, eq_self, if_true, List.map_nil, List.length_nil]
      · have hi0 : (i = 0) = False := by simp; omega
        simp (disch := omega) only [go_sem, go_cond, Nat.reduceAdd, Nat.reduceSub, Nat.reduceLT, Nat.reduceLeDiff, Nat.reduceEqDiff, Nat.reduceBEq, Nat.reduceBneDiff, Nat.reduceMul, ↓reduceIte, Int.reduceToNat, reduceCtorEq, Int.reduceNeg, Int.reduceAdd, hni, hi0, if_false, hta, hfu, her]
theorem l4Apply_F (s : Sb) (hs : s.fine) (ht : s.tame) (x : Tm) (hn : x.nodes ≤ 1099511627776) : E 70 [s.sv, x.sv] [] = some ((x.ap s.look).sv, []) :=
  l4Apply_of s hs ht x hn fun y hy => l4Apply_F s hs ht y (by have := Tm.nodes_mem hy; have := Tm.nodes_eq x; omega)
termination_by SizeOf.sizeOf x
decreasing_by exact Tm.lt_of_mem hy
theorem l4Apply_E (s : Sb) (hs : s.ok = true) (ht : s.tame) (x : Tm) (hn : x.nodes ≤ 1099511627776) : E 70 [s.sv, x.sv] [] = some ((x.ap s.look).sv, []) := l4Apply_F s (Sb.ok_fine hs) ht x hn
end Go.Proofs.YtjgnhifkcgpmjaaGreat

set_option maxRecDepth 100000
set_option linter.unusedSimpArgs false
set_option linter.unusedVariables false
namespace Go.Proofs.YtjgnhifkcgpmjaaGreat
open Go.RowKit

/-- Whether an operator is a quantifier. -/
noncomputable def qB (op : Int) : Bool := dec (op = 8) || dec (op = 9)
mutual
/-- The free variables, those of a list left out. -/
noncomputable def Fm.fv : Fm → List ByteArray → List ByteArray
  | .mk op atom var parts, b => bif dec (op = 3) then (insA [] atom.vs).filter (fun n => !dec (n ∈ b)) else Fm.fvL parts (bif qB op then b ++ [var] else b)
noncomputable def Fm.fvL : List Fm → List ByteArray → List ByteArray
  | [], _ => []
  | x :: xs, b => Fm.fv x b ++ Fm.fvL xs b
end
theorem Fm.fv_eq (x : Fm) (b : List ByteArray) : x.fv b = bif dec (x.op = 3) then (insA [] x.atom.vs).filter (fun n => !dec (n ∈ b)) else Fm.fvL x.parts (bif qB x.op then b ++ [x.var] else b) := by
  obtain ⟨op, atom, var, parts⟩ := x
  rw [Fm.fv]; rfl
theorem Fm.fvL_mem {m : ByteArray} {b : List ByteArray} : ∀ {xs : List Fm}, m ∈ Fm.fvL xs b ↔ ∃ x ∈ xs, m ∈ x.fv b
  | [] => by simp [Fm.fvL]
  | x :: xs => by rw [Fm.fvL, List.mem_append, Fm.fvL_mem (xs := xs)]; simp
theorem Fm.fv_mem (m : ByteArray) (x : Fm) : ∀ b : List ByteArray, m ∈ x.fv b ↔ m ∈ x.fv [] ∧ ¬ m ∈ b := by
  intro b
  rw [Fm.fv_eq, Fm.fv_eq]
  cases dec (x.op = 3) with
  | true =>
    simp only [cond_true, List.mem_filter]
    have e : (!dec (m ∈ ([] : List ByteArray))) = true := by rw [dec_f (by simp)]; rfl
    rw [e]
    constructor
    · rintro ⟨h1, h2⟩
      refine ⟨⟨h1, rfl⟩, fun h => ?_⟩
      rw [dec_t h] at h2
      cases h2
    · rintro ⟨⟨h1, _⟩, h2⟩
      exact ⟨h1, by rw [dec_f h2]; rfl⟩
  | false =>
    simp only [cond_false]
    have key : ∀ c c0 : List ByteArray, (∀ k, k ∈ c ↔ k ∈ c0 ∨ k ∈ b) → (m ∈ Fm.fvL x.parts c ↔ m ∈ Fm.fvL x.parts c0 ∧ ¬ m ∈ b) := fun c c0 hc => by
      rw [Fm.fvL_mem, Fm.fvL_mem]
      constructor
      · rintro ⟨y, hy, h⟩
        have h1 := (Fm.fv_mem m y c).1 h
        exact ⟨⟨y, hy, (Fm.fv_mem m y c0).2 ⟨h1.1, fun h2 => h1.2 ((hc m).2 (.inl h2))⟩⟩, fun h2 => h1.2 ((hc m).2 (.inr h2))⟩
      · rintro ⟨⟨y, hy, h⟩, h2⟩
        have h1 := (Fm.fv_mem m y c0).1 h
        exact ⟨y, hy, (Fm.fv_mem m y c).2 ⟨h1.1, fun h3 => ((hc m).1 h3).elim h1.2 h2⟩⟩
    cases qB x.op with
    | true => exact key _ _ fun k => by simp [or_comm]
    | false => exact key _ _ fun k => by simp
termination_by SizeOf.sizeOf x
decreasing_by all_goals exact Fm.lt_of_mem hy
mutual
/-- The nodes of all terms within. -/
def Fm.vn : Fm → Nat
  | .mk _ atom _ parts => atom.nodes + Fm.vnS parts
def Fm.vnS : List Fm → Nat
  | [] => 0
  | x :: xs => Fm.vn x + Fm.vnS xs
end
theorem Fm.vn_eq (x : Fm) : x.vn = x.atom.nodes + Fm.vnS x.parts := by
  obtain ⟨op, atom, var, parts⟩ := x
  rw [Fm.vn]; rfl
theorem Fm.fvL_len (b : List ByteArray) : ∀ xs : List Fm, (∀ x ∈ xs, (x.fv b).length ≤ x.vn) → (Fm.fvL xs b).length ≤ Fm.vnS xs
  | [], _ => by simp [Fm.fvL]
  | x :: xs, h => by
    have h1 := h x (by simp)
    have h2 := Fm.fvL_len b xs fun y hy => h y (by simp [hy])
    rw [Fm.fvL, Fm.vnS, List.length_append]; omega
theorem Fm.fv_len (x : Fm) : ∀ b : List ByteArray, (x.fv b).length ≤ x.vn := by
  intro b
  rw [Fm.fv_eq, Fm.vn_eq]
  cases dec (x.op = 3) with
  | true =>
    simp only [cond_true]
    have h1 := List.length_filter_le (fun n => !dec (n ∈ b)) (insA [] x.atom.vs)
    have h2 := insA_len x.atom.vs []
    have h3 := Tm.vs_len x.atom
    simp only [List.length_nil] at h2
    omega
  | false =>
    simp only [cond_false]
    have h := Fm.fvL_len (bif qB x.op then b ++ [x.var] else b) x.parts fun y hy => Fm.fv_len y _
    omega
termination_by SizeOf.sizeOf x
decreasing_by exact Fm.lt_of_mem hy
theorem Tm.isZ_eq {x : Tm} (h : x.isZ = true) : x = .mk ⟨#[]⟩ [] := by
  obtain ⟨n, a⟩ := x
  unfold Tm.isZ at h
  rw [Bool.and_eq_true] at h
  have h1 : n = ⟨#[]⟩ := dec_iff.1 h.1
  have h3 : (a.length == 0) = true := h.2
  have h2 : a = [] := List.eq_nil_of_length_eq_zero (by simpa using h3)
  rw [h1, h2]
theorem Tm.atom_nodes {x : Tm} (h : x.atom = true) : x.nodes ≤ 30 := by
  have key : x.small = true := by
    unfold Tm.atom at h
    split at h
    · rw [Bool.and_eq_true, Bool.and_eq_true] at h; exact h.1.2
    · rw [Bool.and_eq_true] at h
      have h2 := h.2
      unfold Tm.valid at h2
      rw [Bool.and_eq_true] at h2; exact h2.1
  unfold Tm.small at key
  rw [Bool.and_eq_true, decide_eq_true_eq] at key
  exact key.1
/-- What the form says of a formula. -/
theorem Fm.form_atom {x : Fm} (h : x.form = true) (ho : x.op = 3) : x.parts = [] ∧ x.atom.atom = true ∧ x.var = ⟨#[]⟩ := by
  unfold Fm.form at h
  simp only [ho] at h
  simp at h
  exact ⟨h.1.1, h.1.2, dec_iff.1 h.2⟩
theorem Fm.form_other {x : Fm} (h : x.form = true) (ho : ¬ x.op = 3) : x.atom = .mk ⟨#[]⟩ [] := by
  unfold Fm.form at h
  split at h
  · rw [Bool.and_eq_true, Bool.and_eq_true] at h; exact Tm.isZ_eq h.1.2
  · try rw [if_neg ho] at h
    split at h
    · rw [Bool.and_eq_true, Bool.and_eq_true] at h; exact Tm.isZ_eq h.1.2
    · split at h
      · rw [Bool.and_eq_true, Bool.and_eq_true] at h; exact Tm.isZ_eq h.1.2
      · split at h
        · rw [Bool.and_eq_true, Bool.and_eq_true] at h; exact Tm.isZ_eq h.1.2
        · cases h
theorem Fm.form_quant {x : Fm} (h : x.form = true) (ho : qB x.op = true) : varB x.var = true ∧ ∃ p, x.parts = [p] := by
  unfold qB at ho
  rw [Bool.or_eq_true, dec_iff, dec_iff] at ho
  unfold Fm.form at h
  rw [if_neg (by omega), if_neg (by omega), if_neg (by omega), if_neg (by omega), if_pos (by omega), Bool.and_eq_true, Bool.and_eq_true] at h
  refine ⟨h.2, ?_⟩
  have hl : x.parts.length = 1 := by simpa using h.1.1
  match hq : x.parts, hl with
  | [p], _ => exact ⟨p, rfl⟩
theorem Fm.forms_part {x y : Fm} (h : x.forms = true) (hy : y ∈ x.parts) : y.forms = true := by
  rw [Fm.forms_eq, Bool.and_eq_true, Fm.formS_all, List.all_eq_true] at h
  exact h.2 y hy
theorem Fm.forms_form {x : Fm} (h : x.forms = true) : x.form = true := by
  rw [Fm.forms_eq, Bool.and_eq_true] at h
  exact h.1
theorem Fm.atom_le {x : Fm} (h : x.form = true) : x.atom.nodes ≤ 30 := by
  by_cases ho : x.op = 3
  · exact Tm.atom_nodes (Fm.form_atom h ho).2.1
  · rw [Fm.form_other h ho, Tm.nodes_eq]
    simp [Tm.args, Tm.nodeS]
theorem Fm.vnS_le : ∀ xs : List Fm, (∀ x ∈ xs, x.vn ≤ 30 * x.nodes) → Fm.vnS xs ≤ 30 * Fm.nodeS xs
  | [], _ => by simp [Fm.vnS]
  | x :: xs, h => by
    have h1 := h x (by simp)
    have h2 := Fm.vnS_le xs fun y hy => h y (by simp [hy])
    rw [Fm.vnS, Fm.nodeS]; omega
theorem Fm.vn_le (x : Fm) (h : x.forms = true) : x.vn ≤ 30 * x.nodes := by
  have h1 := Fm.vnS_le x.parts fun y hy => Fm.vn_le y (Fm.forms_part h hy)
  have h2 := Fm.atom_le (Fm.forms_form h)
  rw [Fm.vn_eq, Fm.nodes_eq]; omega
termination_by SizeOf.sizeOf x
decreasing_by exact Fm.lt_of_mem hy

/-! Substituting. -/
theorem single_look (n : ByteArray) (t : Tm) (m : ByteArray) : (Sb.mk [⟨n, t⟩]).look m = if n = m then some t else none := by
  by_cases hm : n = m
  · subst hm
    have hl : lowI [(⟨n, t⟩ : Bd)] n = 0 := by simp [lowI, strLt_self]
    have hh : hitB [(⟨n, t⟩ : Bd)] n = true := by
      unfold hitB
      rw [hl]
      exact dec_t rfl
    rw [if_pos rfl, Sb.look_yes (x := ⟨[⟨n, t⟩]⟩) hh (by show lowI [(⟨n, t⟩ : Bd)] n < 1; omega)]
    congr 2
    show ([(⟨n, t⟩ : Bd)][lowI [(⟨n, t⟩ : Bd)] n]'_).term = t
    simp [hl]
  · have hh : hitB [(⟨n, t⟩ : Bd)] m = false := by
      unfold hitB
      cases hs : strLt n m with
      | true => simp [lowI, hs]
      | false =>
        simp only [lowI, hs]
        exact dec_f hm
    rw [if_neg hm, Sb.look_no (x := ⟨[⟨n, t⟩]⟩) hh]
theorem single_fine {n : ByteArray} (t : Tm) (h : varB n = true) : (Sb.mk [⟨n, t⟩]).fine :=
  ⟨fun j k hj hk => by
    have : k < 1 := hk
    omega, fun b hb => by
    have : b = ⟨n, t⟩ := by simpa using hb
    rw [this]; exact h⟩
theorem empty_fine : (Sb.mk []).fine := ⟨fun j k hj hk => by
  have : k < 0 := hk
  omega, fun b hb => by cases hb⟩
theorem empty_look (m : ByteArray) : (Sb.mk []).look m = none := Sb.look_no (x := ⟨[]⟩) rfl
/-- A variable in its own place changes nothing more than nothing does. -/
theorem ap_self (n : ByteArray) (x : Tm) : x.ap (Sb.mk [⟨n, .mk n []⟩]).look = x.ap (Sb.mk []).look := by
  have ih : ∀ y ∈ x.args, y.ap (Sb.mk [⟨n, .mk n []⟩]).look = y.ap (Sb.mk []).look := fun y hy => ap_self n y
  rw [Tm.ap_eq, Tm.ap_eq, single_look, empty_look]
  by_cases hv : varB x.name = true
  · rw [if_pos hv, if_pos hv]
    by_cases h : n = x.name
    · rw [if_pos h, h]; rfl
    · rw [if_neg h]
  · rw [if_neg hv, if_neg hv, Tm.apL_map, Tm.apL_map]
    congr 1
    exact List.map_congr_left ih
termination_by SizeOf.sizeOf x
decreasing_by exact Tm.lt_of_mem hy
end Go.Proofs.YtjgnhifkcgpmjaaGreat

set_option maxRecDepth 100000
set_option linter.unusedSimpArgs false
set_option linter.unusedVariables false
namespace Go.Proofs.YtjgnhifkcgpmjaaGreat
open Go.RowKit

def c_spec_l2In : SC := (.seq (.reg [⟨(some 4), none, (.mv (.c (.bool false)))⟩]) (.seq (.seq (.reg [⟨(some 5), none, (.mv (.c (.int .i64 0)))⟩]) (.block 0 (.loop [1, 1, 0, 0, 0, 1, 0, 0, 0, 0, 0, 0, 0, 0, 0, 0, 0, 0] (.seq (.seq (.reg [⟨(some 6), none, (.mv (.t 5))⟩, ⟨(some 7), none, (.mv (.t 0))⟩, ⟨(some 8), none, (.len false (.t 7))⟩, ⟨(some 9), none, (.bin .lss false (.t 6) (.t 8))⟩]) (.cond (.t 9) .skip (.exit 0))) (.seq (.block 1 (.seq (.reg [⟨(some 12), none, (.mv (.t 0))⟩, ⟨(some 13), none, (.mv (.t 5))⟩, ⟨(some 14), none, (.iaddr 1 (.t 12) (.t 13))⟩, ⟨(some 15), none, (.load false 1 (.t 14))⟩, ⟨(some 16), none, (.mv (.t 1))⟩, ⟨(some 17), none, (.bin .eql false (.t 15) (.t 16))⟩]) (.cond (.t 17) (.seq (.reg [⟨(some 4), none, (.mv (.c (.bool true)))⟩]) .ret) .skip))) (.reg [⟨(some 10), none, (.mv (.t 5))⟩, ⟨(some 11), none, (.bin .add false (.t 10) (.c (.int .i64 1)))⟩, ⟨(some 5), none, (.mv (.t 11))⟩])))))) (.seq (.reg [⟨(some 4), none, (.mv (.c (.bool false)))⟩]) .ret)))
theorem k_spec_l2In : codeOf Tryz.prog 73 = some ⟨18, c_spec_l2In, [(.tmp 4)]⟩ := by kernel_rfl
theorem m_spec_l2In : modes 73 = ⟨[], .asis, none, false⟩ := by unfold modes; rfl

theorem l2In_E (xs : List ByteArray) (n : ByteArray) (hl : xs.length ≤ 1099511627776) : E 73 [.arr (xs.map fun s => [D.str s]), .str n] [] = some (.bool (dec (n ∈ xs)), []) := by
  refine E_walk k_spec_l2In m_spec_l2In (of_decide_eq_true rfl) ?_
  simp (disch := omega) only [c_spec_l2In, go_sem, go_cond, Nat.reduceAdd, Nat.reduceSub, Nat.reduceLT, Nat.reduceLeDiff, Nat.reduceEqDiff, Nat.reduceBEq, Nat.reduceBneDiff, Nat.reduceMul, ↓reduceIte, Int.reduceToNat, reduceCtorEq, Int.reduceNeg, Int.reduceAdd]
  refine go_loop (α := Int) (fun a => ⟨slots 18 0 [(0, .arr (xs.map fun s => [D.str s])), (1, .str n), (5, .int .i64 a)], []⟩) (fun a => ∃ k : Nat, a = k ∧ k ≤ (xs).length ∧ dec (n ∈ xs.drop k) = dec (n ∈ xs)) (fun a => (xs).length - (a).toNat) 0 ⟨0, rfl, Nat.zero_le _, by rw [List.drop_zero]⟩ (by simp (disch := omega) only [go_sem, go_cond, Nat.reduceAdd, Nat.reduceSub, Nat.reduceLT, Nat.reduceLeDiff, Nat.reduceEqDiff, Nat.reduceBEq, Nat.reduceBneDiff, Nat.reduceMul, ↓reduceIte, Int.reduceToNat, reduceCtorEq, Int.reduceNeg, Int.reduceAdd]) ?_
  rintro i ⟨k, hi, hk, hR⟩
  have hni : i.toNat = k := by omega
  have hni1 : (i + 1).toNat = k + 1 := by omega
  rcases Nat.lt_or_ge k (xs).length with hlt | hge
  · have hg := get_at (fun s => [D.str s]) hlt
    rw [List.drop_eq_getElem_cons hlt] at hR
    by_cases hp : xs[k] = n
    · have hq := eq_true hp
      have ht : dec (n ∈ xs) = true := dec_t (hp ▸ List.getElem_mem hlt)
      simp (disch := omega) only [go_sem, go_cond, Nat.reduceAdd, Nat.reduceSub, Nat.reduceLT, Nat.reduceLeDiff, Nat.reduceEqDiff, Nat.reduceBEq, Nat.reduceBneDiff, Nat.reduceMul, ↓reduceIte, Int.reduceToNat, reduceCtorEq, Int.reduceNeg, Int.reduceAdd, hni, hg, hq]
      exact ht.symm
    · have hq := eq_false hp
      have hR : dec (n ∈ xs.drop (k + 1)) = dec (n ∈ xs) := by
        rw [← hR]
        exact dec_ii (by simp only [List.mem_cons]; exact ⟨.inr, fun h => h.elim (fun e => absurd e.symm hp) id⟩)
      simp (disch := omega) only [go_sem, go_cond, Nat.reduceAdd, Nat.reduceSub, Nat.reduceLT, Nat.reduceLeDiff, Nat.reduceEqDiff, Nat.reduceBEq, Nat.reduceBneDiff, Nat.reduceMul, ↓reduceIte, Int.reduceToNat, reduceCtorEq, Int.reduceNeg, Int.reduceAdd, hni, hg, hq]
      exact ⟨i + 1, ⟨k + 1, by omega, hlt, hR⟩, by omega, by first | trivial | rfl⟩
  · rw [List.drop_eq_nil_of_le hge, dec_f (by simp)] at hR
    simp (disch := omega) only [go_sem, go_cond, Nat.reduceAdd, Nat.reduceSub, Nat.reduceLT, Nat.reduceLeDiff, Nat.reduceEqDiff, Nat.reduceBEq, Nat.reduceBneDiff, Nat.reduceMul, ↓reduceIte, Int.reduceToNat, reduceCtorEq, Int.reduceNeg, Int.reduceAdd, hni]
    exact hR
end Go.Proofs.YtjgnhifkcgpmjaaGreat
