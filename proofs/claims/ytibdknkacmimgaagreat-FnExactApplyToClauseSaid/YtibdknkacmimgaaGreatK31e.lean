/-
  This text holds, one behind the other: This text tells what the reference's copies of terms answer. No condition.
  This text tells what making a clause of a list of literals answers in both packages: the list in order, without repeats. No condition.
  This text tells what the reference's making of a clause answers. No condition.
  This text holds plain laws of the order of names. No condition.
  This text tells what the validity of substitutions answers in both packages, and the place of a binding. No condition.
  This text tells what the search for a binding answers. No condition.
  This text holds the plain laws of applying a substitution to a term. No condition.
  This text tells what applying a substitution answers in both packages. No condition.
  This text holds plain laws of expressions and of the sizes of terms. No condition.
  This text tells what ApplySubstitution answers in both packages. No condition.
  This text tells what applying a substitution to a clause answers in both packages. No condition.
  This text tells what the reference's application of a substitution to a clause answers, and ApplyToClause of both packages. No condition.
  This text tells what the laws' marks answer. No condition.
  This text tells what the laws read of the marks. No condition.
  This text tells what the laws' marks of a record answer. No condition.
  This text tells what the laws' measuring functions answer. No condition.
  This text tells what the laws' copying functions answer. No condition.
  This text tells what the laws' comparing functions answer. No condition.
  This text holds plain laws of the sizes of terms, for the laws of the program. No condition.
  This text holds plain laws of the sizes of clauses, for the laws of the program. No condition.
  This text tells what the law of ApplyToClause answers. No condition.
  This text opens arguments: slices of integers, of structs, of tables: what is read as data lies in memory as our words say. No condition.
  This text opens arguments: what is read as data, terms and formulas, lies in memory as our words say. No condition.
  This text turns a function's answer into a walk of the kit's form, and opens arguments that are clauses. No condition.
-/
import Derived.Test.YtibdknkacmimgaaGreatK31c
import Derived.Test.YtibdknkacmimgaaGreatK31d
import Derived.ProofKit
import Derived.Deep.Slices
import Derived.Deep.Fields
import Derived.ChangeSame
import Derived.OpenShut
import Derived.ShutString
import Derived.ChangeOld
open Nat renaming reduceAdd → zA, reduceSub → zB, reduceLT → zC, reduceLeDiff → zD, reduceEqDiff → zE, reduceBEq → zF, reduceBneDiff → zG, reduceMul → zH
open Int renaming reduceToNat → zI, reduceNeg → zJ, reduceAdd → zK
set_option maxRecDepth 100000
set_option linter.unusedSimpArgs false
set_option linter.unusedVariables false
set_option linter.unusedSectionVars false
namespace Go.Proofs.YtibdknkacmimgaaGreat
open Go.RowKit
set_option maxHeartbeats 2000000 in
theorem l2Own_of (x : Tm) (hn : x.nodes ≤ 1099511627776) (ih : ∀ y ∈ x.args, E 60 [y.sv] [] = some (y.sv, [])) : E 60 [x.sv] [] = some (x.sv, []) := by
  have hl := Tm.length_le x.args
  have hne := Tm.nodes_eq x
  have h10 : ((1 : Int) = 0) = False := by simp
  have hfu := Tm.osh_full x.args
  have her := Tm.osh_er x.args
  refine E_walk k_spec_l2Own m_spec_l2Own (of_decide_eq_true rfl) ?_
  simp (disch := omega) only [c_spec_l2Own, go_sem, go_cond, zA, zB, zC, zD, zE, zF, zG, zH, ↓reduceIte, zI, reduceCtorEq, zJ, zK]
  refine go_loop (α := Int) (fun a => ⟨slots 27 0 [(1, .ptr 0 0), (2, .ptr 1 0), (3, .ptr 2 0), (4, .int .i64 a)], (if a = 0 then [.box 68 [.str x.name, .arr (x.args.map Tm.d)], .box 68 [.str ⟨#[]⟩, .nil], .box 68 [.str x.name, .nil]] else [.box 68 [.str x.name, .arr (x.args.map Tm.d)], .box 68 [.str ⟨#[]⟩, .nil], .box 68 [.str x.name, .ref 3], .row 68 2 ((x.args.take a.toNat).map Tm.osh)])⟩) (fun a => ∃ k : Nat, a = k ∧ k ≤ (x.args).length) (fun a => (x.args).length - (a).toNat) 0 ⟨0, rfl, Nat.zero_le _⟩ (by simp (disch := omega) only [go_sem, go_cond, zA, zB, zC, zD, zE, zF, zG, zH, ↓reduceIte, zI, reduceCtorEq, zJ, zK, eq_self, if_true]) ?_
  rintro i ⟨k, hi, hk⟩
  have hni : i.toNat = k := by omega
  have hni1 : (i + 1).toNat = k + 1 := by omega
  rcases Nat.lt_or_ge k (x.args).length with hlt | hge
  · have hg := get_at Tm.d hlt
    rw [Tm.d_eq] at hg
    have hc := ih x.args[k] (List.getElem_mem hlt)
    have hs := map_snoc Tm.osh hlt
    rw [Tm.osh_eq] at hs
    rcases Nat.eq_zero_or_pos k with h0 | h0
    · subst h0
      obtain rfl : i = 0 := hi
      rw [List.take_zero, List.map_nil, List.nil_append] at hs
      simp (disch := omega) only [go_sem, go_cond, zA, zB, zC, zD, zE, zF, zG, zH, ↓reduceIte, zI, reduceCtorEq, zJ, zK, hni, hg, hc, m_spec_l2Own, eq_self, if_true]
      refine ⟨1, ⟨1, rfl, hlt⟩, by omega, ?_⟩
      simp (disch := omega) only [go_sem, go_cond, zA, zB, zC, zD, zE, zF, zG, zH, ↓reduceIte, zI, reduceCtorEq, zJ, zK, h10, if_false, hs]
    · have hi0 : (i = 0) = False := by simp; omega
      have hi1 : (i + 1 = 0) = False := by simp; omega
      have htl : (x.args.take k).length = k := by rw [List.length_take]; omega
      simp (disch := omega) only [go_sem, go_cond, zA, zB, zC, zD, zE, zF, zG, zH, ↓reduceIte, zI, reduceCtorEq, zJ, zK, hni, hg, hc, m_spec_l2Own, hi0, if_false, htl]
      refine ⟨i + 1, ⟨k + 1, by omega, hlt⟩, by omega, ?_⟩
      simp (disch := omega) only [go_sem, go_cond, zA, zB, zC, zD, zE, zF, zG, zH, ↓reduceIte, zI, reduceCtorEq, zJ, zK, hni1, hi1, if_false, hs]
  · obtain rfl : k = x.args.length := by omega
    have ht : x.args.take x.args.length = x.args := List.take_length
    rcases Nat.eq_zero_or_pos x.args.length with h0 | h0
    · have hx : x.args = [] := List.eq_nil_of_length_eq_zero h0
      obtain rfl : i = 0 := by omega
      simp (disch := omega) only [go_sem, go_cond, zA, zB, zC, zD, zE, zF, zG, zH, ↓reduceIte, zI, reduceCtorEq, zJ, zK, hni, hx, eq_self, if_true, List.map_nil, List.length_nil]
    · have hi0 : (i = 0) = False := by simp; omega
      simp (disch := omega) only [go_sem, go_cond, zA, zB, zC, zD, zE, zF, zG, zH, ↓reduceIte, zI, reduceCtorEq, zJ, zK, hni, hi0, if_false, ht, hfu, her]
theorem l2Own_E (x : Tm) (hn : x.nodes ≤ 1099511627776) : E 60 [x.sv] [] = some (x.sv, []) :=
  l2Own_of x hn fun y hy => l2Own_E y (by have := Tm.nodes_mem hy; have := Tm.nodes_eq x; omega)
termination_by SizeOf.sizeOf x
decreasing_by exact Tm.lt_of_mem hy
def c_impl_copyLiteral : SC := (.seq (.reg [⟨some 1, none, .boxv 74 3 (.t 0)⟩, ⟨(some 2), none, (.alloc 74 [(.bool false), (.str ⟨#[]⟩), .nil])⟩]) (.seq (.dreg [[], [0], [], [2], [3, 2], [1, 0, 4, 3, 2], [5, 1, 0, 4, 3, 2]] [⟨some 3, none, .faddr 0 (.t 1)⟩, ⟨some 4, none, .load false 1 (.t 3)⟩, ⟨some 5, none, .faddr 1 (.t 1)⟩, ⟨some 6, none, .load true 2 (.t 5)⟩, ⟨some 7, none, .call 95 [(.t 6)]⟩, ⟨(some 8), none, (.build [(.bool false), (.str ⟨#[]⟩), .nil] [(0, (1, (.t 4))), (1, (2, (.t 7)))])⟩, ⟨none, none, (.store 3 (.t 2) (.t 8))⟩]) .ret))
theorem k_impl_copyLiteral : codeOf Tryz.prog 74 = some ⟨9, c_impl_copyLiteral, [(.cell 2 true 3)]⟩ := by kernel_rfl
theorem m_impl_copyLiteral : modes 74 = ⟨[], .own [none, none, some (68, 2)], none, false⟩ := by unfold modes; rfl
def c_impl_sameLiteral : SC := (.seq (.reg [⟨some 2, none, .boxv 74 3 (.t 0)⟩, ⟨some 3, none, .boxv 74 3 (.t 1)⟩, ⟨some 4, none, .mv (.c (.bool false))⟩]) (.seq (.reg [⟨some 5, none, .faddr 0 (.t 2)⟩, ⟨some 6, none, .load false 1 (.t 5)⟩, ⟨some 7, none, .faddr 0 (.t 3)⟩, ⟨some 8, none, .load false 1 (.t 7)⟩, ⟨some 9, none, .bin .eql true (.t 6) (.t 8)⟩, ⟨some 10, none, .mv (.t 9)⟩, ⟨(some 11), (some (10, true)), (.faddr 1 (.t 2))⟩, ⟨(some 12), (some (10, true)), (.load true 2 (.t 11))⟩, ⟨(some 13), (some (10, true)), (.faddr 1 (.t 3))⟩, ⟨(some 14), (some (10, true)), (.load true 2 (.t 13))⟩, ⟨(some 15), (some (10, true)), (.call 98 [(.t 12), (.t 14)])⟩, ⟨some 16, none, .pick (.t 10) (.t 15) (.c (.bool false))⟩, ⟨some 4, none, .mv (.t 16)⟩]) .ret))
theorem k_impl_sameLiteral : codeOf Tryz.prog 77 = some ⟨17, c_impl_sameLiteral, [(.tmp 4)]⟩ := by kernel_rfl
theorem m_impl_sameLiteral : modes 77 = ⟨[], .asis, none, false⟩ := by unfold modes; rfl
def c_impl_clauseOf : SC := (.seq (.reg [⟨some 2, none, .alloc 32 [.nil]⟩]) (.seq (.reg [⟨some 6, none, .build [.nil] []⟩, ⟨some 3, none, .alloc 32 [.nil]⟩, ⟨none, none, (.store 1 (.t 3) (.t 6))⟩]) (.seq (.seq (.reg [⟨some 7, none, .mv (.t 0)⟩, ⟨some 8, none, .len false (.t 7)⟩, ⟨some 9, none, .mv (.c (.int .i64 0))⟩]) (.block 0 (.loop [0, 0, 1, 1, 0, 0, 0, 1, 1, 1, 0, 0, 0, 0, 0, 0, 0, 0, 0, 0, 0, 0, 0, 0, 0, 0, 0, 0, 0] (.seq (.reg [⟨some 10, none, .bin .lss false (.t 9) (.t 8)⟩]) (.seq (.cond (.t 10) .skip (.exit 0)) (.seq (.block 1 (.seq (.reg [⟨some 11, none, .iaddr 3 (.t 7) (.t 9)⟩, ⟨some 12, none, .load true 3 (.t 11)⟩, ⟨(some 5), none, (.alloc 74 [(.bool false), (.str ⟨#[]⟩), .nil])⟩, ⟨none, none, (.store 3 (.t 5) (.t 12))⟩]) (.dreg [[], [0], [], [2], [3, 2], [1, 0, 4, 3, 2], [0, 1, 2, 3, 4, 5], [6, 0, 1, 2, 3, 4, 5]] [⟨some 13, none, .faddr 0 (.t 3)⟩, ⟨some 14, none, .load false 1 (.t 13)⟩, ⟨some 15, none, .load true 3 (.t 5)⟩, ⟨some 16, none, .call 74 [(.t 15)]⟩, ⟨(some 17), none, (.mkrow 74 3 [(.bool false), (.str ⟨#[]⟩), .nil] 1 [(0, (.t 16))])⟩, ⟨(some 18), none, (.append 74 3 48 [(.bool false), (.str ⟨#[]⟩), .nil] (.t 14) (.t 17))⟩, ⟨some 19, none, .faddr 0 (.t 3)⟩, ⟨none, none, (.store 1 (.t 19) (.t 18))⟩]))) (.reg [⟨some 20, none, .bin .add false (.t 9) (.c (.int .i64 1))⟩, ⟨some 9, none, .mv (.t 20)⟩]))))))) (.seq (.reg [⟨some 21, none, .faddr 0 (.t 3)⟩, ⟨some 22, none, .load false 1 (.t 21)⟩, ⟨some 23, none, .call 75 [(.t 22), (.c (.fn 43 []))]⟩]) (.seq (.reg [⟨some 24, none, .faddr 0 (.t 3)⟩, ⟨some 25, none, .load false 1 (.t 24)⟩, ⟨some 26, none, .call 76 [(.t 25), (.c (.fn 77 []))]⟩, ⟨some 27, none, .faddr 0 (.t 3)⟩, ⟨none, none, (.store 1 (.t 27) (.t 26))⟩]) (.seq (.reg [⟨some 28, none, .load true 1 (.t 3)⟩, ⟨none, none, (.store 1 (.t 2) (.t 28))⟩]) .ret))))))
theorem k_impl_clauseOf : codeOf Tryz.prog 46 = some ⟨29, c_impl_clauseOf, [(.cell 2 true 1)]⟩ := by kernel_rfl
theorem m_impl_clauseOf : modes 46 = ⟨[], .own [some (74, 3)], none, false⟩ := by unfold modes; rfl
def c_spec_l7Make : SC := (.seq (.reg [⟨some 2, none, .alloc 32 [.nil]⟩]) (.seq (.reg [⟨(some 7), none, (.mkrow 74 3 [(.bool false), (.str ⟨#[]⟩), .nil] 0 [])⟩, ⟨some 3, none, .mv (.t 7)⟩]) (.seq (.seq (.reg [⟨some 4, none, .mv (.c (.int .i64 0))⟩]) (.block 0 (.loop [1, 0, 1, 1, 1, 0, 0, 0, 0, 0, 0, 0, 0, 0, 0, 0, 0, 0, 0, 0, 0, 0, 0, 0, 0, 0, 0, 0, 0, 0, 0, 0, 0, 0, 0, 0, 0, 0, 0, 0, 0, 0, 0, 0, 0, 0, 0, 0, 0, 0, 0, 0, 0, 0, 0, 0, 0, 0, 0, 0, 0, 0, 0, 0, 0, 0, 0, 0, 0, 0, 0, 0, 0, 0] (.seq (.seq (.reg [⟨some 8, none, .mv (.t 4)⟩, ⟨some 9, none, .mv (.t 0)⟩, ⟨some 10, none, .len false (.t 9)⟩, ⟨some 11, none, .bin .lss false (.t 8) (.t 10)⟩]) (.cond (.t 11) .skip (.exit 0))) (.seq (.block 1 (.seq (.reg [⟨some 5, none, .mv (.c (.int .i64 0))⟩]) (.seq (.block 2 (.loop [1, 0, 1, 1, 1, 1, 0, 0, 0, 0, 0, 0, 0, 0, 0, 0, 0, 0, 0, 0, 0, 0, 0, 0, 0, 0, 0, 0, 0, 0, 0, 0, 0, 0, 0, 0, 0, 0, 0, 0, 0, 0, 0, 0, 0, 0, 0, 0, 0, 0, 0, 0, 0, 0, 0, 0, 0, 0, 0, 0, 0, 0, 0, 0, 0, 0, 0, 0, 0, 0, 0, 0, 0, 0] (.seq (.seq (.dreg [[], [], [1], [0, 2, 1], [3, 0, 2, 1], [4, 3, 0, 2, 1], [4, 3, 0, 2, 1], [5, 4, 3, 0, 2, 1, 6], [7, 5, 4, 3, 0, 2, 1, 6], [4, 3, 0, 2, 1], [4, 3, 0, 2, 1], [9, 4, 3, 0, 2, 1, 10], [11, 9, 4, 3, 0, 2, 1, 10], [8, 7, 5, 4, 3, 0, 2, 1, 6, 12, 11, 9, 10], [13, 8, 7, 5, 4, 3, 0, 2, 1, 6, 12, 11, 9, 10], [4, 3, 0, 2, 1, 14, 13, 8, 7, 5, 6, 12, 11, 9, 10]] [⟨some 14, none, .mv (.t 5)⟩, ⟨some 15, none, .mv (.t 3)⟩, ⟨some 16, none, .len false (.t 15)⟩, ⟨some 17, none, .bin .lss false (.t 14) (.t 16)⟩, ⟨some 18, none, .mv (.t 17)⟩, ⟨(some 19), (some (18, true)), (.mv (.t 3))⟩, ⟨(some 20), (some (18, true)), (.mv (.t 5))⟩, ⟨(some 21), (some (18, true)), (.iaddr 3 (.t 19) (.t 20))⟩, ⟨(some 22), (some (18, true)), (.load true 3 (.t 21))⟩, ⟨(some 23), (some (18, true)), (.mv (.t 0))⟩, ⟨(some 24), (some (18, true)), (.mv (.t 4))⟩, ⟨(some 25), (some (18, true)), (.iaddr 3 (.t 23) (.t 24))⟩, ⟨(some 26), (some (18, true)), (.load true 3 (.t 25))⟩, ⟨(some 27), (some (18, true)), (.call 35 [(.t 22), (.t 26)])⟩, ⟨(some 28), (some (18, true)), (.bin .lss false (.t 27) (.c (.int .i64 0)))⟩, ⟨some 29, none, .pick (.t 18) (.t 28) (.c (.bool false))⟩]) (.cond (.t 29) .skip (.exit 2))) (.block 3 (.reg [⟨some 30, none, .mv (.t 5)⟩, ⟨some 31, none, .bin .add false (.t 30) (.c (.int .i64 1))⟩, ⟨some 5, none, .mv (.t 31)⟩]))))) (.seq (.seq (.dreg [[], [], [1], [0, 2, 1], [3, 0, 2, 1], [4, 3, 0, 2, 1], [4, 3, 0, 2, 1], [5, 4, 3, 0, 2, 1, 6], [7, 5, 4, 3, 0, 2, 1, 6], [4, 3, 0, 2, 1], [4, 3, 0, 2, 1], [9, 4, 3, 0, 2, 1, 10], [11, 9, 4, 3, 0, 2, 1, 10], [8, 7, 5, 4, 3, 0, 2, 1, 6, 12, 11, 9, 10], [13, 8, 7, 5, 4, 3, 0, 2, 1, 6, 12, 11, 9, 10], [4, 3, 0, 2, 1, 14, 13, 8, 7, 5, 6, 12, 11, 9, 10]] [⟨some 32, none, .mv (.t 5)⟩, ⟨some 33, none, .mv (.t 3)⟩, ⟨some 34, none, .len false (.t 33)⟩, ⟨some 35, none, .bin .lss false (.t 32) (.t 34)⟩, ⟨some 36, none, .mv (.t 35)⟩, ⟨(some 37), (some (36, true)), (.mv (.t 3))⟩, ⟨(some 38), (some (36, true)), (.mv (.t 5))⟩, ⟨(some 39), (some (36, true)), (.iaddr 3 (.t 37) (.t 38))⟩, ⟨(some 40), (some (36, true)), (.load true 3 (.t 39))⟩, ⟨(some 41), (some (36, true)), (.mv (.t 0))⟩, ⟨(some 42), (some (36, true)), (.mv (.t 4))⟩, ⟨(some 43), (some (36, true)), (.iaddr 3 (.t 41) (.t 42))⟩, ⟨(some 44), (some (36, true)), (.load true 3 (.t 43))⟩, ⟨(some 45), (some (36, true)), (.call 35 [(.t 40), (.t 44)])⟩, ⟨(some 46), (some (36, true)), (.bin .eql false (.t 45) (.c (.int .i64 0)))⟩, ⟨some 47, none, .pick (.t 36) (.t 46) (.c (.bool false))⟩]) (.cond (.t 47) (.exit 1) .skip)) (.seq (.dreg [[], [], [0, 1], [2, 0, 1], [3, 2, 0, 1], [], [], [5, 6], [7, 5, 6], [8, 7, 5, 6], [9, 8, 7, 5, 6], [4, 3, 2, 0, 1, 10, 9, 8, 7, 5, 6], [], [12, 11, 4, 3, 2, 0, 1, 10, 9, 8, 7, 5, 6]] [⟨some 48, none, .mv (.t 0)⟩, ⟨some 49, none, .mv (.t 4)⟩, ⟨some 50, none, .iaddr 3 (.t 48) (.t 49)⟩, ⟨some 51, none, .faddr 0 (.t 50)⟩, ⟨some 52, none, .load false 1 (.t 51)⟩, ⟨some 53, none, .mv (.t 0)⟩, ⟨some 54, none, .mv (.t 4)⟩, ⟨some 55, none, .iaddr 3 (.t 53) (.t 54)⟩, ⟨some 56, none, .faddr 1 (.t 55)⟩, ⟨some 57, none, .load true 2 (.t 56)⟩, ⟨some 58, none, .call 60 [(.t 57)]⟩, ⟨(some 59), none, (.build [(.bool false), (.str ⟨#[]⟩), .nil] [(0, (1, (.t 52))), (1, (2, (.t 58)))])⟩, ⟨(some 6), none, (.alloc 74 [(.bool false), (.str ⟨#[]⟩), .nil])⟩, ⟨none, none, (.store 3 (.t 6) (.t 59))⟩]) (.dreg [[], [], [], [1, 2], [0, 3, 1, 2], [], [5], [4, 0, 3, 1, 2, 6, 5], [], [], [8, 9], [7, 4, 0, 3, 1, 2, 6, 5, 10, 8, 9], [11, 7, 4, 0, 3, 1, 2, 6, 5, 10, 8, 9]] [⟨(some 60), none, (.mkrow 74 3 [(.bool false), (.str ⟨#[]⟩), .nil] 0 [])⟩, ⟨some 61, none, .mv (.t 3)⟩, ⟨some 62, none, .mv (.t 5)⟩, ⟨some 63, none, .slice false 3 (.t 61) none (some (.t 62))⟩, ⟨(some 64), none, (.append 74 3 48 [(.bool false), (.str ⟨#[]⟩), .nil] (.t 60) (.t 63))⟩, ⟨some 65, none, .load true 3 (.t 6)⟩, ⟨(some 66), none, (.mkrow 74 3 [(.bool false), (.str ⟨#[]⟩), .nil] 1 [(0, (.t 65))])⟩, ⟨(some 67), none, (.append 74 3 48 [(.bool false), (.str ⟨#[]⟩), .nil] (.t 64) (.t 66))⟩, ⟨some 68, none, .mv (.t 3)⟩, ⟨some 69, none, .mv (.t 5)⟩, ⟨some 70, none, .slice false 3 (.t 68) (some (.t 69)) none⟩, ⟨(some 71), none, (.append 74 3 48 [(.bool false), (.str ⟨#[]⟩), .nil] (.t 67) (.t 70))⟩, ⟨some 3, none, .mv (.t 71)⟩])))))) (.reg [⟨some 12, none, .mv (.t 4)⟩, ⟨some 13, none, .bin .add false (.t 12) (.c (.int .i64 1))⟩, ⟨some 4, none, .mv (.t 13)⟩])))))) (.seq (.reg [⟨some 72, none, .mv (.t 3)⟩, ⟨some 73, none, .build [.nil] [(0, (1, (.t 72)))]⟩, ⟨none, none, (.store 1 (.t 2) (.t 73))⟩]) .ret))))
theorem k_spec_l7Make : codeOf Tryz.prog 37 = some ⟨74, c_spec_l7Make, [(.cell 2 true 1)]⟩ := by kernel_rfl
theorem m_spec_l7Make : modes 37 = ⟨[], .frl [10], none, false⟩ := by unfold modes; rfl
theorem copyLiteral_E (x : Lt) (hn : x.atom.nodes ≤ 1099511627776) : E 74 [x.sv] [] = some (x.osv, x.obs) := by
  have h := copyTerm_E x.atom hn
  refine E_walk k_impl_copyLiteral m_impl_copyLiteral (of_decide_eq_true rfl) ?_
  simp (disch := omega) only [c_impl_copyLiteral, go_sem, go_cond, zA, zB, zC, zD, zE, zF, zG, zH, ↓reduceIte, zI, reduceCtorEq, zJ, zK, h, m_impl_copyTerm, Tm.osv, Tm.obs]
theorem Lt.dec_eq (x y : Lt) : dec (x = y) = (bif eqBo x.pos y.pos then dec (x.atom = y.atom) else false) := by
  obtain ⟨p, a⟩ := x
  obtain ⟨q, b⟩ := y
  have e : ((⟨p, a⟩ : Lt) = ⟨q, b⟩) ↔ (p = q ∧ a = b) := by rw [Lt.mk.injEq]
  rw [dec_ii e]
  cases p <;> cases q
  · show _ = dec (a = b)
    exact dec_ii (and_iff_right rfl)
  · exact dec_f fun h => by cases h.1
  · exact dec_f fun h => by cases h.1
  · show _ = dec (a = b)
    exact dec_ii (and_iff_right rfl)
theorem sameLiteral_E (x y : Lt) (hnx : x.atom.nodes ≤ 1099511627776) (hny : y.atom.nodes ≤ 1099511627776) : E 77 [x.sv, y.sv] [] = some (.bool (dec (x = y)), []) := by
  have h := equalTerms_E x.atom y.atom hnx hny
  have b1 : (false == true) = false := rfl
  have b2 : (true == false) = false := rfl
  rw [Lt.dec_eq]
  cases hp : x.pos <;> cases hq : y.pos
  all_goals
    refine E_walk k_impl_sameLiteral m_impl_sameLiteral (of_decide_eq_true rfl) ?_
    simp (disch := omega) only [c_impl_sameLiteral, go_sem, go_cond, zA, zB, zC, zD, zE, zF, zG, zH, ↓reduceIte, zI, reduceCtorEq, zJ, zK, h, hp, hq, b1, b2, eqBo, m_impl_EqualTerms]
def Lt.fine (x : Lt) : Prop := x.atom.cok = true ∧ x.atom.nodes ≤ 1099511627776
theorem m_slices_SortFunc_impl_Literal_impl_Literal : modes 75 = ⟨[true], .asis, some sortLit, false⟩ := by unfold modes; rfl
theorem sortL_E (t : TypeId) (l : List Lt) (hl : l.length ≤ 1099511627776) (hc : ∀ x ∈ l, x.fine) : E 75 [.ref 0, .fn 43 []] [.row t 3 (l.map Lt.o)] = some (.tup [], [.row t 3 ((srtL l).map Lt.o)]) := by
  rw [E_extO (g := sortLit) (congrArg FM.ext m_slices_SortFunc_impl_Literal_impl_Literal)]
  unfold sortLit
  simp only
  rw [dec_t ⟨by first | trivial | rfl, by first | trivial | rfl, by simpa using hl, l, rfl, fun x hx y hy => compareLiterals_D x y (hc x hx).1 (hc y hy).1 (hc x hx).2 (hc y hy).2⟩, cond_true, unL_map]
theorem sortL_nil : E 75 [.nil, .fn 43 []] [] = some (.tup [], []) := by
  rw [E_extO (g := sortLit) (congrArg FM.ext m_slices_SortFunc_impl_Literal_impl_Literal)]
  unfold sortLit
  simp only
  rw [dec_t (by first | trivial | rfl), cond_true]
theorem m_slices_CompactFunc_impl_Literal_impl_Literal : modes 76 = ⟨[true], .asis, some compactLit, false⟩ := by unfold modes; rfl
theorem compactL_E (t : TypeId) (l : List Lt) (hl : l.length ≤ 1099511627776) (hc : ∀ x ∈ l, x.fine) : E 76 [.ref 0, .fn 77 []] [.row t 3 (l.map Lt.o)] = some (.ref 1, [.gone, .row t 3 ((cmpct l).map Lt.o)]) := by
  rw [E_extO (g := compactLit) (congrArg FM.ext m_slices_CompactFunc_impl_Literal_impl_Literal)]
  unfold compactLit
  simp only
  rw [dec_t ⟨by first | trivial | rfl, by first | trivial | rfl, by simpa using hl, l, rfl, fun x hx y hy => E_told (sameLiteral_E x y (hc x hx).2 (hc y hy).2)⟩, cond_true, unL_map]
theorem compactL_nil : E 76 [.nil, .fn 77 []] [] = some (.nil, []) := by
  rw [E_extO (g := compactLit) (congrArg FM.ext m_slices_CompactFunc_impl_Literal_impl_Literal)]
  unfold compactLit
  simp only
  rw [dec_t (by first | trivial | rfl), cond_true]
noncomputable def mkC (l : List Lt) : Cl := ⟨cmpct (srtL l)⟩
theorem mkC_nil : (mkC []).lits = [] := by
  have e0 : srtL [] = [] := List.mergeSort_nil
  unfold mkC
  rw [e0]; rfl
theorem mkC_strict (l : List Lt) : StrictL (mkC l).lits := cmpct_strict (srtL_sorted l)
theorem mkC_mem (l : List Lt) (z : Lt) : z ∈ (mkC l).lits ↔ z ∈ l := by
  show z ∈ cmpct (srtL l) ↔ _
  rw [cmpct_mem]
  exact (srtL_perm l).mem_iff
theorem mkC_len (l : List Lt) : (mkC l).lits.length ≤ l.length := by
  show (cmpct (srtL l)).length ≤ _
  rw [cmpct_len]
  have := kept_le (eqAt (srtL l)) (srtL l).length
  rw [(srtL_perm l).length_eq] at this
  exact Nat.le_trans (by rw [(srtL_perm l).length_eq]; exact Nat.le_refl _) this
set_option maxHeartbeats 4000000 in
theorem clauseOf_E (l : List Lt) (hl : l.length ≤ 1048576) (hf : ∀ x ∈ l, x.fine) : E 46 [.arr (l.map Lt.d)] [] = some ((mkC l).osv, (mkC l).obs) := by
  have h10 : ((1 : Int) = 0) = False := by simp
  have hsn := sortL_nil
  have hcn := compactL_nil
  have hs1 := sortL_E 74 l (by omega) hf
  have hs2 := compactL_E 74 (srtL l) (by rw [(srtL_perm l).length_eq]; omega) (fun x hx => hf x ((srtL_perm l).mem_iff.1 hx))
  refine E_walk k_impl_clauseOf m_impl_clauseOf (of_decide_eq_true rfl) ?_
  simp (disch := omega) only [c_impl_clauseOf, go_sem, go_cond, zA, zB, zC, zD, zE, zF, zG, zH, ↓reduceIte, zI, reduceCtorEq, zJ, zK]
  refine go_loop (α := Int) (fun a => ⟨slots 29 0 [(2, .ptr 0 0), (3, .ptr 1 0), (7, .arr (l.map Lt.d)), (8, .int .i64 l.length), (9, .int .i64 a)], (if a = 0 then [.box 32 [.nil], .box 32 [.nil]] else [.box 32 [.nil], .box 32 [.ref 2], .row 74 3 ((l.take a.toNat).map Lt.o)])⟩) (fun a => ∃ k : Nat, a = k ∧ k ≤ (l).length) (fun a => (l).length - (a).toNat) 0 ⟨0, rfl, Nat.zero_le _⟩ (by simp (disch := omega) only [go_sem, go_cond, zA, zB, zC, zD, zE, zF, zG, zH, ↓reduceIte, zI, reduceCtorEq, zJ, zK, eq_self, if_true]) ?_
  rintro i ⟨k, hi, hk⟩
  have hni : i.toNat = k := by omega
  have hni1 : (i + 1).toNat = k + 1 := by omega
  rcases Nat.lt_or_ge k (l).length with hlt | hge
  · have hg := get_at Lt.d hlt
    rw [Lt.d_eq] at hg
    have hc := copyLiteral_E l[k] (hf _ (List.getElem_mem hlt)).2
    have hs := map_snoc Lt.o hlt
    rw [Lt.o_eq] at hs
    rcases Nat.eq_zero_or_pos k with h0 | h0
    · subst h0
      obtain rfl : i = 0 := hi
      rw [List.take_zero, List.map_nil, List.nil_append] at hs
      simp (disch := omega) only [go_sem, go_cond, zA, zB, zC, zD, zE, zF, zG, zH, ↓reduceIte, zI, reduceCtorEq, zJ, zK, hni, hg, hc, m_impl_copyLiteral, eq_self, if_true]
      refine ⟨1, ⟨1, rfl, hlt⟩, by omega, ?_⟩
      simp (disch := omega) only [go_sem, go_cond, zA, zB, zC, zD, zE, zF, zG, zH, ↓reduceIte, zI, reduceCtorEq, zJ, zK, h10, if_false, hs]
    · have hi0 : (i = 0) = False := by simp; omega
      have hi1 : (i + 1 = 0) = False := by simp; omega
      have htl : (l.take k).length = k := by rw [List.length_take]; omega
      simp (disch := omega) only [go_sem, go_cond, zA, zB, zC, zD, zE, zF, zG, zH, ↓reduceIte, zI, reduceCtorEq, zJ, zK, hni, hg, hc, m_impl_copyLiteral, hi0, if_false, htl]
      refine ⟨i + 1, ⟨k + 1, by omega, hlt⟩, by omega, ?_⟩
      simp (disch := omega) only [go_sem, go_cond, zA, zB, zC, zD, zE, zF, zG, zH, ↓reduceIte, zI, reduceCtorEq, zJ, zK, hni1, hi1, if_false, hs]
  · obtain rfl : k = l.length := by omega
    have ht : l.take l.length = l := List.take_length
    rcases Nat.eq_zero_or_pos l.length with h0 | h0
    · have hx : l = [] := List.eq_nil_of_length_eq_zero h0
      obtain rfl : i = 0 := by omega
      have hm : (mkC l).lits = [] := by rw [hx]; exact mkC_nil
      simp (disch := omega) only [go_sem, go_cond, zA, zB, zC, zD, zE, zF, zG, zH, ↓reduceIte, zI, reduceCtorEq, zJ, zK, hni, eq_self, if_true, hsn, hcn, hm, List.map_nil, m_slices_SortFunc_impl_Literal_impl_Literal, m_slices_CompactFunc_impl_Literal_impl_Literal]
    · have hi0 : (i = 0) = False := by simp; omega
      have hm : (cmpct (srtL l)) = (mkC l).lits := rfl
      simp (disch := omega) only [go_sem, go_cond, zA, zB, zC, zD, zE, zF, zG, zH, ↓reduceIte, zI, reduceCtorEq, zJ, zK, hni, hi0, if_false, ht, hs1, hs2, hm, m_slices_SortFunc_impl_Literal_impl_Literal, m_slices_CompactFunc_impl_Literal_impl_Literal]
noncomputable def lowL : List Lt → Lt → Nat
  | [], _ => 0
  | y :: r, x => if y.cmp x < 0 then lowL r x + 1 else 0
noncomputable def putL : List Lt → Lt → List Lt
  | [], x => [x]
  | y :: r, x => if y.cmp x < 0 then y :: putL r x else if y.cmp x = 0 then y :: r else x :: y :: r
theorem lowL_le (x : Lt) : ∀ xs : List Lt, lowL xs x ≤ xs.length
  | [] => Nat.le_refl _
  | y :: r => by
    rw [lowL]
    have := lowL_le x r
    split <;> simp <;> omega
theorem lowL_drop {xs : List Lt} {x : Lt} {k : Nat} (h : k + lowL (xs.drop k) x = lowL xs x) (hk : k < xs.length) : (xs[k].cmp x < 0 ∧ k + 1 + lowL (xs.drop (k + 1)) x = lowL xs x) ∨ (¬ xs[k].cmp x < 0 ∧ k = lowL xs x) := by
  rw [List.drop_eq_getElem_cons hk, lowL] at h
  by_cases hq : xs[k].cmp x < 0
  · rw [if_pos hq] at h; exact .inl ⟨hq, by omega⟩
  · rw [if_neg hq] at h; exact .inr ⟨hq, by omega⟩
theorem putL_there {x : Lt} : ∀ {xs : List Lt} (hlt : lowL xs x < xs.length), xs[lowL xs x].cmp x = 0 → putL xs x = xs
  | [], hlt, _ => by simp at hlt
  | y :: r, hlt, h => by
    rw [putL]
    by_cases hq : y.cmp x < 0
    · have e : lowL (y :: r) x = lowL r x + 1 := by rw [lowL, if_pos hq]
      rw [if_pos hq]
      simp only [e, List.length_cons, List.getElem_cons_succ] at hlt h
      rw [putL_there (by omega) h]
    · have e : lowL (y :: r) x = 0 := by rw [lowL, if_neg hq]
      simp only [e, List.getElem_cons_zero] at h
      rw [if_neg hq, if_pos h]
theorem putL_new {x : Lt} : ∀ {xs : List Lt}, (∀ hlt : lowL xs x < xs.length, xs[lowL xs x].cmp x ≠ 0) → putL xs x = xs.take (lowL xs x) ++ [x] ++ xs.drop (lowL xs x)
  | [], _ => rfl
  | y :: r, h => by
    rw [putL]
    by_cases hq : y.cmp x < 0
    · have e : lowL (y :: r) x = lowL r x + 1 := by rw [lowL, if_pos hq]
      rw [if_pos hq, e, List.take_succ_cons, List.drop_succ_cons, List.cons_append, List.cons_append]
      rw [putL_new fun hlt => ?_]
      have := h (by rw [e]; simpa using hlt)
      simp only [e, List.getElem_cons_succ] at this
      exact this
    · have e : lowL (y :: r) x = 0 := by rw [lowL, if_neg hq]
      have := h (by rw [e]; simp)
      simp only [e, List.getElem_cons_zero] at this
      rw [if_neg hq, if_neg this, e]
      rfl
theorem putL_mem (x z : Lt) : ∀ xs : List Lt, z ∈ putL xs x ↔ z = x ∨ z ∈ xs
  | [] => by simp [putL]
  | y :: r => by
    rw [putL]
    split
    · rw [List.mem_cons, putL_mem x z r, List.mem_cons]
      constructor
      · rintro (h | h | h) <;> simp [h]
      · rintro (h | h | h) <;> simp [h]
    · split
      · rename_i h0
        have e : y = x := (Lt.cmp_ord y x x).zero.1 h0
        subst e
        simp
      · simp
theorem putL_strict (x : Lt) : ∀ {xs : List Lt}, StrictL xs → StrictL (putL xs x)
  | [], _ => List.pairwise_singleton _ _
  | y :: r, h => by
    obtain ⟨h1, h2⟩ := List.pairwise_cons.1 h
    rw [putL]
    split
    · rename_i hq
      refine List.pairwise_cons.2 ⟨fun z hz => ?_, putL_strict x h2⟩
      rcases (putL_mem x z r).1 hz with rfl | hz
      · exact hq
      · exact h1 z hz
    · split
      · exact h
      · rename_i hq h0
        have ha := (Lt.cmp_ord y x x).anti
        have hxy : x.cmp y < 0 := by omega
        refine List.pairwise_cons.2 ⟨fun z hz => ?_, h⟩
        rcases List.mem_cons.1 hz with rfl | hz
        · exact hxy
        · exact (Lt.cmp_ord x y z).trans hxy (h1 z hz)
theorem putL_len (x : Lt) : ∀ xs : List Lt, (putL xs x).length ≤ xs.length + 1
  | [] => Nat.le_refl _
  | y :: r => by
    rw [putL]
    have := putL_len x r
    split
    · simpa using this
    · split <;> simp
noncomputable def putsL (out l : List Lt) : List Lt := l.foldl putL out
theorem putsL_mem (z : Lt) : ∀ (l out : List Lt), z ∈ putsL out l ↔ z ∈ out ∨ z ∈ l
  | [], out => by simp [putsL]
  | x :: l, out => by
    show z ∈ putsL (putL out x) l ↔ _
    rw [putsL_mem z l, putL_mem, List.mem_cons]
    constructor
    · rintro ((h | h) | h) <;> simp [h]
    · rintro (h | h | h) <;> simp [h]
theorem putsL_strict : ∀ (l : List Lt) {out : List Lt}, StrictL out → StrictL (putsL out l)
  | [], _, h => h
  | x :: l, _, h => putsL_strict l (putL_strict x h)
theorem putsL_mkC (l : List Lt) : putsL [] l = (mkC l).lits := strictL_uniq (putsL_strict l List.Pairwise.nil) (mkC_strict l) fun z => by
  rw [putsL_mem, mkC_mem]; simp
theorem Lt.ot_take (xs : List Lt) (k : Nat) : ((xs.map Lt.d).take k).map (fun x => x.map D.ot) = (xs.take k).map fun b => b.d.map D.ot := by
  rw [← List.map_take, List.map_map]; rfl
theorem Lt.ot_drop (xs : List Lt) (k : Nat) : ((xs.map Lt.d).drop k).map (fun x => x.map D.ot) = (xs.drop k).map fun b => b.d.map D.ot := by
  rw [← List.map_drop, List.map_map]; rfl
theorem Lt.al3 (xs : List Lt) : ((xs.map fun b => b.d.map D.ot).all fun l => l.length == 3) = true := by
  rw [List.all_map, List.all_eq_true]
  intro x _
  show ((x.d.map D.ot).length == 3) = true
  rw [Lt.d_eq]; rfl
theorem Lt.ald3 (xs : List Lt) : ((xs.map Lt.d).all fun l => l.length == 3) = true := by
  rw [List.all_map, List.all_eq_true]
  intro x _
  show (x.d.length == 3) = true
  rw [Lt.d_eq]; rfl
theorem Lt.dfu : ∀ xs : List Lt, OT.fullss (xs.map fun b => b.d.map D.ot) = true
  | [] => rfl
  | x :: xs => by rw [List.map_cons, Lt.d_eq]; simp [OT.fullss, OT.fulls, OT.full, D.ot, Lt.dfu xs]
theorem Lt.der : ∀ xs : List Lt, OT.erss (xs.map fun b => b.d.map D.ot) = xs.map Lt.d
  | [] => rfl
  | x :: xs => by rw [List.map_cons, List.map_cons, Lt.d_eq]; simp [OT.erss, OT.ers, OT.er, D.ot, Lt.der xs]
set_option maxHeartbeats 8000000 in
theorem l7Make_E (l : List Lt) (hl : l.length ≤ 1048576) (hf : ∀ x ∈ l, x.fine) : E 37 [.arr (l.map Lt.d)] [] = some ((mkC l).sv, []) := by
  have hsv : (mkC l).sv = .agg [.arr ((putsL [] l).map Lt.d)] := by rw [putsL_mkC]
  rw [hsv]
  refine E_walk k_spec_l7Make m_spec_l7Make (of_decide_eq_true rfl) ?_
  simp (disch := omega) only [c_spec_l7Make, go_sem, go_cond, zA, zB, zC, zD, zE, zF, zG, zH, ↓reduceIte, zI, reduceCtorEq, zJ, zK]
  refine go_loop (α := Int × List Lt) (fun a => ⟨slots 74 0 [(0, .arr (l.map Lt.d)), (2, .ptr 0 0), (3, .arr (a.2.map Lt.d)), (4, .int .i64 a.1)], [.box 32 [.nil]]⟩) (fun a => ∃ k : Nat, a.1 = k ∧ k ≤ l.length ∧ putsL a.2 (l.drop k) = putsL [] l ∧ a.2.length ≤ k ∧ ∀ y ∈ a.2, y.fine) (fun a => l.length - a.1.toNat) (0, []) ⟨0, rfl, Nat.zero_le _, by rw [List.drop_zero], Nat.le_refl _, fun y hy => by cases hy⟩ (by simp (disch := omega) only [go_sem, go_cond, zA, zB, zC, zD, zE, zF, zG, zH, ↓reduceIte, zI, reduceCtorEq, zJ, zK]) ?_
  rintro ⟨i, out⟩ ⟨k, hi, hk, hR, hol, hof⟩
  dsimp only at hi hR hol hof
  have hni : i.toNat = k := by omega
  rcases Nat.lt_or_ge k l.length with hlt | hge
  · have hg := get_at Lt.d hlt
    rw [Lt.d_eq] at hg
    have hxf := hf l[k] (List.getElem_mem hlt)
    have hxn : ∀ out2 : List Lt, putL out l[k] = out2 → putsL out2 (l.drop (k + 1)) = putsL [] l := fun out2 h => by
      rw [List.drop_eq_getElem_cons hlt] at hR
      rw [← h]
      exact hR
    simp (disch := omega) only [go_sem, go_cond, zA, zB, zC, zD, zE, zF, zG, zH, ↓reduceIte, zI, reduceCtorEq, zJ, zK, hni, hg]
    refine go_loop (α := Int) (fun a => ⟨slots 74 0 [(0, .arr (l.map Lt.d)), (2, .ptr 0 0), (3, .arr (out.map Lt.d)), (4, .int .i64 i), (5, .int .i64 a)], [.box 32 [.nil]]⟩) (fun a => ∃ m : Nat, a = m ∧ m ≤ out.length ∧ m + lowL (out.drop m) l[k] = lowL out l[k]) (fun a => out.length - a.toNat) 0 ⟨0, rfl, Nat.zero_le _, by rw [List.drop_zero, Nat.zero_add]⟩ (by simp (disch := omega) only [go_sem, go_cond, zA, zB, zC, zD, zE, zF, zG, zH, ↓reduceIte, zI, reduceCtorEq, zJ, zK]) ?_
    rintro j ⟨m, hj, hm, hR2⟩
    have hnj : j.toNat = m := by omega
    have ho := l2Own_E l[k].atom hxf.2
    have e1 := Lt.ot_take out (lowL out l[k])
    have e2 := Lt.ot_drop out (lowL out l[k])
    have e3 := Lt.al3 (out.take (lowL out l[k]))
    have e4 := Lt.al3 (out.drop (lowL out l[k]))
    have e5 := Lt.ald3 out
    have l1 := lowL_le l[k] out
    have e6 : (out.map Lt.d).take out.length = out.map Lt.d := List.take_of_length_le (by simp)
    have e7 : (out.take (lowL out l[k])).length = lowL out l[k] := by rw [List.length_take]; omega
    have e8 : (out.drop (lowL out l[k])).length = out.length - lowL out l[k] := List.length_drop
    have hfu := Lt.dfu (putL out l[k])
    have her := Lt.der (putL out l[k])
    have hpl := putL_len l[k] out
    have hpf : ∀ y ∈ putL out l[k], y.fine := fun y hy => by
      rcases (putL_mem l[k] y out).1 hy with rfl | hy
      · exact hxf
      · exact hof y hy
    rcases Nat.lt_or_ge m out.length with hltm | hgem
    · have hgm := get_at Lt.d hltm
      rw [Lt.d_eq] at hgm
      have hof2 := hof out[m] (List.getElem_mem hltm)
      have hc := l7Literals_E out[m] l[k] hof2.1 hxf.1 hof2.2 hxf.2
      rcases lowL_drop hR2 hltm with ⟨q, hR'⟩ | ⟨q, hm'⟩
      · simp (disch := omega) only [go_sem, go_cond, zA, zB, zC, zD, zE, zF, zG, zH, ↓reduceIte, zI, reduceCtorEq, zJ, zK, hni, hg, hnj, hgm, hc, m_spec_l7Literals, q]
        exact ⟨j + 1, ⟨m + 1, by omega, hltm, hR'⟩, by omega, by first | trivial | rfl⟩
      · subst hm'
        by_cases h0 : out[lowL out l[k]].cmp l[k] = 0
        · have hp := putL_there hltm h0
          rw [h0] at hc
          simp (disch := omega) only [go_sem, go_cond, zA, zB, zC, zD, zE, zF, zG, zH, ↓reduceIte, zI, reduceCtorEq, zJ, zK, hni, hg, hnj, hgm, hc, m_spec_l7Literals, q, h0]
          exact ⟨(i + 1, out), ⟨k + 1, by dsimp only; omega, hlt, hxn _ hp, by dsimp only; omega, hof⟩, by dsimp only; omega, by first | trivial | rfl⟩
        · have hp := putL_new (fun _ => h0)
          have hx2 : (out.take (lowL out l[k])).map (fun b => b.d.map D.ot) ++ [[OT.bool l[k].pos, .str l[k].atom.name, .sh (l[k].atom.args.map Tm.d)]] ++ (out.drop (lowL out l[k])).map (fun b => b.d.map D.ot) = (putL out l[k]).map fun b => b.d.map D.ot := by
            rw [hp]
            simp only [List.map_append, List.map_cons, List.append_assoc, List.cons_append, List.nil_append]
            rw [Lt.d_eq]; rfl
          simp (disch := omega) only [go_sem, go_cond, zA, zB, zC, zD, zE, zF, zG, zH, ↓reduceIte, zI, reduceCtorEq, zJ, zK, hni, hg, hnj, hgm, hc, m_spec_l7Literals, q, h0, e1, e2, e3, e4, e5, e6, e7, e8, hx2, hfu, her, ho, List.length_append, Int.toNat_zero, m_spec_l2Own]
          exact ⟨(i + 1, putL out l[k]), ⟨k + 1, by dsimp only; omega, hlt, hxn _ rfl, by dsimp only; omega, hpf⟩, by dsimp only; omega, by first | trivial | rfl⟩
    · obtain rfl : m = out.length := by omega
      have hk' : out.length = lowL out l[k] := by rw [← hR2, List.drop_eq_nil_of_le (Nat.le_refl _)]; simp [lowL]
      have hp := putL_new (x := l[k]) (xs := out) (fun hlt => by omega)
      have hx2 : (out.take (lowL out l[k])).map (fun b => b.d.map D.ot) ++ [[OT.bool l[k].pos, .str l[k].atom.name, .sh (l[k].atom.args.map Tm.d)]] ++ (out.drop (lowL out l[k])).map (fun b => b.d.map D.ot) = (putL out l[k]).map fun b => b.d.map D.ot := by
        rw [hp]
        simp only [List.map_append, List.map_cons, List.append_assoc, List.cons_append, List.nil_append]
        rw [Lt.d_eq]; rfl
      rw [hk'] at hnj
      simp (disch := omega) only [go_sem, go_cond, zA, zB, zC, zD, zE, zF, zG, zH, ↓reduceIte, zI, reduceCtorEq, zJ, zK, hni, hg, hnj, e1, e2, e3, e4, e5, e6, e7, e8, hx2, hfu, her, ho, List.length_append, Int.toNat_zero, m_spec_l2Own]
      exact ⟨(i + 1, putL out l[k]), ⟨k + 1, by dsimp only; omega, hlt, hxn _ rfl, by dsimp only; omega, hpf⟩, by dsimp only; omega, by first | trivial | rfl⟩
  · rw [List.drop_eq_nil_of_le hge] at hR
    have hR : out = putsL [] l := hR
    rw [← hR]
    simp (disch := omega) only [go_sem, go_cond, zA, zB, zC, zD, zE, zF, zG, zH, ↓reduceIte, zI, reduceCtorEq, zJ, zK, hni]
theorem less_asymm : ∀ x y : List UInt8, Op.bytesLess x y = true → Op.bytesLess y x = false
  | [], [], h => by simp [Op.bytesLess] at h
  | [], _ :: _, _ => rfl
  | _ :: _, [], h => by simp [Op.bytesLess] at h
  | a :: x, b :: y, h => by
    simp only [Op.bytesLess, Bool.or_eq_true, decide_eq_true_eq, Bool.and_eq_true, beq_iff_eq] at h
    simp only [Op.bytesLess, Bool.or_eq_false_iff, decide_eq_false_iff_not]
    rcases h with h | ⟨rfl, h⟩
    · have h2 : ¬ b < a := by intro h3; exact absurd (UInt8.lt_trans h h3) (UInt8.lt_irrefl _)
      have h3 : (b == a) = false := by
        rw [beq_eq_false_iff_ne]; rintro rfl; exact UInt8.lt_irrefl _ h
      exact ⟨h2, by rw [h3]; rfl⟩
    · exact ⟨UInt8.lt_irrefl _, by rw [less_asymm x y h]; simp⟩
theorem less_total : ∀ x y : List UInt8, Op.bytesLess x y = false → Op.bytesLess y x = false → x = y
  | [], [], _, _ => rfl
  | [], _ :: _, h, _ => by simp [Op.bytesLess] at h
  | _ :: _, [], _, h => by simp [Op.bytesLess] at h
  | a :: x, b :: y, h, k => by
    simp only [Op.bytesLess, Bool.or_eq_false_iff, decide_eq_false_iff_not] at h k
    have hab : a = b := by
      have h1 := h.1; have h2 := k.1
      rw [UInt8.lt_iff_toNat_lt] at h1 h2
      exact UInt8.toNat_inj.1 (by omega)
    subst hab
    have h1 : Op.bytesLess x y = false := by simpa using h.2
    have h2 : Op.bytesLess y x = false := by simpa using k.2
    rw [less_total x y h1 h2]
theorem strLt_asymm {a b : ByteArray} (h : strLt a b = true) : strLt b a = false := less_asymm _ _ h
theorem strLt_total {a b : ByteArray} (h : strLt a b = false) (h' : strLt b a = false) : a = b := bytes_ext (less_total _ _ h h')
theorem strLe_eq (a b : ByteArray) : (strLt a b || dec (a = b)) = !strLt b a := by
  cases h : strLt b a with
  | false =>
    cases h2 : strLt a b with
    | false => rw [dec_t (strLt_total h2 h)]; rfl
    | true => rfl
  | true =>
    rw [strLt_asymm h, dec_f (by rintro rfl; rw [strLt_self] at h; cases h)]
    rfl
theorem less_trans : ∀ x y z : List UInt8, Op.bytesLess x y = true → Op.bytesLess y z = true → Op.bytesLess x z = true
  | _, _, [], _, h => by simp [Op.bytesLess] at h
  | [], [], _ :: _, h, _ => by simp [Op.bytesLess] at h
  | [], _ :: _, _ :: _, _, _ => rfl
  | _ :: _, [], _ :: _, h, _ => by simp [Op.bytesLess] at h
  | a :: x, b :: y, c :: z, h, k => by
    simp only [Op.bytesLess, Bool.or_eq_true, decide_eq_true_eq, Bool.and_eq_true, beq_iff_eq] at h k ⊢
    rcases h with h | ⟨rfl, h⟩
    · rcases k with k | ⟨rfl, k⟩
      · exact .inl (UInt8.lt_trans h k)
      · exact .inl h
    · rcases k with k | ⟨rfl, k⟩
      · exact .inl k
      · exact .inr ⟨rfl, less_trans x y z h k⟩
theorem strLt_trans {a b c : ByteArray} (h : strLt a b = true) (k : strLt b c = true) : strLt a c = true := less_trans _ _ _ h k
theorem strLt_ne {a b : ByteArray} (h : strLt a b = true) : ¬ a = b := by rintro rfl; rw [strLt_self] at h; cases h
theorem cmpB_neg (a b : ByteArray) : dec (cmpB a b < 0) = strLt a b := by
  unfold cmpB
  cases strLt a b
  · cases dec (a = b)
    · exact dec_f (by simp)
    · exact dec_f (by simp)
  · exact dec_t (by simp)
theorem cmpB_zero (a b : ByteArray) : dec (cmpB a b = 0) = dec (a = b) := by
  unfold cmpB
  cases h : strLt a b
  · cases h2 : dec (a = b)
    · exact dec_f (by simp)
    · exact dec_t (by simp)
  · rw [dec_f (strLt_ne h)]
    exact dec_f (by simp)
theorem wrap_u64 {n : Int} (h0 : 0 ≤ n) (h1 : n ≤ 18446744073709551615) : IntKind.u64.wrap n = n := inK_wrap (by
  have e1 : IntKind.u64.min = 0 := by decide
  have e2 : IntKind.u64.max = 18446744073709551615 := by decide
  unfold inK
  rw [e1, e2]
  exact ⟨h0, h1⟩)
noncomputable def bdOk (x : Bd) : Bool := varB x.var && (x.term.valid && !dec (x.term.name = x.var))
noncomputable def bdAt (xs : List Bd) (k : Nat) : Bool := match xs[k]? with
  | none => true
  | some x => bdOk x && (match k with
    | 0 => true
    | j + 1 => match xs[j]? with
      | none => true
      | some y => strLt y.var x.var)
noncomputable def bdTo (xs : List Bd) : Nat → Bool
  | 0 => true
  | k + 1 => bdTo xs k && bdAt xs k
theorem bdTo_mono {xs : List Bd} {k n : Nat} (h : bdTo xs k = false) (hn : k ≤ n) : bdTo xs n = false := by
  induction n with
  | zero => obtain rfl : k = 0 := by omega
            exact h
  | succ n ih =>
    rcases Nat.lt_or_ge n k with h1 | h1
    · obtain rfl : k = n + 1 := by omega
      exact h
    · rw [bdTo, ih h1]; rfl
theorem bdAt_zero {xs : List Bd} (h : 0 < xs.length) : bdAt xs 0 = bdOk xs[0] := by
  unfold bdAt
  rw [List.getElem?_eq_getElem h]
  simp
theorem bdAt_succ {xs : List Bd} {j : Nat} (h : j + 1 < xs.length) : bdAt xs (j + 1) = (bdOk xs[j + 1] && strLt xs[j].var xs[j + 1].var) := by
  unfold bdAt
  rw [List.getElem?_eq_getElem h]
  simp only [List.getElem?_eq_getElem (show j < xs.length by omega)]
theorem bdTo_at {xs : List Bd} {k j : Nat} (h : bdTo xs k = true) (hj : j < k) : bdAt xs j = true := by
  induction k with
  | zero => omega
  | succ k ih =>
    rw [bdTo, Bool.and_eq_true] at h
    rcases Nat.lt_or_ge j k with h1 | h1
    · exact ih h.1 h1
    · obtain rfl : j = k := by omega
      exact h.2
theorem bdAt_ok {xs : List Bd} {j : Nat} (hl : j < xs.length) (h : bdAt xs j = true) : bdOk xs[j] = true := by
  cases j with
  | zero => rw [← bdAt_zero hl]; exact h
  | succ j => rw [bdAt_succ hl, Bool.and_eq_true] at h; exact h.1
noncomputable def Sb.ok (x : Sb) : Bool := decide (x.binds.length ≤ 12) && bdTo x.binds x.binds.length
theorem Sb.not_ok {x : Sb} {k : Nat} (h : bdTo x.binds k = true) (h' : bdAt x.binds k = false) (hk : k < x.binds.length) : x.ok = false := by
  have : bdTo x.binds x.binds.length = false := bdTo_mono (k := k + 1) (by rw [bdTo, h, h']; rfl) (by omega)
  unfold Sb.ok
  rw [this, Bool.and_false]
def Sb.tame (x : Sb) : Prop := x.binds.length ≤ 1099511627776 ∧ ∀ y ∈ x.binds, y.term.nodes ≤ 1099511627776
theorem Sb.tame_at {x : Sb} (h : x.tame) {k : Nat} (hk : k < x.binds.length) : x.binds[k].term.nodes ≤ 1099511627776 := h.2 _ (List.getElem_mem hk)
def c_impl_IsValidSubstitution : SC := (.seq (.reg [⟨some 1, none, .boxv 37 1 (.t 0)⟩, ⟨some 2, none, .mv (.c (.bool false))⟩]) (.seq (.seq (.reg [⟨some 5, none, .faddr 0 (.t 1)⟩, ⟨some 6, none, .load false 1 (.t 5)⟩, ⟨some 7, none, .len false (.t 6)⟩, ⟨some 8, none, .mv (.c (.int .i64 0))⟩]) (.block 0 (.loop [0, 1, 0, 0, 0, 0, 1, 1, 1, 0, 0, 0, 0, 0, 0, 0, 0, 0, 0, 0, 0, 0, 0, 0, 0, 0, 0, 0, 0, 0, 0, 0, 0, 0, 0, 0, 0, 0, 0, 0, 0, 0, 0, 0, 0, 0, 0, 0, 0, 0, 0, 0] (.seq (.reg [⟨some 9, none, .bin .lss false (.t 8) (.t 7)⟩]) (.seq (.cond (.t 9) .skip (.exit 0)) (.seq (.block 1 (.seq (.reg [⟨some 10, none, .mv (.t 8)⟩, ⟨some 11, none, .iaddr 3 (.t 6) (.t 8)⟩, ⟨some 12, none, .load true 3 (.t 11)⟩, ⟨(some 4), none, (.alloc 70 [(.str ⟨#[]⟩), (.str ⟨#[]⟩), .nil])⟩, ⟨some 3, none, .mv (.t 10)⟩, ⟨none, none, (.store 3 (.t 4) (.t 12))⟩]) (.seq (.dreg [[], [0], [1, 0], [2, 1, 0], [3, 2, 1, 0], [4, 3, 2, 1, 0], [5, 4, 3, 2, 1, 0], [6, 5, 4, 3, 2, 1, 0], [7, 6, 5, 4, 3, 2, 1, 0], [8, 7, 6, 5, 4, 3, 2, 1, 0], [7, 6, 5, 4, 3, 2, 1, 0], [10, 7, 6, 5, 4, 3, 2, 1, 0], [7, 6, 5, 4, 3, 2, 1, 0], [12, 7, 6, 5, 4, 3, 2, 1, 0], [11, 10, 7, 6, 5, 4, 3, 2, 1, 0, 13, 12], [14, 11, 10, 7, 6, 5, 4, 3, 2, 1, 0, 13, 12], [15, 14, 11, 10, 7, 6, 5, 4, 3, 2, 1, 0, 13, 12], [9, 8, 7, 6, 5, 4, 3, 2, 1, 0, 16, 15, 14, 11, 10, 13, 12], [7, 6, 5, 4, 3, 2, 1, 0, 17, 9, 8, 16, 15, 14, 11, 10, 13, 12], [4, 3, 2, 1, 0, 18, 7, 6, 5, 17, 9, 8, 16, 15, 14, 11, 10, 13, 12], [19, 4, 3, 2, 1, 0, 18, 7, 6, 5, 17, 9, 8, 16, 15, 14, 11, 10, 13, 12], [20, 19, 4, 3, 2, 1, 0, 18, 7, 6, 5, 17, 9, 8, 16, 15, 14, 11, 10, 13, 12], [21, 20, 19, 4, 3, 2, 1, 0, 18, 7, 6, 5, 17, 9, 8, 16, 15, 14, 11, 10, 13, 12], [22, 21, 20, 19, 4, 3, 2, 1, 0, 18, 7, 6, 5, 17, 9, 8, 16, 15, 14, 11, 10, 13, 12], [23, 22, 21, 20, 19, 4, 3, 2, 1, 0, 18, 7, 6, 5, 17, 9, 8, 16, 15, 14, 11, 10, 13, 12], [20, 19, 4, 3, 2, 1, 0, 18, 7, 6, 5, 17, 9, 8, 16, 15, 14, 11, 10, 13, 12, 24, 23, 22, 21], [25, 20, 19, 4, 3, 2, 1, 0, 18, 7, 6, 5, 17, 9, 8, 16, 15, 14, 11, 10, 13, 12, 24, 23, 22, 21], [26, 25, 20, 19, 4, 3, 2, 1, 0, 18, 7, 6, 5, 17, 9, 8, 16, 15, 14, 11, 10, 13, 12, 24, 23, 22, 21], [27, 26, 25, 20, 19, 4, 3, 2, 1, 0, 18, 7, 6, 5, 17, 9, 8, 16, 15, 14, 11, 10, 13, 12, 24, 23, 22, 21], [28, 27, 26, 25, 20, 19, 4, 3, 2, 1, 0, 18, 7, 6, 5, 17, 9, 8, 16, 15, 14, 11, 10, 13, 12, 24, 23, 22, 21], [26, 25, 20, 19, 4, 3, 2, 1, 0, 18, 7, 6, 5, 17, 9, 8, 16, 15, 14, 11, 10, 13, 12, 24, 23, 22, 21], [30, 26, 25, 20, 19, 4, 3, 2, 1, 0, 18, 7, 6, 5, 17, 9, 8, 16, 15, 14, 11, 10, 13, 12, 24, 23, 22, 21], [29, 28, 27, 26, 25, 20, 19, 4, 3, 2, 1, 0, 18, 7, 6, 5, 17, 9, 8, 16, 15, 14, 11, 10, 13, 12, 24, 23, 22, 21, 31, 30], [26, 25, 20, 19, 4, 3, 2, 1, 0, 18, 7, 6, 5, 17, 9, 8, 16, 15, 14, 11, 10, 13, 12, 24, 23, 22, 21, 32, 29, 28, 27, 31, 30]] [⟨some 13, none, .faddr 0 (.t 4)⟩, ⟨some 14, none, .load false 1 (.t 13)⟩, ⟨some 15, none, .call 40 [(.t 14)]⟩, ⟨some 16, none, .un .not (.t 15)⟩, ⟨some 17, none, .mv (.t 16)⟩, ⟨(some 18), (some (17, false)), (.mv (.t 3))⟩, ⟨(some 19), (some (17, false)), (.bin .gtr false (.t 18) (.c (.int .i64 0)))⟩, ⟨(some 20), (some (17, false)), (.mv (.t 19))⟩, ⟨(some 21), (some (20, true)), (.faddr 0 (.t 4))⟩, ⟨(some 22), (some (20, true)), (.load false 1 (.t 21))⟩, ⟨(some 23), (some (20, true)), (.faddr 0 (.t 1))⟩, ⟨(some 24), (some (20, true)), (.load false 1 (.t 23))⟩, ⟨(some 25), (some (20, true)), (.mv (.t 3))⟩, ⟨(some 26), (some (20, true)), (.bin .sub false (.t 25) (.c (.int .i64 1)))⟩, ⟨(some 27), (some (20, true)), (.iaddr 3 (.t 24) (.t 26))⟩, ⟨(some 28), (some (20, true)), (.faddr 0 (.t 27))⟩, ⟨(some 29), (some (20, true)), (.load false 1 (.t 28))⟩, ⟨(some 30), (some (20, true)), (.bin .leq false (.t 22) (.t 29))⟩, ⟨(some 31), (some (17, false)), (.pick (.t 20) (.t 30) (.c (.bool false)))⟩, ⟨some 32, none, .pick (.t 17) (.c (.bool true)) (.t 31)⟩, ⟨some 33, none, .mv (.t 32)⟩, ⟨(some 34), (some (33, false)), (.faddr 1 (.t 4))⟩, ⟨(some 35), (some (33, false)), (.load true 2 (.t 34))⟩, ⟨(some 36), (some (33, false)), (.call 41 [(.t 35)])⟩, ⟨(some 37), (some (33, false)), (.un .not (.t 36))⟩, ⟨some 38, none, .pick (.t 33) (.c (.bool true)) (.t 37)⟩, ⟨some 39, none, .mv (.t 38)⟩, ⟨(some 40), (some (39, false)), (.faddr 1 (.t 4))⟩, ⟨(some 41), (some (39, false)), (.faddr 0 (.t 40))⟩, ⟨(some 42), (some (39, false)), (.load false 1 (.t 41))⟩, ⟨(some 43), (some (39, false)), (.faddr 0 (.t 4))⟩, ⟨(some 44), (some (39, false)), (.load false 1 (.t 43))⟩, ⟨(some 45), (some (39, false)), (.bin .eql false (.t 42) (.t 44))⟩, ⟨some 46, none, .pick (.t 39) (.c (.bool true)) (.t 45)⟩]) (.cond (.t 46) (.seq (.reg [⟨some 2, none, .mv (.c (.bool false))⟩]) .ret) .skip)))) (.reg [⟨some 47, none, .bin .add false (.t 8) (.c (.int .i64 1))⟩, ⟨some 8, none, .mv (.t 47)⟩]))))))) (.seq (.reg [⟨some 48, none, .faddr 0 (.t 1)⟩, ⟨some 49, none, .load false 1 (.t 48)⟩, ⟨some 50, none, .len false (.t 49)⟩, ⟨some 51, none, .bin .leq false (.t 50) (.c (.int .i64 12))⟩, ⟨some 2, none, .mv (.t 51)⟩]) .ret)))
theorem k_impl_IsValidSubstitution : codeOf Tryz.prog 22 = some ⟨52, c_impl_IsValidSubstitution, [(.tmp 2)]⟩ := by kernel_rfl
theorem m_impl_IsValidSubstitution : modes 22 = ⟨[], .asis, none, false⟩ := by unfold modes; rfl
def c_spec_l4Good : SC := (.seq (.reg [⟨some 1, none, .boxv 37 1 (.t 0)⟩, ⟨some 2, none, .mv (.c (.bool false))⟩]) (.seq (.seq (.reg [⟨some 3, none, .mv (.c (.int .i64 0))⟩]) (.block 0 (.loop [0, 1, 0, 1, 0, 0, 0, 0, 0, 0, 0, 0, 0, 0, 0, 0, 0, 0, 0, 0, 0, 0, 0, 0, 0, 0, 0, 0, 0, 0, 0, 0, 0, 0, 0, 0, 0, 0, 0, 0, 0, 0, 0, 0, 0, 0, 0, 0, 0, 0, 0, 0, 0, 0, 0] (.seq (.seq (.reg [⟨some 5, none, .mv (.t 3)⟩, ⟨some 6, none, .faddr 0 (.t 1)⟩, ⟨some 7, none, .load false 1 (.t 6)⟩, ⟨some 8, none, .len false (.t 7)⟩, ⟨some 9, none, .bin .lss false (.t 5) (.t 8)⟩]) (.cond (.t 9) .skip (.exit 0))) (.seq (.block 1 (.seq (.reg [⟨some 12, none, .faddr 0 (.t 1)⟩, ⟨some 13, none, .load false 1 (.t 12)⟩, ⟨some 14, none, .mv (.t 3)⟩, ⟨some 15, none, .iaddr 3 (.t 13) (.t 14)⟩, ⟨some 16, none, .load true 3 (.t 15)⟩, ⟨(some 4), none, (.alloc 70 [(.str ⟨#[]⟩), (.str ⟨#[]⟩), .nil])⟩, ⟨none, none, (.store 3 (.t 4) (.t 16))⟩]) (.seq (.dreg [[], [0], [1, 0], [2, 1, 0], [3, 2, 1, 0], [4, 3, 2, 1, 0], [5, 4, 3, 2, 1, 0], [6, 5, 4, 3, 2, 1, 0], [7, 6, 5, 4, 3, 2, 1, 0], [4, 3, 2, 1, 0, 8, 7, 6, 5], [9, 4, 3, 2, 1, 0, 8, 7, 6, 5], [10, 9, 4, 3, 2, 1, 0, 8, 7, 6, 5], [11, 10, 9, 4, 3, 2, 1, 0, 8, 7, 6, 5], [12, 11, 10, 9, 4, 3, 2, 1, 0, 8, 7, 6, 5], [10, 9, 4, 3, 2, 1, 0, 8, 7, 6, 5], [14, 10, 9, 4, 3, 2, 1, 0, 8, 7, 6, 5], [13, 12, 11, 10, 9, 4, 3, 2, 1, 0, 8, 7, 6, 5, 15, 14], [10, 9, 4, 3, 2, 1, 0, 8, 7, 6, 5, 16, 13, 12, 11, 15, 14], [17, 10, 9, 4, 3, 2, 1, 0, 8, 7, 6, 5, 16, 13, 12, 11, 15, 14], [18, 17, 10, 9, 4, 3, 2, 1, 0, 8, 7, 6, 5, 16, 13, 12, 11, 15, 14], [19, 18, 17, 10, 9, 4, 3, 2, 1, 0, 8, 7, 6, 5, 16, 13, 12, 11, 15, 14], [20, 19, 18, 17, 10, 9, 4, 3, 2, 1, 0, 8, 7, 6, 5, 16, 13, 12, 11, 15, 14], [21, 20, 19, 18, 17, 10, 9, 4, 3, 2, 1, 0, 8, 7, 6, 5, 16, 13, 12, 11, 15, 14], [22, 21, 20, 19, 18, 17, 10, 9, 4, 3, 2, 1, 0, 8, 7, 6, 5, 16, 13, 12, 11, 15, 14], [21, 20, 19, 18, 17, 10, 9, 4, 3, 2, 1, 0, 8, 7, 6, 5, 16, 13, 12, 11, 15, 14], [24, 21, 20, 19, 18, 17, 10, 9, 4, 3, 2, 1, 0, 8, 7, 6, 5, 16, 13, 12, 11, 15, 14], [23, 22, 21, 20, 19, 18, 17, 10, 9, 4, 3, 2, 1, 0, 8, 7, 6, 5, 16, 13, 12, 11, 15, 14, 25, 24], [26, 23, 22, 21, 20, 19, 18, 17, 10, 9, 4, 3, 2, 1, 0, 8, 7, 6, 5, 16, 13, 12, 11, 15, 14, 25, 24], [27, 26, 23, 22, 21, 20, 19, 18, 17, 10, 9, 4, 3, 2, 1, 0, 8, 7, 6, 5, 16, 13, 12, 11, 15, 14, 25, 24], [21, 20, 19, 18, 17, 10, 9, 4, 3, 2, 1, 0, 8, 7, 6, 5, 16, 13, 12, 11, 15, 14], [29, 21, 20, 19, 18, 17, 10, 9, 4, 3, 2, 1, 0, 8, 7, 6, 5, 16, 13, 12, 11, 15, 14], [28, 27, 26, 23, 22, 21, 20, 19, 18, 17, 10, 9, 4, 3, 2, 1, 0, 8, 7, 6, 5, 16, 13, 12, 11, 15, 14, 25, 24, 30, 29], [21, 20, 19, 18, 17, 10, 9, 4, 3, 2, 1, 0, 8, 7, 6, 5, 16, 13, 12, 11, 15, 14, 31, 28, 27, 26, 23, 22, 25, 24, 30, 29], [18, 17, 10, 9, 4, 3, 2, 1, 0, 8, 7, 6, 5, 16, 13, 12, 11, 15, 14, 32, 21, 20, 19, 31, 28, 27, 26, 23, 22, 25, 24, 30, 29]] [⟨some 17, none, .faddr 0 (.t 4)⟩, ⟨some 18, none, .load false 1 (.t 17)⟩, ⟨some 19, none, .call 32 [(.t 18)]⟩, ⟨some 20, none, .un .not (.t 19)⟩, ⟨some 21, none, .mv (.t 20)⟩, ⟨(some 22), (some (21, false)), (.faddr 1 (.t 4))⟩, ⟨(some 23), (some (21, false)), (.load true 2 (.t 22))⟩, ⟨(some 24), (some (21, false)), (.call 33 [(.t 23)])⟩, ⟨(some 25), (some (21, false)), (.un .not (.t 24))⟩, ⟨some 26, none, .pick (.t 21) (.c (.bool true)) (.t 25)⟩, ⟨some 27, none, .mv (.t 26)⟩, ⟨(some 28), (some (27, false)), (.faddr 1 (.t 4))⟩, ⟨(some 29), (some (27, false)), (.faddr 0 (.t 28))⟩, ⟨(some 30), (some (27, false)), (.load false 1 (.t 29))⟩, ⟨(some 31), (some (27, false)), (.faddr 0 (.t 4))⟩, ⟨(some 32), (some (27, false)), (.load false 1 (.t 31))⟩, ⟨(some 33), (some (27, false)), (.bin .eql false (.t 30) (.t 32))⟩, ⟨some 34, none, .pick (.t 27) (.c (.bool true)) (.t 33)⟩, ⟨some 35, none, .mv (.t 34)⟩, ⟨(some 36), (some (35, false)), (.mv (.t 3))⟩, ⟨(some 37), (some (35, false)), (.bin .gtr false (.t 36) (.c (.int .i64 0)))⟩, ⟨(some 38), (some (35, false)), (.mv (.t 37))⟩, ⟨(some 39), (some (38, true)), (.faddr 0 (.t 1))⟩, ⟨(some 40), (some (38, true)), (.load false 1 (.t 39))⟩, ⟨(some 41), (some (38, true)), (.mv (.t 3))⟩, ⟨(some 42), (some (38, true)), (.bin .sub false (.t 41) (.c (.int .i64 1)))⟩, ⟨(some 43), (some (38, true)), (.iaddr 3 (.t 40) (.t 42))⟩, ⟨(some 44), (some (38, true)), (.faddr 0 (.t 43))⟩, ⟨(some 45), (some (38, true)), (.load false 1 (.t 44))⟩, ⟨(some 46), (some (38, true)), (.faddr 0 (.t 4))⟩, ⟨(some 47), (some (38, true)), (.load false 1 (.t 46))⟩, ⟨(some 48), (some (38, true)), (.bin .geq false (.t 45) (.t 47))⟩, ⟨(some 49), (some (35, false)), (.pick (.t 38) (.t 48) (.c (.bool false)))⟩, ⟨some 50, none, .pick (.t 35) (.c (.bool true)) (.t 49)⟩]) (.cond (.t 50) (.seq (.reg [⟨some 2, none, .mv (.c (.bool false))⟩]) .ret) .skip)))) (.reg [⟨some 10, none, .mv (.t 3)⟩, ⟨some 11, none, .bin .add false (.t 10) (.c (.int .i64 1))⟩, ⟨some 3, none, .mv (.t 11)⟩])))))) (.seq (.reg [⟨some 51, none, .faddr 0 (.t 1)⟩, ⟨some 52, none, .load false 1 (.t 51)⟩, ⟨some 53, none, .len false (.t 52)⟩, ⟨some 54, none, .bin .leq false (.t 53) (.c (.int .i64 12))⟩, ⟨some 2, none, .mv (.t 54)⟩]) .ret)))
theorem k_spec_l4Good : codeOf Tryz.prog 17 = some ⟨55, c_spec_l4Good, [(.tmp 2)]⟩ := by kernel_rfl
theorem m_spec_l4Good : modes 17 = ⟨[], .asis, none, false⟩ := by unfold modes; rfl
def c_spec_l4Find : SC := (.seq (.reg [⟨some 2, none, .boxv 37 1 (.t 0)⟩, ⟨some 4, none, .mv (.c (.int .i64 0))⟩]) (.seq (.seq (.reg [⟨some 5, none, .mv (.c (.int .i64 0))⟩]) (.block 0 (.loop [0, 1, 1, 0, 0, 1, 0, 0, 0, 0, 0, 0, 0, 0, 0, 0, 0, 0, 0, 0, 0, 0] (.seq (.seq (.reg [⟨some 6, none, .mv (.t 5)⟩, ⟨some 7, none, .faddr 0 (.t 2)⟩, ⟨some 8, none, .load false 1 (.t 7)⟩, ⟨some 9, none, .len false (.t 8)⟩, ⟨some 10, none, .bin .lss false (.t 6) (.t 9)⟩]) (.cond (.t 10) .skip (.exit 0))) (.seq (.block 1 (.seq (.reg [⟨some 13, none, .faddr 0 (.t 2)⟩, ⟨some 14, none, .load false 1 (.t 13)⟩, ⟨some 15, none, .mv (.t 5)⟩, ⟨some 16, none, .iaddr 3 (.t 14) (.t 15)⟩, ⟨some 17, none, .faddr 0 (.t 16)⟩, ⟨some 18, none, .load false 1 (.t 17)⟩, ⟨some 19, none, .mv (.t 1)⟩, ⟨some 20, none, .bin .eql false (.t 18) (.t 19)⟩]) (.cond (.t 20) (.seq (.reg [⟨some 21, none, .mv (.t 5)⟩, ⟨some 4, none, .mv (.t 21)⟩]) .ret) .skip))) (.reg [⟨some 11, none, .mv (.t 5)⟩, ⟨some 12, none, .bin .add false (.t 11) (.c (.int .i64 1))⟩, ⟨some 5, none, .mv (.t 12)⟩])))))) (.seq (.reg [⟨some 4, none, .mv (.c (.int .i64 (-(0 + 1))))⟩]) .ret)))
theorem k_spec_l4Find : codeOf Tryz.prog 59 = some ⟨22, c_spec_l4Find, [(.tmp 4)]⟩ := by kernel_rfl
theorem m_spec_l4Find : modes 59 = ⟨[], .asis, none, false⟩ := by unfold modes; rfl
set_option maxHeartbeats 4000000 in
theorem isValidSubstitution_E (x : Sb) (hn : x.tame) : E 22 [x.sv] [] = some (.bool x.ok, []) := by
  have hl := hn.1
  refine E_walk k_impl_IsValidSubstitution m_impl_IsValidSubstitution (of_decide_eq_true rfl) ?_
  simp (disch := omega) only [c_impl_IsValidSubstitution, go_sem, go_cond, zA, zB, zC, zD, zE, zF, zG, zH, ↓reduceIte, zI, reduceCtorEq, zJ, zK]
  refine go_loop (α := Int) (fun a => ⟨slots 52 0 [(1, .ptr 0 0), (6, .arr (x.binds.map Bd.d)), (7, .int .i64 x.binds.length), (8, .int .i64 a)], [.box 37 [.arr (x.binds.map Bd.d)]]⟩) (fun a => ∃ k : Nat, a = k ∧ k ≤ (x.binds).length ∧ bdTo x.binds k = true) (fun a => (x.binds).length - (a).toNat) 0 ⟨0, rfl, Nat.zero_le _, by rw [bdTo]⟩ (by simp (disch := omega) only [go_sem, go_cond, zA, zB, zC, zD, zE, zF, zG, zH, ↓reduceIte, zI, reduceCtorEq, zJ, zK]) ?_
  rintro i ⟨k, hi, hk, hR⟩
  have hni : i.toNat = k := by omega
  have hni1 : (i + 1).toNat = k + 1 := by omega
  rcases Nat.lt_or_ge k (x.binds).length with hlt | hge
  · have hg := get_at Bd.d hlt
    rw [Bd.d_eq] at hg
    have hv := isValidTerm_E x.binds[k].term (Sb.tame_at hn hlt)
    cases k with
    | zero =>
      obtain rfl : i = 0 := hi
      cases hA : varB x.binds[0].var <;> cases hV : x.binds[0].term.valid <;> cases hD : dec (x.binds[0].term.name = x.binds[0].var)
      all_goals
        first
        | (have e : x.ok = false := Sb.not_ok hR (by rw [bdAt_zero hlt, bdOk, hA, hV, hD]; rfl) hlt
           rw [e]
           simp (disch := omega) only [go_sem, go_cond, zA, zB, zC, zD, zE, zF, zG, zH, ↓reduceIte, zI, reduceCtorEq, zJ, zK, hni, hg, hv, hA, hV, hD, m_impl_IsValidTerm, m_impl_isVariable, isVariable_E]
           done)
        | (simp (disch := omega) only [go_sem, go_cond, zA, zB, zC, zD, zE, zF, zG, zH, ↓reduceIte, zI, reduceCtorEq, zJ, zK, hni, hg, hv, hA, hV, hD, m_impl_IsValidTerm, m_impl_isVariable, isVariable_E]
           exact ⟨1, ⟨1, rfl, hlt, by rw [bdTo, hR, bdAt_zero hlt, bdOk, hA, hV, hD]; rfl⟩, by omega, by first | trivial | rfl⟩)
    | succ j =>
      have hj : j < x.binds.length := by omega
      have hg2 := get_at Bd.d hj
      rw [Bd.d_eq] at hg2
      have hni2 : (i - 1).toNat = j := by omega
      have hLe := strLe_eq x.binds[j + 1].var x.binds[j].var
      cases hS : strLt x.binds[j].var x.binds[j + 1].var <;> cases hA : varB x.binds[j + 1].var <;> cases hV : x.binds[j + 1].term.valid <;> cases hD : dec (x.binds[j + 1].term.name = x.binds[j + 1].var)
      all_goals
        first
        | (have e : x.ok = false := Sb.not_ok hR (by rw [bdAt_succ hlt, bdOk, hA, hV, hD, hS]; rfl) hlt
           rw [e]
           simp (disch := omega) only [go_sem, go_cond, zA, zB, zC, zD, zE, zF, zG, zH, ↓reduceIte, zI, reduceCtorEq, zJ, zK, hni, hg, hv, hA, hV, hD, m_impl_IsValidTerm, m_impl_isVariable, isVariable_E, hS, hni2, hg2, hLe]
           done)
        | (simp (disch := omega) only [go_sem, go_cond, zA, zB, zC, zD, zE, zF, zG, zH, ↓reduceIte, zI, reduceCtorEq, zJ, zK, hni, hg, hv, hA, hV, hD, m_impl_IsValidTerm, m_impl_isVariable, isVariable_E, hS, hni2, hg2, hLe]
           exact ⟨i + 1, ⟨j + 1 + 1, by omega, hlt, by rw [bdTo, hR, bdAt_succ hlt, bdOk, hA, hV, hD, hS]; rfl⟩, by omega, by first | trivial | rfl⟩)
  · obtain rfl : k = x.binds.length := by omega
    simp (disch := omega) only [go_sem, go_cond, zA, zB, zC, zD, zE, zF, zG, zH, ↓reduceIte, zI, reduceCtorEq, zJ, zK, hni]
    unfold Sb.ok
    rw [hR, Bool.and_true, dec_of]
    exact decide_eq_decide.2 (by omega)
set_option maxHeartbeats 4000000 in
theorem l4Good_E (x : Sb) (hn : x.tame) : E 17 [x.sv] [] = some (.bool x.ok, []) := by
  have hl := hn.1
  refine E_walk k_spec_l4Good m_spec_l4Good (of_decide_eq_true rfl) ?_
  simp (disch := omega) only [c_spec_l4Good, go_sem, go_cond, zA, zB, zC, zD, zE, zF, zG, zH, ↓reduceIte, zI, reduceCtorEq, zJ, zK]
  refine go_loop (α := Int) (fun a => ⟨slots 55 0 [(1, .ptr 0 0), (3, .int .i64 a)], [.box 37 [.arr (x.binds.map Bd.d)]]⟩) (fun a => ∃ k : Nat, a = k ∧ k ≤ (x.binds).length ∧ bdTo x.binds k = true) (fun a => (x.binds).length - (a).toNat) 0 ⟨0, rfl, Nat.zero_le _, by rw [bdTo]⟩ (by simp (disch := omega) only [go_sem, go_cond, zA, zB, zC, zD, zE, zF, zG, zH, ↓reduceIte, zI, reduceCtorEq, zJ, zK]) ?_
  rintro i ⟨k, hi, hk, hR⟩
  have hni : i.toNat = k := by omega
  have hni1 : (i + 1).toNat = k + 1 := by omega
  rcases Nat.lt_or_ge k (x.binds).length with hlt | hge
  · have hg := get_at Bd.d hlt
    rw [Bd.d_eq] at hg
    have hv := l2Good_E x.binds[k].term (Sb.tame_at hn hlt)
    cases k with
    | zero =>
      obtain rfl : i = 0 := hi
      cases hA : varB x.binds[0].var <;> cases hV : x.binds[0].term.valid <;> cases hD : dec (x.binds[0].term.name = x.binds[0].var)
      all_goals
        first
        | (have e : x.ok = false := Sb.not_ok hR (by rw [bdAt_zero hlt, bdOk, hA, hV, hD]; rfl) hlt
           rw [e]
           simp (disch := omega) only [go_sem, go_cond, zA, zB, zC, zD, zE, zF, zG, zH, ↓reduceIte, zI, reduceCtorEq, zJ, zK, hni, hg, hv, hA, hV, hD, m_spec_l2Good, m_spec_l2Var, l2Var_E]
           done)
        | (simp (disch := omega) only [go_sem, go_cond, zA, zB, zC, zD, zE, zF, zG, zH, ↓reduceIte, zI, reduceCtorEq, zJ, zK, hni, hg, hv, hA, hV, hD, m_spec_l2Good, m_spec_l2Var, l2Var_E]
           exact ⟨1, ⟨1, rfl, hlt, by rw [bdTo, hR, bdAt_zero hlt, bdOk, hA, hV, hD]; rfl⟩, by omega, by first | trivial | rfl⟩)
    | succ j =>
      have hj : j < x.binds.length := by omega
      have hg2 := get_at Bd.d hj
      rw [Bd.d_eq] at hg2
      have hni2 : (i - 1).toNat = j := by omega
      have hLe := strLe_eq x.binds[j + 1].var x.binds[j].var
      cases hS : strLt x.binds[j].var x.binds[j + 1].var <;> cases hA : varB x.binds[j + 1].var <;> cases hV : x.binds[j + 1].term.valid <;> cases hD : dec (x.binds[j + 1].term.name = x.binds[j + 1].var)
      all_goals
        first
        | (have e : x.ok = false := Sb.not_ok hR (by rw [bdAt_succ hlt, bdOk, hA, hV, hD, hS]; rfl) hlt
           rw [e]
           simp (disch := omega) only [go_sem, go_cond, zA, zB, zC, zD, zE, zF, zG, zH, ↓reduceIte, zI, reduceCtorEq, zJ, zK, hni, hg, hv, hA, hV, hD, m_spec_l2Good, m_spec_l2Var, l2Var_E, hS, hni2, hg2, hLe]
           done)
        | (simp (disch := omega) only [go_sem, go_cond, zA, zB, zC, zD, zE, zF, zG, zH, ↓reduceIte, zI, reduceCtorEq, zJ, zK, hni, hg, hv, hA, hV, hD, m_spec_l2Good, m_spec_l2Var, l2Var_E, hS, hni2, hg2, hLe]
           exact ⟨i + 1, ⟨j + 1 + 1, by omega, hlt, by rw [bdTo, hR, bdAt_succ hlt, bdOk, hA, hV, hD, hS]; rfl⟩, by omega, by first | trivial | rfl⟩)
  · obtain rfl : k = x.binds.length := by omega
    simp (disch := omega) only [go_sem, go_cond, zA, zB, zC, zD, zE, zF, zG, zH, ↓reduceIte, zI, reduceCtorEq, zJ, zK, hni]
    unfold Sb.ok
    rw [hR, Bool.and_true, dec_of]
    exact decide_eq_decide.2 (by omega)
set_option maxHeartbeats 2000000 in
theorem l4Find_E (x : Sb) (n : ByteArray) (hl : x.binds.length ≤ 1099511627776) : E 59 [x.sv, .str n] [] = some (.int .i64 (idxP (fun b => dec (b.var = n)) x.binds 0), []) := by
  refine E_walk k_spec_l4Find m_spec_l4Find (of_decide_eq_true rfl) ?_
  simp (disch := omega) only [c_spec_l4Find, go_sem, go_cond, zA, zB, zC, zD, zE, zF, zG, zH, ↓reduceIte, zI, reduceCtorEq, zJ, zK]
  refine go_loop (α := Int) (fun a => ⟨slots 22 0 [(1, .str n), (2, .ptr 0 0), (5, .int .i64 a)], [.box 37 [.arr (x.binds.map Bd.d)]]⟩) (fun a => ∃ k : Nat, a = k ∧ k ≤ (x.binds).length ∧ idxP (fun b => dec (b.var = n)) (x.binds.drop k) a = idxP (fun b => dec (b.var = n)) x.binds 0) (fun a => (x.binds).length - (a).toNat) 0 ⟨0, rfl, Nat.zero_le _, by rw [List.drop_zero]⟩ (by simp (disch := omega) only [go_sem, go_cond, zA, zB, zC, zD, zE, zF, zG, zH, ↓reduceIte, zI, reduceCtorEq, zJ, zK]) ?_
  rintro i ⟨k, hi, hk, hR⟩
  have hni : i.toNat = k := by omega
  have hni1 : (i + 1).toNat = k + 1 := by omega
  rcases Nat.lt_or_ge k (x.binds).length with hlt | hge
  · have hg := get_at Bd.d hlt
    rw [Bd.d_eq] at hg
    rw [List.drop_eq_getElem_cons hlt, idxP] at hR
    cases hp : dec (x.binds[k].var = n) with
    | true =>
      rw [hp] at hR
      simp (disch := omega) only [go_sem, go_cond, zA, zB, zC, zD, zE, zF, zG, zH, ↓reduceIte, zI, reduceCtorEq, zJ, zK, hni, hg, hp]
      simpa using hR
    | false =>
      rw [hp] at hR
      simp (disch := omega) only [go_sem, go_cond, zA, zB, zC, zD, zE, zF, zG, zH, ↓reduceIte, zI, reduceCtorEq, zJ, zK, hni, hg, hp]
      exact ⟨i + 1, ⟨k + 1, by omega, hlt, by simpa using hR⟩, by omega, by first | trivial | rfl⟩
  · rw [List.drop_eq_nil_of_le hge, idxP] at hR
    simp (disch := omega) only [go_sem, go_cond, zA, zB, zC, zD, zE, zF, zG, zH, ↓reduceIte, zI, reduceCtorEq, zJ, zK, hni]
    exact hR
def bdUp (xs : List Bd) : Prop := ∀ j k (h : j < k) (hk : k < xs.length), strLt xs[j].var xs[k].var = true
theorem bdTo_up {xs : List Bd} (h : bdTo xs xs.length = true) : bdUp xs := by
  intro j k hjk hk
  induction k with
  | zero => omega
  | succ k ih =>
    have h1 := bdTo_at h hk
    rw [bdAt_succ hk, Bool.and_eq_true] at h1
    rcases Nat.lt_or_ge j k with h2 | h2
    · exact strLt_trans (ih h2 (by omega)) h1.2
    · obtain rfl : j = k := by omega
      exact h1.2
theorem Sb.ok_up {x : Sb} (h : x.ok = true) : bdUp x.binds := by
  unfold Sb.ok at h
  rw [Bool.and_eq_true] at h
  exact bdTo_up h.2
def lowI : List Bd → ByteArray → Nat
  | [], _ => 0
  | x :: xs, n => if strLt x.var n then lowI xs n + 1 else 0
theorem lowI_le (n : ByteArray) : ∀ xs : List Bd, lowI xs n ≤ xs.length
  | [] => Nat.le_refl _
  | x :: xs => by
    have := lowI_le n xs
    rw [lowI]; simp only [List.length_cons]; split <;> omega
theorem lowI_before (n : ByteArray) : ∀ (xs : List Bd) (j : Nat) (h : j < xs.length), j < lowI xs n → strLt xs[j].var n = true
  | [], j, h, _ => absurd h (by simp)
  | x :: xs, j, h, hj => by
    rw [lowI] at hj
    split at hj
    · rename_i hx
      cases j with
      | zero => exact hx
      | succ j => exact lowI_before n xs j (by simpa using h) (by omega)
    · omega
theorem lowI_at (n : ByteArray) : ∀ (xs : List Bd) (h : lowI xs n < xs.length), strLt (xs[lowI xs n]).var n = false
  | [], h => absurd h (by simp)
  | x :: xs, h => by
    cases hx : strLt x.var n with
    | false =>
      have e : lowI (x :: xs) n = 0 := by rw [lowI, if_neg (by rw [hx]; simp)]
      simp only [e, List.getElem_cons_zero]; exact hx
    | true =>
      have e : lowI (x :: xs) n = lowI xs n + 1 := by rw [lowI, if_pos hx]
      have h2 : lowI xs n < xs.length := by rw [e] at h; simpa using h
      simp only [e, List.getElem_cons_succ]; exact lowI_at n xs h2
theorem lowI_iff {xs : List Bd} (hs : bdUp xs) (n : ByteArray) {m : Nat} (h : m < xs.length) : strLt xs[m].var n = true ↔ m < lowI xs n := by
  constructor
  · intro h1
    rcases Nat.lt_or_ge m (lowI xs n) with h2 | h2
    · exact h2
    · have h3 := lowI_at n xs (by omega)
      rcases Nat.lt_or_ge (lowI xs n) m with h4 | h4
      · rw [strLt_trans (hs _ _ h4 h) h1] at h3; cases h3
      · have e : lowI xs n = m := by omega
        simp only [e] at h3
        rw [h1] at h3; cases h3
  · exact lowI_before n xs m h
noncomputable def hitB (xs : List Bd) (n : ByteArray) : Bool := match xs[lowI xs n]? with
  | none => false
  | some b => dec (b.var = n)
def c_impl_Substitution_term_1 : SC := (.seq (.reg [⟨some 2, none, .boxv 70 3 (.t 0)⟩, ⟨some 4, none, .mv (.c (.int .i64 0))⟩]) (.seq (.reg [⟨some 5, none, .faddr 0 (.t 2)⟩, ⟨some 6, none, .load false 1 (.t 5)⟩, ⟨some 7, none, .mv (.t 1)⟩, ⟨some 8, none, .call 91 [(.t 6), (.t 7)]⟩, ⟨some 4, none, .mv (.t 8)⟩]) .ret))
theorem k_impl_Substitution_term_1 : codeOf Tryz.prog 106 = some ⟨9, c_impl_Substitution_term_1, [(.tmp 4)]⟩ := by kernel_rfl
theorem m_impl_Substitution_term_1 : modes 106 = ⟨[], .asis, none, false⟩ := by unfold modes; rfl
theorem g_impl_Substitution_term_1 : goFn Tryz.prog 106 = true := by kernel_rfl
def c_slices_BinarySearchFunc_impl_Binding_impl_Binding_string : SC := (.seq (.reg [⟨some 6, none, .mv (.c (.int .i64 0))⟩, ⟨some 7, none, .mv (.c (.bool false))⟩]) (.seq (.reg [⟨some 12, none, .mv (.t 0)⟩, ⟨some 13, none, .len false (.t 12)⟩, ⟨some 8, none, .mv (.t 13)⟩]) (.seq (.reg [⟨some 14, none, .mv (.t 8)⟩, ⟨some 9, none, .mv (.c (.int .i64 0))⟩, ⟨some 10, none, .mv (.t 14)⟩]) (.seq (.block 0 (.loop [1, 1, 1, 0, 0, 0, 0, 0, 1, 1, 1, 0, 0, 0, 0, 0, 0, 0, 0, 0, 0, 0, 0, 0, 0, 0, 0, 0, 0, 0, 0, 0, 0, 0, 0, 0, 0, 0, 0, 0, 0, 0, 0, 0, 0, 0, 0, 0, 0] (.seq (.seq (.reg [⟨some 15, none, .mv (.t 9)⟩, ⟨some 16, none, .mv (.t 10)⟩, ⟨some 17, none, .bin .lss false (.t 15) (.t 16)⟩]) (.cond (.t 17) .skip (.exit 0))) (.block 1 (.seq (.reg [⟨some 18, none, .mv (.t 9)⟩, ⟨some 19, none, .mv (.t 10)⟩, ⟨some 20, none, .bin .add false (.t 18) (.t 19)⟩, ⟨some 21, none, .conv .u64 (.t 20)⟩, ⟨some 22, none, .bin .shr false (.t 21) (.c (.int .u64 1))⟩, ⟨some 23, none, .conv .i64 (.t 22)⟩, ⟨some 11, none, .mv (.t 23)⟩]) (.seq (.reg [⟨some 24, none, .mv (.t 2)⟩, ⟨some 25, none, .mv (.t 0)⟩, ⟨some 26, none, .mv (.t 11)⟩, ⟨some 27, none, .iaddr 3 (.t 25) (.t 26)⟩, ⟨some 28, none, .load true 3 (.t 27)⟩, ⟨some 29, none, .mv (.t 1)⟩, ⟨some 30, none, .callv (.t 24) [(.t 28), (.t 29)]⟩, ⟨some 31, none, .bin .lss false (.t 30) (.c (.int .i64 0))⟩]) (.cond (.t 31) (.reg [⟨some 32, none, .mv (.t 11)⟩, ⟨some 33, none, .bin .add false (.t 32) (.c (.int .i64 1))⟩, ⟨some 9, none, .mv (.t 33)⟩]) (.reg [⟨some 34, none, .mv (.t 11)⟩, ⟨some 10, none, .mv (.t 34)⟩])))))))) (.seq (.reg [⟨some 35, none, .mv (.t 9)⟩, ⟨some 36, none, .mv (.t 9)⟩, ⟨some 37, none, .mv (.t 8)⟩, ⟨some 38, none, .bin .lss false (.t 36) (.t 37)⟩, ⟨some 39, none, .mv (.t 38)⟩, ⟨(some 40), (some (39, true)), (.mv (.t 2))⟩, ⟨(some 41), (some (39, true)), (.mv (.t 0))⟩, ⟨(some 42), (some (39, true)), (.mv (.t 9))⟩, ⟨(some 43), (some (39, true)), (.iaddr 3 (.t 41) (.t 42))⟩, ⟨(some 44), (some (39, true)), (.load true 3 (.t 43))⟩, ⟨(some 45), (some (39, true)), (.mv (.t 1))⟩, ⟨(some 46), (some (39, true)), (.callv (.t 40) [(.t 44), (.t 45)])⟩, ⟨(some 47), (some (39, true)), (.bin .eql false (.t 46) (.c (.int .i64 0)))⟩, ⟨some 48, none, .pick (.t 39) (.t 47) (.c (.bool false))⟩, ⟨some 6, none, .mv (.t 35)⟩, ⟨some 7, none, .mv (.t 48)⟩]) .ret)))))
theorem k_slices_BinarySearchFunc_impl_Binding_impl_Binding_string : codeOf Tryz.prog 105 = some ⟨49, c_slices_BinarySearchFunc_impl_Binding_impl_Binding_string, [(.tmp 6), (.tmp 7)]⟩ := by kernel_rfl
theorem m_slices_BinarySearchFunc_impl_Binding_impl_Binding_string : modes 105 = ⟨[], .asis, none, false⟩ := by unfold modes; rfl
def c_impl_Substitution_term : SC := (.seq (.reg [⟨some 2, none, .boxv 37 1 (.t 0)⟩, ⟨(some 4), none, (.alloc 68 [(.str ⟨#[]⟩), .nil])⟩, ⟨some 5, none, .mv (.c (.bool false))⟩]) (.seq (.reg [⟨some 9, none, .faddr 0 (.t 2)⟩, ⟨some 10, none, .load false 1 (.t 9)⟩, ⟨some 11, none, .mv (.t 1)⟩, ⟨some 12, none, .call 105 [(.t 10), (.t 11), (.c (.fn 106 []))]⟩, ⟨some 8, none, .mv (.t 12)⟩, ⟨some 13, none, .ext (.t 8) 0⟩, ⟨some 14, none, .ext (.t 8) 1⟩, ⟨some 6, none, .mv (.t 13)⟩, ⟨some 7, none, .mv (.t 14)⟩]) (.seq (.seq (.reg [⟨some 15, none, .mv (.t 7)⟩, ⟨some 16, none, .un .not (.t 15)⟩]) (.cond (.t 16) (.seq (.reg [⟨(some 17), none, (.build [(.str ⟨#[]⟩), .nil] [])⟩, ⟨none, none, (.store 2 (.t 4) (.t 17))⟩, ⟨some 5, none, .mv (.c (.bool false))⟩]) .ret) .skip)) (.seq (.reg [⟨some 18, none, .faddr 0 (.t 2)⟩, ⟨some 19, none, .load false 1 (.t 18)⟩, ⟨some 20, none, .mv (.t 6)⟩, ⟨some 21, none, .iaddr 3 (.t 19) (.t 20)⟩, ⟨some 22, none, .faddr 1 (.t 21)⟩, ⟨some 23, none, .load true 2 (.t 22)⟩, ⟨none, none, (.store 2 (.t 4) (.t 23))⟩, ⟨some 5, none, .mv (.c (.bool true))⟩]) .ret))))
theorem k_impl_Substitution_term : codeOf Tryz.prog 94 = some ⟨24, c_impl_Substitution_term, [(.cell 4 true 2), (.tmp 5)]⟩ := by kernel_rfl
theorem m_impl_Substitution_term : modes 94 = ⟨[], .frz, none, false⟩ := by unfold modes; rfl
theorem term1_E (b : Bd) (n : ByteArray) : E 106 [b.sv, .str n] [] = some (.int .i64 (cmpB b.var n), []) := by
  have h := compareS_E b.var n
  refine E_walk k_impl_Substitution_term_1 m_impl_Substitution_term_1 (of_decide_eq_true rfl) ?_
  simp (disch := omega) only [c_impl_Substitution_term_1, go_sem, go_cond, zA, zB, zC, zD, zE, zF, zG, zH, ↓reduceIte, zI, reduceCtorEq, zJ, zK, h, m_cmp_Compare_string]
set_option maxHeartbeats 2000000 in
theorem bsearch_E (xs : List Bd) (n : ByteArray) (hl : xs.length ≤ 1099511627776) (hs : bdUp xs) : E 105 [.arr (xs.map Bd.d), .str n, .fn 106 []] [] = some (.tup [.int .i64 (lowI xs n : Nat), .bool (hitB xs n)], []) := by
  have hlow := lowI_le n xs
  obtain ⟨L, hL⟩ : ∃ L : Int, L = (lowI xs n : Nat) := ⟨_, rfl⟩
  rw [← hL]
  refine E_walk k_slices_BinarySearchFunc_impl_Binding_impl_Binding_string m_slices_BinarySearchFunc_impl_Binding_impl_Binding_string (of_decide_eq_true rfl) ?_
  simp (disch := omega) only [c_slices_BinarySearchFunc_impl_Binding_impl_Binding_string, go_sem, go_cond, zA, zB, zC, zD, zE, zF, zG, zH, ↓reduceIte, zI, reduceCtorEq, zJ, zK]
  refine go_loop (α := Int × Int) (fun a => ⟨slots 49 0 [(0, .arr (xs.map Bd.d)), (1, .str n), (2, .fn 106 []), (8, .int .i64 xs.length), (9, .int .i64 a.1), (10, .int .i64 a.2)], []⟩) (fun a => 0 ≤ a.1 ∧ a.1 ≤ L ∧ L ≤ a.2 ∧ a.2 ≤ xs.length) (fun a => (a.2 - a.1).toNat) (0, xs.length) ⟨by simp, by dsimp only; omega, by dsimp only; omega, by dsimp only; omega⟩ (by simp (disch := omega) only [go_sem, go_cond, zA, zB, zC, zD, zE, zF, zG, zH, ↓reduceIte, zI, reduceCtorEq, zJ, zK]) ?_
  rintro ⟨i, j⟩ ⟨h0, h1, h2, h3⟩
  dsimp only at h0 h1 h2 h3
  rcases Int.lt_or_le i j with hij | hij
  · obtain ⟨m, hm⟩ : ∃ m : Nat, (i + j) / 2 = (m : Int) := ⟨((i + j) / 2).toNat, by omega⟩
    have hlt : m < xs.length := by omega
    have hni : (m : Int).toNat = m := Int.toNat_natCast m
    have hg := get_at Bd.d hlt
    rw [Bd.d_eq] at hg
    have hc := term1_E xs[m] n
    have hw : IntKind.u64.wrap (i + j) = i + j := wrap_u64 (by omega) (by omega)
    have hi := lowI_iff hs n hlt
    obtain ⟨M, hM⟩ : ∃ M : Int, (i + j) / 2 = M := ⟨_, rfl⟩
    have hni : M.toNat = m := by omega
    cases hq : strLt xs[m].var n with
    | true =>
      have hi2 := hi.1 hq
      simp (disch := omega) only [go_sem, go_cond, zA, zB, zC, zD, zE, zF, zG, zH, ↓reduceIte, zI, reduceCtorEq, zJ, zK, hw, hni, hg, hc, g_impl_Substitution_term_1, m_impl_Substitution_term_1, cmpB_neg, hq, hM]
      exact ⟨(M + 1, j), ⟨by dsimp only; omega, by dsimp only; omega, by dsimp only; omega, by dsimp only; omega⟩, by dsimp only; omega, by first | trivial | rfl⟩
    | false =>
      have hi2 : ¬ m < lowI xs n := by rw [← hi, hq]; simp
      simp (disch := omega) only [go_sem, go_cond, zA, zB, zC, zD, zE, zF, zG, zH, ↓reduceIte, zI, reduceCtorEq, zJ, zK, hw, hni, hg, hc, g_impl_Substitution_term_1, m_impl_Substitution_term_1, cmpB_neg, hq, hM]
      exact ⟨(i, M), ⟨by dsimp only; omega, by dsimp only; omega, by dsimp only; omega, by dsimp only; omega⟩, by dsimp only; omega, by first | trivial | rfl⟩
  · obtain rfl : i = L := by omega
    rcases Nat.lt_or_ge (lowI xs n) xs.length with hlt | hge
    · have hg := get_at Bd.d hlt
      rw [Bd.d_eq] at hg
      have hni : i.toNat = lowI xs n := by omega
      have hc := term1_E xs[lowI xs n] n
      have hh : hitB xs n = dec (xs[lowI xs n].var = n) := by unfold hitB; rw [List.getElem?_eq_getElem hlt]
      rw [hh]
      simp (disch := omega) only [go_sem, go_cond, zA, zB, zC, zD, zE, zF, zG, zH, ↓reduceIte, zI, reduceCtorEq, zJ, zK, hni, hg, hc, g_impl_Substitution_term_1, m_impl_Substitution_term_1, cmpB_zero]
    · have hh : hitB xs n = false := by unfold hitB; rw [List.getElem?_eq_none hge]
      rw [hh]
      simp (disch := omega) only [go_sem, go_cond, zA, zB, zC, zD, zE, zF, zG, zH, ↓reduceIte, zI, reduceCtorEq, zJ, zK]
theorem idxP_hit {α : Type} (p : α → Bool) : ∀ (xs : List α) (k : Nat) (i : Int) (h : k < xs.length), (∀ j (hj : j < k), p xs[j] = false) → p xs[k] = true → idxP p xs i = i + k
  | [], k, i, h, _, _ => absurd h (by simp)
  | x :: xs, 0, i, h, _, hp => by rw [idxP, if_pos (show p x = true from hp)]; simp
  | x :: xs, k + 1, i, h, hb, hp => by
    have h0 : p x = false := hb 0 (by omega)
    have := idxP_hit p xs k (i + 1) (by simpa using h) (fun j hj => hb (j + 1) (by omega)) hp
    rw [idxP, if_neg (by rw [h0]; simp), this]; omega
theorem idxP_no {α : Type} (p : α → Bool) : ∀ (xs : List α) (i : Int), (∀ j (hj : j < xs.length), p xs[j] = false) → idxP p xs i = -1
  | [], i, _ => by rw [idxP]
  | x :: xs, i, h => by
    have h0 : p x = false := h 0 (by simp)
    rw [idxP, if_neg (by rw [h0]; simp)]
    exact idxP_no p xs (i + 1) fun j hj => h (j + 1) (by simpa using hj)
theorem idxP_low {xs : List Bd} (hs : bdUp xs) (n : ByteArray) : idxP (fun b => dec (b.var = n)) xs 0 = if hitB xs n then ((lowI xs n : Nat) : Int) else -1 := by
  have before : ∀ j (hj : j < xs.length), j < lowI xs n → dec (xs[j].var = n) = false := fun j hj hL => dec_f (strLt_ne (lowI_before n xs j hj hL))
  rcases Nat.lt_or_ge (lowI xs n) xs.length with hlt | hge
  · have hh : hitB xs n = dec (xs[lowI xs n].var = n) := by unfold hitB; rw [List.getElem?_eq_getElem hlt]
    cases hq : dec (xs[lowI xs n].var = n) with
    | true =>
      rw [hh, hq, if_pos rfl, idxP_hit _ xs (lowI xs n) 0 hlt (fun j hj => before j (by omega) hj) hq]; omega
    | false =>
      rw [hh, hq, if_neg (by simp)]
      refine idxP_no _ xs 0 fun j hj => ?_
      rcases Nat.lt_trichotomy j (lowI xs n) with h | h | h
      · exact before j hj h
      · subst h; exact hq
      · refine dec_f fun e => ?_
        have h1 := hs _ _ h hj
        rw [e, lowI_at n xs hlt] at h1
        cases h1
  · have hh : hitB xs n = false := by unfold hitB; rw [List.getElem?_eq_none hge]
    rw [hh, if_neg (by simp)]
    exact idxP_no _ xs 0 fun j hj => before j hj (by omega)
theorem hitB_lt {xs : List Bd} {n : ByteArray} (h : hitB xs n = true) : lowI xs n < xs.length := by
  rcases Nat.lt_or_ge (lowI xs n) xs.length with h1 | h1
  · exact h1
  · unfold hitB at h; rw [List.getElem?_eq_none h1] at h; cases h
noncomputable def Sb.look (x : Sb) (n : ByteArray) : Option Tm := if h : hitB x.binds n = true then some (x.binds[lowI x.binds n]'(hitB_lt h)).term else none
theorem term_F_yes (x : Sb) (hx : bdUp x.binds) (n : ByteArray) (hl : x.binds.length ≤ 1099511627776) (hh : hitB x.binds n = true) (hlt : lowI x.binds n < x.binds.length) : E 94 [x.sv, .str n] [] = some (.tup [(x.binds[lowI x.binds n]).term.sv, .bool true], []) := by
  have hb := bsearch_E x.binds n hl hx
  have hg := get_at Bd.d hlt
  rw [Bd.d_eq] at hg
  have hni : ((lowI x.binds n : Nat) : Int).toNat = lowI x.binds n := Int.toNat_natCast _
  refine E_walk k_impl_Substitution_term m_impl_Substitution_term (of_decide_eq_true rfl) ?_
  simp (disch := omega) only [c_impl_Substitution_term, go_sem, go_cond, zA, zB, zC, zD, zE, zF, zG, zH, ↓reduceIte, zI, reduceCtorEq, zJ, zK, hb, hni, hg, hh, m_slices_BinarySearchFunc_impl_Binding_impl_Binding_string]
theorem term_F_no (x : Sb) (hx : bdUp x.binds) (n : ByteArray) (hl : x.binds.length ≤ 1099511627776) (hh : hitB x.binds n = false) : E 94 [x.sv, .str n] [] = some (.tup [.agg [.str ⟨#[]⟩, .arr []], .bool false], []) := by
  have hb := bsearch_E x.binds n hl hx
  refine E_walk k_impl_Substitution_term m_impl_Substitution_term (of_decide_eq_true rfl) ?_
  simp (disch := omega) only [c_impl_Substitution_term, go_sem, go_cond, zA, zB, zC, zD, zE, zF, zG, zH, ↓reduceIte, zI, reduceCtorEq, zJ, zK, hb, hh, m_slices_BinarySearchFunc_impl_Binding_impl_Binding_string]
mutual
noncomputable def Tm.ap (f : ByteArray → Option Tm) : Tm → Tm
  | .mk name args => if varB name then (f name).getD (.mk name []) else .mk name (Tm.apL f args)
noncomputable def Tm.apL (f : ByteArray → Option Tm) : List Tm → List Tm
  | [] => []
  | x :: xs => Tm.ap f x :: Tm.apL f xs
end
theorem Tm.ap_eq (f : ByteArray → Option Tm) (x : Tm) : x.ap f = if varB x.name then (f x.name).getD (.mk x.name []) else .mk x.name (Tm.apL f x.args) := by
  obtain ⟨name, args⟩ := x
  rw [Tm.ap]; rfl
theorem Tm.apL_len (f : ByteArray → Option Tm) : ∀ xs : List Tm, (Tm.apL f xs).length = xs.length
  | [] => by rw [Tm.apL]
  | x :: xs => by rw [Tm.apL]; simp only [List.length_cons, Tm.apL_len f xs]
theorem Tm.apL_map (f : ByteArray → Option Tm) : ∀ xs : List Tm, Tm.apL f xs = xs.map (Tm.ap f)
  | [] => by rw [Tm.apL]; rfl
  | x :: xs => by rw [Tm.apL, Tm.apL_map f xs]; rfl
def okF (f : ByteArray → Option Tm) : Prop := ∀ n t, f n = some t → t.names = true ∧ t.nodes ≤ 30
theorem Tm.ap_nameS (f : ByteArray → Option Tm) : ∀ xs : List Tm, (∀ y ∈ xs, (y.ap f).names = true) → Tm.nameS (Tm.apL f xs) = true
  | [], _ => by rw [Tm.apL, Tm.nameS]
  | x :: xs, h => by rw [Tm.apL, Tm.nameS, h x (by simp), Tm.ap_nameS f xs fun y hy => h y (by simp [hy])]; rfl
theorem Tm.ap_names {f : ByteArray → Option Tm} (hf : okF f) (x : Tm) (hx : x.names = true) : (x.ap f).names = true := by
  rw [Tm.ap_eq]
  rw [Tm.names_eq] at hx
  split
  · rename_i hv
    cases hq : f x.name with
    | none =>
      rw [Option.getD_none, Tm.names_eq]
      show (if varB x.name then _ else _) = true
      rw [if_pos hv]; rfl
    | some t => exact (hf _ _ hq).1
  · rename_i hv
    rw [if_neg hv, Bool.and_eq_true, Bool.and_eq_true] at hx
    rw [Tm.names_eq]
    show (if varB x.name then _ else symB x.name && decide ((Tm.apL f x.args).length ≤ 4) && Tm.nameS (Tm.apL f x.args)) = true
    rw [if_neg hv, Tm.apL_len, hx.1.1, hx.1.2, Tm.ap_nameS f x.args fun y hy => Tm.ap_names hf y (by
      have := hx.2
      rw [Tm.nameS_all, List.all_eq_true] at this
      exact this y hy)]
    rfl
termination_by SizeOf.sizeOf x
decreasing_by exact Tm.lt_of_mem hy
theorem Tm.ap_nodeS {f : ByteArray → Option Tm} : ∀ xs : List Tm, (∀ y ∈ xs, (y.ap f).nodes ≤ 30 * y.nodes) → Tm.nodeS (Tm.apL f xs) ≤ 30 * Tm.nodeS xs
  | [], _ => by rw [Tm.apL, Tm.nodeS]; omega
  | x :: xs, h => by
    have h1 := h x (by simp)
    have h2 := Tm.ap_nodeS xs fun y hy => h y (by simp [hy])
    rw [Tm.apL, Tm.nodeS, Tm.nodeS]; omega
theorem Tm.ap_nodes {f : ByteArray → Option Tm} (hf : okF f) (x : Tm) : (x.ap f).nodes ≤ 30 * x.nodes := by
  have hp := Tm.nodes_pos x
  rw [Tm.ap_eq]
  split
  · cases hq : f x.name with
    | none =>
      have : (Tm.mk x.name []).nodes = 1 + Tm.nodeS [] := Tm.nodes_eq (Tm.mk x.name [])
      rw [Tm.nodeS] at this
      rw [Option.getD_none]; omega
    | some t => have := (hf _ _ hq).2; rw [Option.getD_some]; omega
  · have h1 : (Tm.mk x.name (Tm.apL f x.args)).nodes = 1 + Tm.nodeS (Tm.apL f x.args) := Tm.nodes_eq (Tm.mk x.name (Tm.apL f x.args))
    have h2 := Tm.ap_nodeS (f := f) x.args fun y hy => Tm.ap_nodes hf y
    have h3 := Tm.nodes_eq x
    omega
termination_by SizeOf.sizeOf x
decreasing_by exact Tm.lt_of_mem hy
theorem Tm.names_var {x : Tm} (h : x.names = true) (hv : varB x.name = true) : x.args = [] := by
  rw [Tm.names_eq, if_pos hv] at h
  exact List.eq_nil_of_length_eq_zero (by simpa using h)
theorem Tm.names_arg {x : Tm} (h : x.names = true) {y : Tm} (hy : y ∈ x.args) : y.names = true := by
  rw [Tm.names_eq] at h
  split at h
  · have : x.args = [] := List.eq_nil_of_length_eq_zero (by simpa using h)
    rw [this] at hy; cases hy
  · rw [Bool.and_eq_true, Tm.nameS_all, List.all_eq_true] at h
    exact h.2 y hy
theorem Sb.ok_at {x : Sb} (h : x.ok = true) {k : Nat} (hk : k < x.binds.length) : bdOk x.binds[k] = true := by
  unfold Sb.ok at h
  rw [Bool.and_eq_true] at h
  exact bdAt_ok hk (bdTo_at h.2 hk)
theorem bdOk_var {x : Bd} (h : bdOk x = true) : varB x.var = true := by unfold bdOk at h; rw [Bool.and_eq_true] at h; exact h.1
theorem bdOk_valid {x : Bd} (h : bdOk x = true) : x.term.valid = true := by unfold bdOk at h; rw [Bool.and_eq_true, Bool.and_eq_true] at h; exact h.2.1
theorem hitB_eq {xs : List Bd} {n : ByteArray} (h : hitB xs n = true) (hlt : lowI xs n < xs.length) : (xs[lowI xs n]).var = n := by
  have hh : hitB xs n = dec (xs[lowI xs n].var = n) := by unfold hitB; rw [List.getElem?_eq_getElem hlt]
  rw [hh] at h
  exact dec_iff.1 h
theorem Sb.look_okF {x : Sb} (h : x.ok = true) : okF x.look := by
  intro n t ht
  unfold Sb.look at ht
  split at ht
  · rename_i hh
    have hv := bdOk_valid (Sb.ok_at h (hitB_lt hh))
    obtain rfl := Option.some.inj ht
    unfold Tm.valid Tm.small at hv
    rw [Bool.and_eq_true, Bool.and_eq_true, decide_eq_true_eq] at hv
    exact ⟨hv.2, hv.1.1⟩
  · cases ht
theorem Sb.look_yes {x : Sb} {n : ByteArray} (h : hitB x.binds n = true) (hlt : lowI x.binds n < x.binds.length) : x.look n = some (x.binds[lowI x.binds n]).term := by
  unfold Sb.look; rw [dif_pos h]
theorem Sb.look_no {x : Sb} {n : ByteArray} (h : hitB x.binds n = false) : x.look n = none := by
  unfold Sb.look; rw [dif_neg (by rw [h]; simp)]
def Sb.fine (s : Sb) : Prop := bdUp s.binds ∧ ∀ b ∈ s.binds, varB b.var = true
theorem Sb.ok_fine {s : Sb} (h : s.ok = true) : s.fine := ⟨Sb.ok_up h, fun b hb => by
  obtain ⟨k, hk, rfl⟩ := List.getElem_of_mem hb
  exact bdOk_var (Sb.ok_at h hk)⟩
def c_impl_Substitution_apply : SC := (.seq (.reg [⟨some 2, none, .boxv 37 1 (.t 0)⟩, ⟨some 3, none, .boxv 68 2 (.t 1)⟩, ⟨(some 4), none, (.alloc 68 [(.str ⟨#[]⟩), .nil])⟩]) (.seq (.seq (.reg [⟨some 10, none, .faddr 1 (.t 3)⟩, ⟨some 11, none, .load false 1 (.t 10)⟩, ⟨some 12, none, .len false (.t 11)⟩, ⟨some 13, none, .bin .eql false (.t 12) (.c (.int .i64 0))⟩]) (.cond (.t 13) (.seq (.seq (.reg [⟨some 15, none, .load true 1 (.t 2)⟩, ⟨some 16, none, .faddr 0 (.t 3)⟩, ⟨some 17, none, .load false 1 (.t 16)⟩, ⟨some 18, none, .call 94 [(.t 15), (.t 17)]⟩, ⟨some 14, none, .mv (.t 18)⟩, ⟨some 19, none, .ext (.t 14) 0⟩, ⟨some 20, none, .ext (.t 14) 1⟩, ⟨(some 5), none, (.alloc 68 [(.str ⟨#[]⟩), .nil])⟩, ⟨none, none, (.store 2 (.t 5) (.t 19))⟩, ⟨some 6, none, .mv (.t 20)⟩]) (.seq (.reg [⟨some 21, none, .mv (.t 6)⟩]) (.cond (.t 21) (.seq (.reg [⟨some 22, none, .load true 2 (.t 5)⟩, ⟨some 23, none, .call 95 [(.t 22)]⟩, ⟨none, none, (.store 2 (.t 4) (.t 23))⟩]) .ret) .skip))) (.seq (.reg [⟨some 24, none, .faddr 0 (.t 3)⟩, ⟨some 25, none, .load false 1 (.t 24)⟩, ⟨(some 26), none, (.build [(.str ⟨#[]⟩), .nil] [(0, (1, (.t 25)))])⟩, ⟨none, none, (.store 2 (.t 4) (.t 26))⟩]) .ret)) .skip)) (.seq (.dreg [[], [0], [], [2], [3, 2], [4, 3, 2], [1, 0, 5, 4, 3, 2], [], [7, 6, 1, 0, 5, 4, 3, 2]] [⟨some 27, none, .faddr 0 (.t 3)⟩, ⟨some 28, none, .load false 1 (.t 27)⟩, ⟨some 29, none, .faddr 1 (.t 3)⟩, ⟨some 30, none, .load false 1 (.t 29)⟩, ⟨some 31, none, .len false (.t 30)⟩, ⟨(some 32), none, (.mkslice 68 2 40 [(.str ⟨#[]⟩), .nil] (.t 31))⟩, ⟨(some 33), none, (.build [(.str ⟨#[]⟩), .nil] [(0, (1, (.t 28))), (1, (1, (.t 32)))])⟩, ⟨(some 7), none, (.alloc 68 [(.str ⟨#[]⟩), .nil])⟩, ⟨none, none, (.store 2 (.t 7) (.t 33))⟩]) (.seq (.seq (.reg [⟨some 34, none, .faddr 1 (.t 3)⟩, ⟨some 35, none, .load false 1 (.t 34)⟩, ⟨some 36, none, .len false (.t 35)⟩, ⟨some 37, none, .mv (.c (.int .i64 0))⟩]) (.block 0 (.loop [0, 0, 1, 0, 1, 0, 0, 1, 0, 0, 0, 0, 0, 0, 0, 0, 0, 0, 0, 0, 0, 0, 0, 0, 0, 0, 0, 0, 0, 0, 0, 0, 0, 0, 0, 1, 1, 1, 0, 0, 0, 0, 0, 0, 0, 0, 0, 0, 0, 0, 0] (.seq (.reg [⟨some 38, none, .bin .lss false (.t 37) (.t 36)⟩]) (.seq (.cond (.t 38) .skip (.exit 0)) (.seq (.block 1 (.seq (.reg [⟨some 39, none, .mv (.t 37)⟩, ⟨some 40, none, .iaddr 2 (.t 35) (.t 37)⟩, ⟨some 41, none, .load true 2 (.t 40)⟩, ⟨(some 9), none, (.alloc 68 [(.str ⟨#[]⟩), .nil])⟩, ⟨some 8, none, .mv (.t 39)⟩, ⟨none, none, (.store 2 (.t 9) (.t 41))⟩]) (.dreg [[], [0], [], [], [], [3, 4], [1, 0, 2, 3, 4, 5], [6, 1, 0, 2, 3, 4, 5]] [⟨some 42, none, .faddr 1 (.t 7)⟩, ⟨some 43, none, .load false 1 (.t 42)⟩, ⟨some 44, none, .mv (.t 8)⟩, ⟨some 45, none, .load true 1 (.t 2)⟩, ⟨some 46, none, .load true 2 (.t 9)⟩, ⟨some 47, none, .call 73 [(.t 45), (.t 46)]⟩, ⟨some 48, none, .iaddr 2 (.t 43) (.t 44)⟩, ⟨none, none, (.store 2 (.t 48) (.t 47))⟩]))) (.reg [⟨some 49, none, .bin .add false (.t 37) (.c (.int .i64 1))⟩, ⟨some 37, none, .mv (.t 49)⟩]))))))) (.seq (.reg [⟨some 50, none, .load true 2 (.t 7)⟩, ⟨none, none, (.store 2 (.t 4) (.t 50))⟩]) .ret)))))
theorem k_impl_Substitution_apply : codeOf Tryz.prog 73 = some ⟨51, c_impl_Substitution_apply, [(.cell 4 true 2)]⟩ := by kernel_rfl
theorem m_impl_Substitution_apply : modes 73 = ⟨[], .own [none, some (68, 2)], none, false⟩ := by unfold modes; rfl
def c_spec_l4Apply : SC := (.seq (.reg [⟨some 2, none, .boxv 37 1 (.t 0)⟩, ⟨some 3, none, .boxv 68 2 (.t 1)⟩, ⟨(some 4), none, (.alloc 68 [(.str ⟨#[]⟩), .nil])⟩]) (.seq (.seq (.reg [⟨some 8, none, .faddr 0 (.t 3)⟩, ⟨some 9, none, .load false 1 (.t 8)⟩, ⟨some 10, none, .call 32 [(.t 9)]⟩]) (.cond (.t 10) (.seq (.seq (.reg [⟨some 11, none, .load true 1 (.t 2)⟩, ⟨some 12, none, .faddr 0 (.t 3)⟩, ⟨some 13, none, .load false 1 (.t 12)⟩, ⟨some 14, none, .call 59 [(.t 11), (.t 13)]⟩, ⟨some 5, none, .mv (.t 14)⟩]) (.seq (.reg [⟨some 15, none, .mv (.t 5)⟩, ⟨some 16, none, .bin .geq false (.t 15) (.c (.int .i64 0))⟩]) (.cond (.t 16) (.seq (.reg [⟨some 17, none, .faddr 0 (.t 2)⟩, ⟨some 18, none, .load false 1 (.t 17)⟩, ⟨some 19, none, .mv (.t 5)⟩, ⟨some 20, none, .iaddr 3 (.t 18) (.t 19)⟩, ⟨some 21, none, .faddr 1 (.t 20)⟩, ⟨some 22, none, .load true 2 (.t 21)⟩, ⟨some 23, none, .call 60 [(.t 22)]⟩, ⟨none, none, (.store 2 (.t 4) (.t 23))⟩]) .ret) .skip))) (.seq (.reg [⟨some 24, none, .faddr 0 (.t 3)⟩, ⟨some 25, none, .load false 1 (.t 24)⟩, ⟨(some 26), none, (.build [(.str ⟨#[]⟩), .nil] [(0, (1, (.t 25)))])⟩, ⟨none, none, (.store 2 (.t 4) (.t 26))⟩]) .ret)) .skip)) (.seq (.reg [⟨some 27, none, .faddr 0 (.t 3)⟩, ⟨some 28, none, .load false 1 (.t 27)⟩, ⟨(some 29), none, (.build [(.str ⟨#[]⟩), .nil] [(0, (1, (.t 28)))])⟩, ⟨(some 6), none, (.alloc 68 [(.str ⟨#[]⟩), .nil])⟩, ⟨none, none, (.store 2 (.t 6) (.t 29))⟩]) (.seq (.seq (.reg [⟨some 7, none, .mv (.c (.int .i64 0))⟩]) (.block 0 (.loop [0, 0, 1, 1, 1, 0, 1, 1, 0, 0, 0, 0, 0, 0, 0, 0, 0, 0, 0, 0, 0, 0, 0, 0, 0, 0, 0, 0, 0, 0, 0, 0, 0, 0, 0, 0, 0, 0, 0, 0, 0, 0, 0, 0, 0, 0, 0, 0, 0, 0] (.seq (.seq (.reg [⟨some 30, none, .mv (.t 7)⟩, ⟨some 31, none, .faddr 1 (.t 3)⟩, ⟨some 32, none, .load false 1 (.t 31)⟩, ⟨some 33, none, .len false (.t 32)⟩, ⟨some 34, none, .bin .lss false (.t 30) (.t 33)⟩]) (.cond (.t 34) .skip (.exit 0))) (.seq (.block 1 (.dreg [[], [0], [], [], [3], [], [4, 3, 5], [6, 4, 3, 5], [2, 7, 6, 4, 3, 5], [8, 2, 7, 6, 4, 3, 5], [1, 0, 9, 8, 2, 7, 6, 4, 3, 5], [0, 1, 2, 3, 4, 5, 6, 7, 8, 9, 10], [11, 0, 1, 2, 3, 4, 5, 6, 7, 8, 9, 10]] [⟨some 37, none, .faddr 1 (.t 6)⟩, ⟨some 38, none, .load false 1 (.t 37)⟩, ⟨some 39, none, .load true 1 (.t 2)⟩, ⟨some 40, none, .faddr 1 (.t 3)⟩, ⟨some 41, none, .load false 1 (.t 40)⟩, ⟨some 42, none, .mv (.t 7)⟩, ⟨some 43, none, .iaddr 2 (.t 41) (.t 42)⟩, ⟨some 44, none, .load true 2 (.t 43)⟩, ⟨some 45, none, .call 36 [(.t 39), (.t 44)]⟩, ⟨(some 46), none, (.mkrow 68 2 [(.str ⟨#[]⟩), .nil] 1 [(0, (.t 45))])⟩, ⟨(some 47), none, (.append 68 2 40 [(.str ⟨#[]⟩), .nil] (.t 38) (.t 46))⟩, ⟨some 48, none, .faddr 1 (.t 6)⟩, ⟨none, none, (.store 1 (.t 48) (.t 47))⟩])) (.reg [⟨some 35, none, .mv (.t 7)⟩, ⟨some 36, none, .bin .add false (.t 35) (.c (.int .i64 1))⟩, ⟨some 7, none, .mv (.t 36)⟩])))))) (.seq (.reg [⟨some 49, none, .load true 2 (.t 6)⟩, ⟨none, none, (.store 2 (.t 4) (.t 49))⟩]) .ret)))))
theorem k_spec_l4Apply : codeOf Tryz.prog 36 = some ⟨50, c_spec_l4Apply, [(.cell 4 true 2)]⟩ := by kernel_rfl
theorem m_spec_l4Apply : modes 36 = ⟨[], .frz, none, false⟩ := by unfold modes; rfl
set_option maxHeartbeats 4000000 in
theorem apply_of (s : Sb) (hs : s.fine) (ht : s.tame) (x : Tm) (hx : varB x.name = true → x.args = []) (hn : x.nodes ≤ 1099511627776) (ih : ∀ y ∈ x.args, E 73 [s.sv, y.sv] [] = some ((y.ap s.look).osv, (y.ap s.look).obs)) : E 73 [s.sv, x.sv] [] = some ((x.ap s.look).osv, (x.ap s.look).obs) := by
  have hsl := ht.1
  have hl := Tm.length_le x.args
  have hne := Tm.nodes_eq x
  rcases Nat.eq_zero_or_pos x.args.length with h0 | h0
  · have hx0 : x.args = [] := List.eq_nil_of_length_eq_zero h0
    cases hh : hitB s.binds x.name with
    | true =>
      have hlt := hitB_lt hh
      have hc := term_F_yes s hs.1 x.name hsl hh hlt
      have hd := copyTerm_E (s.binds[lowI s.binds x.name]).term (Sb.tame_at ht hlt)
      have hv : varB x.name = true := by rw [← hitB_eq hh hlt]; exact hs.2 _ (List.getElem_mem hlt)
      have e : x.ap s.look = (s.binds[lowI s.binds x.name]).term := by rw [Tm.ap_eq, if_pos hv, Sb.look_yes hh hlt]; rfl
      rw [e]
      refine E_walk k_impl_Substitution_apply m_impl_Substitution_apply (of_decide_eq_true rfl) ?_
      simp (disch := omega) only [c_impl_Substitution_apply, go_sem, go_cond, zA, zB, zC, zD, zE, zF, zG, zH, ↓reduceIte, zI, reduceCtorEq, zJ, zK, hx0, hc, hd, List.map_nil, List.length_nil, m_impl_Substitution_term, m_impl_copyTerm, Tm.osv, Tm.obs]
    | false =>
      have hc := term_F_no s hs.1 x.name hsl hh
      have e : x.ap s.look = .mk x.name [] := by
        rw [Tm.ap_eq, Sb.look_no hh, hx0]
        split
        · rfl
        · rw [Tm.apL]
      rw [e]
      have e1 : (Tm.mk x.name []).osv = .agg [.str x.name, .ref 0] := rfl
      have e2 : (Tm.mk x.name []).obs = [.row 68 2 []] := rfl
      rw [e1, e2]
      refine E_walk k_impl_Substitution_apply m_impl_Substitution_apply (of_decide_eq_true rfl) ?_
      simp (disch := omega) only [c_impl_Substitution_apply, go_sem, go_cond, zA, zB, zC, zD, zE, zF, zG, zH, ↓reduceIte, zI, reduceCtorEq, zJ, zK, hx0, hc, List.map_nil, List.length_nil, m_impl_Substitution_term]
  · have hv : ¬ varB x.name = true := fun h => by rw [hx h] at h0; simp at h0
    have e : x.ap s.look = .mk x.name (x.args.map (Tm.ap s.look)) := by rw [Tm.ap_eq, if_neg hv, Tm.apL_map]
    rw [e]
    have e1 : (Tm.mk x.name (x.args.map (Tm.ap s.look))).osv = .agg [.str x.name, .ref 0] := rfl
    have e2 : (Tm.mk x.name (x.args.map (Tm.ap s.look))).obs = [.row 68 2 ((x.args.map (Tm.ap s.look)).map Tm.o)] := rfl
    rw [e1, e2]
    have hrl : List.replicate x.args.length ([.str ⟨#[]⟩, .ow []] : List OT) = fillR Tm.o [.str ⟨#[]⟩, .ow []] (x.args.map (Tm.ap s.look)) 0 := by rw [fillR_zero, List.length_map]
    refine E_walk k_impl_Substitution_apply m_impl_Substitution_apply (of_decide_eq_true rfl) ?_
    simp (disch := omega) only [c_impl_Substitution_apply, go_sem, go_cond, zA, zB, zC, zD, zE, zF, zG, zH, ↓reduceIte, zI, reduceCtorEq, zJ, zK]
    refine go_loop (α := Int) (fun a => ⟨slots 51 0 [(2, .ptr 0 0), (4, .ptr 1 0), (7, .ptr 2 0), (35, .arr (x.args.map Tm.d)), (36, .int .i64 x.args.length), (37, .int .i64 a)], [.box 37 [.arr (s.binds.map Bd.d)], .box 68 [.str ⟨#[]⟩, .nil], .box 68 [.str x.name, .ref 3], .row 68 2 (fillR Tm.o [.str ⟨#[]⟩, .ow []] (x.args.map (Tm.ap s.look)) a.toNat)]⟩) (fun a => ∃ k : Nat, a = k ∧ k ≤ (x.args).length) (fun a => (x.args).length - (a).toNat) 0 ⟨0, rfl, Nat.zero_le _⟩ (by simp (disch := omega) only [go_sem, go_cond, zA, zB, zC, zD, zE, zF, zG, zH, ↓reduceIte, zI, reduceCtorEq, zJ, zK, hrl, Int.toNat_zero]) ?_
    rintro i ⟨k, hi, hk⟩
    have hni : i.toNat = k := by omega
    have hni1 : (i + 1).toNat = k + 1 := by omega
    rcases Nat.lt_or_ge k (x.args).length with hlt | hge
    · have hg := get_at Tm.d hlt
      rw [Tm.d_eq] at hg
      have hltm : k < (x.args.map (Tm.ap s.look)).length := by rw [List.length_map]; exact hlt
      have hz := fillR_get Tm.o [.str ⟨#[]⟩, .ow []] hltm
      have hc := ih x.args[k] (List.getElem_mem hlt)
      have hse := fillR_set Tm.o [.str ⟨#[]⟩, .ow []] hltm
      rw [Tm.o_eq, List.getElem_map] at hse
      simp (disch := omega) only [go_sem, go_cond, zA, zB, zC, zD, zE, zF, zG, zH, ↓reduceIte, zI, reduceCtorEq, zJ, zK, hni, hg, hc, hz, fillR_len, List.length_map, m_impl_Substitution_apply, Tm.osv, Tm.obs]
      refine ⟨i + 1, ⟨k + 1, by omega, hlt⟩, by omega, ?_⟩
      simp (disch := omega) only [go_sem, go_cond, zA, zB, zC, zD, zE, zF, zG, zH, ↓reduceIte, zI, reduceCtorEq, zJ, zK, hni1, hse]
    · obtain rfl : k = x.args.length := by omega
      have hend : fillR Tm.o [.str ⟨#[]⟩, .ow []] (x.args.map (Tm.ap s.look)) x.args.length = (x.args.map (Tm.ap s.look)).map Tm.o := by
        have := fillR_end Tm.o [.str ⟨#[]⟩, .ow []] (xs := x.args.map (Tm.ap s.look))
        rwa [List.length_map] at this
      simp (disch := omega) only [go_sem, go_cond, zA, zB, zC, zD, zE, zF, zG, zH, ↓reduceIte, zI, reduceCtorEq, zJ, zK, hni, hend]
theorem apply_F (s : Sb) (hs : s.fine) (ht : s.tame) (x : Tm) (hx : x.names = true) (hn : x.nodes ≤ 1099511627776) : E 73 [s.sv, x.sv] [] = some ((x.ap s.look).osv, (x.ap s.look).obs) :=
  apply_of s hs ht x (Tm.names_var hx) hn fun y hy => apply_F s hs ht y (Tm.names_arg hx hy) (by have := Tm.nodes_mem hy; have := Tm.nodes_eq x; omega)
termination_by SizeOf.sizeOf x
decreasing_by exact Tm.lt_of_mem hy
theorem apply_E (s : Sb) (hs : s.ok = true) (ht : s.tame) (x : Tm) (hx : x.names = true) (hn : x.nodes ≤ 1099511627776) : E 73 [s.sv, x.sv] [] = some ((x.ap s.look).osv, (x.ap s.look).obs) := apply_F s (Sb.ok_fine hs) ht x hx hn
set_option maxHeartbeats 4000000 in
theorem l4Apply_of (s : Sb) (hs : s.fine) (ht : s.tame) (x : Tm) (hn : x.nodes ≤ 1099511627776) (ih : ∀ y ∈ x.args, E 36 [s.sv, y.sv] [] = some ((y.ap s.look).sv, [])) : E 36 [s.sv, x.sv] [] = some ((x.ap s.look).sv, []) := by
  have hsl := ht.1
  have hl := Tm.length_le x.args
  have hne := Tm.nodes_eq x
  have hf := l4Find_E s x.name hsl
  rw [idxP_low hs.1] at hf
  cases hv : varB x.name with
  | true =>
    cases hh : hitB s.binds x.name with
    | true =>
      have hlt := hitB_lt hh
      have hg := get_at Bd.d hlt
      rw [Bd.d_eq] at hg
      have hni : ((lowI s.binds x.name : Nat) : Int).toNat = lowI s.binds x.name := Int.toNat_natCast _
      have hd := l2Own_E (s.binds[lowI s.binds x.name]).term (Sb.tame_at ht hlt)
      have e : x.ap s.look = (s.binds[lowI s.binds x.name]).term := by rw [Tm.ap_eq, if_pos hv, Sb.look_yes hh hlt]; rfl
      rw [hh, if_pos rfl] at hf
      rw [e]
      refine E_walk k_spec_l4Apply m_spec_l4Apply (of_decide_eq_true rfl) ?_
      simp (disch := omega) only [c_spec_l4Apply, go_sem, go_cond, zA, zB, zC, zD, zE, zF, zG, zH, ↓reduceIte, zI, reduceCtorEq, zJ, zK, hv, hf, hg, hni, hd, m_spec_l4Find, m_spec_l2Var, l2Var_E, m_spec_l2Own]
    | false =>
      have e : x.ap s.look = .mk x.name [] := by rw [Tm.ap_eq, if_pos hv, Sb.look_no hh]; rfl
      rw [hh, if_neg (by simp)] at hf
      rw [e]
      have e1 : (Tm.mk x.name []).sv = .agg [.str x.name, .arr []] := rfl
      rw [e1]
      refine E_walk k_spec_l4Apply m_spec_l4Apply (of_decide_eq_true rfl) ?_
      simp (disch := omega) only [c_spec_l4Apply, go_sem, go_cond, zA, zB, zC, zD, zE, zF, zG, zH, ↓reduceIte, zI, reduceCtorEq, zJ, zK, hv, hf, m_spec_l4Find, m_spec_l2Var, l2Var_E]
  | false =>
    have e : x.ap s.look = .mk x.name (x.args.map (Tm.ap s.look)) := by rw [Tm.ap_eq, if_neg (by rw [hv]; simp), Tm.apL_map]
    rw [e]
    have e1 : (Tm.mk x.name (x.args.map (Tm.ap s.look))).sv = .agg [.str x.name, .arr ((x.args.map (Tm.ap s.look)).map Tm.d)] := rfl
    rw [e1]
    have h10 : ((1 : Int) = 0) = False := by simp
    have hfu := Tm.osh_full (x.args.map (Tm.ap s.look))
    have her := Tm.osh_er (x.args.map (Tm.ap s.look))
    refine E_walk k_spec_l4Apply m_spec_l4Apply (of_decide_eq_true rfl) ?_
    simp (disch := omega) only [c_spec_l4Apply, go_sem, go_cond, zA, zB, zC, zD, zE, zF, zG, zH, ↓reduceIte, zI, reduceCtorEq, zJ, zK, hv, m_spec_l4Find, m_spec_l2Var, l2Var_E]
    refine go_loop (α := Int) (fun a => ⟨slots 50 0 [(2, .ptr 0 0), (3, .ptr 1 0), (4, .ptr 2 0), (6, .ptr 3 0), (7, .int .i64 a)], (if a = 0 then [.box 37 [.arr (s.binds.map Bd.d)], .box 68 [.str x.name, .arr (x.args.map Tm.d)], .box 68 [.str ⟨#[]⟩, .nil], .box 68 [.str x.name, .nil]] else [.box 37 [.arr (s.binds.map Bd.d)], .box 68 [.str x.name, .arr (x.args.map Tm.d)], .box 68 [.str ⟨#[]⟩, .nil], .box 68 [.str x.name, .ref 4], .row 68 2 (((x.args.map (Tm.ap s.look)).take a.toNat).map Tm.osh)])⟩) (fun a => ∃ k : Nat, a = k ∧ k ≤ (x.args).length) (fun a => (x.args).length - (a).toNat) 0 ⟨0, rfl, Nat.zero_le _⟩ (by simp (disch := omega) only [go_sem, go_cond, zA, zB, zC, zD, zE, zF, zG, zH, ↓reduceIte, zI, reduceCtorEq, zJ, zK, eq_self, if_true]) ?_
    rintro i ⟨k, hi, hk⟩
    have hni : i.toNat = k := by omega
    have hni1 : (i + 1).toNat = k + 1 := by omega
    rcases Nat.lt_or_ge k (x.args).length with hlt | hge
    · have hg := get_at Tm.d hlt
      rw [Tm.d_eq] at hg
      have hltm : k < (x.args.map (Tm.ap s.look)).length := by rw [List.length_map]; exact hlt
      have hc := ih x.args[k] (List.getElem_mem hlt)
      have hse := map_snoc Tm.osh hltm
      rw [Tm.osh_eq, List.getElem_map] at hse
      rcases Nat.eq_zero_or_pos k with h0 | h0
      · subst h0
        obtain rfl : i = 0 := hi
        rw [List.take_zero, List.map_nil, List.nil_append] at hse
        simp (disch := omega) only [go_sem, go_cond, zA, zB, zC, zD, zE, zF, zG, zH, ↓reduceIte, zI, reduceCtorEq, zJ, zK, hni, hg, hc, m_spec_l4Apply, eq_self, if_true]
        refine ⟨1, ⟨1, rfl, hlt⟩, by omega, ?_⟩
        simp (disch := omega) only [go_sem, go_cond, zA, zB, zC, zD, zE, zF, zG, zH, ↓reduceIte, zI, reduceCtorEq, zJ, zK, h10, if_false, hse]
      · have hi0 : (i = 0) = False := by simp; omega
        have hi1 : (i + 1 = 0) = False := by simp; omega
        have htl : ((x.args.map (Tm.ap s.look)).take k).length = k := by rw [List.length_take]; omega
        simp (disch := omega) only [go_sem, go_cond, zA, zB, zC, zD, zE, zF, zG, zH, ↓reduceIte, zI, reduceCtorEq, zJ, zK, hni, hg, hc, m_spec_l4Apply, hi0, if_false, htl]
        refine ⟨i + 1, ⟨k + 1, by omega, hlt⟩, by omega, ?_⟩
        simp (disch := omega) only [go_sem, go_cond, zA, zB, zC, zD, zE, zF, zG, zH, ↓reduceIte, zI, reduceCtorEq, zJ, zK, hni1, hi1, if_false, hse]
    · obtain rfl : k = x.args.length := by omega
      have hta : (x.args.map (Tm.ap s.look)).take x.args.length = x.args.map (Tm.ap s.look) := by
        have := List.take_length (l := x.args.map (Tm.ap s.look))
        rwa [List.length_map] at this
      rcases Nat.eq_zero_or_pos x.args.length with h0 | h0
      · have hx : x.args = [] := List.eq_nil_of_length_eq_zero h0
        obtain rfl : i = 0 := by omega
        simp (disch := omega) only [go_sem, go_cond, zA, zB, zC, zD, zE, zF, zG, zH, ↓reduceIte, zI, reduceCtorEq, zJ, zK, hni, hx, eq_self, if_true, List.map_nil, List.length_nil]
      · have hi0 : (i = 0) = False := by simp; omega
        simp (disch := omega) only [go_sem, go_cond, zA, zB, zC, zD, zE, zF, zG, zH, ↓reduceIte, zI, reduceCtorEq, zJ, zK, hni, hi0, if_false, hta, hfu, her]
theorem l4Apply_F (s : Sb) (hs : s.fine) (ht : s.tame) (x : Tm) (hn : x.nodes ≤ 1099511627776) : E 36 [s.sv, x.sv] [] = some ((x.ap s.look).sv, []) :=
  l4Apply_of s hs ht x hn fun y hy => l4Apply_F s hs ht y (by have := Tm.nodes_mem hy; have := Tm.nodes_eq x; omega)
termination_by SizeOf.sizeOf x
decreasing_by exact Tm.lt_of_mem hy
theorem l4Apply_E (s : Sb) (hs : s.ok = true) (ht : s.tame) (x : Tm) (hn : x.nodes ≤ 1099511627776) : E 36 [s.sv, x.sv] [] = some ((x.ap s.look).sv, []) := l4Apply_F s (Sb.ok_fine hs) ht x hn
noncomputable def Tm.expr (x : Tm) : Bool := x.valid || x.atom
theorem Tm.expr_small {x : Tm} (h : x.expr = true) : x.small = true := by
  unfold Tm.expr Tm.atom Tm.valid at h
  cases hs : x.small with
  | true => rfl
  | false =>
    rw [hs] at h
    split at h <;> simp at h
theorem Tm.expr_nodes {x : Tm} (h : x.expr = true) : x.nodes ≤ 30 := by
  have := Tm.expr_small h
  unfold Tm.small at this
  rw [Bool.and_eq_true, decide_eq_true_eq] at this
  exact this.1
theorem Tm.eqn_var {x : Tm} (h : x.eqn = true) : varB x.name = false := by
  unfold Tm.eqn at h
  rw [dec_iff.1 h]
  kernel_rfl
theorem Tm.expr_names {x : Tm} (h : x.expr = true) : x.names = true ∨ (x.eqn = true ∧ Tm.nameS x.args = true) := by
  unfold Tm.expr Tm.valid at h
  cases hn : x.names with
  | true => exact .inl rfl
  | false =>
    rw [hn, Bool.and_false, Bool.false_or] at h
    unfold Tm.atom at h
    split at h
    · rename_i he
      rw [Bool.and_eq_true] at h
      exact .inr ⟨he, h.2⟩
    · unfold Tm.valid at h; rw [hn, Bool.and_false, Bool.and_false] at h; cases h
theorem Tm.expr_var {x : Tm} (h : x.expr = true) : varB x.name = true → x.args = [] := by
  intro hv
  rcases Tm.expr_names h with h1 | ⟨h1, h2⟩
  · exact Tm.names_var h1 hv
  · rw [Tm.eqn_var h1] at hv; cases hv
theorem Tm.expr_arg {x : Tm} (h : x.expr = true) {y : Tm} (hy : y ∈ x.args) : y.names = true := by
  rcases Tm.expr_names h with h1 | ⟨h1, h2⟩
  · exact Tm.names_arg h1 hy
  · rw [Tm.nameS_all, List.all_eq_true] at h2; exact h2 y hy
theorem Tm.nodeS_sumB : ∀ xs : List Tm, (∀ x ∈ xs, x.nodes ≤ 1 + x.bulk) → Tm.nodeS xs ≤ xs.length + Tm.sumB xs
  | [], _ => by simp [Tm.nodeS]
  | x :: xs, h => by
    have h1 := h x (by simp)
    have h2 := Tm.nodeS_sumB xs fun y hy => h y (by simp [hy])
    rw [Tm.nodeS, Tm.sumB]; simp only [List.length_cons]; omega
theorem Tm.nodes_bulk (x : Tm) : x.nodes ≤ 1 + x.bulk := by
  rw [Tm.nodes_eq, Tm.bulk_eq]
  have := Tm.nodeS_sumB x.args fun y hy => Tm.nodes_bulk y
  omega
termination_by SizeOf.sizeOf x
decreasing_by exact Tm.lt_of_mem hy
theorem varB_size {s : ByteArray} (h : varB s = true) : s.size ≤ 6 := by
  unfold varB inB at h
  simp at h
  omega
theorem symB_size {s : ByteArray} (h : symB s = true) : s.size ≤ 6 := by
  unfold symB inB at h
  simp at h
  omega
theorem Tm.sumB_nodes : ∀ xs : List Tm, (∀ x ∈ xs, x.bulk + 1 ≤ 8 * x.nodes) → xs.length + Tm.sumB xs ≤ 8 * Tm.nodeS xs
  | [], _ => by simp [Tm.nodeS, Tm.sumB]
  | x :: xs, h => by
    have h1 := h x (by simp)
    have h2 := Tm.sumB_nodes xs fun y hy => h y (by simp [hy])
    rw [Tm.nodeS, Tm.sumB]; simp only [List.length_cons]; omega
theorem Tm.names_bulk (x : Tm) (h : x.names = true) : x.bulk + 1 ≤ 8 * x.nodes := by
  have h1 := Tm.sumB_nodes x.args fun y hy => Tm.names_bulk y (Tm.names_arg h hy)
  have h2 : x.name.size ≤ 6 := by
    rw [Tm.names_eq] at h
    split at h
    · rename_i hv; exact varB_size hv
    · rw [Bool.and_eq_true, Bool.and_eq_true] at h; exact symB_size h.1.1
  rw [Tm.nodes_eq, Tm.bulk_eq]
  omega
termination_by SizeOf.sizeOf x
decreasing_by exact Tm.lt_of_mem hy
def c_impl_Substitution_applied : SC := (.seq (.reg [⟨some 2, none, .boxv 37 1 (.t 0)⟩, ⟨some 3, none, .boxv 68 2 (.t 1)⟩, ⟨(some 4), none, (.alloc 68 [(.str ⟨#[]⟩), .nil])⟩, ⟨some 5, none, .mv (.c (.bool false))⟩]) (.seq (.reg [⟨some 7, none, .load true 1 (.t 2)⟩, ⟨some 8, none, .load true 2 (.t 3)⟩, ⟨some 9, none, .call 73 [(.t 7), (.t 8)]⟩, ⟨(some 6), none, (.alloc 68 [(.str ⟨#[]⟩), .nil])⟩, ⟨none, none, (.store 2 (.t 6) (.t 9))⟩]) (.seq (.seq (.reg [⟨some 10, none, .load true 2 (.t 6)⟩, ⟨some 11, none, .call 66 [(.t 10)]⟩, ⟨some 12, none, .un .not (.t 11)⟩]) (.cond (.t 12) (.seq (.reg [⟨(some 13), none, (.build [(.str ⟨#[]⟩), .nil] [])⟩, ⟨none, none, (.store 2 (.t 4) (.t 13))⟩, ⟨some 5, none, .mv (.c (.bool false))⟩]) .ret) .skip)) (.seq (.reg [⟨some 14, none, .load true 2 (.t 6)⟩, ⟨none, none, (.store 2 (.t 4) (.t 14))⟩, ⟨some 5, none, .mv (.c (.bool true))⟩]) .ret))))
theorem k_impl_Substitution_applied : codeOf Tryz.prog 44 = some ⟨15, c_impl_Substitution_applied, [(.cell 4 true 2), (.tmp 5)]⟩ := by kernel_rfl
theorem m_impl_Substitution_applied : modes 44 = ⟨[], .own [none, some (68, 2), none], none, false⟩ := by unfold modes; rfl
noncomputable def apOk (s : Sb) (x : Tm) : Bool := s.ok && (x.expr && (x.ap s.look).small)
noncomputable def apTo (s : Sb) (x : Tm) : Tm := if apOk s x then x.ap s.look else .mk ⟨#[]⟩ []
theorem apTo_no {s : Sb} {x : Tm} (h : apOk s x = false) : apTo s x = .mk ⟨#[]⟩ [] := by unfold apTo; rw [if_neg (by rw [h]; simp)]
theorem apTo_yes {s : Sb} {x : Tm} (h : apOk s x = true) : apTo s x = x.ap s.look := by unfold apTo; rw [if_pos h]
theorem zero_osv : (Tm.mk ⟨#[]⟩ []).osv = .agg [.str ⟨#[]⟩, .ref 0] := rfl
theorem zero_obs : (Tm.mk ⟨#[]⟩ []).obs = [.row 68 2 []] := rfl
theorem apply_any (s : Sb) (hs : s.ok = true) (ht : s.tame) (x : Tm) (hx : x.expr = true) : E 73 [s.sv, x.sv] [] = some ((x.ap s.look).osv, (x.ap s.look).obs) := by
  have hn := Tm.expr_nodes hx
  exact apply_of s (Sb.ok_fine hs) ht x (Tm.expr_var hx) (by omega) fun y hy => apply_E s hs ht y (Tm.expr_arg hx hy) (by have := Tm.nodes_mem hy; have := Tm.nodes_eq x; omega)
theorem applied_E (s : Sb) (hs : s.ok = true) (ht : s.tame) (x : Tm) (hx : x.expr = true) : E 44 [s.sv, x.sv] [] = some (.tup [(apTo s x).osv, .bool (apOk s x)], (apTo s x).obs) := by
  have hn := Tm.expr_nodes hx
  have hk := Tm.ap_nodes (Sb.look_okF hs) x
  have h1 := apply_any s hs ht x hx
  have h2 := isSmall_E (x.ap s.look) (by omega)
  cases hq : (x.ap s.look).small with
  | true =>
    have ho : apOk s x = true := by unfold apOk; rw [hs, hx, hq]; rfl
    rw [hq] at h2
    rw [apTo_yes ho, ho]
    refine E_walk k_impl_Substitution_applied m_impl_Substitution_applied (of_decide_eq_true rfl) ?_
    simp (disch := omega) only [c_impl_Substitution_applied, go_sem, go_cond, zA, zB, zC, zD, zE, zF, zG, zH, ↓reduceIte, zI, reduceCtorEq, zJ, zK, h1, h2, Tm.osv, Tm.obs, m_impl_isSmall, m_impl_Substitution_apply]
  | false =>
    have ho : apOk s x = false := by unfold apOk; rw [hq, Bool.and_false, Bool.and_false]
    rw [hq] at h2
    rw [apTo_no ho, ho, zero_osv, zero_obs]
    refine E_walk k_impl_Substitution_applied m_impl_Substitution_applied (of_decide_eq_true rfl) ?_
    simp (disch := omega) only [c_impl_Substitution_applied, go_sem, go_cond, zA, zB, zC, zD, zE, zF, zG, zH, ↓reduceIte, zI, reduceCtorEq, zJ, zK, h1, h2, Tm.osv, Tm.obs, m_impl_isSmall, m_impl_Substitution_apply]
def c_impl_ifClause : SC := (.seq (.reg [⟨some 1, none, .boxv 32 1 (.t 0)⟩, ⟨some 2, none, .alloc 32 [.nil]⟩, ⟨some 3, none, .mv (.c (.bool false))⟩]) (.seq (.seq (.reg [⟨some 4, none, .load true 1 (.t 1)⟩, ⟨some 5, none, .call 23 [(.t 4)]⟩, ⟨some 6, none, .un .not (.t 5)⟩]) (.cond (.t 6) (.seq (.reg [⟨some 7, none, .build [.nil] []⟩, ⟨none, none, (.store 1 (.t 2) (.t 7))⟩, ⟨some 3, none, .mv (.c (.bool false))⟩]) .ret) .skip)) (.seq (.reg [⟨some 8, none, .load true 1 (.t 1)⟩, ⟨none, none, (.store 1 (.t 2) (.t 8))⟩, ⟨some 3, none, .mv (.c (.bool true))⟩]) .ret)))
theorem k_impl_ifClause : codeOf Tryz.prog 45 = some ⟨9, c_impl_ifClause, [(.cell 2 true 1), (.tmp 3)]⟩ := by kernel_rfl
theorem m_impl_ifClause : modes 45 = ⟨[true], .own [some (74, 3), none], none, false⟩ := by unfold modes; rfl
def c_impl_Substitution_applyClause : SC := (.seq (.reg [⟨some 2, none, .boxv 37 1 (.t 0)⟩, ⟨some 4, none, .alloc 32 [.nil]⟩, ⟨some 5, none, .mv (.c (.bool false))⟩]) (.seq (.reg [⟨(some 11), none, (.mkrow 74 3 [(.bool false), (.str ⟨#[]⟩), .nil] 0 [])⟩, ⟨some 6, none, .mv (.t 11)⟩]) (.seq (.seq (.reg [⟨some 12, none, .mv (.t 1)⟩, ⟨some 13, none, .len false (.t 12)⟩, ⟨some 14, none, .mv (.c (.int .i64 0))⟩]) (.block 0 (.loop [0, 0, 1, 0, 1, 0, 1, 0, 0, 0, 0, 0, 1, 1, 1, 0, 0, 0, 0, 0, 0, 0, 0, 0, 0, 0, 0, 0, 0, 0, 0, 0, 0, 0, 0, 0, 0, 0, 0, 0, 0] (.seq (.reg [⟨some 15, none, .bin .lss false (.t 14) (.t 13)⟩]) (.seq (.cond (.t 15) .skip (.exit 0)) (.seq (.block 1 (.seq (.reg [⟨some 16, none, .iaddr 3 (.t 12) (.t 14)⟩, ⟨some 17, none, .load true 3 (.t 16)⟩, ⟨(some 8), none, (.alloc 74 [(.bool false), (.str ⟨#[]⟩), .nil])⟩, ⟨none, none, (.store 3 (.t 8) (.t 17))⟩]) (.seq (.reg [⟨some 19, none, .load true 1 (.t 2)⟩, ⟨some 20, none, .faddr 1 (.t 8)⟩, ⟨some 21, none, .load true 2 (.t 20)⟩, ⟨some 22, none, .call 44 [(.t 19), (.t 21)]⟩, ⟨some 18, none, .mv (.t 22)⟩, ⟨some 23, none, .ext (.t 18) 0⟩, ⟨some 24, none, .ext (.t 18) 1⟩, ⟨(some 9), none, (.alloc 68 [(.str ⟨#[]⟩), .nil])⟩, ⟨none, none, (.store 2 (.t 9) (.t 23))⟩, ⟨some 10, none, .mv (.t 24)⟩]) (.seq (.seq (.reg [⟨some 25, none, .mv (.t 10)⟩, ⟨some 26, none, .un .not (.t 25)⟩]) (.cond (.t 26) (.seq (.reg [⟨some 27, none, .build [.nil] []⟩, ⟨none, none, (.store 1 (.t 4) (.t 27))⟩, ⟨some 5, none, .mv (.c (.bool false))⟩]) .ret) .skip)) (.reg [⟨some 28, none, .mv (.t 6)⟩, ⟨some 29, none, .faddr 0 (.t 8)⟩, ⟨some 30, none, .load false 1 (.t 29)⟩, ⟨some 31, none, .load true 2 (.t 9)⟩, ⟨(some 32), none, (.build [(.bool false), (.str ⟨#[]⟩), .nil] [(0, (1, (.t 30))), (1, (2, (.t 31)))])⟩, ⟨(some 33), none, (.mkrow 74 3 [(.bool false), (.str ⟨#[]⟩), .nil] 1 [(0, (.t 32))])⟩, ⟨(some 34), none, (.append 74 3 48 [(.bool false), (.str ⟨#[]⟩), .nil] (.t 28) (.t 33))⟩, ⟨some 6, none, .mv (.t 34)⟩]))))) (.reg [⟨some 35, none, .bin .add false (.t 14) (.c (.int .i64 1))⟩, ⟨some 14, none, .mv (.t 35)⟩]))))))) (.seq (.reg [⟨some 36, none, .mv (.t 6)⟩, ⟨some 37, none, .call 46 [(.t 36)]⟩, ⟨some 38, none, .call 45 [(.t 37)]⟩, ⟨some 39, none, .ext (.t 38) 0⟩, ⟨some 40, none, .ext (.t 38) 1⟩, ⟨none, none, (.store 1 (.t 4) (.t 39))⟩, ⟨some 5, none, .mv (.t 40)⟩]) .ret))))
theorem k_impl_Substitution_applyClause : codeOf Tryz.prog 24 = some ⟨41, c_impl_Substitution_applyClause, [(.cell 4 true 1), (.tmp 5)]⟩ := by kernel_rfl
theorem m_impl_Substitution_applyClause : modes 24 = ⟨[], .own [some (74, 3), none], none, false⟩ := by unfold modes; rfl
def c_spec_l7Apply : SC := (.seq (.reg [⟨some 2, none, .boxv 37 1 (.t 0)⟩, ⟨some 4, none, .alloc 32 [.nil]⟩, ⟨some 5, none, .mv (.c (.bool false))⟩]) (.seq (.reg [⟨(some 10), none, (.mkrow 74 3 [(.bool false), (.str ⟨#[]⟩), .nil] 0 [])⟩, ⟨some 6, none, .mv (.t 10)⟩]) (.seq (.seq (.reg [⟨some 7, none, .mv (.c (.int .i64 0))⟩]) (.block 0 (.loop [0, 1, 1, 0, 1, 0, 1, 1, 0, 0, 0, 0, 0, 0, 0, 0, 0, 0, 0, 0, 0, 0, 0, 0, 0, 0, 0, 0, 0, 0, 0, 0, 0, 0, 0, 0, 0, 0, 0, 0, 0, 0, 0, 0, 0] (.seq (.seq (.reg [⟨some 11, none, .mv (.t 7)⟩, ⟨some 12, none, .mv (.t 1)⟩, ⟨some 13, none, .len false (.t 12)⟩, ⟨some 14, none, .bin .lss false (.t 11) (.t 13)⟩]) (.cond (.t 14) .skip (.exit 0))) (.seq (.block 1 (.seq (.dreg [[], [], [], [1, 2], [3, 1, 2], [4, 3, 1, 2], [0, 5, 4, 3, 1, 2], [], [7, 6, 0, 5, 4, 3, 1, 2]] [⟨some 17, none, .load true 1 (.t 2)⟩, ⟨some 18, none, .mv (.t 1)⟩, ⟨some 19, none, .mv (.t 7)⟩, ⟨some 20, none, .iaddr 3 (.t 18) (.t 19)⟩, ⟨some 21, none, .faddr 1 (.t 20)⟩, ⟨some 22, none, .load true 2 (.t 21)⟩, ⟨some 23, none, .call 36 [(.t 17), (.t 22)]⟩, ⟨(some 8), none, (.alloc 68 [(.str ⟨#[]⟩), .nil])⟩, ⟨none, none, (.store 2 (.t 8) (.t 23))⟩]) (.seq (.seq (.reg [⟨some 24, none, .load true 2 (.t 8)⟩, ⟨some 25, none, .call 34 [(.t 24)]⟩, ⟨some 26, none, .un .not (.t 25)⟩]) (.cond (.t 26) (.seq (.reg [⟨some 27, none, .build [.nil] []⟩, ⟨none, none, (.store 1 (.t 4) (.t 27))⟩, ⟨some 5, none, .mv (.c (.bool false))⟩]) .ret) .skip)) (.dreg [[], [], [], [1, 2], [3, 1, 2], [4, 3, 1, 2], [], [5, 4, 3, 1, 2, 6], [7, 5, 4, 3, 1, 2, 6], [0, 8, 7, 5, 4, 3, 1, 2, 6], [9, 0, 8, 7, 5, 4, 3, 1, 2, 6]] [⟨some 28, none, .mv (.t 6)⟩, ⟨some 29, none, .mv (.t 1)⟩, ⟨some 30, none, .mv (.t 7)⟩, ⟨some 31, none, .iaddr 3 (.t 29) (.t 30)⟩, ⟨some 32, none, .faddr 0 (.t 31)⟩, ⟨some 33, none, .load false 1 (.t 32)⟩, ⟨some 34, none, .load true 2 (.t 8)⟩, ⟨(some 35), none, (.build [(.bool false), (.str ⟨#[]⟩), .nil] [(0, (1, (.t 33))), (1, (2, (.t 34)))])⟩, ⟨(some 36), none, (.mkrow 74 3 [(.bool false), (.str ⟨#[]⟩), .nil] 1 [(0, (.t 35))])⟩, ⟨(some 37), none, (.append 74 3 48 [(.bool false), (.str ⟨#[]⟩), .nil] (.t 28) (.t 36))⟩, ⟨some 6, none, .mv (.t 37)⟩])))) (.reg [⟨some 15, none, .mv (.t 7)⟩, ⟨some 16, none, .bin .add false (.t 15) (.c (.int .i64 1))⟩, ⟨some 7, none, .mv (.t 16)⟩])))))) (.seq (.reg [⟨some 38, none, .mv (.t 6)⟩, ⟨some 39, none, .call 37 [(.t 38)]⟩, ⟨some 9, none, .alloc 32 [.nil]⟩, ⟨none, none, (.store 1 (.t 9) (.t 39))⟩]) (.seq (.seq (.reg [⟨some 40, none, .load true 1 (.t 9)⟩, ⟨some 41, none, .call 18 [(.t 40)]⟩, ⟨some 42, none, .un .not (.t 41)⟩]) (.cond (.t 42) (.seq (.reg [⟨some 43, none, .build [.nil] []⟩, ⟨none, none, (.store 1 (.t 4) (.t 43))⟩, ⟨some 5, none, .mv (.c (.bool false))⟩]) .ret) .skip)) (.seq (.reg [⟨some 44, none, .load true 1 (.t 9)⟩, ⟨none, none, (.store 1 (.t 4) (.t 44))⟩, ⟨some 5, none, .mv (.c (.bool true))⟩]) .ret))))))
theorem k_spec_l7Apply : codeOf Tryz.prog 19 = some ⟨45, c_spec_l7Apply, [(.cell 4 true 1), (.tmp 5)]⟩ := by kernel_rfl
theorem m_spec_l7Apply : modes 19 = ⟨[], .frz, none, false⟩ := by unfold modes; rfl
def c_impl_ApplyToClause : SC := (.seq (.reg [⟨some 2, none, .boxv 37 1 (.t 0)⟩, ⟨some 3, none, .boxv 32 1 (.t 1)⟩, ⟨some 4, none, .alloc 32 [.nil]⟩, ⟨some 5, none, .mv (.c (.bool false))⟩]) (.seq (.seq (.reg [⟨some 6, none, .load true 1 (.t 2)⟩, ⟨some 7, none, .call 22 [(.t 6)]⟩, ⟨some 8, none, .un .not (.t 7)⟩, ⟨some 9, none, .mv (.t 8)⟩, ⟨(some 10), (some (9, false)), (.load true 1 (.t 3))⟩, ⟨(some 11), (some (9, false)), (.call 23 [(.t 10)])⟩, ⟨(some 12), (some (9, false)), (.un .not (.t 11))⟩, ⟨some 13, none, .pick (.t 9) (.c (.bool true)) (.t 12)⟩]) (.cond (.t 13) (.seq (.reg [⟨some 14, none, .build [.nil] []⟩, ⟨none, none, (.store 1 (.t 4) (.t 14))⟩, ⟨some 5, none, .mv (.c (.bool false))⟩]) .ret) .skip)) (.seq (.reg [⟨some 15, none, .load true 1 (.t 2)⟩, ⟨some 16, none, .faddr 0 (.t 3)⟩, ⟨some 17, none, .load false 1 (.t 16)⟩, ⟨some 18, none, .call 24 [(.t 15), (.t 17)]⟩, ⟨some 19, none, .ext (.t 18) 0⟩, ⟨some 20, none, .ext (.t 18) 1⟩, ⟨none, none, (.store 1 (.t 4) (.t 19))⟩, ⟨some 5, none, .mv (.t 20)⟩]) .ret)))
theorem k_impl_ApplyToClause : codeOf Tryz.prog 9 = some ⟨21, c_impl_ApplyToClause, [(.cell 4 true 1), (.tmp 5)]⟩ := by kernel_rfl
theorem m_impl_ApplyToClause : modes 9 = ⟨[], .own [some (74, 3), none], none, false⟩ := by unfold modes; rfl
def c_spec_ApplyToClause : SC := (.seq (.reg [⟨some 2, none, .boxv 37 1 (.t 0)⟩, ⟨some 3, none, .boxv 32 1 (.t 1)⟩, ⟨some 4, none, .alloc 32 [.nil]⟩, ⟨some 5, none, .mv (.c (.bool false))⟩]) (.seq (.seq (.reg [⟨some 6, none, .load true 1 (.t 2)⟩, ⟨some 7, none, .call 17 [(.t 6)]⟩, ⟨some 8, none, .un .not (.t 7)⟩, ⟨some 9, none, .mv (.t 8)⟩, ⟨(some 10), (some (9, false)), (.load true 1 (.t 3))⟩, ⟨(some 11), (some (9, false)), (.call 18 [(.t 10)])⟩, ⟨(some 12), (some (9, false)), (.un .not (.t 11))⟩, ⟨some 13, none, .pick (.t 9) (.c (.bool true)) (.t 12)⟩]) (.cond (.t 13) (.seq (.reg [⟨some 14, none, .build [.nil] []⟩, ⟨none, none, (.store 1 (.t 4) (.t 14))⟩, ⟨some 5, none, .mv (.c (.bool false))⟩]) .ret) .skip)) (.seq (.reg [⟨some 15, none, .load true 1 (.t 2)⟩, ⟨some 16, none, .faddr 0 (.t 3)⟩, ⟨some 17, none, .load false 1 (.t 16)⟩, ⟨some 18, none, .call 19 [(.t 15), (.t 17)]⟩, ⟨some 19, none, .ext (.t 18) 0⟩, ⟨some 20, none, .ext (.t 18) 1⟩, ⟨none, none, (.store 1 (.t 4) (.t 19))⟩, ⟨some 5, none, .mv (.t 20)⟩]) .ret)))
theorem k_spec_ApplyToClause : codeOf Tryz.prog 6 = some ⟨21, c_spec_ApplyToClause, [(.cell 4 true 1), (.tmp 5)]⟩ := by kernel_rfl
theorem m_spec_ApplyToClause : modes 6 = ⟨[], .frz, none, false⟩ := by unfold modes; rfl
theorem ifClause_yes (c : Cl) (hn : c.tame) (hv : c.ok = true) : E 45 [c.osv] c.obs = some (.tup [c.osv, .bool true], c.obs) := by
  have h := isValidClause_E c hn
  rw [hv] at h
  refine E_walk k_impl_ifClause m_impl_ifClause (of_decide_eq_true rfl) ?_
  simp (disch := omega) only [c_impl_ifClause, go_sem, go_cond, zA, zB, zC, zD, zE, zF, zG, zH, ↓reduceIte, zI, reduceCtorEq, zJ, zK, h, m_impl_IsValidClause, Lt.erss, Lt.noss, Lt.fus]
theorem ifClause_no (c : Cl) (hn : c.tame) (hv : c.ok = false) : E 45 [c.osv] c.obs = some (.tup [.agg [.ref 1], .bool false], [.row 74 3 (c.lits.map Lt.o), .row 74 3 []]) := by
  have h := isValidClause_E c hn
  rw [hv] at h
  refine E_walk k_impl_ifClause m_impl_ifClause (of_decide_eq_true rfl) ?_
  simp (disch := omega) only [c_impl_ifClause, go_sem, go_cond, zA, zB, zC, zD, zE, zF, zG, zH, ↓reduceIte, zI, reduceCtorEq, zJ, zK, h, m_impl_IsValidClause, Lt.erss, Lt.noss, Lt.fus]
theorem Tm.atom_expr {x : Tm} (h : x.atom = true) : x.expr = true := by unfold Tm.expr; rw [h, Bool.or_true]
theorem Tm.atom_nodes {x : Tm} (h : x.atom = true) : x.nodes ≤ 30 := Tm.expr_nodes (Tm.atom_expr h)
theorem sym_novar {s : ByteArray} (h : symB s = true) : varB s = false := by
  unfold symB inB at h
  rw [Bool.and_eq_true, Bool.and_eq_true, Bool.and_eq_true, decide_eq_true_eq, decide_eq_true_eq] at h
  have hs : 0 < s.size := by omega
  have h1 := loopB_zero h.1.1 hs
  unfold symOk at h1
  simp at h1
  have h2 := h1.1
  have hu : uppB (byteZ s 0) = false := by
    unfold lowB at h2
    unfold uppB
    simp at h2 ⊢
    omega
  rw [Bool.eq_false_iff]
  intro hv
  unfold varB at hv
  rw [Bool.and_eq_true] at hv
  have h1 := loopB_zero hv.1 hs
  unfold varOk at h1
  rw [hu] at h1
  simp at h1
theorem Tm.ap_atom {f : ByteArray → Option Tm} (hf : okF f) (x : Tm) (hx : x.atom = true) : (x.ap f).atom = (x.ap f).small := by
  unfold Tm.atom at hx
  rcases he : x.eqn with _ | _
  · rw [he, if_neg (by simp), Bool.and_eq_true] at hx
    have hnv : ¬ (varB x.name = true) := by rw [sym_novar hx.1]; simp
    have e : x.ap f = .mk x.name (Tm.apL f x.args) := by rw [Tm.ap_eq, if_neg hnv]
    have he2 : ¬ (x.ap f).eqn = true := by rw [e]; show ¬ x.eqn = true; rw [he]; simp
    have hn : x.names = true := by
      have := hx.2
      unfold Tm.valid at this
      rw [Bool.and_eq_true] at this
      exact this.2
    have h3 := Tm.ap_names hf x hn
    unfold Tm.atom
    rw [if_neg he2]
    unfold Tm.valid
    rw [h3, Bool.and_true]
    have hname : (x.ap f).name = x.name := by rw [e]; rfl
    rw [hname, hx.1, Bool.true_and]
  · rw [he, if_pos rfl, Bool.and_eq_true, Bool.and_eq_true] at hx
    have hnv : ¬ (varB x.name = true) := by rw [Tm.eqn_var he]; simp
    have e : x.ap f = .mk x.name (Tm.apL f x.args) := by rw [Tm.ap_eq, if_neg hnv]
    have he2 : (x.ap f).eqn = true := by rw [e]; exact he
    unfold Tm.atom
    rw [if_pos he2]
    have h1 : ((x.ap f).args.length == 2) = true := by
      rw [e]
      show ((Tm.apL f x.args).length == 2) = true
      rw [Tm.apL_len]; exact hx.1.1
    have h2 : Tm.nameS (x.ap f).args = true := by
      rw [e]
      exact Tm.ap_nameS f x.args fun y hy => Tm.ap_names hf y (by
        have := hx.2
        rw [Tm.nameS_all, List.all_eq_true] at this
        exact this y hy)
    rw [h1, h2, Bool.true_and, Bool.and_true]
noncomputable def Lt.ap (s : Sb) (x : Lt) : Lt := ⟨x.pos, x.atom.ap s.look⟩
noncomputable def apsOk (s : Sb) (l : List Lt) : Bool := l.all fun x => (x.atom.ap s.look).small
noncomputable def apcOk (s : Sb) (l : List Lt) : Bool := apsOk s l && (mkC (l.map (Lt.ap s))).ok
noncomputable def apC (s : Sb) (l : List Lt) : Cl := if apcOk s l then mkC (l.map (Lt.ap s)) else ⟨[]⟩
theorem apC_no {s : Sb} {l : List Lt} (h : apcOk s l = false) : apC s l = ⟨[]⟩ := by unfold apC; rw [if_neg (by rw [h]; simp)]
theorem apC_yes {s : Sb} {l : List Lt} (h : apcOk s l = true) : apC s l = mkC (l.map (Lt.ap s)) := by unfold apC; rw [if_pos h]
theorem Lt.ap_fine {s : Sb} (hs : s.ok = true) {x : Lt} (hx : x.atom.atom = true) (hq : (x.atom.ap s.look).small = true) : (x.ap s).fine := by
  have ha : (x.atom.ap s.look).atom = true := by rw [Tm.ap_atom (Sb.look_okF hs) _ hx]; exact hq
  exact ⟨Tm.atom_cok ha, by have : (Lt.ap s x).atom.nodes ≤ 30 := Tm.atom_nodes ha
                            omega⟩
theorem mkC_tame {l : List Lt} (hl : l.length ≤ 1048576) (hf : ∀ x ∈ l, x.fine) : (mkC l).tame := by
  have := mkC_len l
  exact ⟨by omega, fun y hy => (hf y ((mkC_mem l y).1 hy)).2⟩
theorem zero_cosv : (Cl.mk []).osv = .agg [.ref 0] := rfl
theorem zero_cobs : (Cl.mk []).obs = [.row 74 3 []] := rfl
theorem zero_csv : (Cl.mk []).sv = .agg [.arr []] := rfl
set_option maxHeartbeats 8000000 in
theorem applyClause_E (s : Sb) (hs : s.ok = true) (ht : s.tame) (l : List Lt) (hl : l.length ≤ 1048576) (hal : ∀ x ∈ l, x.atom.atom = true) : E 24 [s.sv, .arr (l.map Lt.d)] [] = some (.tup [(apC s l).osv, .bool (apcOk s l)], (apC s l).obs) := by
  have her : OT.erss (l.map (fun x : Lt => (Lt.ap s x).o)) = (l.map (Lt.ap s)).map Lt.d := by
    have := Lt.erss (l.map (Lt.ap s))
    rw [List.map_map] at this
    exact this
  have hfu : OT.fullss (l.map (fun x : Lt => (Lt.ap s x).o)) = true := by
    have := Lt.fus (l.map (Lt.ap s))
    rw [List.map_map] at this
    exact this
  refine E_walk k_impl_Substitution_applyClause m_impl_Substitution_applyClause (of_decide_eq_true rfl) ?_
  simp (disch := omega) only [c_impl_Substitution_applyClause, go_sem, go_cond, zA, zB, zC, zD, zE, zF, zG, zH, ↓reduceIte, zI, reduceCtorEq, zJ, zK]
  refine go_loop (α := Int) (fun a => ⟨slots 41 0 [(2, .ptr 0 0), (4, .ptr 1 0), (6, .ref 2), (12, .arr (l.map Lt.d)), (13, .int .i64 l.length), (14, .int .i64 a)], [.box 37 [.arr (s.binds.map Bd.d)], .box 32 [.nil], .row 74 3 ((l.take a.toNat).map (fun x : Lt => (Lt.ap s x).o))]⟩) (fun a => ∃ k : Nat, a = k ∧ k ≤ (l).length ∧ ∀ x ∈ l.take k, (x.atom.ap s.look).small = true) (fun a => (l).length - (a).toNat) 0 ⟨0, rfl, Nat.zero_le _, fun x hx => by simp at hx⟩ (by simp (disch := omega) only [go_sem, go_cond, zA, zB, zC, zD, zE, zF, zG, zH, ↓reduceIte, zI, reduceCtorEq, zJ, zK, Int.toNat_zero]) ?_
  rintro i ⟨k, hi, hk, hR⟩
  have hni : i.toNat = k := by omega
  have hni1 : (i + 1).toNat = k + 1 := by omega
  rcases Nat.lt_or_ge k (l).length with hlt | hge
  · have hg := get_at Lt.d hlt
    rw [Lt.d_eq] at hg
    have hat := hal l[k] (List.getElem_mem hlt)
    have hex := Tm.atom_expr hat
    have hsn := map_snoc (fun x : Lt => (Lt.ap s x).o) hlt
    have hs1 : [[OT.bool l[k].pos, .str (l[k].atom.ap s.look).name, .ow ((l[k].atom.ap s.look).args.map Tm.o)]] = [(fun x : Lt => (Lt.ap s x).o) l[k]] := by simp only [Lt.o_eq]; rfl
    have htl : (l.take k).length = k := by rw [List.length_take]; omega
    cases hq : (l[k].atom.ap s.look).small with
    | true =>
      have ha := applied_E s hs ht l[k].atom hex
      rw [apTo_yes (by unfold apOk; rw [hs, hex, hq]; rfl), show apOk s l[k].atom = true by unfold apOk; rw [hs, hex, hq]; rfl] at ha
      simp (disch := omega) only [go_sem, go_cond, zA, zB, zC, zD, zE, zF, zG, zH, ↓reduceIte, zI, reduceCtorEq, zJ, zK, hni, hg, ha, htl, m_impl_Substitution_applied, m_impl_clauseOf, m_impl_ifClause]
      refine ⟨i + 1, ⟨k + 1, by omega, hlt, fun x hx => ?_⟩, by omega, ?_⟩
      · rcases List.mem_append.1 (by rw [List.take_succ_eq_append_getElem hlt] at hx; exact hx) with hx | hx
        · exact hR x hx
        · rw [List.mem_singleton.1 hx]; exact hq
      · simp (disch := omega) only [go_sem, go_cond, zA, zB, zC, zD, zE, zF, zG, zH, ↓reduceIte, zI, reduceCtorEq, zJ, zK, hni1, hs1, hsn, and_self]
    | false =>
      have ha := applied_E s hs ht l[k].atom hex
      rw [apTo_no (by unfold apOk; rw [hq, Bool.and_false, Bool.and_false]), show apOk s l[k].atom = false by unfold apOk; rw [hq, Bool.and_false, Bool.and_false], zero_osv, zero_obs] at ha
      have hno : apcOk s l = false := by
        unfold apcOk apsOk
        rw [show (l.all fun x => (x.atom.ap s.look).small) = false from ?_, Bool.false_and]
        rw [List.all_eq_false]
        exact ⟨l[k], List.getElem_mem hlt, by rw [hq]; simp⟩
      rw [apC_no hno, hno, zero_cosv, zero_cobs]
      simp (disch := omega) only [go_sem, go_cond, zA, zB, zC, zD, zE, zF, zG, zH, ↓reduceIte, zI, reduceCtorEq, zJ, zK, hni, hg, ha, m_impl_Substitution_applied, m_impl_clauseOf, m_impl_ifClause]
  · obtain rfl : k = l.length := by omega
    have htk : l.take l.length = l := List.take_length
    rw [htk] at hR
    have hal2 : apsOk s l = true := by unfold apsOk; rw [List.all_eq_true]; exact hR
    have hfine : ∀ x ∈ l.map (Lt.ap s), x.fine := fun x hx => by
      obtain ⟨y, hy, rfl⟩ := List.mem_map.1 hx
      exact Lt.ap_fine hs (hal y hy) (hR y hy)
    have hlen : (l.map (Lt.ap s)).length ≤ 1048576 := by rw [List.length_map]; exact hl
    have hc := clauseOf_E (l.map (Lt.ap s)) hlen hfine
    have htm := mkC_tame hlen hfine
    cases hv : (mkC (l.map (Lt.ap s))).ok with
    | true =>
      have hok : apcOk s l = true := by unfold apcOk; rw [hal2, hv]; rfl
      have hi2 := ifClause_yes _ htm hv
      rw [apC_yes hok, hok]
      simp (disch := omega) only [go_sem, go_cond, zA, zB, zC, zD, zE, zF, zG, zH, ↓reduceIte, zI, reduceCtorEq, zJ, zK, hni, htk, hc, hi2, her, hfu, Lt.noss, m_impl_Substitution_applied, m_impl_clauseOf, m_impl_ifClause]
    | false =>
      have hok : apcOk s l = false := by unfold apcOk; rw [hv, Bool.and_false]
      have hi2 := ifClause_no _ htm hv
      rw [apC_no hok, hok, zero_cosv, zero_cobs]
      simp (disch := omega) only [go_sem, go_cond, zA, zB, zC, zD, zE, zF, zG, zH, ↓reduceIte, zI, reduceCtorEq, zJ, zK, hni, htk, hc, hi2, her, hfu, Lt.noss, m_impl_Substitution_applied, m_impl_clauseOf, m_impl_ifClause]
set_option maxHeartbeats 8000000 in
theorem l7Apply_E (s : Sb) (hs : s.ok = true) (ht : s.tame) (l : List Lt) (hl : l.length ≤ 1048576) (hal : ∀ x ∈ l, x.atom.atom = true) : E 19 [s.sv, .arr (l.map Lt.d)] [] = some (.tup [(apC s l).sv, .bool (apcOk s l)], []) := by
  have her : OT.erss (l.map (fun x : Lt => (Lt.ap s x).d.map D.ot)) = (l.map (Lt.ap s)).map Lt.d := by
    have := Lt.der (l.map (Lt.ap s))
    rw [List.map_map] at this
    exact this
  have hfu : OT.fullss (l.map (fun x : Lt => (Lt.ap s x).d.map D.ot)) = true := by
    have := Lt.dfu (l.map (Lt.ap s))
    rw [List.map_map] at this
    exact this
  refine E_walk k_spec_l7Apply m_spec_l7Apply (of_decide_eq_true rfl) ?_
  simp (disch := omega) only [c_spec_l7Apply, go_sem, go_cond, zA, zB, zC, zD, zE, zF, zG, zH, ↓reduceIte, zI, reduceCtorEq, zJ, zK]
  refine go_loop (α := Int) (fun a => ⟨slots 45 0 [(1, .arr (l.map Lt.d)), (2, .ptr 0 0), (4, .ptr 1 0), (6, .ref 2), (7, .int .i64 a)], [.box 37 [.arr (s.binds.map Bd.d)], .box 32 [.nil], .row 74 3 ((l.take a.toNat).map (fun x : Lt => (Lt.ap s x).d.map D.ot))]⟩) (fun a => ∃ k : Nat, a = k ∧ k ≤ (l).length ∧ ∀ x ∈ l.take k, (x.atom.ap s.look).small = true) (fun a => (l).length - (a).toNat) 0 ⟨0, rfl, Nat.zero_le _, fun x hx => by simp at hx⟩ (by simp (disch := omega) only [go_sem, go_cond, zA, zB, zC, zD, zE, zF, zG, zH, ↓reduceIte, zI, reduceCtorEq, zJ, zK, Int.toNat_zero]) ?_
  rintro i ⟨k, hi, hk, hR⟩
  have hni : i.toNat = k := by omega
  have hni1 : (i + 1).toNat = k + 1 := by omega
  rcases Nat.lt_or_ge k (l).length with hlt | hge
  · have hg := get_at Lt.d hlt
    rw [Lt.d_eq] at hg
    have hat := hal l[k] (List.getElem_mem hlt)
    have hsn := map_snoc (fun x : Lt => (Lt.ap s x).d.map D.ot) hlt
    have hs1 : [[OT.bool l[k].pos, .str (l[k].atom.ap s.look).name, .sh ((l[k].atom.ap s.look).args.map Tm.d)]] = [(fun x : Lt => (Lt.ap s x).d.map D.ot) l[k]] := by simp only [Lt.d_eq]; rfl
    have htl : (l.take k).length = k := by rw [List.length_take]; omega
    have hnd := Tm.atom_nodes hat
    have ha := l4Apply_E s hs ht l[k].atom (by omega)
    have hap := Tm.ap_nodes (Sb.look_okF hs) l[k].atom
    have hb := l2Atom_E (l[k].atom.ap s.look) (by omega)
    rw [Tm.ap_atom (Sb.look_okF hs) _ hat] at hb
    cases hq : (l[k].atom.ap s.look).small with
    | true =>
      rw [hq] at hb
      simp (disch := omega) only [go_sem, go_cond, zA, zB, zC, zD, zE, zF, zG, zH, ↓reduceIte, zI, reduceCtorEq, zJ, zK, hni, hg, ha, hb, htl, m_spec_l4Apply, m_spec_l2Atom, m_spec_l7Make, m_spec_l7Good]
      refine ⟨i + 1, ⟨k + 1, by omega, hlt, fun x hx => ?_⟩, by omega, ?_⟩
      · rcases List.mem_append.1 (by rw [List.take_succ_eq_append_getElem hlt] at hx; exact hx) with hx | hx
        · exact hR x hx
        · rw [List.mem_singleton.1 hx]; exact hq
      · simp (disch := omega) only [go_sem, go_cond, zA, zB, zC, zD, zE, zF, zG, zH, ↓reduceIte, zI, reduceCtorEq, zJ, zK, hni1, hs1, hsn, and_self]
    | false =>
      rw [hq] at hb
      have hno : apcOk s l = false := by
        unfold apcOk apsOk
        rw [show (l.all fun x => (x.atom.ap s.look).small) = false from ?_, Bool.false_and]
        rw [List.all_eq_false]
        exact ⟨l[k], List.getElem_mem hlt, by rw [hq]; simp⟩
      rw [apC_no hno, hno, zero_csv]
      simp (disch := omega) only [go_sem, go_cond, zA, zB, zC, zD, zE, zF, zG, zH, ↓reduceIte, zI, reduceCtorEq, zJ, zK, hni, hg, ha, hb, m_spec_l4Apply, m_spec_l2Atom, m_spec_l7Make, m_spec_l7Good]
  · obtain rfl : k = l.length := by omega
    have htk : l.take l.length = l := List.take_length
    rw [htk] at hR
    have hal2 : apsOk s l = true := by unfold apsOk; rw [List.all_eq_true]; exact hR
    have hfine : ∀ x ∈ l.map (Lt.ap s), x.fine := fun x hx => by
      obtain ⟨y, hy, rfl⟩ := List.mem_map.1 hx
      exact Lt.ap_fine hs (hal y hy) (hR y hy)
    have hlen : (l.map (Lt.ap s)).length ≤ 1048576 := by rw [List.length_map]; exact hl
    have hc := l7Make_E (l.map (Lt.ap s)) hlen hfine
    have hgd := l7Good_E (mkC (l.map (Lt.ap s))) (mkC_tame hlen hfine)
    cases hv : (mkC (l.map (Lt.ap s))).ok with
    | true =>
      have hok : apcOk s l = true := by unfold apcOk; rw [hal2, hv]; rfl
      rw [hv] at hgd
      rw [apC_yes hok, hok]
      simp (disch := omega) only [go_sem, go_cond, zA, zB, zC, zD, zE, zF, zG, zH, ↓reduceIte, zI, reduceCtorEq, zJ, zK, hni, htk, hc, hgd, her, hfu, m_spec_l4Apply, m_spec_l2Atom, m_spec_l7Make, m_spec_l7Good]
    | false =>
      have hok : apcOk s l = false := by unfold apcOk; rw [hv, Bool.and_false]
      rw [hv] at hgd
      rw [apC_no hok, hok, zero_csv]
      simp (disch := omega) only [go_sem, go_cond, zA, zB, zC, zD, zE, zF, zG, zH, ↓reduceIte, zI, reduceCtorEq, zJ, zK, hni, htk, hc, hgd, her, hfu, m_spec_l4Apply, m_spec_l2Atom, m_spec_l7Make, m_spec_l7Good]
theorem Cl.ok_atom {x : Cl} (h : x.ok = true) : ∀ y ∈ x.lits, y.atom.atom = true := fun y hy => by
  unfold Cl.ok at h
  rw [Bool.and_eq_true] at h
  obtain ⟨k, hk, rfl⟩ := List.getElem_of_mem hy
  exact ltTo_atom h.2 hk hk
theorem Cl.ok_len {x : Cl} (h : x.ok = true) : x.lits.length ≤ 8 := by
  unfold Cl.ok at h
  rw [Bool.and_eq_true, decide_eq_true_eq] at h
  exact h.1
noncomputable def atcOk (s : Sb) (x : Cl) : Bool := s.ok && (x.ok && apcOk s x.lits)
noncomputable def atcTo (s : Sb) (x : Cl) : Cl := if atcOk s x then apC s x.lits else ⟨[]⟩
theorem atcTo_no {s : Sb} {x : Cl} (h : atcOk s x = false) : atcTo s x = ⟨[]⟩ := by unfold atcTo; rw [if_neg (by rw [h]; simp)]
theorem atcTo_yes {s : Sb} {x : Cl} (h1 : s.ok = true) (h2 : x.ok = true) : atcTo s x = apC s x.lits ∧ atcOk s x = apcOk s x.lits := by
  have e : atcOk s x = apcOk s x.lits := by unfold atcOk; rw [h1, h2]; rfl
  refine ⟨?_, e⟩
  unfold atcTo
  rw [e]
  cases h : apcOk s x.lits with
  | true => rfl
  | false => rw [apC_no h]; rfl
theorem applyToClause_E (s : Sb) (ht : s.tame) (x : Cl) (hx : x.tame) : E 9 [s.sv, x.sv] [] = some (.tup [(atcTo s x).osv, .bool (atcOk s x)], (atcTo s x).obs) := by
  have h1 := isValidSubstitution_E s ht
  have h2 := isValidClause_E x hx
  cases hs : s.ok with
  | false =>
    have ho : atcOk s x = false := by unfold atcOk; rw [hs]; rfl
    rw [hs] at h1
    rw [atcTo_no ho, ho, zero_cosv, zero_cobs]
    refine E_walk k_impl_ApplyToClause m_impl_ApplyToClause (of_decide_eq_true rfl) ?_
    simp (disch := omega) only [c_impl_ApplyToClause, go_sem, go_cond, zA, zB, zC, zD, zE, zF, zG, zH, ↓reduceIte, zI, reduceCtorEq, zJ, zK, h1, m_impl_IsValidSubstitution]
  | true =>
    rw [hs] at h1
    cases hv : x.ok with
    | false =>
      have ho : atcOk s x = false := by unfold atcOk; rw [hv, Bool.false_and, Bool.and_false]
      rw [hv] at h2
      rw [atcTo_no ho, ho, zero_cosv, zero_cobs]
      refine E_walk k_impl_ApplyToClause m_impl_ApplyToClause (of_decide_eq_true rfl) ?_
      simp (disch := omega) only [c_impl_ApplyToClause, go_sem, go_cond, zA, zB, zC, zD, zE, zF, zG, zH, ↓reduceIte, zI, reduceCtorEq, zJ, zK, h1, h2, m_impl_IsValidSubstitution, m_impl_IsValidClause]
    | true =>
      rw [hv] at h2
      have hlen := Cl.ok_len hv
      have h3 := applyClause_E s hs ht x.lits (by omega) (Cl.ok_atom hv)
      rw [(atcTo_yes hs hv).1, (atcTo_yes hs hv).2]
      refine E_walk k_impl_ApplyToClause m_impl_ApplyToClause (of_decide_eq_true rfl) ?_
      simp (disch := omega) only [c_impl_ApplyToClause, go_sem, go_cond, zA, zB, zC, zD, zE, zF, zG, zH, ↓reduceIte, zI, reduceCtorEq, zJ, zK, h1, h2, h3, m_impl_IsValidSubstitution, m_impl_IsValidClause, m_impl_Substitution_applyClause]
theorem l7ApplyToClause_E (s : Sb) (ht : s.tame) (x : Cl) (hx : x.tame) : E 6 [s.sv, x.sv] [] = some (.tup [(atcTo s x).sv, .bool (atcOk s x)], []) := by
  have h1 := l4Good_E s ht
  have h2 := l7Good_E x hx
  cases hs : s.ok with
  | false =>
    have ho : atcOk s x = false := by unfold atcOk; rw [hs]; rfl
    rw [hs] at h1
    rw [atcTo_no ho, ho, zero_csv]
    refine E_walk k_spec_ApplyToClause m_spec_ApplyToClause (of_decide_eq_true rfl) ?_
    simp (disch := omega) only [c_spec_ApplyToClause, go_sem, go_cond, zA, zB, zC, zD, zE, zF, zG, zH, ↓reduceIte, zI, reduceCtorEq, zJ, zK, h1, m_spec_l4Good]
  | true =>
    rw [hs] at h1
    cases hv : x.ok with
    | false =>
      have ho : atcOk s x = false := by unfold atcOk; rw [hv, Bool.false_and, Bool.and_false]
      rw [hv] at h2
      rw [atcTo_no ho, ho, zero_csv]
      refine E_walk k_spec_ApplyToClause m_spec_ApplyToClause (of_decide_eq_true rfl) ?_
      simp (disch := omega) only [c_spec_ApplyToClause, go_sem, go_cond, zA, zB, zC, zD, zE, zF, zG, zH, ↓reduceIte, zI, reduceCtorEq, zJ, zK, h1, h2, m_spec_l4Good, m_spec_l7Good]
    | true =>
      rw [hv] at h2
      have hlen := Cl.ok_len hv
      have h3 := l7Apply_E s hs ht x.lits (by omega) (Cl.ok_atom hv)
      rw [(atcTo_yes hs hv).1, (atcTo_yes hs hv).2]
      refine E_walk k_spec_ApplyToClause m_spec_ApplyToClause (of_decide_eq_true rfl) ?_
      simp (disch := omega) only [c_spec_ApplyToClause, go_sem, go_cond, zA, zB, zC, zD, zE, zF, zG, zH, ↓reduceIte, zI, reduceCtorEq, zJ, zK, h1, h2, h3, m_spec_l4Good, m_spec_l7Good, m_spec_l7Apply]
mutual
def Tm.wt : Tm → Nat
  | .mk name args => 1 + Tm.wtS args
def Tm.wtS : List Tm → Nat
  | [] => 0
  | x :: xs => Tm.wt x + Tm.wtS xs
end
theorem Tm.wt_eq (x : Tm) : x.wt = 1 + Tm.wtS x.args := by
  obtain ⟨name, args⟩ := x
  rw [Tm.wt]; rfl
mutual
noncomputable def Tm.mk1 : Tm → Int → Tm × Int
  | .mk name args, k => ((Tm.mk (markT k) ((Tm.mkS args (k + 1)).1)), (Tm.mkS args (k + 1)).2)
noncomputable def Tm.mkS : List Tm → Int → List Tm × Int
  | [], k => ([], k)
  | x :: xs, k => ((Tm.mk1 x k).1 :: (Tm.mkS xs (Tm.mk1 x k).2).1, (Tm.mkS xs (Tm.mk1 x k).2).2)
end
theorem Tm.mk1_eq (x : Tm) (k : Int) : x.mk1 k = ((Tm.mk (markT k) ((Tm.mkS x.args (k + 1)).1)), (Tm.mkS x.args (k + 1)).2) := by
  obtain ⟨name, args⟩ := x
  rw [Tm.mk1]; rfl
theorem Tm.mk1_d (x : Tm) (k : Int) : Tm.d (x.mk1 k).1 = [.str (markT k), .arr ((Tm.mkS x.args (k + 1)).1.map Tm.d)] := by
  rw [Tm.mk1_eq, Tm.d_eq]
  try rfl
theorem Tm.mk1_o (x : Tm) (k : Int) : Tm.o (x.mk1 k).1 = [.str (markT k), .ow ((Tm.mkS x.args (k + 1)).1.map Tm.o)] := by
  rw [Tm.mk1_eq, Tm.o_eq]
  try rfl
theorem Tm.mkS_end_of : ∀ (xs : List Tm) (k : Int), (∀ x ∈ xs, ∀ k, (x.mk1 k).2 = k + x.wt) → (Tm.mkS xs k).2 = k + Tm.wtS xs
  | [], k, _ => by simp [Tm.mkS, Tm.wtS]
  | x :: xs, k, h => by
    rw [Tm.mkS, Tm.wtS]
    have h1 := h x (by simp) k
    have h2 := Tm.mkS_end_of xs (x.mk1 k).2 fun y hy => h y (by simp [hy])
    dsimp only
    omega
theorem Tm.mk1_end (x : Tm) (k : Int) : (x.mk1 k).2 = k + x.wt := by
  rw [Tm.mk1_eq, Tm.wt_eq]
  have h := fun k => Tm.mkS_end_of x.args k fun y hy k => Tm.mk1_end y k
  simp only [h]
  omega
termination_by SizeOf.sizeOf x
decreasing_by exact Tm.lt_of_mem hy
theorem Tm.mkS_end (xs : List Tm) (k : Int) : (Tm.mkS xs k).2 = k + Tm.wtS xs := Tm.mkS_end_of xs k fun x _ k => Tm.mk1_end x k
theorem Tm.wtS_of : ∀ xs : List Tm, (∀ x ∈ xs, x.wt ≤ 5 * (1 + x.bulk)) → Tm.wtS xs ≤ 5 * (xs.length + Tm.sumB xs)
  | [], _ => by simp [Tm.wtS]
  | x :: xs, h => by
    have h1 := h x (by simp)
    have h2 := Tm.wtS_of xs fun y hy => h y (by simp [hy])
    rw [Tm.wtS, Tm.sumB]; simp only [List.length_cons]; omega
theorem Tm.wt_bulk (x : Tm) : x.wt ≤ 5 * (1 + x.bulk) := by
  rw [Tm.wt_eq, Tm.bulk_eq]
  have h := Tm.wtS_of x.args fun y hy => Tm.wt_bulk y
  omega
termination_by SizeOf.sizeOf x
decreasing_by exact Tm.lt_of_mem hy
theorem Tm.wtS_bulk (xs : List Tm) : Tm.wtS xs ≤ 5 * (xs.length + Tm.sumB xs) := Tm.wtS_of xs fun x _ => Tm.wt_bulk x
theorem Tm.length_wt : ∀ xs : List Tm, xs.length ≤ Tm.wtS xs
  | [] => Nat.le_refl _
  | x :: xs => by
    have := Tm.length_wt xs
    have := Tm.wt_eq x
    rw [Tm.wtS]; simp only [List.length_cons]; omega
def c_laws_markTermS : SC := (.seq (.reg [⟨some 4, none, .mv (.c (.int .i64 0))⟩]) (.seq (.seq (.reg [⟨some 5, none, .mv (.c (.int .i64 0))⟩]) (.block 0 (.loop [1, 1, 0, 0, 0, 1, 0, 0, 0, 0, 0, 0, 0, 0, 0, 0, 0, 0, 0, 0, 0, 0, 0, 0, 0, 0, 0, 0] (.seq (.seq (.reg [⟨some 6, none, .mv (.t 5)⟩, ⟨some 7, none, .mv (.t 0)⟩, ⟨some 8, none, .len false (.t 7)⟩, ⟨some 9, none, .bin .lss false (.t 6) (.t 8)⟩]) (.cond (.t 9) .skip (.exit 0))) (.seq (.block 1 (.seq (.reg [⟨some 12, none, .mv (.t 0)⟩, ⟨some 13, none, .mv (.t 5)⟩, ⟨some 14, none, .mv (.t 1)⟩, ⟨some 15, none, .call 49 [(.t 14)]⟩, ⟨some 16, none, .iaddr 2 (.t 12) (.t 13)⟩, ⟨some 17, none, .faddr 0 (.t 16)⟩, ⟨none, none, (.store 1 (.t 17) (.t 15))⟩]) (.seq (.reg [⟨some 18, none, .mv (.t 1)⟩, ⟨some 19, none, .bin .add false (.t 18) (.c (.int .i64 1))⟩, ⟨some 1, none, .mv (.t 19)⟩]) (.reg [⟨some 20, none, .mv (.t 0)⟩, ⟨some 21, none, .mv (.t 5)⟩, ⟨some 22, none, .iaddr 2 (.t 20) (.t 21)⟩, ⟨some 23, none, .faddr 1 (.t 22)⟩, ⟨some 24, none, .load false 1 (.t 23)⟩, ⟨some 25, none, .mv (.t 1)⟩, ⟨some 26, none, .call 50 [(.t 24), (.t 25)]⟩, ⟨some 1, none, .mv (.t 26)⟩])))) (.reg [⟨some 10, none, .mv (.t 5)⟩, ⟨some 11, none, .bin .add false (.t 10) (.c (.int .i64 1))⟩, ⟨some 5, none, .mv (.t 11)⟩])))))) (.seq (.reg [⟨some 27, none, .mv (.t 1)⟩, ⟨some 4, none, .mv (.t 27)⟩]) .ret)))
theorem k_laws_markTermS : codeOf Tryz.prog 50 = some ⟨28, c_laws_markTermS, [(.tmp 4)]⟩ := by kernel_rfl
theorem m_laws_markTermS : modes 50 = ⟨[true], .asis, none, true⟩ := by unfold modes; rfl
abbrev MarkTS_Term (xs : List Tm) : Prop := ∀ (k : Int) (ob : List Ob), 1 ≤ k → k + Tm.wtS xs ≤ 1099511627776 → toTree ob = [.tree (xs.map Tm.o) []] → E 50 [.ref 0, .int .i64 k] ob = some (.int .i64 (Tm.mkS xs k).2, [.tree ((Tm.mkS xs k).1.map Tm.o) []])
set_option maxHeartbeats 2000000 in
theorem markTS_Term_of (xs : List Tm) (ih : ∀ x ∈ xs, MarkTS_Term x.args) : MarkTS_Term xs := by
  intro k0 ob h1 h2 hob
  have hlen : ob.length = 1 := by rw [← toTree_len, hob]; rfl
  have hL := Tm.length_wt xs
  refine E_walk k_laws_markTermS m_laws_markTermS (of_decide_eq_true rfl) ?_
  simp (disch := omega) only [c_laws_markTermS, go_sem, go_cond, zA, zB, zC, zD, zE, zF, zG, zH, ↓reduceIte, zI, reduceCtorEq, zJ, zK, hob, hlen]
  refine go_loop (α := Int × (Int) × (List Tm)) (fun a => ⟨slots 28 0 [(0, .ref 0), (1, .int .i64 (a.2.1)), (5, .int .i64 (a.1))], [.tree (((a.2.2) ++ xs.drop (a.1).toNat).map Tm.o) []]⟩) (fun a => ∃ k : Nat, a.1 = k ∧ k ≤ (xs).length ∧ (a.2.2).length = k ∧ 1 ≤ (a.2.1) ∧ (a.2.1) + Tm.wtS (xs.drop k) = k0 + Tm.wtS xs ∧ Tm.mkS xs k0 = ((a.2.2) ++ (Tm.mkS (xs.drop k) (a.2.1)).1, (Tm.mkS (xs.drop k) (a.2.1)).2)) (fun a => (xs).length - (a.1).toNat) (0, k0, []) ⟨0, rfl, Nat.zero_le _, rfl, h1, by rw [List.drop_zero], by simp⟩ (by simp (disch := omega) only [go_sem, go_cond, zA, zB, zC, zD, zE, zF, zG, zH, ↓reduceIte, zI, reduceCtorEq, zJ, zK, Int.toNat_zero]) ?_
  rintro ⟨i, kk, dn⟩ ⟨k, hi, hk, hR⟩
  dsimp only at hi hR
  have hni : i.toNat = k := by omega
  have hni1 : (i + 1).toNat = k + 1 := by omega
  rcases Nat.lt_or_ge k (xs).length with hlt | hge
  · obtain ⟨hd, hk1, hkn, hm⟩ := hR
    have hdr : xs.drop k = xs[k] :: xs.drop (k + 1) := List.drop_eq_getElem_cons hlt
    have hel : (dn ++ xs.drop k).length = xs.length := by simp; omega
    have hg : (List.map Tm.o (dn ++ xs.drop k))[k]? = some [.str xs[k].name, .ow (xs[k].args.map Tm.o)] := by
      rw [← Tm.o_eq, hdr, List.getElem?_map, List.getElem?_append_right (by omega), hd, Nat.sub_self]; rfl
    rw [hdr, Tm.wtS] at hkn
    rw [hdr, Tm.mkS] at hm
    have hn1 := Tm.wt_eq xs[k]
    have e1 := Tm.mkS_end xs[k].args ((kk + 1))
    have t0 := markText_E (k := kk) (by omega) (by omega)
    have c58 := ih xs[k] (List.getElem_mem hlt) ((kk + 1)) [.tree (xs[k].args.map Tm.o) []] (by omega) (by omega) rfl
    have hs := map_set_mid Tm.o dn (xs.drop (k + 1)) xs[k] (xs[k].mk1 kk).1 hd
    rw [Tm.mk1_o, ← hdr] at hs
    have hgs : ∀ a, ((List.map Tm.o (dn ++ xs.drop k)).set k a)[k]? = some a := fun a => List.getElem?_set_self (by rw [List.length_map, hel]; exact hlt)
    have he := Tm.mk1_end xs[k] kk
    have three : ∀ z : Int, dec ((3 : Int) = 0) = false := fun _ => dec_f (by omega)
    simp (disch := omega) only [go_sem, go_cond, zA, zB, zC, zD, zE, zF, zG, zH, ↓reduceIte, zI, reduceCtorEq, zJ, zK, hni, hel, hg, t0, c58, m_laws_markTermS, m_laws_markText, hgs, List.length_set, List.set_set, hs, three 0]
    refine ⟨(i + 1, (xs[k].mk1 kk).2, dn ++ [(xs[k].mk1 kk).1]), ⟨k + 1, by dsimp only; omega, hlt, by dsimp only; simp [hd], by dsimp only; omega, by dsimp only; omega, by rw [hm]; simp⟩, by dsimp only; omega, ?_⟩
    dsimp only
    rw [hni1, Tm.mk1_eq]
    refine ⟨⟨?_, rfl⟩, rfl⟩
    first | rfl | omega
  · obtain ⟨hd, hk1, hkn, hm⟩ := hR
    have hdr : xs.drop k = [] := List.drop_eq_nil_of_le hge
    rw [hdr, Tm.mkS] at hm
    rw [hm]
    simp (disch := omega) only [go_sem, go_cond, zA, zB, zC, zD, zE, zF, zG, zH, ↓reduceIte, zI, reduceCtorEq, zJ, zK, hni, hdr, List.append_nil]
theorem markTS1_Term (x : Tm) : MarkTS_Term x.args := markTS_Term_of x.args fun y hy => markTS1_Term y
termination_by SizeOf.sizeOf x
decreasing_by exact Tm.lt_of_mem hy
theorem markTS_Term (xs : List Tm) : MarkTS_Term xs := markTS_Term_of xs fun y _ => markTS1_Term y
def Lt.wt (x : Lt) : Nat := 2 + Tm.wtS x.atom.args
theorem Lt.wt_eq (x : Lt) : x.wt = 2 + Tm.wtS x.atom.args := rfl
noncomputable def Lt.mk1 (x : Lt) (k : Int) : Lt × Int := ((Lt.mk (dec (k.tmod 3 = 0)) (Tm.mk (markT (k + 1)) ((Tm.mkS x.atom.args (k + 1 + 1)).1))), (Tm.mkS x.atom.args (k + 1 + 1)).2)
theorem Lt.mk1_eq (x : Lt) (k : Int) : x.mk1 k = ((Lt.mk (dec (k.tmod 3 = 0)) (Tm.mk (markT (k + 1)) ((Tm.mkS x.atom.args (k + 1 + 1)).1))), (Tm.mkS x.atom.args (k + 1 + 1)).2) := rfl
def Lt.wtS : List Lt → Nat
  | [] => 0
  | x :: xs => Lt.wt x + Lt.wtS xs
noncomputable def Lt.mkS : List Lt → Int → List Lt × Int
  | [], k => ([], k)
  | x :: xs, k => ((Lt.mk1 x k).1 :: (Lt.mkS xs (Lt.mk1 x k).2).1, (Lt.mkS xs (Lt.mk1 x k).2).2)
theorem Lt.mk1_d (x : Lt) (k : Int) : Lt.d (x.mk1 k).1 = [.bool (dec (k.tmod 3 = 0)), .str (markT (k + 1)), .arr ((Tm.mkS x.atom.args (k + 1 + 1)).1.map Tm.d)] := by
  rw [Lt.mk1_eq, Lt.d_eq]
  try rfl
theorem Lt.mk1_o (x : Lt) (k : Int) : Lt.o (x.mk1 k).1 = [.bool (dec (k.tmod 3 = 0)), .str (markT (k + 1)), .ow ((Tm.mkS x.atom.args (k + 1 + 1)).1.map Tm.o)] := by
  rw [Lt.mk1_eq, Lt.o_eq]
  try rfl
theorem Lt.mk1_end (x : Lt) (k : Int) : (x.mk1 k).2 = k + x.wt := by
  rw [Lt.mk1_eq, Lt.wt_eq]
  first
    | omega
    | (simp only [Tm.mkS_end]; done)
    | (simp only [Tm.mkS_end]; omega)
    | simp
theorem Lt.mkS_end : ∀ (xs : List Lt) (k : Int), (Lt.mkS xs k).2 = k + Lt.wtS xs
  | [], k => by simp [Lt.mkS, Lt.wtS]
  | x :: xs, k => by
    rw [Lt.mkS, Lt.wtS]
    have h1 := Lt.mk1_end x k
    have h2 := Lt.mkS_end xs (x.mk1 k).2
    dsimp only
    omega
theorem Lt.wt_bulk (x : Lt) : x.wt ≤ 5 * (1 + x.bulk) := by
  rw [Lt.wt_eq, Lt.bulk_eq]
  have h0 := Tm.wtS_bulk x.atom.args
  have q1 := Tm.bulk_eq x.atom
  omega
theorem Lt.wtS_bulk : ∀ xs : List Lt, Lt.wtS xs ≤ 5 * (xs.length + Lt.sumB xs)
  | [] => by simp [Lt.wtS]
  | x :: xs => by
    have h1 := Lt.wt_bulk x
    have h2 := Lt.wtS_bulk xs
    rw [Lt.wtS, Lt.sumB]; simp only [List.length_cons]; omega
theorem Lt.length_wt : ∀ xs : List Lt, xs.length ≤ Lt.wtS xs
  | [] => Nat.le_refl _
  | x :: xs => by
    have := Lt.length_wt xs
    have := Lt.wt_eq x
    rw [Lt.wtS]; simp only [List.length_cons]; omega
def c_laws_markLiteralS : SC := (.seq (.reg [⟨some 4, none, .mv (.c (.int .i64 0))⟩]) (.seq (.seq (.reg [⟨some 5, none, .mv (.c (.int .i64 0))⟩]) (.block 0 (.loop [1, 1, 0, 0, 0, 1, 0, 0, 0, 0, 0, 0, 0, 0, 0, 0, 0, 0, 0, 0, 0, 0, 0, 0, 0, 0, 0, 0, 0, 0, 0, 0, 0, 0, 0, 0, 0, 0, 0] (.seq (.seq (.reg [⟨some 6, none, .mv (.t 5)⟩, ⟨some 7, none, .mv (.t 0)⟩, ⟨some 8, none, .len false (.t 7)⟩, ⟨some 9, none, .bin .lss false (.t 6) (.t 8)⟩]) (.cond (.t 9) .skip (.exit 0))) (.seq (.block 1 (.seq (.reg [⟨some 12, none, .mv (.t 0)⟩, ⟨some 13, none, .mv (.t 5)⟩, ⟨some 14, none, .mv (.t 1)⟩, ⟨some 15, none, .bin .rem false (.t 14) (.c (.int .i64 3))⟩, ⟨some 16, none, .bin .eql false (.t 15) (.c (.int .i64 0))⟩, ⟨some 17, none, .iaddr 3 (.t 12) (.t 13)⟩, ⟨some 18, none, .faddr 0 (.t 17)⟩, ⟨none, none, (.store 1 (.t 18) (.t 16))⟩]) (.seq (.reg [⟨some 19, none, .mv (.t 1)⟩, ⟨some 20, none, .bin .add false (.t 19) (.c (.int .i64 1))⟩, ⟨some 1, none, .mv (.t 20)⟩]) (.seq (.reg [⟨some 21, none, .mv (.t 0)⟩, ⟨some 22, none, .mv (.t 5)⟩, ⟨some 23, none, .mv (.t 1)⟩, ⟨some 24, none, .call 49 [(.t 23)]⟩, ⟨some 25, none, .iaddr 3 (.t 21) (.t 22)⟩, ⟨some 26, none, .faddr 1 (.t 25)⟩, ⟨some 27, none, .faddr 0 (.t 26)⟩, ⟨none, none, (.store 1 (.t 27) (.t 24))⟩]) (.seq (.reg [⟨some 28, none, .mv (.t 1)⟩, ⟨some 29, none, .bin .add false (.t 28) (.c (.int .i64 1))⟩, ⟨some 1, none, .mv (.t 29)⟩]) (.reg [⟨some 30, none, .mv (.t 0)⟩, ⟨some 31, none, .mv (.t 5)⟩, ⟨some 32, none, .iaddr 3 (.t 30) (.t 31)⟩, ⟨some 33, none, .faddr 1 (.t 32)⟩, ⟨some 34, none, .faddr 1 (.t 33)⟩, ⟨some 35, none, .load false 1 (.t 34)⟩, ⟨some 36, none, .mv (.t 1)⟩, ⟨some 37, none, .call 50 [(.t 35), (.t 36)]⟩, ⟨some 1, none, .mv (.t 37)⟩])))))) (.reg [⟨some 10, none, .mv (.t 5)⟩, ⟨some 11, none, .bin .add false (.t 10) (.c (.int .i64 1))⟩, ⟨some 5, none, .mv (.t 11)⟩])))))) (.seq (.reg [⟨some 38, none, .mv (.t 1)⟩, ⟨some 4, none, .mv (.t 38)⟩]) .ret)))
theorem k_laws_markLiteralS : codeOf Tryz.prog 28 = some ⟨39, c_laws_markLiteralS, [(.tmp 4)]⟩ := by kernel_rfl
theorem m_laws_markLiteralS : modes 28 = ⟨[true], .asis, none, true⟩ := by unfold modes; rfl
abbrev MarkTS_Literal (xs : List Lt) : Prop := ∀ (k : Int) (ob : List Ob), 1 ≤ k → k + Lt.wtS xs ≤ 1099511627776 → toTree ob = [.tree (xs.map Lt.o) []] → E 28 [.ref 0, .int .i64 k] ob = some (.int .i64 (Lt.mkS xs k).2, [.tree ((Lt.mkS xs k).1.map Lt.o) []])
set_option maxHeartbeats 2000000 in
theorem markTS_Literal_of (xs : List Lt) : MarkTS_Literal xs := by
  intro k0 ob h1 h2 hob
  have hlen : ob.length = 1 := by rw [← toTree_len, hob]; rfl
  have hL := Lt.length_wt xs
  refine E_walk k_laws_markLiteralS m_laws_markLiteralS (of_decide_eq_true rfl) ?_
  simp (disch := omega) only [c_laws_markLiteralS, go_sem, go_cond, zA, zB, zC, zD, zE, zF, zG, zH, ↓reduceIte, zI, reduceCtorEq, zJ, zK, hob, hlen]
  refine go_loop (α := Int × (Int) × (List Lt)) (fun a => ⟨slots 39 0 [(0, .ref 0), (1, .int .i64 (a.2.1)), (5, .int .i64 (a.1))], [.tree (((a.2.2) ++ xs.drop (a.1).toNat).map Lt.o) []]⟩) (fun a => ∃ k : Nat, a.1 = k ∧ k ≤ (xs).length ∧ (a.2.2).length = k ∧ 1 ≤ (a.2.1) ∧ (a.2.1) + Lt.wtS (xs.drop k) = k0 + Lt.wtS xs ∧ Lt.mkS xs k0 = ((a.2.2) ++ (Lt.mkS (xs.drop k) (a.2.1)).1, (Lt.mkS (xs.drop k) (a.2.1)).2)) (fun a => (xs).length - (a.1).toNat) (0, k0, []) ⟨0, rfl, Nat.zero_le _, rfl, h1, by rw [List.drop_zero], by simp⟩ (by simp (disch := omega) only [go_sem, go_cond, zA, zB, zC, zD, zE, zF, zG, zH, ↓reduceIte, zI, reduceCtorEq, zJ, zK, Int.toNat_zero]) ?_
  rintro ⟨i, kk, dn⟩ ⟨k, hi, hk, hR⟩
  dsimp only at hi hR
  have hni : i.toNat = k := by omega
  have hni1 : (i + 1).toNat = k + 1 := by omega
  rcases Nat.lt_or_ge k (xs).length with hlt | hge
  · obtain ⟨hd, hk1, hkn, hm⟩ := hR
    have hdr : xs.drop k = xs[k] :: xs.drop (k + 1) := List.drop_eq_getElem_cons hlt
    have hel : (dn ++ xs.drop k).length = xs.length := by simp; omega
    have hg : (List.map Lt.o (dn ++ xs.drop k))[k]? = some [.bool xs[k].pos, .str xs[k].atom.name, .ow (xs[k].atom.args.map Tm.o)] := by
      rw [← Lt.o_eq, hdr, List.getElem?_map, List.getElem?_append_right (by omega), hd, Nat.sub_self]; rfl
    rw [hdr, Lt.wtS] at hkn
    rw [hdr, Lt.mkS] at hm
    have hn1 := Lt.wt_eq xs[k]
    have e2 := Tm.mkS_end xs[k].atom.args ((kk + 1 + 1))
    have t0 := markText_E (k := (kk + 1)) (by omega) (by omega)
    have c64 := markTS_Term xs[k].atom.args ((kk + 1 + 1)) [.tree (xs[k].atom.args.map Tm.o) []] (by omega) (by omega) rfl
    have hs := map_set_mid Lt.o dn (xs.drop (k + 1)) xs[k] (xs[k].mk1 kk).1 hd
    rw [Lt.mk1_o, ← hdr] at hs
    have hgs : ∀ a, ((List.map Lt.o (dn ++ xs.drop k)).set k a)[k]? = some a := fun a => List.getElem?_set_self (by rw [List.length_map, hel]; exact hlt)
    have he := Lt.mk1_end xs[k] kk
    have three : ∀ z : Int, dec ((3 : Int) = 0) = false := fun _ => dec_f (by omega)
    simp (disch := omega) only [go_sem, go_cond, zA, zB, zC, zD, zE, zF, zG, zH, ↓reduceIte, zI, reduceCtorEq, zJ, zK, hni, hel, hg, t0, c64, m_laws_markTermS, m_laws_markText, hgs, List.length_set, List.set_set, hs, three 0]
    refine ⟨(i + 1, (xs[k].mk1 kk).2, dn ++ [(xs[k].mk1 kk).1]), ⟨k + 1, by dsimp only; omega, hlt, by dsimp only; simp [hd], by dsimp only; omega, by dsimp only; omega, by rw [hm]; simp⟩, by dsimp only; omega, ?_⟩
    dsimp only
    rw [hni1, Lt.mk1_eq]
    refine ⟨⟨?_, rfl⟩, rfl⟩
    first | rfl | omega
  · obtain ⟨hd, hk1, hkn, hm⟩ := hR
    have hdr : xs.drop k = [] := List.drop_eq_nil_of_le hge
    rw [hdr, Lt.mkS] at hm
    rw [hm]
    simp (disch := omega) only [go_sem, go_cond, zA, zB, zC, zD, zE, zF, zG, zH, ↓reduceIte, zI, reduceCtorEq, zJ, zK, hni, hdr, List.append_nil]
theorem markTS_Literal (xs : List Lt) : MarkTS_Literal xs := markTS_Literal_of xs
def Bd.wt (x : Bd) : Nat := 2 + Tm.wtS x.term.args
theorem Bd.wt_eq (x : Bd) : x.wt = 2 + Tm.wtS x.term.args := rfl
noncomputable def Bd.mk1 (x : Bd) (k : Int) : Bd × Int := ((Bd.mk (markT k) (Tm.mk (markT (k + 1)) ((Tm.mkS x.term.args (k + 1 + 1)).1))), (Tm.mkS x.term.args (k + 1 + 1)).2)
theorem Bd.mk1_eq (x : Bd) (k : Int) : x.mk1 k = ((Bd.mk (markT k) (Tm.mk (markT (k + 1)) ((Tm.mkS x.term.args (k + 1 + 1)).1))), (Tm.mkS x.term.args (k + 1 + 1)).2) := rfl
def Bd.wtS : List Bd → Nat
  | [] => 0
  | x :: xs => Bd.wt x + Bd.wtS xs
noncomputable def Bd.mkS : List Bd → Int → List Bd × Int
  | [], k => ([], k)
  | x :: xs, k => ((Bd.mk1 x k).1 :: (Bd.mkS xs (Bd.mk1 x k).2).1, (Bd.mkS xs (Bd.mk1 x k).2).2)
theorem Bd.mk1_d (x : Bd) (k : Int) : Bd.d (x.mk1 k).1 = [.str (markT k), .str (markT (k + 1)), .arr ((Tm.mkS x.term.args (k + 1 + 1)).1.map Tm.d)] := by
  rw [Bd.mk1_eq, Bd.d_eq]
  try rfl
theorem Bd.mk1_o (x : Bd) (k : Int) : Bd.o (x.mk1 k).1 = [.str (markT k), .str (markT (k + 1)), .ow ((Tm.mkS x.term.args (k + 1 + 1)).1.map Tm.o)] := by
  rw [Bd.mk1_eq, Bd.o_eq]
  try rfl
theorem Bd.mk1_end (x : Bd) (k : Int) : (x.mk1 k).2 = k + x.wt := by
  rw [Bd.mk1_eq, Bd.wt_eq]
  first
    | omega
    | (simp only [Tm.mkS_end]; done)
    | (simp only [Tm.mkS_end]; omega)
    | simp
theorem Bd.mkS_end : ∀ (xs : List Bd) (k : Int), (Bd.mkS xs k).2 = k + Bd.wtS xs
  | [], k => by simp [Bd.mkS, Bd.wtS]
  | x :: xs, k => by
    rw [Bd.mkS, Bd.wtS]
    have h1 := Bd.mk1_end x k
    have h2 := Bd.mkS_end xs (x.mk1 k).2
    dsimp only
    omega
theorem Bd.wt_bulk (x : Bd) : x.wt ≤ 5 * (1 + x.bulk) := by
  rw [Bd.wt_eq, Bd.bulk_eq]
  have h0 := Tm.wtS_bulk x.term.args
  have q1 := Tm.bulk_eq x.term
  omega
theorem Bd.wtS_bulk : ∀ xs : List Bd, Bd.wtS xs ≤ 5 * (xs.length + Bd.sumB xs)
  | [] => by simp [Bd.wtS]
  | x :: xs => by
    have h1 := Bd.wt_bulk x
    have h2 := Bd.wtS_bulk xs
    rw [Bd.wtS, Bd.sumB]; simp only [List.length_cons]; omega
theorem Bd.length_wt : ∀ xs : List Bd, xs.length ≤ Bd.wtS xs
  | [] => Nat.le_refl _
  | x :: xs => by
    have := Bd.length_wt xs
    have := Bd.wt_eq x
    rw [Bd.wtS]; simp only [List.length_cons]; omega
def c_laws_markBindingS : SC := (.seq (.reg [⟨some 4, none, .mv (.c (.int .i64 0))⟩]) (.seq (.seq (.reg [⟨some 5, none, .mv (.c (.int .i64 0))⟩]) (.block 0 (.loop [1, 1, 0, 0, 0, 1, 0, 0, 0, 0, 0, 0, 0, 0, 0, 0, 0, 0, 0, 0, 0, 0, 0, 0, 0, 0, 0, 0, 0, 0, 0, 0, 0, 0, 0, 0, 0, 0] (.seq (.seq (.reg [⟨some 6, none, .mv (.t 5)⟩, ⟨some 7, none, .mv (.t 0)⟩, ⟨some 8, none, .len false (.t 7)⟩, ⟨some 9, none, .bin .lss false (.t 6) (.t 8)⟩]) (.cond (.t 9) .skip (.exit 0))) (.seq (.block 1 (.seq (.reg [⟨some 12, none, .mv (.t 0)⟩, ⟨some 13, none, .mv (.t 5)⟩, ⟨some 14, none, .mv (.t 1)⟩, ⟨some 15, none, .call 49 [(.t 14)]⟩, ⟨some 16, none, .iaddr 3 (.t 12) (.t 13)⟩, ⟨some 17, none, .faddr 0 (.t 16)⟩, ⟨none, none, (.store 1 (.t 17) (.t 15))⟩]) (.seq (.reg [⟨some 18, none, .mv (.t 1)⟩, ⟨some 19, none, .bin .add false (.t 18) (.c (.int .i64 1))⟩, ⟨some 1, none, .mv (.t 19)⟩]) (.seq (.reg [⟨some 20, none, .mv (.t 0)⟩, ⟨some 21, none, .mv (.t 5)⟩, ⟨some 22, none, .mv (.t 1)⟩, ⟨some 23, none, .call 49 [(.t 22)]⟩, ⟨some 24, none, .iaddr 3 (.t 20) (.t 21)⟩, ⟨some 25, none, .faddr 1 (.t 24)⟩, ⟨some 26, none, .faddr 0 (.t 25)⟩, ⟨none, none, (.store 1 (.t 26) (.t 23))⟩]) (.seq (.reg [⟨some 27, none, .mv (.t 1)⟩, ⟨some 28, none, .bin .add false (.t 27) (.c (.int .i64 1))⟩, ⟨some 1, none, .mv (.t 28)⟩]) (.reg [⟨some 29, none, .mv (.t 0)⟩, ⟨some 30, none, .mv (.t 5)⟩, ⟨some 31, none, .iaddr 3 (.t 29) (.t 30)⟩, ⟨some 32, none, .faddr 1 (.t 31)⟩, ⟨some 33, none, .faddr 1 (.t 32)⟩, ⟨some 34, none, .load false 1 (.t 33)⟩, ⟨some 35, none, .mv (.t 1)⟩, ⟨some 36, none, .call 50 [(.t 34), (.t 35)]⟩, ⟨some 1, none, .mv (.t 36)⟩])))))) (.reg [⟨some 10, none, .mv (.t 5)⟩, ⟨some 11, none, .bin .add false (.t 10) (.c (.int .i64 1))⟩, ⟨some 5, none, .mv (.t 11)⟩])))))) (.seq (.reg [⟨some 37, none, .mv (.t 1)⟩, ⟨some 4, none, .mv (.t 37)⟩]) .ret)))
theorem k_laws_markBindingS : codeOf Tryz.prog 27 = some ⟨38, c_laws_markBindingS, [(.tmp 4)]⟩ := by kernel_rfl
theorem m_laws_markBindingS : modes 27 = ⟨[true], .asis, none, true⟩ := by unfold modes; rfl
abbrev MarkTS_Binding (xs : List Bd) : Prop := ∀ (k : Int) (ob : List Ob), 1 ≤ k → k + Bd.wtS xs ≤ 1099511627776 → toTree ob = [.tree (xs.map Bd.o) []] → E 27 [.ref 0, .int .i64 k] ob = some (.int .i64 (Bd.mkS xs k).2, [.tree ((Bd.mkS xs k).1.map Bd.o) []])
set_option maxHeartbeats 2000000 in
theorem markTS_Binding_of (xs : List Bd) : MarkTS_Binding xs := by
  intro k0 ob h1 h2 hob
  have hlen : ob.length = 1 := by rw [← toTree_len, hob]; rfl
  have hL := Bd.length_wt xs
  refine E_walk k_laws_markBindingS m_laws_markBindingS (of_decide_eq_true rfl) ?_
  simp (disch := omega) only [c_laws_markBindingS, go_sem, go_cond, zA, zB, zC, zD, zE, zF, zG, zH, ↓reduceIte, zI, reduceCtorEq, zJ, zK, hob, hlen]
  refine go_loop (α := Int × (Int) × (List Bd)) (fun a => ⟨slots 38 0 [(0, .ref 0), (1, .int .i64 (a.2.1)), (5, .int .i64 (a.1))], [.tree (((a.2.2) ++ xs.drop (a.1).toNat).map Bd.o) []]⟩) (fun a => ∃ k : Nat, a.1 = k ∧ k ≤ (xs).length ∧ (a.2.2).length = k ∧ 1 ≤ (a.2.1) ∧ (a.2.1) + Bd.wtS (xs.drop k) = k0 + Bd.wtS xs ∧ Bd.mkS xs k0 = ((a.2.2) ++ (Bd.mkS (xs.drop k) (a.2.1)).1, (Bd.mkS (xs.drop k) (a.2.1)).2)) (fun a => (xs).length - (a.1).toNat) (0, k0, []) ⟨0, rfl, Nat.zero_le _, rfl, h1, by rw [List.drop_zero], by simp⟩ (by simp (disch := omega) only [go_sem, go_cond, zA, zB, zC, zD, zE, zF, zG, zH, ↓reduceIte, zI, reduceCtorEq, zJ, zK, Int.toNat_zero]) ?_
  rintro ⟨i, kk, dn⟩ ⟨k, hi, hk, hR⟩
  dsimp only at hi hR
  have hni : i.toNat = k := by omega
  have hni1 : (i + 1).toNat = k + 1 := by omega
  rcases Nat.lt_or_ge k (xs).length with hlt | hge
  · obtain ⟨hd, hk1, hkn, hm⟩ := hR
    have hdr : xs.drop k = xs[k] :: xs.drop (k + 1) := List.drop_eq_getElem_cons hlt
    have hel : (dn ++ xs.drop k).length = xs.length := by simp; omega
    have hg : (List.map Bd.o (dn ++ xs.drop k))[k]? = some [.str xs[k].var, .str xs[k].term.name, .ow (xs[k].term.args.map Tm.o)] := by
      rw [← Bd.o_eq, hdr, List.getElem?_map, List.getElem?_append_right (by omega), hd, Nat.sub_self]; rfl
    rw [hdr, Bd.wtS] at hkn
    rw [hdr, Bd.mkS] at hm
    have hn1 := Bd.wt_eq xs[k]
    have e2 := Tm.mkS_end xs[k].term.args ((kk + 1 + 1))
    have t0 := markText_E (k := kk) (by omega) (by omega)
    have t58 := markText_E (k := (kk + 1)) (by omega) (by omega)
    have c123 := markTS_Term xs[k].term.args ((kk + 1 + 1)) [.tree (xs[k].term.args.map Tm.o) []] (by omega) (by omega) rfl
    have hs := map_set_mid Bd.o dn (xs.drop (k + 1)) xs[k] (xs[k].mk1 kk).1 hd
    rw [Bd.mk1_o, ← hdr] at hs
    have hgs : ∀ a, ((List.map Bd.o (dn ++ xs.drop k)).set k a)[k]? = some a := fun a => List.getElem?_set_self (by rw [List.length_map, hel]; exact hlt)
    have he := Bd.mk1_end xs[k] kk
    have three : ∀ z : Int, dec ((3 : Int) = 0) = false := fun _ => dec_f (by omega)
    simp (disch := omega) only [go_sem, go_cond, zA, zB, zC, zD, zE, zF, zG, zH, ↓reduceIte, zI, reduceCtorEq, zJ, zK, hni, hel, hg, t0, t58, c123, m_laws_markTermS, m_laws_markText, hgs, List.length_set, List.set_set, hs, three 0]
    refine ⟨(i + 1, (xs[k].mk1 kk).2, dn ++ [(xs[k].mk1 kk).1]), ⟨k + 1, by dsimp only; omega, hlt, by dsimp only; simp [hd], by dsimp only; omega, by dsimp only; omega, by rw [hm]; simp⟩, by dsimp only; omega, ?_⟩
    dsimp only
    rw [hni1, Bd.mk1_eq]
    refine ⟨⟨?_, rfl⟩, rfl⟩
    first | rfl | omega
  · obtain ⟨hd, hk1, hkn, hm⟩ := hR
    have hdr : xs.drop k = [] := List.drop_eq_nil_of_le hge
    rw [hdr, Bd.mkS] at hm
    rw [hm]
    simp (disch := omega) only [go_sem, go_cond, zA, zB, zC, zD, zE, zF, zG, zH, ↓reduceIte, zI, reduceCtorEq, zJ, zK, hni, hdr, List.append_nil]
theorem markTS_Binding (xs : List Bd) : MarkTS_Binding xs := markTS_Binding_of xs
def c_laws_heldTermS : SC := (.seq (.reg [⟨some 4, none, .mv (.c (.int .i64 0))⟩]) (.seq (.seq (.reg [⟨some 5, none, .mv (.c (.int .i64 0))⟩]) (.block 0 (.loop [1, 1, 0, 0, 0, 1, 0, 0, 0, 0, 0, 0, 0, 0, 0, 0, 0, 0, 0, 0, 0, 0, 0, 0, 0, 0, 0, 0, 0, 0, 0, 0] (.seq (.seq (.reg [⟨some 6, none, .mv (.t 5)⟩, ⟨some 7, none, .mv (.t 0)⟩, ⟨some 8, none, .len false (.t 7)⟩, ⟨some 9, none, .bin .lss false (.t 6) (.t 8)⟩]) (.cond (.t 9) .skip (.exit 0))) (.seq (.block 1 (.seq (.seq (.dreg [[], [], [0, 1], [2, 0, 1], [3, 2, 0, 1], [], [5], [4, 3, 2, 0, 1, 6, 5]] [⟨some 12, none, .mv (.t 0)⟩, ⟨some 13, none, .mv (.t 5)⟩, ⟨some 14, none, .iaddr 2 (.t 12) (.t 13)⟩, ⟨some 15, none, .faddr 0 (.t 14)⟩, ⟨some 16, none, .load false 1 (.t 15)⟩, ⟨some 17, none, .mv (.t 1)⟩, ⟨some 18, none, .call 49 [(.t 17)]⟩, ⟨some 19, none, .bin .neq false (.t 16) (.t 18)⟩]) (.cond (.t 19) (.seq (.reg [⟨some 4, none, .mv (.c (.int .i64 (-(0 + 1))))⟩]) .ret) .skip)) (.seq (.reg [⟨some 20, none, .mv (.t 1)⟩, ⟨some 21, none, .bin .add false (.t 20) (.c (.int .i64 1))⟩, ⟨some 1, none, .mv (.t 21)⟩]) (.seq (.reg [⟨some 22, none, .mv (.t 0)⟩, ⟨some 23, none, .mv (.t 5)⟩, ⟨some 24, none, .iaddr 2 (.t 22) (.t 23)⟩, ⟨some 25, none, .faddr 1 (.t 24)⟩, ⟨some 26, none, .load false 1 (.t 25)⟩, ⟨some 27, none, .mv (.t 1)⟩, ⟨some 28, none, .call 51 [(.t 26), (.t 27)]⟩, ⟨some 1, none, .mv (.t 28)⟩]) (.seq (.reg [⟨some 29, none, .mv (.t 1)⟩, ⟨some 30, none, .bin .lss false (.t 29) (.c (.int .i64 0))⟩]) (.cond (.t 30) (.seq (.reg [⟨some 4, none, .mv (.c (.int .i64 (-(0 + 1))))⟩]) .ret) .skip)))))) (.reg [⟨some 10, none, .mv (.t 5)⟩, ⟨some 11, none, .bin .add false (.t 10) (.c (.int .i64 1))⟩, ⟨some 5, none, .mv (.t 11)⟩])))))) (.seq (.reg [⟨some 31, none, .mv (.t 1)⟩, ⟨some 4, none, .mv (.t 31)⟩]) .ret)))
theorem k_laws_heldTermS : codeOf Tryz.prog 51 = some ⟨32, c_laws_heldTermS, [(.tmp 4)]⟩ := by kernel_rfl
theorem m_laws_heldTermS : modes 51 = ⟨[], .asis, none, false⟩ := by unfold modes; rfl
theorem Tm.mkS_len : ∀ (xs : List Tm) (k : Int), (Tm.mkS xs k).1.length = xs.length
  | [], k => by rw [Tm.mkS]
  | x :: xs, k => by rw [Tm.mkS]; simp only [List.length_cons]; rw [Tm.mkS_len xs]
abbrev HeldTS_Term (xs : List Tm) : Prop := ∀ k : Int, 1 ≤ k → k + Tm.wtS xs ≤ 1099511627776 → E 51 [.arr ((Tm.mkS xs k).1.map Tm.d), .int .i64 k] [] = some (.int .i64 (Tm.mkS xs k).2, [])
set_option maxHeartbeats 2000000 in
theorem heldTS_Term_of (xs : List Tm) (ih : ∀ x ∈ xs, HeldTS_Term x.args) : HeldTS_Term xs := by
  intro k0 h1 h2
  obtain ⟨ys, hys⟩ : ∃ ys, ys = (Tm.mkS xs k0).1 := ⟨_, rfl⟩
  have hyl : ys.length = xs.length := by rw [hys, Tm.mkS_len]
  rw [← hys]
  have hL := Tm.length_wt xs
  refine E_walk k_laws_heldTermS m_laws_heldTermS (of_decide_eq_true rfl) ?_
  simp (disch := omega) only [c_laws_heldTermS, go_sem, go_cond, zA, zB, zC, zD, zE, zF, zG, zH, ↓reduceIte, zI, reduceCtorEq, zJ, zK]
  refine go_loop (α := Int × (Int)) (fun a => ⟨slots 32 0 [(0, .arr (ys.map Tm.d)), (1, .int .i64 (a.2)), (5, .int .i64 (a.1))], []⟩) (fun a => ∃ k : Nat, a.1 = k ∧ k ≤ (ys).length ∧ 1 ≤ (a.2) ∧ (a.2) + Tm.wtS (xs.drop k) = k0 + Tm.wtS xs ∧ ys.drop k = (Tm.mkS (xs.drop k) (a.2)).1 ∧ (Tm.mkS xs k0).2 = (Tm.mkS (xs.drop k) (a.2)).2) (fun a => (ys).length - (a.1).toNat) (0, k0) ⟨0, rfl, Nat.zero_le _, h1, by rw [List.drop_zero], by rw [List.drop_zero, List.drop_zero, hys], by rw [List.drop_zero]⟩ (by simp (disch := omega) only [go_sem, go_cond, zA, zB, zC, zD, zE, zF, zG, zH, ↓reduceIte, zI, reduceCtorEq, zJ, zK]) ?_
  rintro ⟨i, kk⟩ ⟨k, hi, hk, hR⟩
  dsimp only at hi hR
  have hni : i.toNat = k := by omega
  have hni1 : (i + 1).toNat = k + 1 := by omega
  rcases Nat.lt_or_ge k (ys).length with hlt | hge
  · obtain ⟨hk1, hkn, hy, hm⟩ := hR
    have hlx : k < xs.length := by omega
    have hdr : xs.drop k = xs[k] :: xs.drop (k + 1) := List.drop_eq_getElem_cons hlx
    have hdy := List.drop_eq_getElem_cons hlt
    rw [hdr, Tm.wtS] at hkn
    rw [hdr, Tm.mkS] at hm
    rw [hdr, Tm.mkS, hdy] at hy
    dsimp only at hy hm
    obtain ⟨hy1, hy2⟩ := List.cons.inj hy
    have hg := get_at Tm.d hlt
    rw [hy1, Tm.mk1_d] at hg
    have hn1 := Tm.wt_eq xs[k]
    have e1 := Tm.mkS_end xs[k].args ((kk + 1))
    have t0 := markText_E (k := kk) (by omega) (by omega)
    have c58 := ih xs[k] (List.getElem_mem hlx) ((kk + 1)) (by omega) (by omega)
    have he := Tm.mk1_end xs[k] kk
    simp (disch := omega) only [go_sem, go_cond, zA, zB, zC, zD, zE, zF, zG, zH, ↓reduceIte, zI, reduceCtorEq, zJ, zK, hni, hg, m_laws_markText, dec_refl, t0, c58, m_laws_heldTermS]
    refine ⟨(i + 1, (xs[k].mk1 kk).2), ⟨k + 1, by dsimp only; omega, hlt, by dsimp only; omega, by dsimp only; omega, hy2, hm⟩, by dsimp only; omega, ?_⟩
    dsimp only
    rw [Tm.mk1_eq]
    simp only [and_self, and_true, true_and]
    try omega
  · obtain ⟨hk1, hkn, hy, hm⟩ := hR
    have hdr : xs.drop k = [] := List.drop_eq_nil_of_le (by omega)
    rw [hdr, Tm.mkS] at hm
    rw [hm]
    simp (disch := omega) only [go_sem, go_cond, zA, zB, zC, zD, zE, zF, zG, zH, ↓reduceIte, zI, reduceCtorEq, zJ, zK, hni]
theorem heldTS1_Term (x : Tm) : HeldTS_Term x.args := heldTS_Term_of x.args fun y hy => heldTS1_Term y
termination_by SizeOf.sizeOf x
decreasing_by exact Tm.lt_of_mem hy
theorem heldTS_Term (xs : List Tm) : HeldTS_Term xs := heldTS_Term_of xs fun y _ => heldTS1_Term y
def c_laws_heldLiteralS : SC := (.seq (.reg [⟨some 4, none, .mv (.c (.int .i64 0))⟩]) (.seq (.seq (.reg [⟨some 5, none, .mv (.c (.int .i64 0))⟩]) (.block 0 (.loop [1, 1, 0, 0, 0, 1, 0, 0, 0, 0, 0, 0, 0, 0, 0, 0, 0, 0, 0, 0, 0, 0, 0, 0, 0, 0, 0, 0, 0, 0, 0, 0, 0, 0, 0, 0, 0, 0, 0, 0, 0, 0, 0, 0, 0] (.seq (.seq (.reg [⟨some 6, none, .mv (.t 5)⟩, ⟨some 7, none, .mv (.t 0)⟩, ⟨some 8, none, .len false (.t 7)⟩, ⟨some 9, none, .bin .lss false (.t 6) (.t 8)⟩]) (.cond (.t 9) .skip (.exit 0))) (.seq (.block 1 (.seq (.seq (.reg [⟨some 12, none, .mv (.t 0)⟩, ⟨some 13, none, .mv (.t 5)⟩, ⟨some 14, none, .iaddr 3 (.t 12) (.t 13)⟩, ⟨some 15, none, .faddr 0 (.t 14)⟩, ⟨some 16, none, .load false 1 (.t 15)⟩, ⟨some 17, none, .mv (.t 1)⟩, ⟨some 18, none, .bin .rem false (.t 17) (.c (.int .i64 3))⟩, ⟨some 19, none, .bin .eql false (.t 18) (.c (.int .i64 0))⟩, ⟨some 20, none, .bin .neq true (.t 16) (.t 19)⟩]) (.cond (.t 20) (.seq (.reg [⟨some 4, none, .mv (.c (.int .i64 (-(0 + 1))))⟩]) .ret) .skip)) (.seq (.reg [⟨some 21, none, .mv (.t 1)⟩, ⟨some 22, none, .bin .add false (.t 21) (.c (.int .i64 1))⟩, ⟨some 1, none, .mv (.t 22)⟩]) (.seq (.seq (.dreg [[], [], [0, 1], [2, 0, 1], [3, 2, 0, 1], [4, 3, 2, 0, 1], [], [6], [5, 4, 3, 2, 0, 1, 7, 6]] [⟨some 23, none, .mv (.t 0)⟩, ⟨some 24, none, .mv (.t 5)⟩, ⟨some 25, none, .iaddr 3 (.t 23) (.t 24)⟩, ⟨some 26, none, .faddr 1 (.t 25)⟩, ⟨some 27, none, .faddr 0 (.t 26)⟩, ⟨some 28, none, .load false 1 (.t 27)⟩, ⟨some 29, none, .mv (.t 1)⟩, ⟨some 30, none, .call 49 [(.t 29)]⟩, ⟨some 31, none, .bin .neq false (.t 28) (.t 30)⟩]) (.cond (.t 31) (.seq (.reg [⟨some 4, none, .mv (.c (.int .i64 (-(0 + 1))))⟩]) .ret) .skip)) (.seq (.reg [⟨some 32, none, .mv (.t 1)⟩, ⟨some 33, none, .bin .add false (.t 32) (.c (.int .i64 1))⟩, ⟨some 1, none, .mv (.t 33)⟩]) (.seq (.reg [⟨some 34, none, .mv (.t 0)⟩, ⟨some 35, none, .mv (.t 5)⟩, ⟨some 36, none, .iaddr 3 (.t 34) (.t 35)⟩, ⟨some 37, none, .faddr 1 (.t 36)⟩, ⟨some 38, none, .faddr 1 (.t 37)⟩, ⟨some 39, none, .load false 1 (.t 38)⟩, ⟨some 40, none, .mv (.t 1)⟩, ⟨some 41, none, .call 51 [(.t 39), (.t 40)]⟩, ⟨some 1, none, .mv (.t 41)⟩]) (.seq (.reg [⟨some 42, none, .mv (.t 1)⟩, ⟨some 43, none, .bin .lss false (.t 42) (.c (.int .i64 0))⟩]) (.cond (.t 43) (.seq (.reg [⟨some 4, none, .mv (.c (.int .i64 (-(0 + 1))))⟩]) .ret) .skip)))))))) (.reg [⟨some 10, none, .mv (.t 5)⟩, ⟨some 11, none, .bin .add false (.t 10) (.c (.int .i64 1))⟩, ⟨some 5, none, .mv (.t 11)⟩])))))) (.seq (.reg [⟨some 44, none, .mv (.t 1)⟩, ⟨some 4, none, .mv (.t 44)⟩]) .ret)))
theorem k_laws_heldLiteralS : codeOf Tryz.prog 29 = some ⟨45, c_laws_heldLiteralS, [(.tmp 4)]⟩ := by kernel_rfl
theorem m_laws_heldLiteralS : modes 29 = ⟨[], .asis, none, false⟩ := by unfold modes; rfl
theorem Lt.mkS_len : ∀ (xs : List Lt) (k : Int), (Lt.mkS xs k).1.length = xs.length
  | [], k => by rw [Lt.mkS]
  | x :: xs, k => by rw [Lt.mkS]; simp only [List.length_cons]; rw [Lt.mkS_len xs]
abbrev HeldTS_Literal (xs : List Lt) : Prop := ∀ k : Int, 1 ≤ k → k + Lt.wtS xs ≤ 1099511627776 → E 29 [.arr ((Lt.mkS xs k).1.map Lt.d), .int .i64 k] [] = some (.int .i64 (Lt.mkS xs k).2, [])
set_option maxHeartbeats 2000000 in
theorem heldTS_Literal_of (xs : List Lt) : HeldTS_Literal xs := by
  intro k0 h1 h2
  obtain ⟨ys, hys⟩ : ∃ ys, ys = (Lt.mkS xs k0).1 := ⟨_, rfl⟩
  have hyl : ys.length = xs.length := by rw [hys, Lt.mkS_len]
  rw [← hys]
  have hL := Lt.length_wt xs
  refine E_walk k_laws_heldLiteralS m_laws_heldLiteralS (of_decide_eq_true rfl) ?_
  simp (disch := omega) only [c_laws_heldLiteralS, go_sem, go_cond, zA, zB, zC, zD, zE, zF, zG, zH, ↓reduceIte, zI, reduceCtorEq, zJ, zK]
  refine go_loop (α := Int × (Int)) (fun a => ⟨slots 45 0 [(0, .arr (ys.map Lt.d)), (1, .int .i64 (a.2)), (5, .int .i64 (a.1))], []⟩) (fun a => ∃ k : Nat, a.1 = k ∧ k ≤ (ys).length ∧ 1 ≤ (a.2) ∧ (a.2) + Lt.wtS (xs.drop k) = k0 + Lt.wtS xs ∧ ys.drop k = (Lt.mkS (xs.drop k) (a.2)).1 ∧ (Lt.mkS xs k0).2 = (Lt.mkS (xs.drop k) (a.2)).2) (fun a => (ys).length - (a.1).toNat) (0, k0) ⟨0, rfl, Nat.zero_le _, h1, by rw [List.drop_zero], by rw [List.drop_zero, List.drop_zero, hys], by rw [List.drop_zero]⟩ (by simp (disch := omega) only [go_sem, go_cond, zA, zB, zC, zD, zE, zF, zG, zH, ↓reduceIte, zI, reduceCtorEq, zJ, zK]) ?_
  rintro ⟨i, kk⟩ ⟨k, hi, hk, hR⟩
  dsimp only at hi hR
  have hni : i.toNat = k := by omega
  have hni1 : (i + 1).toNat = k + 1 := by omega
  rcases Nat.lt_or_ge k (ys).length with hlt | hge
  · obtain ⟨hk1, hkn, hy, hm⟩ := hR
    have hlx : k < xs.length := by omega
    have hdr : xs.drop k = xs[k] :: xs.drop (k + 1) := List.drop_eq_getElem_cons hlx
    have hdy := List.drop_eq_getElem_cons hlt
    rw [hdr, Lt.wtS] at hkn
    rw [hdr, Lt.mkS] at hm
    rw [hdr, Lt.mkS, hdy] at hy
    dsimp only at hy hm
    obtain ⟨hy1, hy2⟩ := List.cons.inj hy
    have hg := get_at Lt.d hlt
    rw [hy1, Lt.mk1_d] at hg
    have hn1 := Lt.wt_eq xs[k]
    have e2 := Tm.mkS_end xs[k].atom.args ((kk + 1 + 1))
    have t0 := markText_E (k := (kk + 1)) (by omega) (by omega)
    have c64 := heldTS_Term xs[k].atom.args ((kk + 1 + 1)) (by omega) (by omega)
    have he := Lt.mk1_end xs[k] kk
    simp (disch := omega) only [go_sem, go_cond, zA, zB, zC, zD, zE, zF, zG, zH, ↓reduceIte, zI, reduceCtorEq, zJ, zK, hni, hg, m_laws_markText, dec_refl, t0, c64, m_laws_heldTermS]
    refine ⟨(i + 1, (xs[k].mk1 kk).2), ⟨k + 1, by dsimp only; omega, hlt, by dsimp only; omega, by dsimp only; omega, hy2, hm⟩, by dsimp only; omega, ?_⟩
    dsimp only
    rw [Lt.mk1_eq]
    simp only [and_self, and_true, true_and]
    try omega
  · obtain ⟨hk1, hkn, hy, hm⟩ := hR
    have hdr : xs.drop k = [] := List.drop_eq_nil_of_le (by omega)
    rw [hdr, Lt.mkS] at hm
    rw [hm]
    simp (disch := omega) only [go_sem, go_cond, zA, zB, zC, zD, zE, zF, zG, zH, ↓reduceIte, zI, reduceCtorEq, zJ, zK, hni]
theorem heldTS_Literal (xs : List Lt) : HeldTS_Literal xs := heldTS_Literal_of xs
theorem toTree1 {o : Ob} {es : List (List OT)} (h : toTree [o] = [.tree es []]) : (∃ a b, o = .row a b es) ∨ o = .tree es [] := by
  cases o with
  | row a b e => obtain ⟨h1, h2⟩ := List.cons.inj h; cases h1; exact .inl ⟨a, b, rfl⟩
  | tree e hs => obtain ⟨h1, h2⟩ := List.cons.inj h; cases h1; exact .inr rfl
  | _ => simp [toTree] at h
noncomputable def Sb.mkr (x : Sb) (k : Int) : Sb × Int := ((Sb.mk ((Bd.mkS x.binds k).1)), (Bd.mkS x.binds k).2)
def c_laws_markSubstitution : SC := (.seq (.reg [⟨some 2, none, .boxv 37 1 (.t 0)⟩, ⟨some 4, none, .mv (.c (.int .i64 0))⟩]) (.seq (.reg [⟨some 5, none, .faddr 0 (.t 2)⟩, ⟨some 6, none, .load false 1 (.t 5)⟩, ⟨some 7, none, .mv (.t 1)⟩, ⟨some 8, none, .call 27 [(.t 6), (.t 7)]⟩, ⟨some 1, none, .mv (.t 8)⟩]) (.seq (.reg [⟨some 9, none, .mv (.t 1)⟩, ⟨some 4, none, .mv (.t 9)⟩]) .ret)))
theorem k_laws_markSubstitution : codeOf Tryz.prog 12 = some ⟨10, c_laws_markSubstitution, [(.tmp 4)]⟩ := by kernel_rfl
theorem m_laws_markSubstitution : modes 12 = ⟨[true], .asis, none, false⟩ := by unfold modes; rfl
set_option maxHeartbeats 1000000 in
theorem markT_Substitution (x : Sb) (k : Int) (o0 : Ob) (h1 : 1 ≤ k) (h2 : k + (Bd.wtS x.binds : Nat) ≤ 1099511627776) (t0 : toTree [o0] = [.tree (x.binds.map Bd.o) []]) : E 12 [.agg [.ref 0], .int .i64 k] [o0] = some (.int .i64 (x.mkr k).2, [.tree ((Bd.mkS x.binds k).1.map Bd.o) []]) := by
  have e0 := Bd.mkS_end x.binds k
  rw [Sb.mkr]
  dsimp only
  have c0 := markTS_Binding x.binds k [o0] (by omega) (by omega) t0
  rcases toTree1 t0 with ⟨a0, b0, rfl⟩ | rfl <;>
   (
    refine E_walk k_laws_markSubstitution m_laws_markSubstitution (of_decide_eq_true rfl) ?_
    simp (disch := omega) only [c_laws_markSubstitution, go_sem, go_cond, zA, zB, zC, zD, zE, zF, zG, zH, ↓reduceIte, zI, reduceCtorEq, zJ, zK, c0, m_laws_markBindingS])
noncomputable def Cl.mkr (x : Cl) (k : Int) : Cl × Int := ((Cl.mk ((Lt.mkS x.lits k).1)), (Lt.mkS x.lits k).2)
def c_laws_markClause : SC := (.seq (.reg [⟨some 2, none, .boxv 32 1 (.t 0)⟩, ⟨some 4, none, .mv (.c (.int .i64 0))⟩]) (.seq (.reg [⟨some 5, none, .faddr 0 (.t 2)⟩, ⟨some 6, none, .load false 1 (.t 5)⟩, ⟨some 7, none, .mv (.t 1)⟩, ⟨some 8, none, .call 28 [(.t 6), (.t 7)]⟩, ⟨some 1, none, .mv (.t 8)⟩]) (.seq (.reg [⟨some 9, none, .mv (.t 1)⟩, ⟨some 4, none, .mv (.t 9)⟩]) .ret)))
theorem k_laws_markClause : codeOf Tryz.prog 13 = some ⟨10, c_laws_markClause, [(.tmp 4)]⟩ := by kernel_rfl
theorem m_laws_markClause : modes 13 = ⟨[true], .asis, none, false⟩ := by unfold modes; rfl
set_option maxHeartbeats 1000000 in
theorem markT_Clause (x : Cl) (k : Int) (o0 : Ob) (h1 : 1 ≤ k) (h2 : k + (Lt.wtS x.lits : Nat) ≤ 1099511627776) (t0 : toTree [o0] = [.tree (x.lits.map Lt.o) []]) : E 13 [.agg [.ref 0], .int .i64 k] [o0] = some (.int .i64 (x.mkr k).2, [.tree ((Lt.mkS x.lits k).1.map Lt.o) []]) := by
  have e0 := Lt.mkS_end x.lits k
  rw [Cl.mkr]
  dsimp only
  have c0 := markTS_Literal x.lits k [o0] (by omega) (by omega) t0
  rcases toTree1 t0 with ⟨a0, b0, rfl⟩ | rfl <;>
   (
    refine E_walk k_laws_markClause m_laws_markClause (of_decide_eq_true rfl) ?_
    simp (disch := omega) only [c_laws_markClause, go_sem, go_cond, zA, zB, zC, zD, zE, zF, zG, zH, ↓reduceIte, zI, reduceCtorEq, zJ, zK, c0, m_laws_markLiteralS])
def c_laws_heldClause : SC := (.seq (.reg [⟨some 2, none, .boxv 32 1 (.t 0)⟩, ⟨some 4, none, .mv (.c (.int .i64 0))⟩]) (.seq (.reg [⟨some 5, none, .faddr 0 (.t 2)⟩, ⟨some 6, none, .load false 1 (.t 5)⟩, ⟨some 7, none, .mv (.t 1)⟩, ⟨some 8, none, .call 29 [(.t 6), (.t 7)]⟩, ⟨some 1, none, .mv (.t 8)⟩]) (.seq (.seq (.reg [⟨some 9, none, .mv (.t 1)⟩, ⟨some 10, none, .bin .lss false (.t 9) (.c (.int .i64 0))⟩]) (.cond (.t 10) (.seq (.reg [⟨some 4, none, .mv (.c (.int .i64 (-(0 + 1))))⟩]) .ret) .skip)) (.seq (.reg [⟨some 11, none, .mv (.t 1)⟩, ⟨some 4, none, .mv (.t 11)⟩]) .ret))))
theorem k_laws_heldClause : codeOf Tryz.prog 14 = some ⟨12, c_laws_heldClause, [(.tmp 4)]⟩ := by kernel_rfl
theorem m_laws_heldClause : modes 14 = ⟨[], .asis, none, false⟩ := by unfold modes; rfl
set_option maxHeartbeats 1000000 in
theorem heldT_Clause (x : Cl) (k : Int) (h1 : 1 ≤ k) (h2 : k + (Lt.wtS x.lits : Nat) ≤ 1099511627776) : E 14 [.agg [.arr ((Lt.mkS x.lits k).1.map Lt.d)], .int .i64 k] [] = some (.int .i64 (x.mkr k).2, []) := by
  have e0 := Lt.mkS_end x.lits k
  rw [Cl.mkr]
  dsimp only
  have c0 := heldTS_Literal x.lits k (by omega) (by omega)
  refine E_walk k_laws_heldClause m_laws_heldClause (of_decide_eq_true rfl) ?_
  simp (disch := omega) only [c_laws_heldClause, go_sem, go_cond, zA, zB, zC, zD, zE, zF, zG, zH, ↓reduceIte, zI, reduceCtorEq, zJ, zK, c0, m_laws_heldLiteralS]
def c_laws_szTerm : SC := (.seq (.reg [⟨some 2, none, .boxv 60 2 (.t 0)⟩, ⟨some 4, none, .mv (.c (.int .i64 0))⟩]) (.seq (.reg [⟨some 5, none, .mv (.t 1)⟩, ⟨some 6, none, .faddr 0 (.t 2)⟩, ⟨some 7, none, .load false 1 (.t 6)⟩, ⟨some 8, none, .len true (.t 7)⟩, ⟨some 9, none, .bin .sub false (.t 5) (.t 8)⟩, ⟨some 1, none, .mv (.t 9)⟩]) (.seq (.seq (.reg [⟨some 10, none, .mv (.t 1)⟩, ⟨some 11, none, .bin .lss false (.t 10) (.c (.int .i64 0))⟩]) (.cond (.t 11) (.seq (.reg [⟨some 4, none, .mv (.c (.int .i64 (-(0 + 1))))⟩]) .ret) .skip)) (.seq (.reg [⟨some 12, none, .faddr 1 (.t 2)⟩, ⟨some 13, none, .load false 1 (.t 12)⟩, ⟨some 14, none, .mv (.t 1)⟩, ⟨some 15, none, .call 79 [(.t 13), (.t 14)]⟩, ⟨some 1, none, .mv (.t 15)⟩]) (.seq (.seq (.reg [⟨some 16, none, .mv (.t 1)⟩, ⟨some 17, none, .bin .lss false (.t 16) (.c (.int .i64 0))⟩]) (.cond (.t 17) (.seq (.reg [⟨some 4, none, .mv (.c (.int .i64 (-(0 + 1))))⟩]) .ret) .skip)) (.seq (.reg [⟨some 18, none, .mv (.t 1)⟩, ⟨some 4, none, .mv (.t 18)⟩]) .ret))))))
theorem k_laws_szTerm : codeOf Tryz.prog 52 = some ⟨19, c_laws_szTerm, [(.tmp 4)]⟩ := by kernel_rfl
theorem m_laws_szTerm : modes 52 = ⟨[], .asis, none, false⟩ := by unfold modes; rfl
def c_laws_szTermS : SC := (.seq (.reg [⟨some 4, none, .mv (.c (.int .i64 0))⟩]) (.seq (.reg [⟨some 6, none, .mv (.t 1)⟩, ⟨some 7, none, .mv (.t 0)⟩, ⟨some 8, none, .len false (.t 7)⟩, ⟨some 9, none, .bin .sub false (.t 6) (.t 8)⟩, ⟨some 1, none, .mv (.t 9)⟩]) (.seq (.seq (.reg [⟨some 10, none, .mv (.t 1)⟩, ⟨some 11, none, .bin .lss false (.t 10) (.c (.int .i64 0))⟩]) (.cond (.t 11) (.seq (.reg [⟨some 4, none, .mv (.c (.int .i64 (-(0 + 1))))⟩]) .ret) .skip)) (.seq (.seq (.reg [⟨some 5, none, .mv (.c (.int .i64 0))⟩]) (.block 0 (.loop [1, 1, 0, 0, 0, 1, 0, 0, 0, 0, 0, 0, 0, 0, 0, 0, 0, 0, 0, 0, 0, 0, 0, 0, 0, 0, 0] (.seq (.seq (.reg [⟨some 12, none, .mv (.t 5)⟩, ⟨some 13, none, .mv (.t 0)⟩, ⟨some 14, none, .len false (.t 13)⟩, ⟨some 15, none, .bin .lss false (.t 12) (.t 14)⟩]) (.cond (.t 15) .skip (.exit 0))) (.seq (.block 1 (.seq (.reg [⟨some 18, none, .mv (.t 0)⟩, ⟨some 19, none, .mv (.t 5)⟩, ⟨some 20, none, .iaddr 2 (.t 18) (.t 19)⟩, ⟨some 21, none, .load true 2 (.t 20)⟩, ⟨some 22, none, .mv (.t 1)⟩, ⟨some 23, none, .call 52 [(.t 21), (.t 22)]⟩, ⟨some 1, none, .mv (.t 23)⟩]) (.seq (.reg [⟨some 24, none, .mv (.t 1)⟩, ⟨some 25, none, .bin .lss false (.t 24) (.c (.int .i64 0))⟩]) (.cond (.t 25) (.seq (.reg [⟨some 4, none, .mv (.c (.int .i64 (-(0 + 1))))⟩]) .ret) .skip)))) (.reg [⟨some 16, none, .mv (.t 5)⟩, ⟨some 17, none, .bin .add false (.t 16) (.c (.int .i64 1))⟩, ⟨some 5, none, .mv (.t 17)⟩])))))) (.seq (.reg [⟨some 26, none, .mv (.t 1)⟩, ⟨some 4, none, .mv (.t 26)⟩]) .ret)))))
theorem k_laws_szTermS : codeOf Tryz.prog 79 = some ⟨27, c_laws_szTermS, [(.tmp 4)]⟩ := by kernel_rfl
theorem m_laws_szTermS : modes 79 = ⟨[], .asis, none, false⟩ := by unfold modes; rfl
abbrev SzT_Term (x : Tm) : Prop := D.fits x.d → ∀ left : Int, 0 ≤ left → left ≤ 1048576 → E 52 [x.sv, .int .i64 left] [] = some (.int .i64 (szR left x.bulk), [])
abbrev SzTS_Term (xs : List Tm) : Prop := D.fit (.arr (xs.map Tm.d)) → ∀ left : Int, 0 ≤ left → left ≤ 1048576 → E 79 [.arr (xs.map Tm.d), .int .i64 left] [] = some (.int .i64 (szR left (xs.length + Tm.sumB xs : Nat)), [])
set_option maxHeartbeats 1000000 in
theorem szTS_Term_of (xs : List Tm) (h : ∀ x ∈ xs, SzT_Term x) : SzTS_Term xs := by
  intro hfit left h0 h1
  simp only [D.fit, List.length_map] at hfit
  have q0 := szR_spec left (xs.length + Tm.sumB xs)
  refine E_walk k_laws_szTermS m_laws_szTermS (of_decide_eq_true rfl) ?_
  simp (disch := omega) only [c_laws_szTermS, go_sem, go_cond, zA, zB, zC, zD, zE, zF, zG, zH, ↓reduceIte, zI, reduceCtorEq, zJ, zK]
  repeat' (refine boolP_split (fun hq => ?_) (fun hq => ?_) <;> (first | replace hq := dec_iff.1 hq | replace hq := dec_not.1 hq) <;> (try simp (disch := omega) only [go_sem, go_cond, zA, zB, zC, zD, zE, zF, zG, zH, ↓reduceIte, zI, reduceCtorEq, zJ, zK]))
  · omega
  refine go_loop (α := Int × Int) (fun a => ⟨slots 27 0 [(0, .arr (xs.map Tm.d)), (1, .int .i64 a.2), (5, .int .i64 a.1)], []⟩) (fun a => ∃ k : Nat, a.1 = k ∧ k ≤ xs.length ∧ 0 ≤ a.2 ∧ a.2 ≤ 1048576 ∧ szR a.2 (Tm.sumB (xs.drop k)) = szR left (xs.length + Tm.sumB xs : Nat)) (fun a => xs.length - a.1.toNat) (0, left - xs.length) ⟨0, rfl, Nat.zero_le _, by omega, by omega, ?_⟩ (by simp (disch := omega) only [go_sem, go_cond, zA, zB, zC, zD, zE, zF, zG, zH, ↓reduceIte, zI, reduceCtorEq, zJ, zK]) ?_
  · have q1 := szR_spec (left - xs.length) (Tm.sumB xs)
    rw [List.drop_zero]
    dsimp only
    omega
  · rintro ⟨i, l⟩ ⟨k, hi, hk, hl0, hl1, hs⟩
    dsimp only at hi hl0 hl1 hs
    rcases Nat.lt_or_ge k xs.length with hlt | hge
    · have hg := get_at Tm.d hlt
      rw [Tm.d_eq] at hg
      have hd : Tm.sumB (xs.drop k) = xs[k].bulk + Tm.sumB (xs.drop (k + 1)) := by rw [List.drop_eq_getElem_cons hlt, Tm.sumB]
      rw [hd] at hs
      have hc := h xs[k] (List.getElem_mem hlt) (D.fitss_mem hfit.2 _ (List.getElem_mem hlt)) l hl0 hl1
      have q1 := szR_spec l xs[k].bulk
      have q2 := szR_spec l (xs[k].bulk + Tm.sumB (xs.drop (k + 1)))
      have q3 := szR_spec (l - xs[k].bulk) (Tm.sumB (xs.drop (k + 1)))
      have hn : i.toNat = k := by omega
      simp (disch := omega) only [go_sem, go_cond, zA, zB, zC, zD, zE, zF, zG, zH, ↓reduceIte, zI, reduceCtorEq, zJ, zK, hn, hg, hc, m_laws_szTerm]
      repeat' (refine boolP_split (fun hq => ?_) (fun hq => ?_) <;> (first | replace hq := dec_iff.1 hq | replace hq := dec_not.1 hq) <;> (try simp (disch := omega) only [go_sem, go_cond, zA, zB, zC, zD, zE, zF, zG, zH, ↓reduceIte, zI, reduceCtorEq, zJ, zK]))
      · omega
      · refine ⟨(i + 1, l - xs[k].bulk), ⟨k + 1, by dsimp only; omega, hlt, by dsimp only; omega, by dsimp only; omega, by dsimp only; omega⟩, by dsimp only; omega, ?_⟩
        have e : szR l xs[k].bulk = l - xs[k].bulk := by omega
        simp only [e, and_self]
    · have hd : xs.drop k = [] := List.drop_eq_nil_of_le hge
      rw [hd] at hs
      have q1 := szR_spec l (Tm.sumB [])
      simp only [Tm.sumB] at hs q1
      simp (disch := omega) only [go_sem, go_cond, zA, zB, zC, zD, zE, zF, zG, zH, ↓reduceIte, zI, reduceCtorEq, zJ, zK]
      omega
set_option maxHeartbeats 1000000 in
theorem szT_Term_of (x : Tm) (h_args : SzTS_Term x.args) : SzT_Term x := by
  intro hfit left h0 h1
  rw [Tm.d_eq] at hfit
  simp only [D.fits, D.fit] at hfit
  replace h_args := h_args (by simp only [D.fit, List.length_map]; simp only [List.length_map] at hfit; simp only [hfit, and_self])
  have q := szR_spec left x.bulk
  have qb := Tm.bulk_eq x
  have q0 := szR_spec (left - (x.name.size : Int)) ((x.args.length + Tm.sumB x.args))
  refine E_walk k_laws_szTerm m_laws_szTerm (of_decide_eq_true rfl) ?_
  simp (disch := omega) only [c_laws_szTerm, go_sem, go_cond, zA, zB, zC, zD, zE, zF, zG, zH, ↓reduceIte, zI, reduceCtorEq, zJ, zK, h_args, m_laws_szTermS]
  repeat' (refine boolP_split (fun hq => ?_) (fun hq => ?_) <;> (first | replace hq := dec_iff.1 hq | replace hq := dec_not.1 hq) <;> (try simp (disch := omega) only [go_sem, go_cond, zA, zB, zC, zD, zE, zF, zG, zH, ↓reduceIte, zI, reduceCtorEq, zJ, zK, h_args, m_laws_szTermS]))
  all_goals omega
theorem szT_Term (x : Tm) : SzT_Term x := szT_Term_of x (szTS_Term_of x.args fun y hy => szT_Term y)
termination_by SizeOf.sizeOf x
decreasing_by exact Tm.lt_of_mem hy
def c_laws_szLiteral : SC := (.seq (.reg [⟨some 2, none, .boxv 65 3 (.t 0)⟩, ⟨some 4, none, .mv (.c (.int .i64 0))⟩]) (.seq (.reg [⟨some 5, none, .faddr 1 (.t 2)⟩, ⟨some 6, none, .load true 2 (.t 5)⟩, ⟨some 7, none, .mv (.t 1)⟩, ⟨some 8, none, .call 52 [(.t 6), (.t 7)]⟩, ⟨some 1, none, .mv (.t 8)⟩]) (.seq (.seq (.reg [⟨some 9, none, .mv (.t 1)⟩, ⟨some 10, none, .bin .lss false (.t 9) (.c (.int .i64 0))⟩]) (.cond (.t 10) (.seq (.reg [⟨some 4, none, .mv (.c (.int .i64 (-(0 + 1))))⟩]) .ret) .skip)) (.seq (.reg [⟨some 11, none, .mv (.t 1)⟩, ⟨some 4, none, .mv (.t 11)⟩]) .ret))))
theorem k_laws_szLiteral : codeOf Tryz.prog 31 = some ⟨12, c_laws_szLiteral, [(.tmp 4)]⟩ := by kernel_rfl
theorem m_laws_szLiteral : modes 31 = ⟨[], .asis, none, false⟩ := by unfold modes; rfl
def c_laws_szLiteralS : SC := (.seq (.reg [⟨some 4, none, .mv (.c (.int .i64 0))⟩]) (.seq (.reg [⟨some 6, none, .mv (.t 1)⟩, ⟨some 7, none, .mv (.t 0)⟩, ⟨some 8, none, .len false (.t 7)⟩, ⟨some 9, none, .bin .sub false (.t 6) (.t 8)⟩, ⟨some 1, none, .mv (.t 9)⟩]) (.seq (.seq (.reg [⟨some 10, none, .mv (.t 1)⟩, ⟨some 11, none, .bin .lss false (.t 10) (.c (.int .i64 0))⟩]) (.cond (.t 11) (.seq (.reg [⟨some 4, none, .mv (.c (.int .i64 (-(0 + 1))))⟩]) .ret) .skip)) (.seq (.seq (.reg [⟨some 5, none, .mv (.c (.int .i64 0))⟩]) (.block 0 (.loop [1, 1, 0, 0, 0, 1, 0, 0, 0, 0, 0, 0, 0, 0, 0, 0, 0, 0, 0, 0, 0, 0, 0, 0, 0, 0, 0] (.seq (.seq (.reg [⟨some 12, none, .mv (.t 5)⟩, ⟨some 13, none, .mv (.t 0)⟩, ⟨some 14, none, .len false (.t 13)⟩, ⟨some 15, none, .bin .lss false (.t 12) (.t 14)⟩]) (.cond (.t 15) .skip (.exit 0))) (.seq (.block 1 (.seq (.reg [⟨some 18, none, .mv (.t 0)⟩, ⟨some 19, none, .mv (.t 5)⟩, ⟨some 20, none, .iaddr 3 (.t 18) (.t 19)⟩, ⟨some 21, none, .load true 3 (.t 20)⟩, ⟨some 22, none, .mv (.t 1)⟩, ⟨some 23, none, .call 31 [(.t 21), (.t 22)]⟩, ⟨some 1, none, .mv (.t 23)⟩]) (.seq (.reg [⟨some 24, none, .mv (.t 1)⟩, ⟨some 25, none, .bin .lss false (.t 24) (.c (.int .i64 0))⟩]) (.cond (.t 25) (.seq (.reg [⟨some 4, none, .mv (.c (.int .i64 (-(0 + 1))))⟩]) .ret) .skip)))) (.reg [⟨some 16, none, .mv (.t 5)⟩, ⟨some 17, none, .bin .add false (.t 16) (.c (.int .i64 1))⟩, ⟨some 5, none, .mv (.t 17)⟩])))))) (.seq (.reg [⟨some 26, none, .mv (.t 1)⟩, ⟨some 4, none, .mv (.t 26)⟩]) .ret)))))
theorem k_laws_szLiteralS : codeOf Tryz.prog 16 = some ⟨27, c_laws_szLiteralS, [(.tmp 4)]⟩ := by kernel_rfl
theorem m_laws_szLiteralS : modes 16 = ⟨[], .asis, none, false⟩ := by unfold modes; rfl
abbrev SzT_Literal (x : Lt) : Prop := D.fits x.d → ∀ left : Int, 0 ≤ left → left ≤ 1048576 → E 31 [x.sv, .int .i64 left] [] = some (.int .i64 (szR left x.bulk), [])
abbrev SzTS_Literal (xs : List Lt) : Prop := D.fit (.arr (xs.map Lt.d)) → ∀ left : Int, 0 ≤ left → left ≤ 1048576 → E 16 [.arr (xs.map Lt.d), .int .i64 left] [] = some (.int .i64 (szR left (xs.length + Lt.sumB xs : Nat)), [])
set_option maxHeartbeats 1000000 in
theorem szTS_Literal_of (xs : List Lt) (h : ∀ x ∈ xs, SzT_Literal x) : SzTS_Literal xs := by
  intro hfit left h0 h1
  simp only [D.fit, List.length_map] at hfit
  have q0 := szR_spec left (xs.length + Lt.sumB xs)
  refine E_walk k_laws_szLiteralS m_laws_szLiteralS (of_decide_eq_true rfl) ?_
  simp (disch := omega) only [c_laws_szLiteralS, go_sem, go_cond, zA, zB, zC, zD, zE, zF, zG, zH, ↓reduceIte, zI, reduceCtorEq, zJ, zK]
  repeat' (refine boolP_split (fun hq => ?_) (fun hq => ?_) <;> (first | replace hq := dec_iff.1 hq | replace hq := dec_not.1 hq) <;> (try simp (disch := omega) only [go_sem, go_cond, zA, zB, zC, zD, zE, zF, zG, zH, ↓reduceIte, zI, reduceCtorEq, zJ, zK]))
  · omega
  refine go_loop (α := Int × Int) (fun a => ⟨slots 27 0 [(0, .arr (xs.map Lt.d)), (1, .int .i64 a.2), (5, .int .i64 a.1)], []⟩) (fun a => ∃ k : Nat, a.1 = k ∧ k ≤ xs.length ∧ 0 ≤ a.2 ∧ a.2 ≤ 1048576 ∧ szR a.2 (Lt.sumB (xs.drop k)) = szR left (xs.length + Lt.sumB xs : Nat)) (fun a => xs.length - a.1.toNat) (0, left - xs.length) ⟨0, rfl, Nat.zero_le _, by omega, by omega, ?_⟩ (by simp (disch := omega) only [go_sem, go_cond, zA, zB, zC, zD, zE, zF, zG, zH, ↓reduceIte, zI, reduceCtorEq, zJ, zK]) ?_
  · have q1 := szR_spec (left - xs.length) (Lt.sumB xs)
    rw [List.drop_zero]
    dsimp only
    omega
  · rintro ⟨i, l⟩ ⟨k, hi, hk, hl0, hl1, hs⟩
    dsimp only at hi hl0 hl1 hs
    rcases Nat.lt_or_ge k xs.length with hlt | hge
    · have hg := get_at Lt.d hlt
      rw [Lt.d_eq] at hg
      have hd : Lt.sumB (xs.drop k) = xs[k].bulk + Lt.sumB (xs.drop (k + 1)) := by rw [List.drop_eq_getElem_cons hlt, Lt.sumB]
      rw [hd] at hs
      have hc := h xs[k] (List.getElem_mem hlt) (D.fitss_mem hfit.2 _ (List.getElem_mem hlt)) l hl0 hl1
      have q1 := szR_spec l xs[k].bulk
      have q2 := szR_spec l (xs[k].bulk + Lt.sumB (xs.drop (k + 1)))
      have q3 := szR_spec (l - xs[k].bulk) (Lt.sumB (xs.drop (k + 1)))
      have hn : i.toNat = k := by omega
      simp (disch := omega) only [go_sem, go_cond, zA, zB, zC, zD, zE, zF, zG, zH, ↓reduceIte, zI, reduceCtorEq, zJ, zK, hn, hg, hc, m_laws_szLiteral]
      repeat' (refine boolP_split (fun hq => ?_) (fun hq => ?_) <;> (first | replace hq := dec_iff.1 hq | replace hq := dec_not.1 hq) <;> (try simp (disch := omega) only [go_sem, go_cond, zA, zB, zC, zD, zE, zF, zG, zH, ↓reduceIte, zI, reduceCtorEq, zJ, zK]))
      · omega
      · refine ⟨(i + 1, l - xs[k].bulk), ⟨k + 1, by dsimp only; omega, hlt, by dsimp only; omega, by dsimp only; omega, by dsimp only; omega⟩, by dsimp only; omega, ?_⟩
        have e : szR l xs[k].bulk = l - xs[k].bulk := by omega
        simp only [e, and_self]
    · have hd : xs.drop k = [] := List.drop_eq_nil_of_le hge
      rw [hd] at hs
      have q1 := szR_spec l (Lt.sumB [])
      simp only [Lt.sumB] at hs q1
      simp (disch := omega) only [go_sem, go_cond, zA, zB, zC, zD, zE, zF, zG, zH, ↓reduceIte, zI, reduceCtorEq, zJ, zK]
      omega
set_option maxHeartbeats 1000000 in
theorem szT_Literal_of (x : Lt) (h_atom : SzT_Term x.atom) : SzT_Literal x := by
  intro hfit left h0 h1
  rw [Lt.d_eq] at hfit
  simp only [D.fits, D.fit] at hfit
  replace h_atom := h_atom (by rw [Tm.d_eq]; simp only [D.fits, D.fit, hfit, and_self])
  have q := szR_spec left x.bulk
  have qb := Lt.bulk_eq x
  have q0 := szR_spec left (x.atom.bulk)
  refine E_walk k_laws_szLiteral m_laws_szLiteral (of_decide_eq_true rfl) ?_
  simp (disch := omega) only [c_laws_szLiteral, go_sem, go_cond, zA, zB, zC, zD, zE, zF, zG, zH, ↓reduceIte, zI, reduceCtorEq, zJ, zK, h_atom, m_laws_szTerm]
  repeat' (refine boolP_split (fun hq => ?_) (fun hq => ?_) <;> (first | replace hq := dec_iff.1 hq | replace hq := dec_not.1 hq) <;> (try simp (disch := omega) only [go_sem, go_cond, zA, zB, zC, zD, zE, zF, zG, zH, ↓reduceIte, zI, reduceCtorEq, zJ, zK, h_atom, m_laws_szTerm]))
  all_goals omega
theorem szT_Literal (x : Lt) : SzT_Literal x := szT_Literal_of x (szT_Term x.atom)
def c_laws_szClause : SC := (.seq (.reg [⟨some 2, none, .boxv 27 1 (.t 0)⟩, ⟨some 4, none, .mv (.c (.int .i64 0))⟩]) (.seq (.reg [⟨some 5, none, .faddr 0 (.t 2)⟩, ⟨some 6, none, .load false 1 (.t 5)⟩, ⟨some 7, none, .mv (.t 1)⟩, ⟨some 8, none, .call 16 [(.t 6), (.t 7)]⟩, ⟨some 1, none, .mv (.t 8)⟩]) (.seq (.seq (.reg [⟨some 9, none, .mv (.t 1)⟩, ⟨some 10, none, .bin .lss false (.t 9) (.c (.int .i64 0))⟩]) (.cond (.t 10) (.seq (.reg [⟨some 4, none, .mv (.c (.int .i64 (-(0 + 1))))⟩]) .ret) .skip)) (.seq (.reg [⟨some 11, none, .mv (.t 1)⟩, ⟨some 4, none, .mv (.t 11)⟩]) .ret))))
theorem k_laws_szClause : codeOf Tryz.prog 5 = some ⟨12, c_laws_szClause, [(.tmp 4)]⟩ := by kernel_rfl
theorem m_laws_szClause : modes 5 = ⟨[], .asis, none, false⟩ := by unfold modes; rfl
abbrev SzT_Clause (x : Cl) : Prop := D.fits x.d → ∀ left : Int, 0 ≤ left → left ≤ 1048576 → E 5 [x.sv, .int .i64 left] [] = some (.int .i64 (szR left x.bulk), [])
set_option maxHeartbeats 1000000 in
theorem szT_Clause_of (x : Cl) (h_lits : SzTS_Literal x.lits) : SzT_Clause x := by
  intro hfit left h0 h1
  rw [Cl.d_eq] at hfit
  simp only [D.fits, D.fit] at hfit
  replace h_lits := h_lits (by simp only [D.fit, List.length_map]; simp only [List.length_map] at hfit; simp only [hfit, and_self])
  have q := szR_spec left x.bulk
  have qb := Cl.bulk_eq x
  have q0 := szR_spec left ((x.lits.length + Lt.sumB x.lits))
  refine E_walk k_laws_szClause m_laws_szClause (of_decide_eq_true rfl) ?_
  simp (disch := omega) only [c_laws_szClause, go_sem, go_cond, zA, zB, zC, zD, zE, zF, zG, zH, ↓reduceIte, zI, reduceCtorEq, zJ, zK, h_lits, m_laws_szLiteralS]
  repeat' (refine boolP_split (fun hq => ?_) (fun hq => ?_) <;> (first | replace hq := dec_iff.1 hq | replace hq := dec_not.1 hq) <;> (try simp (disch := omega) only [go_sem, go_cond, zA, zB, zC, zD, zE, zF, zG, zH, ↓reduceIte, zI, reduceCtorEq, zJ, zK, h_lits, m_laws_szLiteralS]))
  all_goals omega
theorem szT_Clause (x : Cl) : SzT_Clause x := szT_Clause_of x (szTS_Literal_of x.lits fun y hy => szT_Literal y)
def c_laws_szBinding : SC := (.seq (.reg [⟨some 2, none, .boxv 62 3 (.t 0)⟩, ⟨some 4, none, .mv (.c (.int .i64 0))⟩]) (.seq (.reg [⟨some 5, none, .mv (.t 1)⟩, ⟨some 6, none, .faddr 0 (.t 2)⟩, ⟨some 7, none, .load false 1 (.t 6)⟩, ⟨some 8, none, .len true (.t 7)⟩, ⟨some 9, none, .bin .sub false (.t 5) (.t 8)⟩, ⟨some 1, none, .mv (.t 9)⟩]) (.seq (.seq (.reg [⟨some 10, none, .mv (.t 1)⟩, ⟨some 11, none, .bin .lss false (.t 10) (.c (.int .i64 0))⟩]) (.cond (.t 11) (.seq (.reg [⟨some 4, none, .mv (.c (.int .i64 (-(0 + 1))))⟩]) .ret) .skip)) (.seq (.reg [⟨some 12, none, .faddr 1 (.t 2)⟩, ⟨some 13, none, .load true 2 (.t 12)⟩, ⟨some 14, none, .mv (.t 1)⟩, ⟨some 15, none, .call 52 [(.t 13), (.t 14)]⟩, ⟨some 1, none, .mv (.t 15)⟩]) (.seq (.seq (.reg [⟨some 16, none, .mv (.t 1)⟩, ⟨some 17, none, .bin .lss false (.t 16) (.c (.int .i64 0))⟩]) (.cond (.t 17) (.seq (.reg [⟨some 4, none, .mv (.c (.int .i64 (-(0 + 1))))⟩]) .ret) .skip)) (.seq (.reg [⟨some 18, none, .mv (.t 1)⟩, ⟨some 4, none, .mv (.t 18)⟩]) .ret))))))
theorem k_laws_szBinding : codeOf Tryz.prog 30 = some ⟨19, c_laws_szBinding, [(.tmp 4)]⟩ := by kernel_rfl
theorem m_laws_szBinding : modes 30 = ⟨[], .asis, none, false⟩ := by unfold modes; rfl
def c_laws_szBindingS : SC := (.seq (.reg [⟨some 4, none, .mv (.c (.int .i64 0))⟩]) (.seq (.reg [⟨some 6, none, .mv (.t 1)⟩, ⟨some 7, none, .mv (.t 0)⟩, ⟨some 8, none, .len false (.t 7)⟩, ⟨some 9, none, .bin .sub false (.t 6) (.t 8)⟩, ⟨some 1, none, .mv (.t 9)⟩]) (.seq (.seq (.reg [⟨some 10, none, .mv (.t 1)⟩, ⟨some 11, none, .bin .lss false (.t 10) (.c (.int .i64 0))⟩]) (.cond (.t 11) (.seq (.reg [⟨some 4, none, .mv (.c (.int .i64 (-(0 + 1))))⟩]) .ret) .skip)) (.seq (.seq (.reg [⟨some 5, none, .mv (.c (.int .i64 0))⟩]) (.block 0 (.loop [1, 1, 0, 0, 0, 1, 0, 0, 0, 0, 0, 0, 0, 0, 0, 0, 0, 0, 0, 0, 0, 0, 0, 0, 0, 0, 0] (.seq (.seq (.reg [⟨some 12, none, .mv (.t 5)⟩, ⟨some 13, none, .mv (.t 0)⟩, ⟨some 14, none, .len false (.t 13)⟩, ⟨some 15, none, .bin .lss false (.t 12) (.t 14)⟩]) (.cond (.t 15) .skip (.exit 0))) (.seq (.block 1 (.seq (.reg [⟨some 18, none, .mv (.t 0)⟩, ⟨some 19, none, .mv (.t 5)⟩, ⟨some 20, none, .iaddr 3 (.t 18) (.t 19)⟩, ⟨some 21, none, .load true 3 (.t 20)⟩, ⟨some 22, none, .mv (.t 1)⟩, ⟨some 23, none, .call 30 [(.t 21), (.t 22)]⟩, ⟨some 1, none, .mv (.t 23)⟩]) (.seq (.reg [⟨some 24, none, .mv (.t 1)⟩, ⟨some 25, none, .bin .lss false (.t 24) (.c (.int .i64 0))⟩]) (.cond (.t 25) (.seq (.reg [⟨some 4, none, .mv (.c (.int .i64 (-(0 + 1))))⟩]) .ret) .skip)))) (.reg [⟨some 16, none, .mv (.t 5)⟩, ⟨some 17, none, .bin .add false (.t 16) (.c (.int .i64 1))⟩, ⟨some 5, none, .mv (.t 17)⟩])))))) (.seq (.reg [⟨some 26, none, .mv (.t 1)⟩, ⟨some 4, none, .mv (.t 26)⟩]) .ret)))))
theorem k_laws_szBindingS : codeOf Tryz.prog 15 = some ⟨27, c_laws_szBindingS, [(.tmp 4)]⟩ := by kernel_rfl
theorem m_laws_szBindingS : modes 15 = ⟨[], .asis, none, false⟩ := by unfold modes; rfl
abbrev SzT_Binding (x : Bd) : Prop := D.fits x.d → ∀ left : Int, 0 ≤ left → left ≤ 1048576 → E 30 [x.sv, .int .i64 left] [] = some (.int .i64 (szR left x.bulk), [])
abbrev SzTS_Binding (xs : List Bd) : Prop := D.fit (.arr (xs.map Bd.d)) → ∀ left : Int, 0 ≤ left → left ≤ 1048576 → E 15 [.arr (xs.map Bd.d), .int .i64 left] [] = some (.int .i64 (szR left (xs.length + Bd.sumB xs : Nat)), [])
set_option maxHeartbeats 1000000 in
theorem szTS_Binding_of (xs : List Bd) (h : ∀ x ∈ xs, SzT_Binding x) : SzTS_Binding xs := by
  intro hfit left h0 h1
  simp only [D.fit, List.length_map] at hfit
  have q0 := szR_spec left (xs.length + Bd.sumB xs)
  refine E_walk k_laws_szBindingS m_laws_szBindingS (of_decide_eq_true rfl) ?_
  simp (disch := omega) only [c_laws_szBindingS, go_sem, go_cond, zA, zB, zC, zD, zE, zF, zG, zH, ↓reduceIte, zI, reduceCtorEq, zJ, zK]
  repeat' (refine boolP_split (fun hq => ?_) (fun hq => ?_) <;> (first | replace hq := dec_iff.1 hq | replace hq := dec_not.1 hq) <;> (try simp (disch := omega) only [go_sem, go_cond, zA, zB, zC, zD, zE, zF, zG, zH, ↓reduceIte, zI, reduceCtorEq, zJ, zK]))
  · omega
  refine go_loop (α := Int × Int) (fun a => ⟨slots 27 0 [(0, .arr (xs.map Bd.d)), (1, .int .i64 a.2), (5, .int .i64 a.1)], []⟩) (fun a => ∃ k : Nat, a.1 = k ∧ k ≤ xs.length ∧ 0 ≤ a.2 ∧ a.2 ≤ 1048576 ∧ szR a.2 (Bd.sumB (xs.drop k)) = szR left (xs.length + Bd.sumB xs : Nat)) (fun a => xs.length - a.1.toNat) (0, left - xs.length) ⟨0, rfl, Nat.zero_le _, by omega, by omega, ?_⟩ (by simp (disch := omega) only [go_sem, go_cond, zA, zB, zC, zD, zE, zF, zG, zH, ↓reduceIte, zI, reduceCtorEq, zJ, zK]) ?_
  · have q1 := szR_spec (left - xs.length) (Bd.sumB xs)
    rw [List.drop_zero]
    dsimp only
    omega
  · rintro ⟨i, l⟩ ⟨k, hi, hk, hl0, hl1, hs⟩
    dsimp only at hi hl0 hl1 hs
    rcases Nat.lt_or_ge k xs.length with hlt | hge
    · have hg := get_at Bd.d hlt
      rw [Bd.d_eq] at hg
      have hd : Bd.sumB (xs.drop k) = xs[k].bulk + Bd.sumB (xs.drop (k + 1)) := by rw [List.drop_eq_getElem_cons hlt, Bd.sumB]
      rw [hd] at hs
      have hc := h xs[k] (List.getElem_mem hlt) (D.fitss_mem hfit.2 _ (List.getElem_mem hlt)) l hl0 hl1
      have q1 := szR_spec l xs[k].bulk
      have q2 := szR_spec l (xs[k].bulk + Bd.sumB (xs.drop (k + 1)))
      have q3 := szR_spec (l - xs[k].bulk) (Bd.sumB (xs.drop (k + 1)))
      have hn : i.toNat = k := by omega
      simp (disch := omega) only [go_sem, go_cond, zA, zB, zC, zD, zE, zF, zG, zH, ↓reduceIte, zI, reduceCtorEq, zJ, zK, hn, hg, hc, m_laws_szBinding]
      repeat' (refine boolP_split (fun hq => ?_) (fun hq => ?_) <;> (first | replace hq := dec_iff.1 hq | replace hq := dec_not.1 hq) <;> (try simp (disch := omega) only [go_sem, go_cond, zA, zB, zC, zD, zE, zF, zG, zH, ↓reduceIte, zI, reduceCtorEq, zJ, zK]))
      · omega
      · refine ⟨(i + 1, l - xs[k].bulk), ⟨k + 1, by dsimp only; omega, hlt, by dsimp only; omega, by dsimp only; omega, by dsimp only; omega⟩, by dsimp only; omega, ?_⟩
        have e : szR l xs[k].bulk = l - xs[k].bulk := by omega
        simp only [e, and_self]
    · have hd : xs.drop k = [] := List.drop_eq_nil_of_le hge
      rw [hd] at hs
      have q1 := szR_spec l (Bd.sumB [])
      simp only [Bd.sumB] at hs q1
      simp (disch := omega) only [go_sem, go_cond, zA, zB, zC, zD, zE, zF, zG, zH, ↓reduceIte, zI, reduceCtorEq, zJ, zK]
      omega
set_option maxHeartbeats 1000000 in
theorem szT_Binding_of (x : Bd) (h_term : SzT_Term x.term) : SzT_Binding x := by
  intro hfit left h0 h1
  rw [Bd.d_eq] at hfit
  simp only [D.fits, D.fit] at hfit
  replace h_term := h_term (by rw [Tm.d_eq]; simp only [D.fits, D.fit, hfit, and_self])
  have q := szR_spec left x.bulk
  have qb := Bd.bulk_eq x
  have q0 := szR_spec (left - (x.var.size : Int)) (x.term.bulk)
  refine E_walk k_laws_szBinding m_laws_szBinding (of_decide_eq_true rfl) ?_
  simp (disch := omega) only [c_laws_szBinding, go_sem, go_cond, zA, zB, zC, zD, zE, zF, zG, zH, ↓reduceIte, zI, reduceCtorEq, zJ, zK, h_term, m_laws_szTerm]
  repeat' (refine boolP_split (fun hq => ?_) (fun hq => ?_) <;> (first | replace hq := dec_iff.1 hq | replace hq := dec_not.1 hq) <;> (try simp (disch := omega) only [go_sem, go_cond, zA, zB, zC, zD, zE, zF, zG, zH, ↓reduceIte, zI, reduceCtorEq, zJ, zK, h_term, m_laws_szTerm]))
  all_goals omega
theorem szT_Binding (x : Bd) : SzT_Binding x := szT_Binding_of x (szT_Term x.term)
def c_laws_szSubstitution : SC := (.seq (.reg [⟨some 2, none, .boxv 24 1 (.t 0)⟩, ⟨some 4, none, .mv (.c (.int .i64 0))⟩]) (.seq (.reg [⟨some 5, none, .faddr 0 (.t 2)⟩, ⟨some 6, none, .load false 1 (.t 5)⟩, ⟨some 7, none, .mv (.t 1)⟩, ⟨some 8, none, .call 15 [(.t 6), (.t 7)]⟩, ⟨some 1, none, .mv (.t 8)⟩]) (.seq (.seq (.reg [⟨some 9, none, .mv (.t 1)⟩, ⟨some 10, none, .bin .lss false (.t 9) (.c (.int .i64 0))⟩]) (.cond (.t 10) (.seq (.reg [⟨some 4, none, .mv (.c (.int .i64 (-(0 + 1))))⟩]) .ret) .skip)) (.seq (.reg [⟨some 11, none, .mv (.t 1)⟩, ⟨some 4, none, .mv (.t 11)⟩]) .ret))))
theorem k_laws_szSubstitution : codeOf Tryz.prog 4 = some ⟨12, c_laws_szSubstitution, [(.tmp 4)]⟩ := by kernel_rfl
theorem m_laws_szSubstitution : modes 4 = ⟨[], .asis, none, false⟩ := by unfold modes; rfl
abbrev SzT_Substitution (x : Sb) : Prop := D.fits x.d → ∀ left : Int, 0 ≤ left → left ≤ 1048576 → E 4 [x.sv, .int .i64 left] [] = some (.int .i64 (szR left x.bulk), [])
set_option maxHeartbeats 1000000 in
theorem szT_Substitution_of (x : Sb) (h_binds : SzTS_Binding x.binds) : SzT_Substitution x := by
  intro hfit left h0 h1
  rw [Sb.d_eq] at hfit
  simp only [D.fits, D.fit] at hfit
  replace h_binds := h_binds (by simp only [D.fit, List.length_map]; simp only [List.length_map] at hfit; simp only [hfit, and_self])
  have q := szR_spec left x.bulk
  have qb := Sb.bulk_eq x
  have q0 := szR_spec left ((x.binds.length + Bd.sumB x.binds))
  refine E_walk k_laws_szSubstitution m_laws_szSubstitution (of_decide_eq_true rfl) ?_
  simp (disch := omega) only [c_laws_szSubstitution, go_sem, go_cond, zA, zB, zC, zD, zE, zF, zG, zH, ↓reduceIte, zI, reduceCtorEq, zJ, zK, h_binds, m_laws_szBindingS]
  repeat' (refine boolP_split (fun hq => ?_) (fun hq => ?_) <;> (first | replace hq := dec_iff.1 hq | replace hq := dec_not.1 hq) <;> (try simp (disch := omega) only [go_sem, go_cond, zA, zB, zC, zD, zE, zF, zG, zH, ↓reduceIte, zI, reduceCtorEq, zJ, zK, h_binds, m_laws_szBindingS]))
  all_goals omega
theorem szT_Substitution (x : Sb) : SzT_Substitution x := szT_Substitution_of x (szTS_Binding_of x.binds fun y hy => szT_Binding y)
def c_laws_toTerm : SC := (.seq (.reg [⟨some 1, none, .boxv 60 2 (.t 0)⟩, ⟨(some 2), none, (.alloc 68 [(.str ⟨#[]⟩), .nil])⟩]) (.seq (.reg [⟨(some 3), none, (.alloc 68 [(.str ⟨#[]⟩), .nil])⟩]) (.seq (.reg [⟨some 4, none, .faddr 0 (.t 1)⟩, ⟨some 5, none, .load false 1 (.t 4)⟩, ⟨some 6, none, .faddr 0 (.t 3)⟩, ⟨none, none, (.store 1 (.t 6) (.t 5))⟩]) (.seq (.reg [⟨some 7, none, .faddr 1 (.t 1)⟩, ⟨some 8, none, .load false 1 (.t 7)⟩, ⟨some 9, none, .call 83 [(.t 8)]⟩, ⟨some 10, none, .faddr 1 (.t 3)⟩, ⟨none, none, (.store 1 (.t 10) (.t 9))⟩]) (.seq (.reg [⟨some 11, none, .load true 2 (.t 3)⟩, ⟨none, none, (.store 2 (.t 2) (.t 11))⟩]) .ret)))))
theorem k_laws_toTerm : codeOf Tryz.prog 61 = some ⟨12, c_laws_toTerm, [(.cell 2 true 2)]⟩ := by kernel_rfl
theorem m_laws_toTerm : modes 61 = ⟨[], .asis, none, false⟩ := by unfold modes; rfl
def c_laws_toTermS : SC := (.seq (.reg [⟨some 2, none, .mv (.c .nil)⟩]) (.seq (.reg [⟨some 5, none, .mv (.t 0)⟩, ⟨some 6, none, .len false (.t 5)⟩, ⟨(some 7), none, (.mkslice 68 2 40 [(.str ⟨#[]⟩), .nil] (.t 6))⟩, ⟨some 3, none, .mv (.t 7)⟩]) (.seq (.seq (.reg [⟨some 4, none, .mv (.c (.int .i64 0))⟩]) (.block 0 (.loop [1, 0, 0, 1, 1, 0, 0, 0, 0, 0, 0, 0, 0, 0, 0, 0, 0, 0, 0, 0, 0, 0, 0] (.seq (.seq (.reg [⟨some 8, none, .mv (.t 4)⟩, ⟨some 9, none, .mv (.t 0)⟩, ⟨some 10, none, .len false (.t 9)⟩, ⟨some 11, none, .bin .lss false (.t 8) (.t 10)⟩]) (.cond (.t 11) .skip (.exit 0))) (.seq (.block 1 (.reg [⟨some 14, none, .mv (.t 3)⟩, ⟨some 15, none, .mv (.t 4)⟩, ⟨some 16, none, .mv (.t 0)⟩, ⟨some 17, none, .mv (.t 4)⟩, ⟨some 18, none, .iaddr 2 (.t 16) (.t 17)⟩, ⟨some 19, none, .load true 2 (.t 18)⟩, ⟨some 20, none, .call 61 [(.t 19)]⟩, ⟨some 21, none, .iaddr 2 (.t 14) (.t 15)⟩, ⟨none, none, (.store 2 (.t 21) (.t 20))⟩])) (.reg [⟨some 12, none, .mv (.t 4)⟩, ⟨some 13, none, .bin .add false (.t 12) (.c (.int .i64 1))⟩, ⟨some 4, none, .mv (.t 13)⟩])))))) (.seq (.reg [⟨some 22, none, .mv (.t 3)⟩, ⟨some 2, none, .mv (.t 22)⟩]) .ret))))
theorem k_laws_toTermS : codeOf Tryz.prog 83 = some ⟨23, c_laws_toTermS, [(.tmp 2)]⟩ := by kernel_rfl
theorem m_laws_toTermS : modes 83 = ⟨[], .asis, none, false⟩ := by unfold modes; rfl
abbrev ToT_Term (x : Tm) : Prop := x.bulk ≤ 1048576 → E 61 [x.sv] [] = some (x.osv, x.obs)
abbrev ToTS_Term (xs : List Tm) : Prop := xs.length + Tm.sumB xs ≤ 1048576 → E 83 [.arr (xs.map Tm.d)] [] = some (.ref 0, [.row 68 2 (xs.map Tm.o)])
set_option maxHeartbeats 1000000 in
theorem toTS_Term_of (xs : List Tm) (h : ∀ x ∈ xs, ToT_Term x) : ToTS_Term xs := by
  intro hb
  refine E_walk k_laws_toTermS m_laws_toTermS (of_decide_eq_true rfl) ?_
  simp (disch := omega) only [c_laws_toTermS, go_sem, go_cond, zA, zB, zC, zD, zE, zF, zG, zH, ↓reduceIte, zI, reduceCtorEq, zJ, zK]
  refine go_loop (α := Int) (fun i => ⟨slots 23 0 [(0, .arr (xs.map Tm.d)), (3, .ref 0), (4, .int .i64 i)], [.row 68 2 (fillR Tm.o [.str ⟨#[]⟩, .ow []] xs i.toNat)]⟩) (fun i => ∃ k : Nat, i = k ∧ k ≤ xs.length) (fun i => xs.length - i.toNat) 0 ⟨0, rfl, Nat.zero_le _⟩ (by simp (disch := omega) only [go_sem, go_cond, zA, zB, zC, zD, zE, zF, zG, zH, ↓reduceIte, zI, reduceCtorEq, zJ, zK, fillR_zero, Int.toNat_zero]) ?_
  · rintro i ⟨k, rfl, hk⟩
    obtain ⟨i, hi⟩ : ∃ i : Int, i = (k : Int) := ⟨_, rfl⟩
    rw [← hi]
    have hn : i.toNat = k := by omega
    have hn1 : (i + 1).toNat = k + 1 := by omega
    rcases Nat.lt_or_ge k xs.length with hlt | hge
    · have hg := get_at Tm.d hlt
      rw [Tm.d_eq] at hg
      have hz := fillR_get Tm.o [.str ⟨#[]⟩, .ow []] hlt
      have hle := Tm.bulk_le xs k hlt
      have hc := h xs[k] (List.getElem_mem hlt) (by omega)
      have hs := fillR_set Tm.o [.str ⟨#[]⟩, .ow []] hlt
      rw [Tm.o_eq] at hs
      simp (disch := omega) only [go_sem, go_cond, zA, zB, zC, zD, zE, zF, zG, zH, ↓reduceIte, zI, reduceCtorEq, zJ, zK, hn, hg, hc, hz, fillR_len, m_laws_toTerm, Tm.osv, Tm.obs]
      refine ⟨i + 1, ⟨k + 1, by omega, hlt⟩, by omega, ?_⟩
      simp (disch := omega) only [go_sem, go_cond, zA, zB, zC, zD, zE, zF, zG, zH, ↓reduceIte, zI, reduceCtorEq, zJ, zK, hn1, hs]
    · obtain rfl : k = xs.length := by omega
      simp (disch := omega) only [go_sem, go_cond, zA, zB, zC, zD, zE, zF, zG, zH, ↓reduceIte, zI, reduceCtorEq, zJ, zK, hn, fillR_end]
set_option maxHeartbeats 1000000 in
theorem toT_Term_of (x : Tm) (h_args : ToTS_Term x.args) : ToT_Term x := by
  intro hb
  have qb := Tm.bulk_eq x
  replace h_args := h_args (by omega)
  refine E_walk k_laws_toTerm m_laws_toTerm (of_decide_eq_true rfl) ?_
  simp (disch := omega) only [c_laws_toTerm, go_sem, go_cond, zA, zB, zC, zD, zE, zF, zG, zH, ↓reduceIte, zI, reduceCtorEq, zJ, zK, h_args, m_laws_toTermS]
theorem toT_Term (x : Tm) : ToT_Term x := toT_Term_of x (toTS_Term_of x.args fun y hy => toT_Term y)
termination_by SizeOf.sizeOf x
decreasing_by exact Tm.lt_of_mem hy
def c_laws_toLiteral : SC := (.seq (.reg [⟨some 1, none, .boxv 65 3 (.t 0)⟩, ⟨(some 2), none, (.alloc 74 [(.bool false), (.str ⟨#[]⟩), .nil])⟩]) (.seq (.reg [⟨(some 3), none, (.alloc 74 [(.bool false), (.str ⟨#[]⟩), .nil])⟩]) (.seq (.reg [⟨some 4, none, .faddr 0 (.t 1)⟩, ⟨some 5, none, .load false 1 (.t 4)⟩, ⟨some 6, none, .faddr 0 (.t 3)⟩, ⟨none, none, (.store 1 (.t 6) (.t 5))⟩]) (.seq (.reg [⟨some 7, none, .faddr 1 (.t 1)⟩, ⟨some 8, none, .load true 2 (.t 7)⟩, ⟨some 9, none, .call 61 [(.t 8)]⟩, ⟨some 10, none, .faddr 1 (.t 3)⟩, ⟨none, none, (.store 2 (.t 10) (.t 9))⟩]) (.seq (.reg [⟨some 11, none, .load true 3 (.t 3)⟩, ⟨none, none, (.store 3 (.t 2) (.t 11))⟩]) .ret)))))
theorem k_laws_toLiteral : codeOf Tryz.prog 39 = some ⟨12, c_laws_toLiteral, [(.cell 2 true 3)]⟩ := by kernel_rfl
theorem m_laws_toLiteral : modes 39 = ⟨[], .asis, none, false⟩ := by unfold modes; rfl
def c_laws_toLiteralS : SC := (.seq (.reg [⟨some 2, none, .mv (.c .nil)⟩]) (.seq (.reg [⟨some 5, none, .mv (.t 0)⟩, ⟨some 6, none, .len false (.t 5)⟩, ⟨(some 7), none, (.mkslice 74 3 48 [(.bool false), (.str ⟨#[]⟩), .nil] (.t 6))⟩, ⟨some 3, none, .mv (.t 7)⟩]) (.seq (.seq (.reg [⟨some 4, none, .mv (.c (.int .i64 0))⟩]) (.block 0 (.loop [1, 0, 0, 1, 1, 0, 0, 0, 0, 0, 0, 0, 0, 0, 0, 0, 0, 0, 0, 0, 0, 0, 0] (.seq (.seq (.reg [⟨some 8, none, .mv (.t 4)⟩, ⟨some 9, none, .mv (.t 0)⟩, ⟨some 10, none, .len false (.t 9)⟩, ⟨some 11, none, .bin .lss false (.t 8) (.t 10)⟩]) (.cond (.t 11) .skip (.exit 0))) (.seq (.block 1 (.reg [⟨some 14, none, .mv (.t 3)⟩, ⟨some 15, none, .mv (.t 4)⟩, ⟨some 16, none, .mv (.t 0)⟩, ⟨some 17, none, .mv (.t 4)⟩, ⟨some 18, none, .iaddr 3 (.t 16) (.t 17)⟩, ⟨some 19, none, .load true 3 (.t 18)⟩, ⟨some 20, none, .call 39 [(.t 19)]⟩, ⟨some 21, none, .iaddr 3 (.t 14) (.t 15)⟩, ⟨none, none, (.store 3 (.t 21) (.t 20))⟩])) (.reg [⟨some 12, none, .mv (.t 4)⟩, ⟨some 13, none, .bin .add false (.t 12) (.c (.int .i64 1))⟩, ⟨some 4, none, .mv (.t 13)⟩])))))) (.seq (.reg [⟨some 22, none, .mv (.t 3)⟩, ⟨some 2, none, .mv (.t 22)⟩]) .ret))))
theorem k_laws_toLiteralS : codeOf Tryz.prog 21 = some ⟨23, c_laws_toLiteralS, [(.tmp 2)]⟩ := by kernel_rfl
theorem m_laws_toLiteralS : modes 21 = ⟨[], .asis, none, false⟩ := by unfold modes; rfl
abbrev ToT_Literal (x : Lt) : Prop := x.bulk ≤ 1048576 → E 39 [x.sv] [] = some (x.osv, x.obs)
abbrev ToTS_Literal (xs : List Lt) : Prop := xs.length + Lt.sumB xs ≤ 1048576 → E 21 [.arr (xs.map Lt.d)] [] = some (.ref 0, [.row 74 3 (xs.map Lt.o)])
set_option maxHeartbeats 1000000 in
theorem toTS_Literal_of (xs : List Lt) (h : ∀ x ∈ xs, ToT_Literal x) : ToTS_Literal xs := by
  intro hb
  refine E_walk k_laws_toLiteralS m_laws_toLiteralS (of_decide_eq_true rfl) ?_
  simp (disch := omega) only [c_laws_toLiteralS, go_sem, go_cond, zA, zB, zC, zD, zE, zF, zG, zH, ↓reduceIte, zI, reduceCtorEq, zJ, zK]
  refine go_loop (α := Int) (fun i => ⟨slots 23 0 [(0, .arr (xs.map Lt.d)), (3, .ref 0), (4, .int .i64 i)], [.row 74 3 (fillR Lt.o [.bool false, .str ⟨#[]⟩, .ow []] xs i.toNat)]⟩) (fun i => ∃ k : Nat, i = k ∧ k ≤ xs.length) (fun i => xs.length - i.toNat) 0 ⟨0, rfl, Nat.zero_le _⟩ (by simp (disch := omega) only [go_sem, go_cond, zA, zB, zC, zD, zE, zF, zG, zH, ↓reduceIte, zI, reduceCtorEq, zJ, zK, fillR_zero, Int.toNat_zero]) ?_
  · rintro i ⟨k, rfl, hk⟩
    obtain ⟨i, hi⟩ : ∃ i : Int, i = (k : Int) := ⟨_, rfl⟩
    rw [← hi]
    have hn : i.toNat = k := by omega
    have hn1 : (i + 1).toNat = k + 1 := by omega
    rcases Nat.lt_or_ge k xs.length with hlt | hge
    · have hg := get_at Lt.d hlt
      rw [Lt.d_eq] at hg
      have hz := fillR_get Lt.o [.bool false, .str ⟨#[]⟩, .ow []] hlt
      have hle := Lt.bulk_le xs k hlt
      have hc := h xs[k] (List.getElem_mem hlt) (by omega)
      have hs := fillR_set Lt.o [.bool false, .str ⟨#[]⟩, .ow []] hlt
      rw [Lt.o_eq] at hs
      simp (disch := omega) only [go_sem, go_cond, zA, zB, zC, zD, zE, zF, zG, zH, ↓reduceIte, zI, reduceCtorEq, zJ, zK, hn, hg, hc, hz, fillR_len, m_laws_toLiteral, Lt.osv, Lt.obs]
      refine ⟨i + 1, ⟨k + 1, by omega, hlt⟩, by omega, ?_⟩
      simp (disch := omega) only [go_sem, go_cond, zA, zB, zC, zD, zE, zF, zG, zH, ↓reduceIte, zI, reduceCtorEq, zJ, zK, hn1, hs]
    · obtain rfl : k = xs.length := by omega
      simp (disch := omega) only [go_sem, go_cond, zA, zB, zC, zD, zE, zF, zG, zH, ↓reduceIte, zI, reduceCtorEq, zJ, zK, hn, fillR_end]
set_option maxHeartbeats 1000000 in
theorem toT_Literal_of (x : Lt) (h_atom : ToT_Term x.atom) : ToT_Literal x := by
  intro hb
  have qb := Lt.bulk_eq x
  replace h_atom := h_atom (by omega)
  refine E_walk k_laws_toLiteral m_laws_toLiteral (of_decide_eq_true rfl) ?_
  simp (disch := omega) only [c_laws_toLiteral, go_sem, go_cond, zA, zB, zC, zD, zE, zF, zG, zH, ↓reduceIte, zI, reduceCtorEq, zJ, zK, h_atom, m_laws_toTerm]
theorem toT_Literal (x : Lt) : ToT_Literal x := toT_Literal_of x (toT_Term x.atom)
def c_laws_toClause : SC := (.seq (.reg [⟨some 1, none, .boxv 27 1 (.t 0)⟩, ⟨some 2, none, .alloc 32 [.nil]⟩]) (.seq (.reg [⟨some 3, none, .alloc 32 [.nil]⟩]) (.seq (.reg [⟨some 4, none, .faddr 0 (.t 1)⟩, ⟨some 5, none, .load false 1 (.t 4)⟩, ⟨some 6, none, .call 21 [(.t 5)]⟩, ⟨some 7, none, .faddr 0 (.t 3)⟩, ⟨none, none, (.store 1 (.t 7) (.t 6))⟩]) (.seq (.reg [⟨some 8, none, .load true 1 (.t 3)⟩, ⟨none, none, (.store 1 (.t 2) (.t 8))⟩]) .ret))))
theorem k_laws_toClause : codeOf Tryz.prog 8 = some ⟨9, c_laws_toClause, [(.cell 2 true 1)]⟩ := by kernel_rfl
theorem m_laws_toClause : modes 8 = ⟨[], .asis, none, false⟩ := by unfold modes; rfl
abbrev ToT_Clause (x : Cl) : Prop := x.bulk ≤ 1048576 → E 8 [x.sv] [] = some (x.osv, x.obs)
set_option maxHeartbeats 1000000 in
theorem toT_Clause_of (x : Cl) (h_lits : ToTS_Literal x.lits) : ToT_Clause x := by
  intro hb
  have qb := Cl.bulk_eq x
  replace h_lits := h_lits (by omega)
  refine E_walk k_laws_toClause m_laws_toClause (of_decide_eq_true rfl) ?_
  simp (disch := omega) only [c_laws_toClause, go_sem, go_cond, zA, zB, zC, zD, zE, zF, zG, zH, ↓reduceIte, zI, reduceCtorEq, zJ, zK, h_lits, m_laws_toLiteralS]
theorem toT_Clause (x : Cl) : ToT_Clause x := toT_Clause_of x (toTS_Literal_of x.lits fun y hy => toT_Literal y)
def c_laws_toBinding : SC := (.seq (.reg [⟨some 1, none, .boxv 62 3 (.t 0)⟩, ⟨(some 2), none, (.alloc 70 [(.str ⟨#[]⟩), (.str ⟨#[]⟩), .nil])⟩]) (.seq (.reg [⟨(some 3), none, (.alloc 70 [(.str ⟨#[]⟩), (.str ⟨#[]⟩), .nil])⟩]) (.seq (.reg [⟨some 4, none, .faddr 0 (.t 1)⟩, ⟨some 5, none, .load false 1 (.t 4)⟩, ⟨some 6, none, .faddr 0 (.t 3)⟩, ⟨none, none, (.store 1 (.t 6) (.t 5))⟩]) (.seq (.reg [⟨some 7, none, .faddr 1 (.t 1)⟩, ⟨some 8, none, .load true 2 (.t 7)⟩, ⟨some 9, none, .call 61 [(.t 8)]⟩, ⟨some 10, none, .faddr 1 (.t 3)⟩, ⟨none, none, (.store 2 (.t 10) (.t 9))⟩]) (.seq (.reg [⟨some 11, none, .load true 3 (.t 3)⟩, ⟨none, none, (.store 3 (.t 2) (.t 11))⟩]) .ret)))))
theorem k_laws_toBinding : codeOf Tryz.prog 38 = some ⟨12, c_laws_toBinding, [(.cell 2 true 3)]⟩ := by kernel_rfl
theorem m_laws_toBinding : modes 38 = ⟨[], .asis, none, false⟩ := by unfold modes; rfl
def c_laws_toBindingS : SC := (.seq (.reg [⟨some 2, none, .mv (.c .nil)⟩]) (.seq (.reg [⟨some 5, none, .mv (.t 0)⟩, ⟨some 6, none, .len false (.t 5)⟩, ⟨(some 7), none, (.mkslice 70 3 56 [(.str ⟨#[]⟩), (.str ⟨#[]⟩), .nil] (.t 6))⟩, ⟨some 3, none, .mv (.t 7)⟩]) (.seq (.seq (.reg [⟨some 4, none, .mv (.c (.int .i64 0))⟩]) (.block 0 (.loop [1, 0, 0, 1, 1, 0, 0, 0, 0, 0, 0, 0, 0, 0, 0, 0, 0, 0, 0, 0, 0, 0, 0] (.seq (.seq (.reg [⟨some 8, none, .mv (.t 4)⟩, ⟨some 9, none, .mv (.t 0)⟩, ⟨some 10, none, .len false (.t 9)⟩, ⟨some 11, none, .bin .lss false (.t 8) (.t 10)⟩]) (.cond (.t 11) .skip (.exit 0))) (.seq (.block 1 (.reg [⟨some 14, none, .mv (.t 3)⟩, ⟨some 15, none, .mv (.t 4)⟩, ⟨some 16, none, .mv (.t 0)⟩, ⟨some 17, none, .mv (.t 4)⟩, ⟨some 18, none, .iaddr 3 (.t 16) (.t 17)⟩, ⟨some 19, none, .load true 3 (.t 18)⟩, ⟨some 20, none, .call 38 [(.t 19)]⟩, ⟨some 21, none, .iaddr 3 (.t 14) (.t 15)⟩, ⟨none, none, (.store 3 (.t 21) (.t 20))⟩])) (.reg [⟨some 12, none, .mv (.t 4)⟩, ⟨some 13, none, .bin .add false (.t 12) (.c (.int .i64 1))⟩, ⟨some 4, none, .mv (.t 13)⟩])))))) (.seq (.reg [⟨some 22, none, .mv (.t 3)⟩, ⟨some 2, none, .mv (.t 22)⟩]) .ret))))
theorem k_laws_toBindingS : codeOf Tryz.prog 20 = some ⟨23, c_laws_toBindingS, [(.tmp 2)]⟩ := by kernel_rfl
theorem m_laws_toBindingS : modes 20 = ⟨[], .asis, none, false⟩ := by unfold modes; rfl
abbrev ToT_Binding (x : Bd) : Prop := x.bulk ≤ 1048576 → E 38 [x.sv] [] = some (x.osv, x.obs)
abbrev ToTS_Binding (xs : List Bd) : Prop := xs.length + Bd.sumB xs ≤ 1048576 → E 20 [.arr (xs.map Bd.d)] [] = some (.ref 0, [.row 70 3 (xs.map Bd.o)])
set_option maxHeartbeats 1000000 in
theorem toTS_Binding_of (xs : List Bd) (h : ∀ x ∈ xs, ToT_Binding x) : ToTS_Binding xs := by
  intro hb
  refine E_walk k_laws_toBindingS m_laws_toBindingS (of_decide_eq_true rfl) ?_
  simp (disch := omega) only [c_laws_toBindingS, go_sem, go_cond, zA, zB, zC, zD, zE, zF, zG, zH, ↓reduceIte, zI, reduceCtorEq, zJ, zK]
  refine go_loop (α := Int) (fun i => ⟨slots 23 0 [(0, .arr (xs.map Bd.d)), (3, .ref 0), (4, .int .i64 i)], [.row 70 3 (fillR Bd.o [.str ⟨#[]⟩, .str ⟨#[]⟩, .ow []] xs i.toNat)]⟩) (fun i => ∃ k : Nat, i = k ∧ k ≤ xs.length) (fun i => xs.length - i.toNat) 0 ⟨0, rfl, Nat.zero_le _⟩ (by simp (disch := omega) only [go_sem, go_cond, zA, zB, zC, zD, zE, zF, zG, zH, ↓reduceIte, zI, reduceCtorEq, zJ, zK, fillR_zero, Int.toNat_zero]) ?_
  · rintro i ⟨k, rfl, hk⟩
    obtain ⟨i, hi⟩ : ∃ i : Int, i = (k : Int) := ⟨_, rfl⟩
    rw [← hi]
    have hn : i.toNat = k := by omega
    have hn1 : (i + 1).toNat = k + 1 := by omega
    rcases Nat.lt_or_ge k xs.length with hlt | hge
    · have hg := get_at Bd.d hlt
      rw [Bd.d_eq] at hg
      have hz := fillR_get Bd.o [.str ⟨#[]⟩, .str ⟨#[]⟩, .ow []] hlt
      have hle := Bd.bulk_le xs k hlt
      have hc := h xs[k] (List.getElem_mem hlt) (by omega)
      have hs := fillR_set Bd.o [.str ⟨#[]⟩, .str ⟨#[]⟩, .ow []] hlt
      rw [Bd.o_eq] at hs
      simp (disch := omega) only [go_sem, go_cond, zA, zB, zC, zD, zE, zF, zG, zH, ↓reduceIte, zI, reduceCtorEq, zJ, zK, hn, hg, hc, hz, fillR_len, m_laws_toBinding, Bd.osv, Bd.obs]
      refine ⟨i + 1, ⟨k + 1, by omega, hlt⟩, by omega, ?_⟩
      simp (disch := omega) only [go_sem, go_cond, zA, zB, zC, zD, zE, zF, zG, zH, ↓reduceIte, zI, reduceCtorEq, zJ, zK, hn1, hs]
    · obtain rfl : k = xs.length := by omega
      simp (disch := omega) only [go_sem, go_cond, zA, zB, zC, zD, zE, zF, zG, zH, ↓reduceIte, zI, reduceCtorEq, zJ, zK, hn, fillR_end]
set_option maxHeartbeats 1000000 in
theorem toT_Binding_of (x : Bd) (h_term : ToT_Term x.term) : ToT_Binding x := by
  intro hb
  have qb := Bd.bulk_eq x
  replace h_term := h_term (by omega)
  refine E_walk k_laws_toBinding m_laws_toBinding (of_decide_eq_true rfl) ?_
  simp (disch := omega) only [c_laws_toBinding, go_sem, go_cond, zA, zB, zC, zD, zE, zF, zG, zH, ↓reduceIte, zI, reduceCtorEq, zJ, zK, h_term, m_laws_toTerm]
theorem toT_Binding (x : Bd) : ToT_Binding x := toT_Binding_of x (toT_Term x.term)
def c_laws_toSubstitution : SC := (.seq (.reg [⟨some 1, none, .boxv 24 1 (.t 0)⟩, ⟨some 2, none, .alloc 37 [.nil]⟩]) (.seq (.reg [⟨some 3, none, .alloc 37 [.nil]⟩]) (.seq (.reg [⟨some 4, none, .faddr 0 (.t 1)⟩, ⟨some 5, none, .load false 1 (.t 4)⟩, ⟨some 6, none, .call 20 [(.t 5)]⟩, ⟨some 7, none, .faddr 0 (.t 3)⟩, ⟨none, none, (.store 1 (.t 7) (.t 6))⟩]) (.seq (.reg [⟨some 8, none, .load true 1 (.t 3)⟩, ⟨none, none, (.store 1 (.t 2) (.t 8))⟩]) .ret))))
theorem k_laws_toSubstitution : codeOf Tryz.prog 7 = some ⟨9, c_laws_toSubstitution, [(.cell 2 true 1)]⟩ := by kernel_rfl
theorem m_laws_toSubstitution : modes 7 = ⟨[], .asis, none, false⟩ := by unfold modes; rfl
abbrev ToT_Substitution (x : Sb) : Prop := x.bulk ≤ 1048576 → E 7 [x.sv] [] = some (x.osv, x.obs)
set_option maxHeartbeats 1000000 in
theorem toT_Substitution_of (x : Sb) (h_binds : ToTS_Binding x.binds) : ToT_Substitution x := by
  intro hb
  have qb := Sb.bulk_eq x
  replace h_binds := h_binds (by omega)
  refine E_walk k_laws_toSubstitution m_laws_toSubstitution (of_decide_eq_true rfl) ?_
  simp (disch := omega) only [c_laws_toSubstitution, go_sem, go_cond, zA, zB, zC, zD, zE, zF, zG, zH, ↓reduceIte, zI, reduceCtorEq, zJ, zK, h_binds, m_laws_toBindingS]
theorem toT_Substitution (x : Sb) : ToT_Substitution x := toT_Substitution_of x (toTS_Binding_of x.binds fun y hy => toT_Binding y)
def c_laws_eqTerm : SC := (.seq (.reg [⟨some 2, none, .boxv 68 2 (.t 0)⟩, ⟨some 3, none, .boxv 68 2 (.t 1)⟩, ⟨some 4, none, .mv (.c (.bool false))⟩]) (.seq (.seq (.reg [⟨some 5, none, .faddr 0 (.t 2)⟩, ⟨some 6, none, .load false 1 (.t 5)⟩, ⟨some 7, none, .faddr 0 (.t 3)⟩, ⟨some 8, none, .load false 1 (.t 7)⟩, ⟨some 9, none, .bin .neq false (.t 6) (.t 8)⟩]) (.cond (.t 9) (.seq (.reg [⟨some 4, none, .mv (.c (.bool false))⟩]) .ret) .skip)) (.seq (.seq (.reg [⟨some 10, none, .faddr 1 (.t 2)⟩, ⟨some 11, none, .load false 1 (.t 10)⟩, ⟨some 12, none, .faddr 1 (.t 3)⟩, ⟨some 13, none, .load false 1 (.t 12)⟩, ⟨some 14, none, .call 99 [(.t 11), (.t 13)]⟩, ⟨some 15, none, .un .not (.t 14)⟩]) (.cond (.t 15) (.seq (.reg [⟨some 4, none, .mv (.c (.bool false))⟩]) .ret) .skip)) (.seq (.reg [⟨some 4, none, .mv (.c (.bool true))⟩]) .ret))))
theorem k_laws_eqTerm : codeOf Tryz.prog 78 = some ⟨16, c_laws_eqTerm, [(.tmp 4)]⟩ := by kernel_rfl
theorem m_laws_eqTerm : modes 78 = ⟨[], .asis, none, false⟩ := by unfold modes; rfl
def c_laws_eqTermS : SC := (.seq (.reg [⟨some 4, none, .mv (.c (.bool false))⟩]) (.seq (.seq (.reg [⟨some 6, none, .mv (.t 0)⟩, ⟨some 7, none, .len false (.t 6)⟩, ⟨some 8, none, .mv (.t 1)⟩, ⟨some 9, none, .len false (.t 8)⟩, ⟨some 10, none, .bin .neq false (.t 7) (.t 9)⟩]) (.cond (.t 10) (.seq (.reg [⟨some 4, none, .mv (.c (.bool false))⟩]) .ret) .skip)) (.seq (.seq (.reg [⟨some 5, none, .mv (.c (.int .i64 0))⟩]) (.block 0 (.loop [1, 1, 0, 0, 0, 1, 0, 0, 0, 0, 0, 0, 0, 0, 0, 0, 0, 0, 0, 0, 0, 0, 0, 0, 0, 0, 0] (.seq (.seq (.reg [⟨some 11, none, .mv (.t 5)⟩, ⟨some 12, none, .mv (.t 0)⟩, ⟨some 13, none, .len false (.t 12)⟩, ⟨some 14, none, .bin .lss false (.t 11) (.t 13)⟩]) (.cond (.t 14) .skip (.exit 0))) (.seq (.block 1 (.seq (.dreg [[], [], [0, 1], [2, 0, 1], [], [], [4, 5], [6, 4, 5], [3, 2, 0, 1, 7, 6, 4, 5], [8, 3, 2, 0, 1, 7, 6, 4, 5]] [⟨some 17, none, .mv (.t 0)⟩, ⟨some 18, none, .mv (.t 5)⟩, ⟨some 19, none, .iaddr 2 (.t 17) (.t 18)⟩, ⟨some 20, none, .load true 2 (.t 19)⟩, ⟨some 21, none, .mv (.t 1)⟩, ⟨some 22, none, .mv (.t 5)⟩, ⟨some 23, none, .iaddr 2 (.t 21) (.t 22)⟩, ⟨some 24, none, .load true 2 (.t 23)⟩, ⟨some 25, none, .call 78 [(.t 20), (.t 24)]⟩, ⟨some 26, none, .un .not (.t 25)⟩]) (.cond (.t 26) (.seq (.reg [⟨some 4, none, .mv (.c (.bool false))⟩]) .ret) .skip))) (.reg [⟨some 15, none, .mv (.t 5)⟩, ⟨some 16, none, .bin .add false (.t 15) (.c (.int .i64 1))⟩, ⟨some 5, none, .mv (.t 16)⟩])))))) (.seq (.reg [⟨some 4, none, .mv (.c (.bool true))⟩]) .ret))))
theorem k_laws_eqTermS : codeOf Tryz.prog 99 = some ⟨27, c_laws_eqTermS, [(.tmp 4)]⟩ := by kernel_rfl
theorem m_laws_eqTermS : modes 99 = ⟨[], .asis, none, false⟩ := by unfold modes; rfl
abbrev EqT_Term (x : Tm) : Prop := x.bulk ≤ 1048576 → E 78 [x.sv, x.sv] [] = some (.bool true, [])
abbrev EqTS_Term (xs : List Tm) : Prop := xs.length + Tm.sumB xs ≤ 1048576 → E 99 [.arr (xs.map Tm.d), .arr (xs.map Tm.d)] [] = some (.bool true, [])
set_option maxHeartbeats 1000000 in
theorem eqTS_Term_of (xs : List Tm) (h : ∀ x ∈ xs, EqT_Term x) : EqTS_Term xs := by
  intro hb
  refine E_walk k_laws_eqTermS m_laws_eqTermS (of_decide_eq_true rfl) ?_
  simp (disch := omega) only [c_laws_eqTermS, go_sem, go_cond, zA, zB, zC, zD, zE, zF, zG, zH, ↓reduceIte, zI, reduceCtorEq, zJ, zK]
  refine go_loop (α := Int) (fun i => ⟨slots 27 0 [(0, .arr (xs.map Tm.d)), (1, .arr (xs.map Tm.d)), (5, .int .i64 i)], []⟩) (fun i => ∃ k : Nat, i = k ∧ k ≤ xs.length) (fun i => xs.length - i.toNat) 0 ⟨0, rfl, Nat.zero_le _⟩ (by simp (disch := omega) only [go_sem, go_cond, zA, zB, zC, zD, zE, zF, zG, zH, ↓reduceIte, zI, reduceCtorEq, zJ, zK]) ?_
  · rintro i ⟨k, rfl, hk⟩
    obtain ⟨i, hi⟩ : ∃ i : Int, i = (k : Int) := ⟨_, rfl⟩
    rw [← hi]
    have hn : i.toNat = k := by omega
    rcases Nat.lt_or_ge k xs.length with hlt | hge
    · have hg := get_at Tm.d hlt
      rw [Tm.d_eq] at hg
      have hle := Tm.bulk_le xs k hlt
      have hc := h xs[k] (List.getElem_mem hlt) (by omega)
      simp (disch := omega) only [go_sem, go_cond, zA, zB, zC, zD, zE, zF, zG, zH, ↓reduceIte, zI, reduceCtorEq, zJ, zK, hn, hg, hc, m_laws_eqTerm]
      refine ⟨i + 1, ⟨k + 1, by omega, hlt⟩, by omega, ?_⟩
      trivial
    · obtain rfl : k = xs.length := by omega
      simp (disch := omega) only [go_sem, go_cond, zA, zB, zC, zD, zE, zF, zG, zH, ↓reduceIte, zI, reduceCtorEq, zJ, zK, hn]
set_option maxHeartbeats 1000000 in
theorem eqT_Term_of (x : Tm) (h_args : EqTS_Term x.args) : EqT_Term x := by
  intro hb
  have qb := Tm.bulk_eq x
  replace h_args := h_args (by omega)
  refine E_walk k_laws_eqTerm m_laws_eqTerm (of_decide_eq_true rfl) ?_
  simp (disch := omega) only [c_laws_eqTerm, go_sem, go_cond, zA, zB, zC, zD, zE, zF, zG, zH, ↓reduceIte, zI, reduceCtorEq, zJ, zK, h_args, m_laws_eqTermS, dec_refl]
theorem eqT_Term (x : Tm) : EqT_Term x := eqT_Term_of x (eqTS_Term_of x.args fun y hy => eqT_Term y)
termination_by SizeOf.sizeOf x
decreasing_by exact Tm.lt_of_mem hy
def c_laws_eqLiteral : SC := (.seq (.reg [⟨some 2, none, .boxv 74 3 (.t 0)⟩, ⟨some 3, none, .boxv 74 3 (.t 1)⟩, ⟨some 4, none, .mv (.c (.bool false))⟩]) (.seq (.seq (.reg [⟨some 5, none, .faddr 0 (.t 2)⟩, ⟨some 6, none, .load false 1 (.t 5)⟩, ⟨some 7, none, .faddr 0 (.t 3)⟩, ⟨some 8, none, .load false 1 (.t 7)⟩, ⟨some 9, none, .bin .neq true (.t 6) (.t 8)⟩]) (.cond (.t 9) (.seq (.reg [⟨some 4, none, .mv (.c (.bool false))⟩]) .ret) .skip)) (.seq (.seq (.reg [⟨some 10, none, .faddr 1 (.t 2)⟩, ⟨some 11, none, .load true 2 (.t 10)⟩, ⟨some 12, none, .faddr 1 (.t 3)⟩, ⟨some 13, none, .load true 2 (.t 12)⟩, ⟨some 14, none, .call 78 [(.t 11), (.t 13)]⟩, ⟨some 15, none, .un .not (.t 14)⟩]) (.cond (.t 15) (.seq (.reg [⟨some 4, none, .mv (.c (.bool false))⟩]) .ret) .skip)) (.seq (.reg [⟨some 4, none, .mv (.c (.bool true))⟩]) .ret))))
theorem k_laws_eqLiteral : codeOf Tryz.prog 47 = some ⟨16, c_laws_eqLiteral, [(.tmp 4)]⟩ := by kernel_rfl
theorem m_laws_eqLiteral : modes 47 = ⟨[], .asis, none, false⟩ := by unfold modes; rfl
def c_laws_eqLiteralS : SC := (.seq (.reg [⟨some 4, none, .mv (.c (.bool false))⟩]) (.seq (.seq (.reg [⟨some 6, none, .mv (.t 0)⟩, ⟨some 7, none, .len false (.t 6)⟩, ⟨some 8, none, .mv (.t 1)⟩, ⟨some 9, none, .len false (.t 8)⟩, ⟨some 10, none, .bin .neq false (.t 7) (.t 9)⟩]) (.cond (.t 10) (.seq (.reg [⟨some 4, none, .mv (.c (.bool false))⟩]) .ret) .skip)) (.seq (.seq (.reg [⟨some 5, none, .mv (.c (.int .i64 0))⟩]) (.block 0 (.loop [1, 1, 0, 0, 0, 1, 0, 0, 0, 0, 0, 0, 0, 0, 0, 0, 0, 0, 0, 0, 0, 0, 0, 0, 0, 0, 0] (.seq (.seq (.reg [⟨some 11, none, .mv (.t 5)⟩, ⟨some 12, none, .mv (.t 0)⟩, ⟨some 13, none, .len false (.t 12)⟩, ⟨some 14, none, .bin .lss false (.t 11) (.t 13)⟩]) (.cond (.t 14) .skip (.exit 0))) (.seq (.block 1 (.seq (.dreg [[], [], [0, 1], [2, 0, 1], [], [], [4, 5], [6, 4, 5], [3, 2, 0, 1, 7, 6, 4, 5], [8, 3, 2, 0, 1, 7, 6, 4, 5]] [⟨some 17, none, .mv (.t 0)⟩, ⟨some 18, none, .mv (.t 5)⟩, ⟨some 19, none, .iaddr 3 (.t 17) (.t 18)⟩, ⟨some 20, none, .load true 3 (.t 19)⟩, ⟨some 21, none, .mv (.t 1)⟩, ⟨some 22, none, .mv (.t 5)⟩, ⟨some 23, none, .iaddr 3 (.t 21) (.t 22)⟩, ⟨some 24, none, .load true 3 (.t 23)⟩, ⟨some 25, none, .call 47 [(.t 20), (.t 24)]⟩, ⟨some 26, none, .un .not (.t 25)⟩]) (.cond (.t 26) (.seq (.reg [⟨some 4, none, .mv (.c (.bool false))⟩]) .ret) .skip))) (.reg [⟨some 15, none, .mv (.t 5)⟩, ⟨some 16, none, .bin .add false (.t 15) (.c (.int .i64 1))⟩, ⟨some 5, none, .mv (.t 16)⟩])))))) (.seq (.reg [⟨some 4, none, .mv (.c (.bool true))⟩]) .ret))))
theorem k_laws_eqLiteralS : codeOf Tryz.prog 25 = some ⟨27, c_laws_eqLiteralS, [(.tmp 4)]⟩ := by kernel_rfl
theorem m_laws_eqLiteralS : modes 25 = ⟨[], .asis, none, false⟩ := by unfold modes; rfl
abbrev EqT_Literal (x : Lt) : Prop := x.bulk ≤ 1048576 → E 47 [x.sv, x.sv] [] = some (.bool true, [])
abbrev EqTS_Literal (xs : List Lt) : Prop := xs.length + Lt.sumB xs ≤ 1048576 → E 25 [.arr (xs.map Lt.d), .arr (xs.map Lt.d)] [] = some (.bool true, [])
set_option maxHeartbeats 1000000 in
theorem eqTS_Literal_of (xs : List Lt) (h : ∀ x ∈ xs, EqT_Literal x) : EqTS_Literal xs := by
  intro hb
  refine E_walk k_laws_eqLiteralS m_laws_eqLiteralS (of_decide_eq_true rfl) ?_
  simp (disch := omega) only [c_laws_eqLiteralS, go_sem, go_cond, zA, zB, zC, zD, zE, zF, zG, zH, ↓reduceIte, zI, reduceCtorEq, zJ, zK]
  refine go_loop (α := Int) (fun i => ⟨slots 27 0 [(0, .arr (xs.map Lt.d)), (1, .arr (xs.map Lt.d)), (5, .int .i64 i)], []⟩) (fun i => ∃ k : Nat, i = k ∧ k ≤ xs.length) (fun i => xs.length - i.toNat) 0 ⟨0, rfl, Nat.zero_le _⟩ (by simp (disch := omega) only [go_sem, go_cond, zA, zB, zC, zD, zE, zF, zG, zH, ↓reduceIte, zI, reduceCtorEq, zJ, zK]) ?_
  · rintro i ⟨k, rfl, hk⟩
    obtain ⟨i, hi⟩ : ∃ i : Int, i = (k : Int) := ⟨_, rfl⟩
    rw [← hi]
    have hn : i.toNat = k := by omega
    rcases Nat.lt_or_ge k xs.length with hlt | hge
    · have hg := get_at Lt.d hlt
      rw [Lt.d_eq] at hg
      have hle := Lt.bulk_le xs k hlt
      have hc := h xs[k] (List.getElem_mem hlt) (by omega)
      simp (disch := omega) only [go_sem, go_cond, zA, zB, zC, zD, zE, zF, zG, zH, ↓reduceIte, zI, reduceCtorEq, zJ, zK, hn, hg, hc, m_laws_eqLiteral]
      refine ⟨i + 1, ⟨k + 1, by omega, hlt⟩, by omega, ?_⟩
      trivial
    · obtain rfl : k = xs.length := by omega
      simp (disch := omega) only [go_sem, go_cond, zA, zB, zC, zD, zE, zF, zG, zH, ↓reduceIte, zI, reduceCtorEq, zJ, zK, hn]
set_option maxHeartbeats 1000000 in
theorem eqT_Literal_of (x : Lt) (h_atom : EqT_Term x.atom) : EqT_Literal x := by
  intro hb
  have qb := Lt.bulk_eq x
  replace h_atom := h_atom (by omega)
  refine E_walk k_laws_eqLiteral m_laws_eqLiteral (of_decide_eq_true rfl) ?_
  simp (disch := omega) only [c_laws_eqLiteral, go_sem, go_cond, zA, zB, zC, zD, zE, zF, zG, zH, ↓reduceIte, zI, reduceCtorEq, zJ, zK, h_atom, m_laws_eqTerm, dec_refl]
theorem eqT_Literal (x : Lt) : EqT_Literal x := eqT_Literal_of x (eqT_Term x.atom)
def c_laws_eqClause : SC := (.seq (.reg [⟨some 2, none, .boxv 32 1 (.t 0)⟩, ⟨some 3, none, .boxv 32 1 (.t 1)⟩, ⟨some 4, none, .mv (.c (.bool false))⟩]) (.seq (.seq (.reg [⟨some 5, none, .faddr 0 (.t 2)⟩, ⟨some 6, none, .load false 1 (.t 5)⟩, ⟨some 7, none, .faddr 0 (.t 3)⟩, ⟨some 8, none, .load false 1 (.t 7)⟩, ⟨some 9, none, .call 25 [(.t 6), (.t 8)]⟩, ⟨some 10, none, .un .not (.t 9)⟩]) (.cond (.t 10) (.seq (.reg [⟨some 4, none, .mv (.c (.bool false))⟩]) .ret) .skip)) (.seq (.reg [⟨some 4, none, .mv (.c (.bool true))⟩]) .ret)))
theorem k_laws_eqClause : codeOf Tryz.prog 10 = some ⟨11, c_laws_eqClause, [(.tmp 4)]⟩ := by kernel_rfl
theorem m_laws_eqClause : modes 10 = ⟨[], .asis, none, false⟩ := by unfold modes; rfl
abbrev EqT_Clause (x : Cl) : Prop := x.bulk ≤ 1048576 → E 10 [x.sv, x.sv] [] = some (.bool true, [])
set_option maxHeartbeats 1000000 in
theorem eqT_Clause_of (x : Cl) (h_lits : EqTS_Literal x.lits) : EqT_Clause x := by
  intro hb
  have qb := Cl.bulk_eq x
  replace h_lits := h_lits (by omega)
  refine E_walk k_laws_eqClause m_laws_eqClause (of_decide_eq_true rfl) ?_
  simp (disch := omega) only [c_laws_eqClause, go_sem, go_cond, zA, zB, zC, zD, zE, zF, zG, zH, ↓reduceIte, zI, reduceCtorEq, zJ, zK, h_lits, m_laws_eqLiteralS, dec_refl]
theorem eqT_Clause (x : Cl) : EqT_Clause x := eqT_Clause_of x (eqTS_Literal_of x.lits fun y hy => eqT_Literal y)
def c_laws_eqBinding : SC := (.seq (.reg [⟨some 2, none, .boxv 70 3 (.t 0)⟩, ⟨some 3, none, .boxv 70 3 (.t 1)⟩, ⟨some 4, none, .mv (.c (.bool false))⟩]) (.seq (.seq (.reg [⟨some 5, none, .faddr 0 (.t 2)⟩, ⟨some 6, none, .load false 1 (.t 5)⟩, ⟨some 7, none, .faddr 0 (.t 3)⟩, ⟨some 8, none, .load false 1 (.t 7)⟩, ⟨some 9, none, .bin .neq false (.t 6) (.t 8)⟩]) (.cond (.t 9) (.seq (.reg [⟨some 4, none, .mv (.c (.bool false))⟩]) .ret) .skip)) (.seq (.seq (.reg [⟨some 10, none, .faddr 1 (.t 2)⟩, ⟨some 11, none, .load true 2 (.t 10)⟩, ⟨some 12, none, .faddr 1 (.t 3)⟩, ⟨some 13, none, .load true 2 (.t 12)⟩, ⟨some 14, none, .call 78 [(.t 11), (.t 13)]⟩, ⟨some 15, none, .un .not (.t 14)⟩]) (.cond (.t 15) (.seq (.reg [⟨some 4, none, .mv (.c (.bool false))⟩]) .ret) .skip)) (.seq (.reg [⟨some 4, none, .mv (.c (.bool true))⟩]) .ret))))
theorem k_laws_eqBinding : codeOf Tryz.prog 48 = some ⟨16, c_laws_eqBinding, [(.tmp 4)]⟩ := by kernel_rfl
theorem m_laws_eqBinding : modes 48 = ⟨[], .asis, none, false⟩ := by unfold modes; rfl
def c_laws_eqBindingS : SC := (.seq (.reg [⟨some 4, none, .mv (.c (.bool false))⟩]) (.seq (.seq (.reg [⟨some 6, none, .mv (.t 0)⟩, ⟨some 7, none, .len false (.t 6)⟩, ⟨some 8, none, .mv (.t 1)⟩, ⟨some 9, none, .len false (.t 8)⟩, ⟨some 10, none, .bin .neq false (.t 7) (.t 9)⟩]) (.cond (.t 10) (.seq (.reg [⟨some 4, none, .mv (.c (.bool false))⟩]) .ret) .skip)) (.seq (.seq (.reg [⟨some 5, none, .mv (.c (.int .i64 0))⟩]) (.block 0 (.loop [1, 1, 0, 0, 0, 1, 0, 0, 0, 0, 0, 0, 0, 0, 0, 0, 0, 0, 0, 0, 0, 0, 0, 0, 0, 0, 0] (.seq (.seq (.reg [⟨some 11, none, .mv (.t 5)⟩, ⟨some 12, none, .mv (.t 0)⟩, ⟨some 13, none, .len false (.t 12)⟩, ⟨some 14, none, .bin .lss false (.t 11) (.t 13)⟩]) (.cond (.t 14) .skip (.exit 0))) (.seq (.block 1 (.seq (.dreg [[], [], [0, 1], [2, 0, 1], [], [], [4, 5], [6, 4, 5], [3, 2, 0, 1, 7, 6, 4, 5], [8, 3, 2, 0, 1, 7, 6, 4, 5]] [⟨some 17, none, .mv (.t 0)⟩, ⟨some 18, none, .mv (.t 5)⟩, ⟨some 19, none, .iaddr 3 (.t 17) (.t 18)⟩, ⟨some 20, none, .load true 3 (.t 19)⟩, ⟨some 21, none, .mv (.t 1)⟩, ⟨some 22, none, .mv (.t 5)⟩, ⟨some 23, none, .iaddr 3 (.t 21) (.t 22)⟩, ⟨some 24, none, .load true 3 (.t 23)⟩, ⟨some 25, none, .call 48 [(.t 20), (.t 24)]⟩, ⟨some 26, none, .un .not (.t 25)⟩]) (.cond (.t 26) (.seq (.reg [⟨some 4, none, .mv (.c (.bool false))⟩]) .ret) .skip))) (.reg [⟨some 15, none, .mv (.t 5)⟩, ⟨some 16, none, .bin .add false (.t 15) (.c (.int .i64 1))⟩, ⟨some 5, none, .mv (.t 16)⟩])))))) (.seq (.reg [⟨some 4, none, .mv (.c (.bool true))⟩]) .ret))))
theorem k_laws_eqBindingS : codeOf Tryz.prog 26 = some ⟨27, c_laws_eqBindingS, [(.tmp 4)]⟩ := by kernel_rfl
theorem m_laws_eqBindingS : modes 26 = ⟨[], .asis, none, false⟩ := by unfold modes; rfl
abbrev EqT_Binding (x : Bd) : Prop := x.bulk ≤ 1048576 → E 48 [x.sv, x.sv] [] = some (.bool true, [])
abbrev EqTS_Binding (xs : List Bd) : Prop := xs.length + Bd.sumB xs ≤ 1048576 → E 26 [.arr (xs.map Bd.d), .arr (xs.map Bd.d)] [] = some (.bool true, [])
set_option maxHeartbeats 1000000 in
theorem eqTS_Binding_of (xs : List Bd) (h : ∀ x ∈ xs, EqT_Binding x) : EqTS_Binding xs := by
  intro hb
  refine E_walk k_laws_eqBindingS m_laws_eqBindingS (of_decide_eq_true rfl) ?_
  simp (disch := omega) only [c_laws_eqBindingS, go_sem, go_cond, zA, zB, zC, zD, zE, zF, zG, zH, ↓reduceIte, zI, reduceCtorEq, zJ, zK]
  refine go_loop (α := Int) (fun i => ⟨slots 27 0 [(0, .arr (xs.map Bd.d)), (1, .arr (xs.map Bd.d)), (5, .int .i64 i)], []⟩) (fun i => ∃ k : Nat, i = k ∧ k ≤ xs.length) (fun i => xs.length - i.toNat) 0 ⟨0, rfl, Nat.zero_le _⟩ (by simp (disch := omega) only [go_sem, go_cond, zA, zB, zC, zD, zE, zF, zG, zH, ↓reduceIte, zI, reduceCtorEq, zJ, zK]) ?_
  · rintro i ⟨k, rfl, hk⟩
    obtain ⟨i, hi⟩ : ∃ i : Int, i = (k : Int) := ⟨_, rfl⟩
    rw [← hi]
    have hn : i.toNat = k := by omega
    rcases Nat.lt_or_ge k xs.length with hlt | hge
    · have hg := get_at Bd.d hlt
      rw [Bd.d_eq] at hg
      have hle := Bd.bulk_le xs k hlt
      have hc := h xs[k] (List.getElem_mem hlt) (by omega)
      simp (disch := omega) only [go_sem, go_cond, zA, zB, zC, zD, zE, zF, zG, zH, ↓reduceIte, zI, reduceCtorEq, zJ, zK, hn, hg, hc, m_laws_eqBinding]
      refine ⟨i + 1, ⟨k + 1, by omega, hlt⟩, by omega, ?_⟩
      trivial
    · obtain rfl : k = xs.length := by omega
      simp (disch := omega) only [go_sem, go_cond, zA, zB, zC, zD, zE, zF, zG, zH, ↓reduceIte, zI, reduceCtorEq, zJ, zK, hn]
set_option maxHeartbeats 1000000 in
theorem eqT_Binding_of (x : Bd) (h_term : EqT_Term x.term) : EqT_Binding x := by
  intro hb
  have qb := Bd.bulk_eq x
  replace h_term := h_term (by omega)
  refine E_walk k_laws_eqBinding m_laws_eqBinding (of_decide_eq_true rfl) ?_
  simp (disch := omega) only [c_laws_eqBinding, go_sem, go_cond, zA, zB, zC, zD, zE, zF, zG, zH, ↓reduceIte, zI, reduceCtorEq, zJ, zK, h_term, m_laws_eqTerm, dec_refl]
theorem eqT_Binding (x : Bd) : EqT_Binding x := eqT_Binding_of x (eqT_Term x.term)
def c_laws_eqSubstitution : SC := (.seq (.reg [⟨some 2, none, .boxv 37 1 (.t 0)⟩, ⟨some 3, none, .boxv 37 1 (.t 1)⟩, ⟨some 4, none, .mv (.c (.bool false))⟩]) (.seq (.seq (.reg [⟨some 5, none, .faddr 0 (.t 2)⟩, ⟨some 6, none, .load false 1 (.t 5)⟩, ⟨some 7, none, .faddr 0 (.t 3)⟩, ⟨some 8, none, .load false 1 (.t 7)⟩, ⟨some 9, none, .call 26 [(.t 6), (.t 8)]⟩, ⟨some 10, none, .un .not (.t 9)⟩]) (.cond (.t 10) (.seq (.reg [⟨some 4, none, .mv (.c (.bool false))⟩]) .ret) .skip)) (.seq (.reg [⟨some 4, none, .mv (.c (.bool true))⟩]) .ret)))
theorem k_laws_eqSubstitution : codeOf Tryz.prog 11 = some ⟨11, c_laws_eqSubstitution, [(.tmp 4)]⟩ := by kernel_rfl
theorem m_laws_eqSubstitution : modes 11 = ⟨[], .asis, none, false⟩ := by unfold modes; rfl
abbrev EqT_Substitution (x : Sb) : Prop := x.bulk ≤ 1048576 → E 11 [x.sv, x.sv] [] = some (.bool true, [])
set_option maxHeartbeats 1000000 in
theorem eqT_Substitution_of (x : Sb) (h_binds : EqTS_Binding x.binds) : EqT_Substitution x := by
  intro hb
  have qb := Sb.bulk_eq x
  replace h_binds := h_binds (by omega)
  refine E_walk k_laws_eqSubstitution m_laws_eqSubstitution (of_decide_eq_true rfl) ?_
  simp (disch := omega) only [c_laws_eqSubstitution, go_sem, go_cond, zA, zB, zC, zD, zE, zF, zG, zH, ↓reduceIte, zI, reduceCtorEq, zJ, zK, h_binds, m_laws_eqBindingS, dec_refl]
theorem eqT_Substitution (x : Sb) : EqT_Substitution x := eqT_Substitution_of x (eqTS_Binding_of x.binds fun y hy => eqT_Binding y)
theorem Sb.tame_of {x : Sb} (h : x.bulk ≤ 1048576) : x.tame := by
  rw [Sb.bulk_eq] at h
  refine ⟨by omega, fun y hy => ?_⟩
  obtain ⟨k, hk, rfl⟩ := List.getElem_of_mem hy
  have h1 := Bd.bulk_le x.binds k hk
  have h2 := Tm.nodes_bulk x.binds[k].term
  have h3 := Bd.bulk_eq x.binds[k]
  omega
theorem Cl.bulk_tame (x : Cl) (h : x.bulk ≤ 1048576) : x.tame := by
  rw [Cl.bulk_eq] at h
  refine ⟨by omega, fun y hy => ?_⟩
  obtain ⟨k, hk, rfl⟩ := List.getElem_of_mem hy
  have h1 := Lt.bulk_le x.lits k hk
  have h2 := Tm.nodes_bulk x.lits[k].atom
  rw [Lt.bulk_eq] at h1
  omega
theorem Tm.atom_bulk {x : Tm} (h : x.atom = true) : x.bulk ≤ 300 := by
  have hx := Tm.atom_expr h
  have hn := Tm.expr_nodes hx
  have h1 := Tm.sumB_nodes x.args fun y hy => Tm.names_bulk y (Tm.expr_arg hx hy)
  have h2 : x.name.size ≤ 6 := by
    rcases Tm.expr_names hx with h3 | ⟨h3, _⟩
    · rw [Tm.names_eq] at h3
      split at h3
      · rename_i hv; exact varB_size hv
      · rw [Bool.and_eq_true, Bool.and_eq_true] at h3; exact symB_size h3.1.1
    · unfold Tm.eqn at h3
      rw [dec_iff.1 h3]; decide
  rw [Tm.nodes_eq] at hn
  rw [Tm.bulk_eq]
  omega
theorem Lt.sumB_atoms : ∀ xs : List Lt, (∀ x ∈ xs, x.atom.atom = true) → Lt.sumB xs ≤ 300 * xs.length
  | [], _ => by simp [Lt.sumB]
  | x :: xs, h => by
    have h1 := Tm.atom_bulk (h x (by simp))
    have h2 := Lt.sumB_atoms xs fun y hy => h y (by simp [hy])
    rw [Lt.sumB, Lt.bulk_eq, List.length_cons]; omega
theorem Cl.ok_bulk {x : Cl} (h : x.ok = true) : x.bulk ≤ 2408 := by
  have h1 := Cl.ok_len h
  have h2 := Lt.sumB_atoms x.lits (Cl.ok_atom h)
  rw [Cl.bulk_eq]; omega
theorem Cl.zero_bulk : (Cl.mk []).bulk ≤ 2408 := by
  rw [Cl.bulk_eq]
  show 0 + Lt.sumB [] ≤ 2408
  simp [Lt.sumB]
theorem apC_bulk (s : Sb) (l : List Lt) : (apC s l).bulk ≤ 2408 := by
  cases h : apcOk s l with
  | false => rw [apC_no h]; exact Cl.zero_bulk
  | true =>
    rw [apC_yes h]
    unfold apcOk at h
    rw [Bool.and_eq_true] at h
    exact Cl.ok_bulk h.2
def c_laws_FnExactApplyToClause : SC := (.seq (.reg [⟨some 2, none, .boxv 24 1 (.t 0)⟩, ⟨some 3, none, .boxv 27 1 (.t 1)⟩, ⟨some 4, none, .mv (.c (.bool false))⟩]) (.seq (.reg [⟨some 5, none, .mv (.c (.int .i64 1048576))⟩]) (.seq (.reg [⟨some 17, none, .load true 1 (.t 2)⟩, ⟨some 18, none, .mv (.t 5)⟩, ⟨some 19, none, .call 4 [(.t 17), (.t 18)]⟩, ⟨some 5, none, .mv (.t 19)⟩]) (.seq (.seq (.reg [⟨some 20, none, .mv (.t 5)⟩, ⟨some 21, none, .bin .lss false (.t 20) (.c (.int .i64 0))⟩]) (.cond (.t 21) (.seq (.reg [⟨some 4, none, .mv (.c (.bool true))⟩]) .ret) .skip)) (.seq (.reg [⟨some 22, none, .load true 1 (.t 3)⟩, ⟨some 23, none, .mv (.t 5)⟩, ⟨some 24, none, .call 5 [(.t 22), (.t 23)]⟩, ⟨some 5, none, .mv (.t 24)⟩]) (.seq (.seq (.reg [⟨some 25, none, .mv (.t 5)⟩, ⟨some 26, none, .bin .lss false (.t 25) (.c (.int .i64 0))⟩]) (.cond (.t 26) (.seq (.reg [⟨some 4, none, .mv (.c (.bool true))⟩]) .ret) .skip)) (.seq (.dreg [[], [0], [], [2, 1, 0], [1, 0, 3, 2], [4, 1, 0, 3, 2], [5, 4, 1, 0, 3, 2], [5, 4, 1, 0, 3, 2], [], [8, 6, 5, 4, 1, 0, 3, 2], [7, 5, 4, 1, 0, 3, 2, 9, 8, 6]] [⟨some 28, none, .load true 1 (.t 2)⟩, ⟨some 29, none, .call 7 [(.t 28)]⟩, ⟨some 30, none, .load true 1 (.t 3)⟩, ⟨some 31, none, .call 8 [(.t 30)]⟩, ⟨some 32, none, .call 6 [(.t 29), (.t 31)]⟩, ⟨some 27, none, .mv (.t 32)⟩, ⟨some 33, none, .ext (.t 27) 0⟩, ⟨some 34, none, .ext (.t 27) 1⟩, ⟨some 6, none, .alloc 32 [.nil]⟩, ⟨none, none, (.store 1 (.t 6) (.t 33))⟩, ⟨some 7, none, .mv (.t 34)⟩]) (.seq (.reg [⟨some 35, none, .load true 1 (.t 2)⟩, ⟨some 36, none, .call 7 [(.t 35)]⟩, ⟨some 8, none, .alloc 37 [.nil]⟩, ⟨none, none, (.store 1 (.t 8) (.t 36))⟩]) (.seq (.reg [⟨some 37, none, .load true 1 (.t 3)⟩, ⟨some 38, none, .call 8 [(.t 37)]⟩, ⟨some 9, none, .alloc 32 [.nil]⟩, ⟨none, none, (.store 1 (.t 9) (.t 38))⟩]) (.seq (.reg [⟨some 40, none, .load true 1 (.t 8)⟩, ⟨some 41, none, .load true 1 (.t 9)⟩, ⟨some 42, none, .call 9 [(.t 40), (.t 41)]⟩, ⟨some 39, none, .mv (.t 42)⟩, ⟨some 43, none, .ext (.t 39) 0⟩, ⟨some 44, none, .ext (.t 39) 1⟩, ⟨some 10, none, .alloc 32 [.nil]⟩, ⟨none, none, (.store 1 (.t 10) (.t 43))⟩, ⟨some 11, none, .mv (.t 44)⟩]) (.seq (.seq (.reg [⟨some 45, none, .load true 1 (.t 10)⟩, ⟨some 46, none, .load true 1 (.t 6)⟩, ⟨some 47, none, .call 10 [(.t 45), (.t 46)]⟩, ⟨some 48, none, .un .not (.t 47)⟩, ⟨some 49, none, .mv (.t 48)⟩, ⟨(some 50), (some (49, false)), (.mv (.t 11))⟩, ⟨(some 51), (some (49, false)), (.mv (.t 7))⟩, ⟨(some 52), (some (49, false)), (.bin .neq true (.t 50) (.t 51))⟩, ⟨some 53, none, .pick (.t 49) (.c (.bool true)) (.t 52)⟩]) (.cond (.t 53) (.seq (.reg [⟨some 4, none, .mv (.c (.bool false))⟩]) .ret) .skip)) (.seq (.seq (.dreg [[], [], [1], [0, 2, 1], [3, 0, 2, 1]] [⟨some 54, none, .load true 1 (.t 8)⟩, ⟨some 55, none, .load true 1 (.t 2)⟩, ⟨some 56, none, .call 7 [(.t 55)]⟩, ⟨some 57, none, .call 11 [(.t 54), (.t 56)]⟩, ⟨some 58, none, .un .not (.t 57)⟩]) (.cond (.t 58) (.seq (.reg [⟨some 4, none, .mv (.c (.bool false))⟩]) .ret) .skip)) (.seq (.seq (.dreg [[], [], [1], [0, 2, 1], [3, 0, 2, 1]] [⟨some 59, none, .load true 1 (.t 9)⟩, ⟨some 60, none, .load true 1 (.t 3)⟩, ⟨some 61, none, .call 8 [(.t 60)]⟩, ⟨some 62, none, .call 10 [(.t 59), (.t 61)]⟩, ⟨some 63, none, .un .not (.t 62)⟩]) (.cond (.t 63) (.seq (.reg [⟨some 4, none, .mv (.c (.bool false))⟩]) .ret) .skip)) (.seq (.reg [⟨some 12, none, .mv (.c (.int .i64 1))⟩]) (.seq (.reg [⟨some 64, none, .load true 1 (.t 8)⟩, ⟨some 65, none, .mv (.t 12)⟩, ⟨some 66, none, .call 12 [(.t 64), (.t 65)]⟩, ⟨some 12, none, .mv (.t 66)⟩]) (.seq (.reg [⟨some 67, none, .load true 1 (.t 9)⟩, ⟨some 68, none, .mv (.t 12)⟩, ⟨some 69, none, .call 13 [(.t 67), (.t 68)]⟩, ⟨some 12, none, .mv (.t 69)⟩]) (.seq (.seq (.reg [⟨some 70, none, .mv (.t 12)⟩, ⟨some 71, none, .bin .lss false (.t 70) (.c (.int .i64 0))⟩, ⟨some 72, none, .mv (.t 71)⟩, ⟨(some 73), (some (72, false)), (.load true 1 (.t 10))⟩, ⟨(some 74), (some (72, false)), (.load true 1 (.t 6))⟩, ⟨(some 75), (some (72, false)), (.call 10 [(.t 73), (.t 74)])⟩, ⟨(some 76), (some (72, false)), (.un .not (.t 75))⟩, ⟨some 77, none, .pick (.t 72) (.c (.bool true)) (.t 76)⟩, ⟨some 78, none, .mv (.t 77)⟩, ⟨(some 79), (some (78, false)), (.mv (.t 11))⟩, ⟨(some 80), (some (78, false)), (.mv (.t 7))⟩, ⟨(some 81), (some (78, false)), (.bin .neq true (.t 79) (.t 80))⟩, ⟨some 82, none, .pick (.t 78) (.c (.bool true)) (.t 81)⟩]) (.cond (.t 82) (.seq (.reg [⟨some 4, none, .mv (.c (.bool false))⟩]) .ret) .skip)) (.seq (.reg [⟨some 13, none, .mv (.c (.int .i64 1))⟩]) (.seq (.reg [⟨some 83, none, .load true 1 (.t 10)⟩, ⟨some 84, none, .mv (.t 13)⟩, ⟨some 85, none, .call 13 [(.t 83), (.t 84)]⟩, ⟨some 13, none, .mv (.t 85)⟩]) (.seq (.reg [⟨some 14, none, .mv (.c (.int .i64 1))⟩]) (.seq (.reg [⟨some 86, none, .load true 1 (.t 10)⟩, ⟨some 87, none, .mv (.t 14)⟩, ⟨some 88, none, .call 14 [(.t 86), (.t 87)]⟩, ⟨some 14, none, .mv (.t 88)⟩]) (.seq (.seq (.reg [⟨some 89, none, .mv (.t 14)⟩, ⟨some 90, none, .bin .lss false (.t 89) (.c (.int .i64 0))⟩]) (.cond (.t 90) (.seq (.reg [⟨some 4, none, .mv (.c (.bool false))⟩]) .ret) .skip)) (.seq (.seq (.reg [⟨some 91, none, .mv (.t 14)⟩, ⟨some 92, none, .mv (.t 13)⟩, ⟨some 93, none, .bin .neq false (.t 91) (.t 92)⟩]) (.cond (.t 93) (.seq (.reg [⟨some 4, none, .mv (.c (.bool false))⟩]) .ret) .skip)) (.seq (.dreg [[], [0], [], [2, 1, 0], [1, 0, 3, 2], [4, 1, 0, 3, 2], [5, 4, 1, 0, 3, 2], [5, 4, 1, 0, 3, 2], [], [8, 6, 5, 4, 1, 0, 3, 2], [7, 5, 4, 1, 0, 3, 2, 9, 8, 6]] [⟨some 95, none, .load true 1 (.t 2)⟩, ⟨some 96, none, .call 7 [(.t 95)]⟩, ⟨some 97, none, .load true 1 (.t 3)⟩, ⟨some 98, none, .call 8 [(.t 97)]⟩, ⟨some 99, none, .call 9 [(.t 96), (.t 98)]⟩, ⟨some 94, none, .mv (.t 99)⟩, ⟨some 100, none, .ext (.t 94) 0⟩, ⟨some 101, none, .ext (.t 94) 1⟩, ⟨some 15, none, .alloc 32 [.nil]⟩, ⟨none, none, (.store 1 (.t 15) (.t 100))⟩, ⟨some 16, none, .mv (.t 101)⟩]) (.seq (.seq (.reg [⟨some 102, none, .load true 1 (.t 15)⟩, ⟨some 103, none, .load true 1 (.t 6)⟩, ⟨some 104, none, .call 10 [(.t 102), (.t 103)]⟩, ⟨some 105, none, .un .not (.t 104)⟩, ⟨some 106, none, .mv (.t 105)⟩, ⟨(some 107), (some (106, false)), (.mv (.t 16))⟩, ⟨(some 108), (some (106, false)), (.mv (.t 7))⟩, ⟨(some 109), (some (106, false)), (.bin .neq true (.t 107) (.t 108))⟩, ⟨some 110, none, .pick (.t 106) (.c (.bool true)) (.t 109)⟩]) (.cond (.t 110) (.seq (.reg [⟨some 4, none, .mv (.c (.bool false))⟩]) .ret) .skip)) (.seq (.reg [⟨some 14, none, .mv (.c (.int .i64 1))⟩]) (.seq (.reg [⟨some 111, none, .load true 1 (.t 10)⟩, ⟨some 112, none, .mv (.t 14)⟩, ⟨some 113, none, .call 14 [(.t 111), (.t 112)]⟩, ⟨some 14, none, .mv (.t 113)⟩]) (.seq (.seq (.reg [⟨some 114, none, .mv (.t 14)⟩, ⟨some 115, none, .bin .lss false (.t 114) (.c (.int .i64 0))⟩]) (.cond (.t 115) (.seq (.reg [⟨some 4, none, .mv (.c (.bool false))⟩]) .ret) .skip)) (.seq (.seq (.reg [⟨some 116, none, .mv (.t 14)⟩, ⟨some 117, none, .mv (.t 13)⟩, ⟨some 118, none, .bin .neq false (.t 116) (.t 117)⟩]) (.cond (.t 118) (.seq (.reg [⟨some 4, none, .mv (.c (.bool false))⟩]) .ret) .skip)) (.seq (.reg [⟨some 4, none, .mv (.c (.bool true))⟩]) .ret))))))))))))))))))))))))))))))
theorem k_laws_FnExactApplyToClause : codeOf Tryz.prog 3 = some ⟨119, c_laws_FnExactApplyToClause, [(.tmp 4)]⟩ := by kernel_rfl
theorem m_laws_FnExactApplyToClause : modes 3 = ⟨[], .asis, none, false⟩ := by unfold modes; rfl
theorem atcTo_bulk (s : Sb) (x : Cl) : (atcTo s x).bulk ≤ 1048576 := by
  unfold atcTo
  have h1 := apC_bulk s x.lits
  have h2 := Cl.zero_bulk
  split <;> omega
set_option maxHeartbeats 8000000 in
theorem law31_E (s : Sb) (x : Cl) (hfs : D.fits s.d) (hfx : D.fits x.d) : E 3 [s.sv, x.sv] [] = some (.bool true, []) := by
  have s0 := szT_Substitution s hfs 1048576 (by omega) (by omega)
  have q0 := szR_spec 1048576 s.bulk
  obtain ⟨l0, hl0⟩ : ∃ l, l = szR 1048576 (s.bulk : Nat) := ⟨_, rfl⟩
  rw [← hl0] at s0 q0
  rcases Int.lt_or_le l0 0 with h0 | h0_0
  · refine E_walk k_laws_FnExactApplyToClause m_laws_FnExactApplyToClause (of_decide_eq_true rfl) ?_
    simp (disch := omega) only [c_laws_FnExactApplyToClause, go_sem, go_cond, zA, zB, zC, zD, zE, zF, zG, zH, ↓reduceIte, zI, reduceCtorEq, zJ, zK, s0, m_laws_szSubstitution]
  have s1 := szT_Clause x hfx l0 (by omega) (by omega)
  have q1 := szR_spec l0 x.bulk
  obtain ⟨l1, hl1⟩ : ∃ l, l = szR l0 (x.bulk : Nat) := ⟨_, rfl⟩
  rw [← hl1] at s1 q1
  rcases Int.lt_or_le l1 0 with h0 | h0_1
  · refine E_walk k_laws_FnExactApplyToClause m_laws_FnExactApplyToClause (of_decide_eq_true rfl) ?_
    simp (disch := omega) only [c_laws_FnExactApplyToClause, go_sem, go_cond, zA, zB, zC, zD, zE, zF, zG, zH, ↓reduceIte, zI, reduceCtorEq, zJ, zK, s0, s1, m_laws_szClause, m_laws_szSubstitution]
  have hb_s : s.bulk ≤ 1048576 := by omega
  have hb_x : x.bulk ≤ 1048576 := by omega
  have t_s := toT_Substitution s hb_s
  have t_x := toT_Clause x hb_x
  have hts := Sb.tame_of hb_s
  have htx := Cl.bulk_tame x hb_x
  have a1 := l7ApplyToClause_E s hts x htx
  have a2 := applyToClause_E s hts x htx
  have hb_r := atcTo_bulk s x
  obtain ⟨r, hr_r⟩ : ∃ r, r = atcTo s x := ⟨_, rfl⟩
  rw [← hr_r] at a1 a2 hb_r
  obtain ⟨o, hr_o⟩ : ∃ r, r = atcOk s x := ⟨_, rfl⟩
  rw [← hr_o] at a1 a2
  have eq_s := eqT_Substitution s (by omega)
  have be_s := Sb.bulk_eq s
  have w_s_binds := Bd.wtS_bulk s.binds
  have eq_x := eqT_Clause x (by omega)
  have be_x := Cl.bulk_eq x
  have w_x_lits := Lt.wtS_bulk x.lits
  have eq_r := eqT_Clause r (by omega)
  have be_r := Cl.bulk_eq r
  have w_r_lits := Lt.wtS_bulk r.lits
  have k_s_0 := Bd.mkS_end s.binds (1)
  have m_s := markT_Substitution s (1) (.row 70 3 (s.binds.map Bd.o)) (by omega) (by omega) rfl
  obtain ⟨n_s, hn_s⟩ : ∃ n1, n1 = (s.mkr (1)).2 := ⟨_, rfl⟩
  have hn'_s : n_s = (Bd.mkS s.binds (1)).2 := hn_s
  rw [← hn_s] at m_s
  have k_x_0 := Lt.mkS_end x.lits (n_s)
  have m_x := markT_Clause x (n_s) (.row 74 3 (x.lits.map Lt.o)) (by omega) (by omega) rfl
  obtain ⟨n_x, hn_x⟩ : ∃ n1, n1 = (x.mkr (n_s)).2 := ⟨_, rfl⟩
  have hn'_x : n_x = (Lt.mkS x.lits (n_s)).2 := hn_x
  rw [← hn_x] at m_x
  have k_r_0 := Lt.mkS_end r.lits (1)
  have m_r := markT_Clause r (1) (.row 74 3 (r.lits.map Lt.o)) (by omega) (by omega) rfl
  have hd_r := heldT_Clause r (1) (by omega) (by omega)
  obtain ⟨n_r, hn_r⟩ : ∃ n1, n1 = (r.mkr (1)).2 := ⟨_, rfl⟩
  have hn'_r : n_r = (Lt.mkS r.lits (1)).2 := hn_r
  rw [← hn_r] at m_r hd_r
  refine E_walk k_laws_FnExactApplyToClause m_laws_FnExactApplyToClause (of_decide_eq_true rfl) ?_
  simp (disch := omega) only [c_laws_FnExactApplyToClause, go_sem, zA, zB, zC, zD, zE, zF, zG, zH, ↓reduceIte, zI, reduceCtorEq, zJ, zK, s0, s1, t_s, t_x, a1, a2, eq_s, eq_x, eq_r, m_s, m_x, hd_r, m_r, dec_refl, m_laws_szSubstitution, m_laws_szClause, m_laws_toSubstitution, m_laws_toClause, m_laws_eqSubstitution, m_laws_eqClause, m_laws_markSubstitution, m_laws_markClause, m_laws_heldClause, m_spec_ApplyToClause, m_impl_ApplyToClause, Sb.osv, Sb.obs, Bd.osv, Bd.obs, Tm.osv, Tm.obs, Cl.osv, Cl.obs, Lt.osv, Lt.obs, Bd.erss, Bd.noss, Lt.erss, Lt.noss]
  repeat ((first | (refine go_condT ?_ ?_; (focus (simp (disch := omega) only [go_sem, zA, zB, zC, zD, zE, zF, zG, zH, ↓reduceIte, zI, reduceCtorEq, zJ, zK, s0, s1, t_s, t_x, a1, a2, eq_s, eq_x, eq_r, m_s, m_x, hd_r, m_r, dec_refl, m_laws_szSubstitution, m_laws_szClause, m_laws_toSubstitution, m_laws_toClause, m_laws_eqSubstitution, m_laws_eqClause, m_laws_markSubstitution, m_laws_markClause, m_laws_heldClause, m_spec_ApplyToClause, m_impl_ApplyToClause, Sb.osv, Sb.obs, Bd.osv, Bd.obs, Tm.osv, Tm.obs, Cl.osv, Cl.obs, Lt.osv, Lt.obs, Bd.erss, Bd.noss, Lt.erss, Lt.noss]; done))) | (refine go_condF ?_ ?_; (focus (simp (disch := omega) only [go_sem, zA, zB, zC, zD, zE, zF, zG, zH, ↓reduceIte, zI, reduceCtorEq, zJ, zK, s0, s1, t_s, t_x, a1, a2, eq_s, eq_x, eq_r, m_s, m_x, hd_r, m_r, dec_refl, m_laws_szSubstitution, m_laws_szClause, m_laws_toSubstitution, m_laws_toClause, m_laws_eqSubstitution, m_laws_eqClause, m_laws_markSubstitution, m_laws_markClause, m_laws_heldClause, m_spec_ApplyToClause, m_impl_ApplyToClause, Sb.osv, Sb.obs, Bd.osv, Bd.obs, Tm.osv, Tm.obs, Cl.osv, Cl.obs, Lt.osv, Lt.obs, Bd.erss, Bd.noss, Lt.erss, Lt.noss]; done)))); (try simp (disch := omega) only [go_sem, zA, zB, zC, zD, zE, zF, zG, zH, ↓reduceIte, zI, reduceCtorEq, zJ, zK, s0, s1, t_s, t_x, a1, a2, eq_s, eq_x, eq_r, m_s, m_x, hd_r, m_r, dec_refl, m_laws_szSubstitution, m_laws_szClause, m_laws_toSubstitution, m_laws_toClause, m_laws_eqSubstitution, m_laws_eqClause, m_laws_markSubstitution, m_laws_markClause, m_laws_heldClause, m_spec_ApplyToClause, m_impl_ApplyToClause, Sb.osv, Sb.obs, Bd.osv, Bd.obs, Tm.osv, Tm.obs, Cl.osv, Cl.obs, Lt.osv, Lt.obs, Bd.erss, Bd.noss, Lt.erss, Lt.noss]))
end Go.Proofs.YtibdknkacmimgaaGreat
set_option maxRecDepth 100000
set_option linter.unusedSimpArgs false
set_option linter.unusedVariables false
set_option linter.unusedSectionVars false
namespace Go.Proofs.YtibdknkacmimgaaGreat
open Go.RowKit Go.ChangeShapes Go.WideShapes Go.ChangeAt Go.Deep
section
variable {H : Type} {enc : TypeId × Value → H} {P : Program} {w : World} {base : Nat} {spare : Nat → Bool} {held : Bool}
theorem addr_add_plain {b o k : Nat} : (⟨b, o, none⟩ : Addr).add k = ⟨b, o + k, none⟩ := by
  unfold Addr.add; split
  · subst_vars; rfl
  · rfl
theorem cell_lt {a : Addr} {v : Value} (h : w.cell? a = some v) : a.block < w.heap.size := by
  unfold World.cell? at h
  cases hb : w.heap[a.block]? with
  | none => rw [hb] at h; cases h
  | some o => exact (Array.getElem?_eq_some_iff.1 hb).1
end
section
variable {H : Type} {enc : TypeId × Value → H} {w : World} {base : Nat} {spare : Nat → Bool} {held : Bool}
end
end Go.Proofs.YtibdknkacmimgaaGreat
set_option maxRecDepth 100000
set_option linter.unusedSimpArgs false
set_option linter.unusedVariables false
set_option linter.unusedSectionVars false
namespace Go.Proofs.YtibdknkacmimgaaGreat
open Go.RowKit Go.ChangeShapes Go.WideShapes Go.ChangeAt Go.Deep
section
variable {H : Type} {enc : TypeId × Value → H} {P : Program} {w : World} {base : Nat} {spare : Nat → Bool} {held : Bool}
theorem open_sl' {t e : TypeId} {fuel : Nat} {v : Value} {x : DataW H × List MemPlace} (sz : Nat) (hsz : P.cellsOf e = sz) (h0 : 0 < sz) (ht : P.underlying t = some (.slice e)) (h : DataW.trod enc P w base spare held fuel t [v] = some x) :
    ∃ (a : Option Addr) (len cap : Nat) (f : Nat → Nat → Value), v = .slice a len cap ∧ len ≤ cap ∧ cap ≤ 9223372036854775807 ∧ SlA w 0 sz len f a ∧
      ∀ i, i < len → ∃ n x', n < fuel ∧ DataW.trod enc P w base spare held n e ((List.range sz).map (f i)) = some x' := by
  rcases DataW.trod_slice ht h with ⟨hcs, _⟩ | ⟨a, len, cap, elems, rest, n, hf, hcs, hx, hb, hl, hm, hlen, hel, _, _⟩
  · simp only [List.cons.injEq, and_true] at hcs
    exact ⟨none, 0, 0, fun _ _ => undef, hcs, Nat.le_refl _, by omega, .inl rfl, fun i hi => absurd hi (by omega)⟩
  · have hi : ∀ i, i < len → ∃ cs' x', w.cells? base (a.add (i * sz)) sz = some cs' ∧ DataW.trod enc P w base spare held n e cs' = some x' := by
      intro i hi
      have h1 := hel i hi
      rw [hsz, List.getElem?_eq_getElem (by omega)] at h1
      obtain ⟨cs', h2, h3⟩ := Option.bind_eq_some_iff.1 h1
      exact ⟨cs', _, h2, h3⟩
    have hcell : ∀ i j, i < len → j < sz → ∃ v, w.cell? (a.add (i * sz + j)) = some v := by
      intro i j hil hj
      obtain ⟨cs', x', hc, _⟩ := hi i hil
      obtain ⟨_, hcl, hat⟩ := World.cells?_some hc
      have h1 := hat j hj
      rw [Go.Deep.add_add, List.getElem?_eq_getElem (by omega)] at h1
      exact ⟨_, h1⟩
    simp only [List.cons.injEq, and_true] at hcs
    refine ⟨some a, len, cap, fun i j => (w.cell? (a.add (i * sz + j))).getD undef, hcs, hl, hm, ?_, ?_⟩
    · rcases Nat.eq_zero_or_pos len with h | h
      · exact .inl h
      · obtain ⟨v, hv⟩ := hcell 0 0 h h0
        rw [Nat.zero_mul, Nat.zero_add] at hv
        have hsp : a.spot = none := by simpa [Addr.add] using World.cell?_spot hv
        have hlt := cell_lt hv
        obtain ⟨b, off, spot⟩ := a
        simp only at hsp
        subst hsp
        refine .inr ⟨b, off, rfl, Nat.zero_le _, by simpa [Addr.add] using hlt, fun i j hil hj => ?_⟩
        obtain ⟨v', hv'⟩ := hcell i j hil hj
        rw [addr_add_plain] at hv'
        show _ = some ((w.cell? ((⟨b, off, none⟩ : Addr).add (i * sz + j))).getD undef)
        rw [addr_add_plain, Nat.add_assoc, hv']
        rfl
    · intro i hil
      obtain ⟨cs', x', hc, ht'⟩ := hi i hil
      obtain ⟨_, hcl, hat⟩ := World.cells?_some hc
      refine ⟨n, x', by omega, ?_⟩
      have hcs' : (List.range sz).map (fun j => (w.cell? (a.add (i * sz + j))).getD undef) = cs' := by
        apply List.ext_getElem?
        intro j
        by_cases hj : j < sz
        · rw [List.getElem?_map, List.getElem?_range hj]
          have h1 := hat j hj
          rw [Go.Deep.add_add] at h1
          rw [List.getElem?_eq_getElem (by omega : j < cs'.length)] at h1 ⊢
          simp [h1]
        · rw [List.getElem?_eq_none (by simp; omega), List.getElem?_eq_none (by omega)]
      rw [hcs']
      exact ht'
theorem open_st' {t : TypeId} {fs : Array Field} {fuel : Nat} {cs : List Value} {x : DataW H × List MemPlace} (ht : P.underlying t = some (.struct fs)) (h : DataW.trod enc P w base spare held fuel t cs = some x) :
    ∃ n, n < fuel ∧ cs.length = P.cellsOf t ∧ ∀ (i : Nat) (f : Field), fs[i]? = some f → ∃ y, DataW.trod enc P w base spare held n f.type ((cs.drop f.offset).take (P.cellsOf f.type)) = some y := by
  obtain ⟨xs, n, hn, hx, hlen, hxl, hf⟩ := DataW.trod_struct ht h
  refine ⟨n, by omega, hlen, fun i f hi => ?_⟩
  have hil : i < fs.size := (Array.getElem?_eq_some_iff.1 hi).1
  have h1 := hf i f hi
  rw [List.getElem?_eq_getElem (by omega : i < xs.length)] at h1
  exact ⟨_, h1⟩
end
inductive Lvs (w : World) : List D → List Value → Prop
  | nil : Lvs w [] []
  | cons {d : D} {v : Value} {ds : List D} {vs : List Value} (h : DAt w d v) (hs : Lvs w ds vs) : Lvs w (d :: ds) (v :: vs)
theorem Lvs.len {w : World} {ds : List D} {vs : List Value} (h : Lvs w ds vs) : ds.length = vs.length := by
  induction h with
  | nil => rfl
  | cons h hs ih => simp [ih]
theorem Lvs.get {w : World} {ds : List D} {vs : List Value} (h : Lvs w ds vs) : ∀ j (h1 : j < ds.length) (h2 : j < vs.length), DAt w ds[j] vs[j] := by
  induction h with
  | nil => intro j h1; simp at h1
  | cons h hs ih =>
    intro j h1 h2
    cases j with
    | zero => exact h
    | succ j => exact ih j (by simpa using h1) (by simpa using h2)
theorem open_arr {α : Type} [Inhabited α] (dd : α → List D) {w : World} {m len cap : Nat} {f : Nat → Nat → Value} {a : Option Addr} (hl : len ≤ cap) (hm : cap ≤ 9223372036854775807) (hS : SlA w 0 m len f a)
    (hel : ∀ i, i < len → ∃ X : α, Lvs w (dd X) ((List.range m).map (f i))) : ∃ xs : List α, DAt w (.arr (xs.map dd)) (.slice a len cap) := by
  obtain ⟨g, hg⟩ : ∃ g : Nat → α, ∀ i, i < len → Lvs w (dd (g i)) ((List.range m).map (f i)) :=
    ⟨fun i => if h : i < len then (hel i h).choose else default, fun i hi => by simp only [hi, dif_pos]; exact (hel i hi).choose_spec⟩
  refine ⟨(List.range len).map g, ?_⟩
  have hlen : (((List.range len).map g).map dd).length = len := by simp
  have := DAt.arr_mk (w := w) (es := ((List.range len).map g).map dd) (sz := m) (cap := cap) (a := a) (f := f) (by rw [hlen]; exact hl) hm (by rw [hlen]; exact hS) (fun i hi => by
    rw [hlen] at hi
    have := (hg i hi).len
    simpa using this) (fun i j hi hj => by
    rw [hlen] at hi
    have h1 := hg i hi
    have h2 := h1.len
    simp only [List.length_map, List.length_range] at h2
    simp only [List.getElem_map, List.getElem_range] at hj ⊢
    have := h1.get j hj (by simp; omega)
    simpa using this)
  rw [hlen] at this
  exact this
instance : Inhabited Tm := ⟨Tm.zero⟩
instance : Inhabited Fm := ⟨Fm.zero⟩
section
variable {H : Type} {enc : TypeId × Value → H} {w : World} {base : Nat} {spare : Nat → Bool} {held : Bool}
end
end Go.Proofs.YtibdknkacmimgaaGreat
set_option maxRecDepth 100000
set_option linter.unusedSimpArgs false
set_option linter.unusedVariables false
set_option linter.unusedSectionVars false
namespace Go.Proofs.YtibdknkacmimgaaGreat
open Go.RowKit
theorem DRep.lt_ {own : Bool} {w : World} {S : Nat → Prop} {d : D} {v : Value} (h : DRep own w S d v) : DRep own w (fun b => S b ∧ b < w.heap.size) d v := by
  induction h with
  | int S n => exact .int _ n
  | bool S b => exact .bool _ b
  | str S s h => exact .str _ s h
  | arr S sz es a cap f Sub h1 h2 h3 h4 h5 h6 h7 ih =>
    refine .arr _ sz es a cap f (fun i j x => Sub i j x ∧ x < w.heap.size) h1 h2 ?_ h4 (fun i j x h => ⟨h5 i j x h.1, h.2⟩) (fun ho i j i' j' x h h' => h6 ho i j i' j' x h.1 h'.1) ih
    rcases h3 with h3 | ⟨b, off, ha, hS, hl, hc, ho⟩
    · exact .inl h3
    · exact .inr ⟨b, off, ha, ⟨hS, hl⟩, hl, hc, fun h => ⟨fun i j hx => (ho h).1 i j hx.1, (ho h).2⟩⟩
theorem Fun.yes {f : FuncId} {args : List SV} (h : Fun Tryz.prog f args [] (.bool true) []) {w : World} {vs : List Value} (hgl : GL w fun b => b < w.heap.size) (hvs : RepVs w (fun b => b < w.heap.size) (fun _ => none) args vs) : Calls Tryz.prog f vs.toArray w (Ret w (.bool true)) := by
  have nl : ∀ g, ¬ (geto [] g).live := fun g hg => by simp [geto, Ob.live] at hg
  refine (h w (fun b => b < w.heap.size) (fun _ => none) (fun _ _ => False) vs ⟨fun b hb => hb, fun g hg => absurd hg (nl g), fun g b hg => absurd hg (nl g), fun g b hg => absurd hg (nl g), fun g g' b hg => absurd hg (nl g), fun g _ => rfl, hgl⟩ hvs).mono ?_
  rintro e w' ⟨v, I', V', B', rfl, hr, hp⟩
  simp only [RepV] at hr
  subst hr
  exact ⟨rfl, hp.fr.os, hp.fr.tape.1, hp.fr.output, hp.fr.size, fun b hb => hp.fr.block b hb fun ⟨g, hg, _⟩ => absurd hg (nl g)⟩
theorem lvs_cons {w : World} {d : D} {ds : List D} {v : Value} {vs : List Value} (h : Lvs w (d :: ds) (v :: vs)) : DAt w d v ∧ Lvs w ds vs := by
  cases h with
  | cons h1 h2 => exact ⟨h1, h2⟩
theorem DAt.rep_sv {w : World} {d : D} {v : Value} (h : DAt w d v) : RepV w (fun b => b < w.heap.size) (fun _ => none) d.sv v :=
  D.rep_sv ((DRep.lt_ h).up fun b hb => hb.2)
theorem Lvs.reps {w : World} {ds : List D} {vs : List Value} (h : Lvs w ds vs) : RepVs w (fun b => b < w.heap.size) (fun _ => none) (ds.map D.sv) vs := by
  induction h with
  | nil => simp [RepVs]
  | cons h hs ih => simp only [List.map_cons, RepVs]; exact ⟨_, _, rfl, h.rep_sv, ih⟩
theorem Lvs.agg {w : World} {ds : List D} {vs : List Value} (h : Lvs w ds vs) : RepV w (fun b => b < w.heap.size) (fun _ => none) (.agg (ds.map D.sv)) (.agg vs.toArray) := by
  simp only [RepV]; exact ⟨vs, rfl, h.reps⟩
theorem Lvs.fits {w : World} {ds : List D} {vs : List Value} (h : Lvs w ds vs) : D.fits ds := by
  induction h with
  | nil => trivial
  | cons h hs ih => exact ⟨DRep.fit h, ih⟩
theorem DAt.fit {w : World} {d : D} {v : Value} (h : DAt w d v) : D.fit d := DRep.fit h
theorem args_nil {w : World} {I : Nat → Prop} {V : Nat → Option Value} : RepVs w I V [] [] := by simp [RepVs]
theorem args_more {w : World} {I : Nat → Prop} {V : Nat → Option Value} {x : SV} {xs : List SV} {v : Value} {vs : List Value} (h : RepV w I V x v) (hs : RepVs w I V xs vs) : RepVs w I V (x :: xs) (v :: vs) := by
  simp only [RepVs]; exact ⟨v, vs, rfl, h, hs⟩
instance : Inhabited Lt := ⟨Lt.zero⟩
instance : Inhabited Bd := ⟨Bd.zero⟩
section
variable {H : Type} {enc : TypeId × Value → H} {w : World} {base : Nat} {spare : Nat → Bool} {held : Bool}
theorem opn_Term_of {fuel : Nat} (ih : ∀ n, n < fuel → ∀ v x, DataW.trod enc Tryz.prog w base spare held n 58 [v] = some x → ∃ xs : List Tm, DAt w (.arr (xs.map Tm.d)) v) {cs : List Value} {x : DataW H × List MemPlace} (h : DataW.trod enc Tryz.prog w base spare held fuel 60 cs = some x) : ∃ X : Tm, Lvs w X.d cs := by
  obtain ⟨n, hn, hlen, hf⟩ := open_st' Tryz.underlying60 h
  rw [show Tryz.prog.cellsOf 60 = 2 by kernel_rfl] at hlen
  match cs, hlen with
  | [c0, c1], _ =>
    obtain ⟨y0, k0⟩ := hf 0 _ rfl
    have e0 : (([c0, c1].drop 0).take (Tryz.prog.cellsOf 9)) = [c0] := by rw [show Tryz.prog.cellsOf 9 = 1 by kernel_rfl]; rfl
    obtain ⟨z0, q0, _, s0⟩ := DataW.trod_string Tryz.underlying9 k0
    have q0' : c0 = .string z0 := by
      have : [c0] = [.string z0] := by rw [← e0]; exact q0
      simpa using this
    obtain ⟨y1, k1⟩ := hf 1 _ rfl
    have e1 : (([c0, c1].drop 1).take (Tryz.prog.cellsOf 58)) = [c1] := by rw [show Tryz.prog.cellsOf 58 = 1 by kernel_rfl]; rfl
    have k1' : DataW.trod enc Tryz.prog w base spare held n 58 [c1] = some y1 := by rw [← e1]; exact k1
    obtain ⟨z1, g1⟩ := ih n hn c1 y1 k1'
    subst q0'
    exact ⟨.mk z0 z1, by rw [Tm.d_eq]; exact (.cons (.str _ z0 s0) (.cons g1 .nil))⟩
theorem opnS_Term_all : ∀ (fuel : Nat) (v : Value) (x : DataW H × List MemPlace), DataW.trod enc Tryz.prog w base spare held fuel 58 [v] = some x → ∃ xs : List Tm, DAt w (.arr (xs.map Tm.d)) v := by
  intro fuel
  induction fuel using Nat.strongRecOn with
  | _ fuel ih =>
    intro v x h
    obtain ⟨a, len, cap, f, rfl, hl, hm, hS, hr⟩ := open_sl' (P := Tryz.prog) 2 (by kernel_rfl) (by omega) Tryz.underlying58 h
    exact open_arr Tm.d hl hm hS fun i hi => by
      obtain ⟨n, x', hn, h1⟩ := hr i hi
      exact opn_Term_of (fun n' hn' => ih n' (by omega)) h1
theorem opn_Term {fuel : Nat} {cs : List Value} {x : DataW H × List MemPlace} (h : DataW.trod enc Tryz.prog w base spare held fuel 60 cs = some x) : ∃ X : Tm, Lvs w X.d cs :=
  opn_Term_of (fun n _ => opnS_Term_all n) h
theorem opn_Literal {fuel : Nat} {cs : List Value} {x : DataW H × List MemPlace} (h : DataW.trod enc Tryz.prog w base spare held fuel 65 cs = some x) : ∃ X : Lt, Lvs w X.d cs := by
  obtain ⟨n, hn, hlen, hf⟩ := open_st' Tryz.underlying65 h
  rw [show Tryz.prog.cellsOf 65 = 3 by kernel_rfl] at hlen
  match cs, hlen with
  | [c0, c1, c2], _ =>
    obtain ⟨y0, k0⟩ := hf 0 _ rfl
    have e0 : (([c0, c1, c2].drop 0).take (Tryz.prog.cellsOf 4)) = [c0] := by rw [show Tryz.prog.cellsOf 4 = 1 by kernel_rfl]; rfl
    obtain ⟨z0, q0, _⟩ := DataW.trod_bool Tryz.underlying4 k0
    have q0' : c0 = .bool z0 := by
      have : [c0] = [.bool z0] := by rw [← e0]; exact q0
      simpa using this
    obtain ⟨y1, k1⟩ := hf 1 _ rfl
    have e1 : (([c0, c1, c2].drop 1).take (Tryz.prog.cellsOf 60)) = [c1, c2] := by rw [show Tryz.prog.cellsOf 60 = 2 by kernel_rfl]; rfl
    have k1' : DataW.trod enc Tryz.prog w base spare held n 60 [c1, c2] = some y1 := by rw [← e1]; exact k1
    obtain ⟨z1, g1⟩ := opn_Term k1'
    rw [Tm.d_eq] at g1
    obtain ⟨g1_0, g1⟩ := lvs_cons g1
    obtain ⟨g1_1, g1⟩ := lvs_cons g1
    subst q0'
    exact ⟨⟨z0, z1⟩, by rw [Lt.d_eq]; exact (.cons (.bool _ z0) (.cons g1_0 (.cons g1_1 .nil)))⟩
theorem opnS_Literal {fuel : Nat} {v : Value} {x : DataW H × List MemPlace} (h : DataW.trod enc Tryz.prog w base spare held fuel 25 [v] = some x) : ∃ xs : List Lt, DAt w (.arr (xs.map Lt.d)) v := by
  obtain ⟨a, len, cap, f, rfl, hl, hm, hS, hr⟩ := open_sl' (P := Tryz.prog) 3 (by kernel_rfl) (by omega) Tryz.underlying25 h
  exact open_arr Lt.d hl hm hS fun i hi => by
    obtain ⟨n, x', hn, h1⟩ := hr i hi
    exact opn_Literal h1
theorem opn_Clause {fuel : Nat} {cs : List Value} {x : DataW H × List MemPlace} (h : DataW.trod enc Tryz.prog w base spare held fuel 27 cs = some x) : ∃ X : Cl, Lvs w X.d cs := by
  obtain ⟨n, hn, hlen, hf⟩ := open_st' Tryz.underlying27 h
  rw [show Tryz.prog.cellsOf 27 = 1 by kernel_rfl] at hlen
  match cs, hlen with
  | [c0], _ =>
    obtain ⟨y0, k0⟩ := hf 0 _ rfl
    have e0 : (([c0].drop 0).take (Tryz.prog.cellsOf 25)) = [c0] := by rw [show Tryz.prog.cellsOf 25 = 1 by kernel_rfl]; rfl
    have k0' : DataW.trod enc Tryz.prog w base spare held n 25 [c0] = some y0 := by rw [← e0]; exact k0
    obtain ⟨z0, g0⟩ := opnS_Literal k0'
    exact ⟨⟨z0⟩, by rw [Cl.d_eq]; exact (.cons g0 .nil)⟩
theorem opn_Binding {fuel : Nat} {cs : List Value} {x : DataW H × List MemPlace} (h : DataW.trod enc Tryz.prog w base spare held fuel 62 cs = some x) : ∃ X : Bd, Lvs w X.d cs := by
  obtain ⟨n, hn, hlen, hf⟩ := open_st' Tryz.underlying62 h
  rw [show Tryz.prog.cellsOf 62 = 3 by kernel_rfl] at hlen
  match cs, hlen with
  | [c0, c1, c2], _ =>
    obtain ⟨y0, k0⟩ := hf 0 _ rfl
    have e0 : (([c0, c1, c2].drop 0).take (Tryz.prog.cellsOf 9)) = [c0] := by rw [show Tryz.prog.cellsOf 9 = 1 by kernel_rfl]; rfl
    obtain ⟨z0, q0, _, s0⟩ := DataW.trod_string Tryz.underlying9 k0
    have q0' : c0 = .string z0 := by
      have : [c0] = [.string z0] := by rw [← e0]; exact q0
      simpa using this
    obtain ⟨y1, k1⟩ := hf 1 _ rfl
    have e1 : (([c0, c1, c2].drop 1).take (Tryz.prog.cellsOf 60)) = [c1, c2] := by rw [show Tryz.prog.cellsOf 60 = 2 by kernel_rfl]; rfl
    have k1' : DataW.trod enc Tryz.prog w base spare held n 60 [c1, c2] = some y1 := by rw [← e1]; exact k1
    obtain ⟨z1, g1⟩ := opn_Term k1'
    rw [Tm.d_eq] at g1
    obtain ⟨g1_0, g1⟩ := lvs_cons g1
    obtain ⟨g1_1, g1⟩ := lvs_cons g1
    subst q0'
    exact ⟨⟨z0, z1⟩, by rw [Bd.d_eq]; exact (.cons (.str _ z0 s0) (.cons g1_0 (.cons g1_1 .nil)))⟩
theorem opnS_Binding {fuel : Nat} {v : Value} {x : DataW H × List MemPlace} (h : DataW.trod enc Tryz.prog w base spare held fuel 22 [v] = some x) : ∃ xs : List Bd, DAt w (.arr (xs.map Bd.d)) v := by
  obtain ⟨a, len, cap, f, rfl, hl, hm, hS, hr⟩ := open_sl' (P := Tryz.prog) 3 (by kernel_rfl) (by omega) Tryz.underlying22 h
  exact open_arr Bd.d hl hm hS fun i hi => by
    obtain ⟨n, x', hn, h1⟩ := hr i hi
    exact opn_Binding h1
theorem opn_Substitution {fuel : Nat} {cs : List Value} {x : DataW H × List MemPlace} (h : DataW.trod enc Tryz.prog w base spare held fuel 24 cs = some x) : ∃ X : Sb, Lvs w X.d cs := by
  obtain ⟨n, hn, hlen, hf⟩ := open_st' Tryz.underlying24 h
  rw [show Tryz.prog.cellsOf 24 = 1 by kernel_rfl] at hlen
  match cs, hlen with
  | [c0], _ =>
    obtain ⟨y0, k0⟩ := hf 0 _ rfl
    have e0 : (([c0].drop 0).take (Tryz.prog.cellsOf 22)) = [c0] := by rw [show Tryz.prog.cellsOf 22 = 1 by kernel_rfl]; rfl
    have k0' : DataW.trod enc Tryz.prog w base spare held n 22 [c0] = some y0 := by rw [← e0]; exact k0
    obtain ⟨z0, g0⟩ := opnS_Binding k0'
    exact ⟨⟨z0⟩, by rw [Sb.d_eq]; exact (.cons g0 .nil)⟩
end
end Go.Proofs.YtibdknkacmimgaaGreat
