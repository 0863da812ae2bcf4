/-
  This text holds, one behind the other: This text tells what the first counterexample of a clause answers in the program. No condition.
  This text tells what the reference answers when it evaluates formulas. No condition.
  This text tells what the first counterexample of a clause answers in the reference. No condition.
  This text tells what SatisfiesAll answers in both packages. No condition.
  This text tells what the laws' measuring functions answer. No condition.
  This text tells what the laws' copying functions answer. No condition.
  This text tells what the laws' comparing functions answer. No condition.
  This text tells how much an interpretation of a small bulk holds. No condition.
  This text tells what the law of SatisfiesAll answers. No condition.
  This text opens arguments: slices of integers, of structs, of tables: what is read as data lies in memory as our words say. No condition.
  This text opens arguments: what is read as data, terms and formulas, lies in memory as our words say. No condition.
  This text turns a function's answer into a walk of the kit's form, and opens arguments that are clauses. No condition.
-/
import Derived.Test.YtihclcmgbkkhfaaGreatK35c
import Derived.Test.YtihclcmgbkkhfaaGreatK35d
import Derived.ProofKit
import Derived.Deep.Slices
import Derived.Deep.Fields
import Derived.ChangeSame
import Derived.OpenShut
import Derived.ShutString
import Derived.ChangeOld
open Nat renaming reduceAdd → zA, reduceSub → zB, reduceLT → zC, reduceLeDiff → zD, reduceEqDiff → zE, reduceBEq → zF, reduceBneDiff → zG, reduceMul → zH
open Int renaming reduceToNat → zI, reduceNeg → zJ, reduceAdd → zK
set_option maxRecDepth 100000
set_option linter.unusedSimpArgs false
set_option linter.unusedVariables false
namespace Go.Proofs.YtihclcmgbkkhfaaGreat
open Go.RowKit
def c_impl_Interpretation_satisfied : SC := (.seq (.reg [⟨some 3, none, .boxv 51 2 (.t 0)⟩, ⟨some 4, none, .boxv 72 1 (.t 1)⟩, ⟨some 6, none, .mv (.c (.bool false))⟩, ⟨some 7, none, .mv (.c (.bool false))⟩]) (.seq (.reg [⟨some 8, none, .mv (.c (.bool false))⟩]) (.seq (.seq (.reg [⟨some 13, none, .faddr 0 (.t 4)⟩, ⟨some 14, none, .load false 1 (.t 13)⟩, ⟨some 15, none, .len false (.t 14)⟩, ⟨some 16, none, .mv (.c (.int .i64 0))⟩]) (.block 0 (.loop [0, 0, 1, 1, 0, 0, 0, 0, 1, 0, 0, 0, 0, 0, 1, 1, 1, 0, 0, 0, 0, 0, 0, 0, 0, 0, 0, 0, 0, 0, 0, 0, 0, 0, 0, 0, 0, 0, 0] (.seq (.reg [⟨some 17, none, .bin .lss false (.t 16) (.t 15)⟩]) (.seq (.cond (.t 17) .skip (.exit 0)) (.seq (.block 1 (.seq (.reg [⟨some 18, none, .iaddr 3 (.t 14) (.t 16)⟩, ⟨some 19, none, .load true 3 (.t 18)⟩, ⟨(some 10), none, (.alloc 111 [(.bool false), (.str ⟨#[]⟩), .nil])⟩, ⟨none, none, (.store 3 (.t 10) (.t 19))⟩]) (.seq (.reg [⟨some 21, none, .load true 2 (.t 3)⟩, ⟨some 22, none, .faddr 1 (.t 10)⟩, ⟨some 23, none, .load true 2 (.t 22)⟩, ⟨some 24, none, .mv (.t 2)⟩, ⟨some 25, none, .call 105 [(.t 21), (.t 23), (.t 24)]⟩, ⟨some 20, none, .mv (.t 25)⟩, ⟨some 26, none, .ext (.t 20) 0⟩, ⟨some 27, none, .ext (.t 20) 1⟩, ⟨some 11, none, .mv (.t 26)⟩, ⟨some 12, none, .mv (.t 27)⟩]) (.seq (.seq (.reg [⟨some 28, none, .mv (.t 12)⟩, ⟨some 29, none, .un .not (.t 28)⟩]) (.cond (.t 29) (.seq (.reg [⟨some 6, none, .mv (.c (.bool false))⟩, ⟨some 7, none, .mv (.c (.bool false))⟩]) .ret) .skip)) (.reg [⟨some 30, none, .mv (.t 8)⟩, ⟨some 31, none, .mv (.t 30)⟩, ⟨(some 32), (some (31, false)), (.mv (.t 11))⟩, ⟨(some 33), (some (31, false)), (.faddr 0 (.t 10))⟩, ⟨(some 34), (some (31, false)), (.load false 1 (.t 33))⟩, ⟨(some 35), (some (31, false)), (.bin .eql true (.t 32) (.t 34))⟩, ⟨some 36, none, .pick (.t 31) (.c (.bool true)) (.t 35)⟩, ⟨some 8, none, .mv (.t 36)⟩]))))) (.reg [⟨some 37, none, .bin .add false (.t 16) (.c (.int .i64 1))⟩, ⟨some 16, none, .mv (.t 37)⟩]))))))) (.seq (.reg [⟨some 38, none, .mv (.t 8)⟩, ⟨some 6, none, .mv (.t 38)⟩, ⟨some 7, none, .mv (.c (.bool true))⟩]) .ret))))
theorem k_impl_Interpretation_satisfied : codeOf Tryz.prog 158 = some ⟨39, c_impl_Interpretation_satisfied, [(.tmp 6), (.tmp 7)]⟩ := by kernel_rfl
theorem m_impl_Interpretation_satisfied : modes 158 = ⟨[], .asis, none, false⟩ := by unfold modes; rfl
def c_impl_Interpretation_counterexample : SC := (.seq (.reg [⟨some 2, none, .boxv 51 2 (.t 0)⟩, ⟨some 3, none, .boxv 72 1 (.t 1)⟩, ⟨some 4, none, .mv (.c .nil)⟩, ⟨some 5, none, .mv (.c (.bool false))⟩, ⟨some 6, none, .mv (.c (.bool false))⟩]) (.seq (.reg [⟨some 15, none, .load true 1 (.t 3)⟩, ⟨some 16, none, .call 157 [(.t 15)]⟩, ⟨some 7, none, .mv (.t 16)⟩]) (.seq (.seq (.reg [⟨some 17, none, .faddr 0 (.t 2)⟩, ⟨some 18, none, .load false 1 (.t 17)⟩, ⟨some 19, none, .mv (.t 7)⟩, ⟨some 20, none, .len false (.t 19)⟩, ⟨some 21, none, .call 101 [(.t 18), (.t 20)]⟩, ⟨some 22, none, .mv (.c (.int .i64 0))⟩]) (.block 0 (.loop [0, 0, 1, 1, 0, 0, 0, 1, 0, 0, 0, 0, 0, 0, 0, 0, 0, 0, 0, 0, 0, 1, 1, 0, 0, 0, 0, 0, 0, 0, 0, 0, 0, 0, 0, 0, 0, 0, 0, 0, 0, 0, 0, 0, 0, 0, 0, 0, 0, 0, 0, 0, 0, 0, 0, 0, 0, 0, 0, 0, 0, 0, 0, 0, 0, 0, 0, 0, 0, 0, 0, 0, 0, 0, 0] (.seq (.reg [⟨some 23, none, .bin .lss false (.t 22) (.t 21)⟩]) (.seq (.cond (.t 23) .skip (.exit 0)) (.seq (.block 1 (.seq (.reg [⟨some 24, none, .mv (.t 22)⟩, ⟨some 8, none, .mv (.t 24)⟩]) (.seq (.reg [⟨some 25, none, .mv (.t 7)⟩, ⟨some 26, none, .len false (.t 25)⟩, ⟨(some 27), none, (.mkslice 94 2 24 [(.str ⟨#[]⟩), (.int .i64 0)] (.t 26))⟩, ⟨some 9, none, .mv (.t 27)⟩]) (.seq (.reg [⟨some 28, none, .mkmap true none⟩, ⟨some 10, none, .mv (.t 28)⟩]) (.seq (.reg [⟨some 29, none, .mv (.t 8)⟩, ⟨some 11, none, .mv (.t 29)⟩]) (.seq (.seq (.reg [⟨some 30, none, .mv (.t 7)⟩, ⟨some 31, none, .len false (.t 30)⟩, ⟨some 32, none, .bin .sub false (.t 31) (.c (.int .i64 1))⟩, ⟨some 12, none, .mv (.t 32)⟩]) (.block 2 (.loop [0, 0, 1, 1, 0, 0, 0, 1, 0, 1, 1, 1, 1, 0, 0, 0, 0, 0, 0, 0, 0, 1, 1, 0, 0, 0, 0, 0, 0, 0, 0, 0, 0, 0, 0, 0, 0, 0, 0, 0, 0, 0, 0, 0, 0, 0, 0, 0, 0, 0, 0, 0, 0, 0, 0, 0, 0, 0, 0, 0, 0, 0, 0, 0, 0, 0, 0, 0, 0, 0, 0, 0, 0, 0, 0] (.seq (.seq (.reg [⟨some 33, none, .mv (.t 12)⟩, ⟨some 34, none, .bin .geq false (.t 33) (.c (.int .i64 0))⟩]) (.cond (.t 34) .skip (.exit 2))) (.seq (.block 3 (.seq (.dreg [[], [], [], [], [2, 3], [4, 2, 3], [], [], [7], [6, 8, 7], [5, 4, 2, 3, 9, 6, 8, 7], [0, 1, 2, 3, 4, 5, 6, 7, 8, 9, 10], [11, 0, 1, 2, 3, 4, 5, 6, 7, 8, 9, 10]] [⟨some 37, none, .mv (.t 9)⟩, ⟨some 38, none, .mv (.t 12)⟩, ⟨some 39, none, .mv (.t 7)⟩, ⟨some 40, none, .mv (.t 12)⟩, ⟨some 41, none, .iaddr 1 (.t 39) (.t 40)⟩, ⟨some 42, none, .load false 1 (.t 41)⟩, ⟨some 43, none, .mv (.t 11)⟩, ⟨some 44, none, .faddr 0 (.t 2)⟩, ⟨some 45, none, .load false 1 (.t 44)⟩, ⟨some 46, none, .bin .rem false (.t 43) (.t 45)⟩, ⟨(some 47), none, (.build [(.str ⟨#[]⟩), (.int .i64 0)] [(0, (1, (.t 42))), (1, (1, (.t 46)))])⟩, ⟨some 48, none, .iaddr 2 (.t 37) (.t 38)⟩, ⟨none, none, (.store 2 (.t 48) (.t 47))⟩]) (.seq (.dreg [[], [], [], [1, 2], [3, 1, 2], [], [], [6], [5, 7, 6], [0, 4, 3, 1, 2, 8, 5, 7, 6]] [⟨some 49, none, .mv (.t 10)⟩, ⟨some 50, none, .mv (.t 7)⟩, ⟨some 51, none, .mv (.t 12)⟩, ⟨some 52, none, .iaddr 1 (.t 50) (.t 51)⟩, ⟨some 53, none, .load false 1 (.t 52)⟩, ⟨some 54, none, .mv (.t 11)⟩, ⟨some 55, none, .faddr 0 (.t 2)⟩, ⟨some 56, none, .load false 1 (.t 55)⟩, ⟨some 57, none, .bin .rem false (.t 54) (.t 56)⟩, ⟨none, none, (.mset true (.t 49) (.t 53) (.t 57))⟩]) (.reg [⟨some 58, none, .mv (.t 11)⟩, ⟨some 59, none, .faddr 0 (.t 2)⟩, ⟨some 60, none, .load false 1 (.t 59)⟩, ⟨some 61, none, .bin .quo false (.t 58) (.t 60)⟩, ⟨some 11, none, .mv (.t 61)⟩])))) (.reg [⟨some 35, none, .mv (.t 12)⟩, ⟨some 36, none, .bin .sub false (.t 35) (.c (.int .i64 1))⟩, ⟨some 12, none, .mv (.t 36)⟩])))))) (.seq (.reg [⟨some 63, none, .load true 2 (.t 2)⟩, ⟨some 64, none, .load true 1 (.t 3)⟩, ⟨some 65, none, .mv (.t 10)⟩, ⟨some 66, none, .call 158 [(.t 63), (.t 64), (.t 65)]⟩, ⟨some 62, none, .mv (.t 66)⟩, ⟨some 67, none, .ext (.t 62) 0⟩, ⟨some 68, none, .ext (.t 62) 1⟩, ⟨some 13, none, .mv (.t 67)⟩, ⟨some 14, none, .mv (.t 68)⟩]) (.seq (.seq (.reg [⟨some 69, none, .mv (.t 14)⟩, ⟨some 70, none, .un .not (.t 69)⟩]) (.cond (.t 70) (.seq (.reg [⟨some 4, none, .mv (.c .nil)⟩, ⟨some 5, none, .mv (.c (.bool false))⟩, ⟨some 6, none, .mv (.c (.bool false))⟩]) .ret) .skip)) (.seq (.reg [⟨some 71, none, .mv (.t 13)⟩, ⟨some 72, none, .un .not (.t 71)⟩]) (.cond (.t 72) (.seq (.reg [⟨some 73, none, .mv (.t 9)⟩, ⟨some 4, none, .mv (.t 73)⟩, ⟨some 5, none, .mv (.c (.bool true))⟩, ⟨some 6, none, .mv (.c (.bool true))⟩]) .ret) .skip)))))))))) (.reg [⟨some 74, none, .bin .add false (.t 22) (.c (.int .i64 1))⟩, ⟨some 22, none, .mv (.t 74)⟩]))))))) (.seq (.reg [⟨some 4, none, .mv (.c .nil)⟩, ⟨some 5, none, .mv (.c (.bool false))⟩, ⟨some 6, none, .mv (.c (.bool true))⟩]) .ret))))
theorem k_impl_Interpretation_counterexample : codeOf Tryz.prog 114 = some ⟨75, c_impl_Interpretation_counterexample, [(.tmp 4), (.tmp 5), (.tmp 6)]⟩ := by kernel_rfl
theorem m_impl_Interpretation_counterexample : modes 114 = ⟨[], .own [some (94, 2), none, none], none, false⟩ := by unfold modes; rfl
def c_impl_FirstCounterexample : SC := (.seq (.reg [⟨some 2, none, .boxv 51 2 (.t 0)⟩, ⟨some 3, none, .boxv 72 1 (.t 1)⟩, ⟨some 4, none, .mv (.c .nil)⟩, ⟨some 5, none, .mv (.c (.bool false))⟩, ⟨some 6, none, .mv (.c (.bool false))⟩]) (.seq (.seq (.reg [⟨some 7, none, .load true 2 (.t 2)⟩, ⟨some 8, none, .call 56 [(.t 7)]⟩, ⟨some 9, none, .un .not (.t 8)⟩, ⟨some 10, none, .mv (.t 9)⟩, ⟨(some 11), (some (10, false)), (.load true 1 (.t 3))⟩, ⟨(some 12), (some (10, false)), (.call 68 [(.t 11)])⟩, ⟨(some 13), (some (10, false)), (.un .not (.t 12))⟩, ⟨some 14, none, .pick (.t 10) (.c (.bool true)) (.t 13)⟩, ⟨some 15, none, .mv (.t 14)⟩, ⟨(some 16), (some (15, false)), (.load true 1 (.t 3))⟩, ⟨(some 17), (some (15, false)), (.call 113 [(.t 16)])⟩, ⟨(some 18), (some (15, false)), (.un .not (.t 17))⟩, ⟨some 19, none, .pick (.t 15) (.c (.bool true)) (.t 18)⟩]) (.cond (.t 19) (.seq (.reg [⟨some 4, none, .mv (.c .nil)⟩, ⟨some 5, none, .mv (.c (.bool false))⟩, ⟨some 6, none, .mv (.c (.bool false))⟩]) .ret) .skip)) (.seq (.reg [⟨some 20, none, .load true 2 (.t 2)⟩, ⟨some 21, none, .load true 1 (.t 3)⟩, ⟨some 22, none, .call 114 [(.t 20), (.t 21)]⟩, ⟨some 23, none, .ext (.t 22) 0⟩, ⟨some 24, none, .ext (.t 22) 1⟩, ⟨some 25, none, .ext (.t 22) 2⟩, ⟨some 4, none, .mv (.t 23)⟩, ⟨some 5, none, .mv (.t 24)⟩, ⟨some 6, none, .mv (.t 25)⟩]) .ret)))
theorem k_impl_FirstCounterexample : codeOf Tryz.prog 63 = some ⟨26, c_impl_FirstCounterexample, [(.tmp 4), (.tmp 5), (.tmp 6)]⟩ := by kernel_rfl
theorem m_impl_FirstCounterexample : modes 63 = ⟨[], .own [some (94, 2), none, none], none, false⟩ := by unfold modes; rfl
abbrev optB2 (o : Option Bool) : SV := .tup [.bool (o.getD false), .bool o.isSome]
set_option maxHeartbeats 4000000 in
theorem satisfied_E (m : Ip) (hm : m.ok = true) (ht : m.tame) (c : Cl) (hc : c.ok = true) (e : Env) (he : InE m.size e) : E 158 [m.sv, c.sv, .mp true (envM e)] [] = some (optB2 (satA m e c.lits false), []) := by
  have hl := Cl.ok_len hc
  refine E_walk k_impl_Interpretation_satisfied m_impl_Interpretation_satisfied (of_decide_eq_true rfl) ?_
  simp (disch := omega) only [c_impl_Interpretation_satisfied, go_sem, go_cond, zA, zB, zC, zD, zE, zF, zG, zH, ↓reduceIte, zI, reduceCtorEq, zJ, zK]
  refine go_loop (α := Int × (Bool)) (fun a => ⟨slots 39 0 [(2, .mp true (envM e)), (3, .ptr 0 0), (8, .bool (a.2)), (14, .arr (c.lits.map Lt.d)), (15, .int .i64 c.lits.length), (16, .int .i64 (a.1))], [.box 51 [.int .i64 m.size, .arr (m.tables.map Tl.d)]]⟩) (fun a => ∃ k : Nat, a.1 = k ∧ k ≤ (c.lits).length ∧ satA m e (c.lits.drop k) (a.2) = satA m e c.lits false) (fun a => (c.lits).length - (a.1).toNat) (0, false) ⟨0, rfl, Nat.zero_le _, by rw [List.drop_zero]⟩ (by simp (disch := omega) only [go_sem, go_cond, zA, zB, zC, zD, zE, zF, zG, zH, ↓reduceIte, zI, reduceCtorEq, zJ, zK]) ?_
  rintro ⟨i, b⟩ ⟨k, hi, hk, hR⟩
  dsimp only at hi hR
  have hni : i.toNat = k := by omega
  have hni1 : (i + 1).toNat = k + 1 := by omega
  rcases Nat.lt_or_ge k (c.lits).length with hlt | hge
  · have hg := get_at Lt.d hlt
    rw [Lt.d_eq] at hg
    have has : c.lits[k].atom.sv = .agg [.str c.lits[k].atom.name, .arr (c.lits[k].atom.args.map Tm.d)] := rfl
    rw [List.drop_eq_getElem_cons hlt, satA] at hR
    obtain ⟨q, hct, hq⟩ := truth_E m hm ht e he c.lits[k].atom (Cl.ok_atom hc hlt)
    cases hv : c.lits[k].atom.tru m e with
    | none =>
      rw [hv] at hct hR
      simp only at hR
      rw [← hR]
      simp (disch := omega) only [go_sem, go_cond, zA, zB, zC, zD, zE, zF, zG, zH, ↓reduceIte, zI, reduceCtorEq, zJ, zK, hni, hg, has, hct, m_impl_Interpretation_truth, Option.getD_none, Option.isSome_none, Option.getD_some, Option.isSome_some]
      try first | rfl | exact ⟨rfl, rfl⟩
    | some n =>
      rw [hv] at hct hR
      simp only at hR
      have hq := hq n hv
      rw [← hq] at hR
      cases b with
      | true =>
        rw [Bool.true_or] at hR
        simp (disch := omega) only [go_sem, go_cond, zA, zB, zC, zD, zE, zF, zG, zH, ↓reduceIte, zI, reduceCtorEq, zJ, zK, hni, hg, has, hct, m_impl_Interpretation_truth, Option.getD_none, Option.isSome_none, Option.getD_some, Option.isSome_some]
        exact ⟨(i + 1, true), ⟨k + 1, by dsimp only; omega, hlt, hR⟩, by dsimp only; omega, by first | trivial | rfl | exact ⟨rfl, rfl⟩⟩
      | false =>
        rw [Bool.false_or] at hR
        simp (disch := omega) only [go_sem, go_cond, zA, zB, zC, zD, zE, zF, zG, zH, ↓reduceIte, zI, reduceCtorEq, zJ, zK, hni, hg, has, hct, m_impl_Interpretation_truth, Option.getD_none, Option.isSome_none, Option.getD_some, Option.isSome_some]
        exact ⟨(i + 1, q == c.lits[k].pos), ⟨k + 1, by dsimp only; omega, hlt, hR⟩, by dsimp only; omega, by first | trivial | rfl | exact ⟨rfl, rfl⟩⟩
  · rw [List.drop_eq_nil_of_le hge, satA] at hR
    rw [← hR]
    simp (disch := omega) only [go_sem, go_cond, zA, zB, zC, zD, zE, zF, zG, zH, ↓reduceIte, zI, reduceCtorEq, zJ, zK, hni, Option.getD_some, Option.isSome_some]
    try first | rfl | exact ⟨rfl, rfl⟩
set_option maxHeartbeats 16000000 in
theorem counterexample_E (m : Ip) (hm : m.ok = true) (ht : m.tame) (c : Cl) (hc : c.ok = true) (hn6 : c.narrow = true) : E 114 [m.sv, c.sv] [] = some (.tup [.ref 0, .bool (cexF (cexAll m c)), .bool (cexAll m c).isSome], [.row 94 2 ((cexL (cexAll m c)).map Ag.o)]) := by
  obtain ⟨⟨s1, s3⟩, _, _⟩ := Ip.ok_parts hm
  have hv := clauseVariables_E c hc
  have hcv : insA [] (Lt.vsL c.lits) = c.vars := rfl
  rw [hcv] at hv
  have h6 : c.vars.length ≤ 6 := by
    have h := dec_iff.1 hn6
    rw [hcv] at h
    omega
  have hp := power_E m.size c.vars.length s1 s3 (by omega) (by omega)
  have hcs : (c.vars.length : Int).toNat = c.vars.length := by omega
  rw [hcs] at hp
  have hP := pw_nar s1 s3 h6
  obtain ⟨P, hPe⟩ : ∃ P, P = pw m.size c.vars.length := ⟨_, rfl⟩
  have hall : cexAll m c = cexN m c P.toNat 0 := by rw [hPe]; rfl
  rw [hall]
  rw [← hPe] at hp hP
  refine E_walk k_impl_Interpretation_counterexample m_impl_Interpretation_counterexample (of_decide_eq_true rfl) ?_
  simp (disch := omega) only [c_impl_Interpretation_counterexample, go_sem, go_cond, zA, zB, zC, zD, zE, zF, zG, zH, ↓reduceIte, zI, reduceCtorEq, zJ, zK, hv, hp, m_impl_clauseVariables, m_impl_power]
  refine go_loop (α := Int) (fun n => ⟨slots 75 0 [(2, .ptr 0 0), (3, .ptr 1 0), (7, .ref 2), (21, .int .i64 P), (22, .int .i64 n)], [.box 51 [.int .i64 m.size, .arr (m.tables.map Tl.d)], .box 72 [.arr (c.lits.map Lt.d)], .row 9 1 (c.vars.map fun s => [OT.str s])]⟩) (fun n => ∃ k : Nat, n = k ∧ k ≤ P.toNat ∧ cexN m c (P.toNat - k) n = cexN m c P.toNat 0) (fun n => P.toNat - n.toNat) 0 ⟨0, rfl, Nat.zero_le _, rfl⟩ (by simp (disch := omega) only [go_sem, go_cond, zA, zB, zC, zD, zE, zF, zG, zH, ↓reduceIte, zI, reduceCtorEq, zJ, zK]) ?_
  rintro n ⟨k, hn, hk, hR⟩
  rcases Int.lt_or_le n P with hlt | hge
  · have hkP : k < P.toNat := by omega
    have hL : ((c.vars.length : Int) - 1 + 1).toNat = c.vars.length := by omega
    have hz0 : (c.vars.drop c.vars.length) = [] := List.drop_length
    have hdg : digA m.size [] n = ([], n) := rfl
    have hnone : envM (asg []) = nomap := envM_none
    have hnew := padA_new c.vars.length
    simp (disch := omega) only [go_sem, go_cond, zA, zB, zC, zD, zE, zF, zG, zH, ↓reduceIte, zI, reduceCtorEq, zJ, zK]
    refine go_loop (α := Int × Int) (fun a => ⟨slots 75 0 [(2, .ptr 0 0), (3, .ptr 1 0), (7, .ref 2), (9, .ref 3), (10, .ref 4), (11, .int .i64 a.2), (12, .int .i64 a.1), (21, .int .i64 P), (22, .int .i64 n)], [.box 51 [.int .i64 m.size, .arr (m.tables.map Tl.d)], .box 72 [.arr (c.lits.map Lt.d)], .row 9 1 (c.vars.map fun s => [OT.str s]), .row 94 2 (padA (a.1 + 1).toNat ((digA m.size (c.vars.drop (a.1 + 1).toNat) n).1.map Ag.o)), .mp true (envM (asg (digA m.size (c.vars.drop (a.1 + 1).toNat) n).1))]⟩) (fun a => ∃ j : Nat, a.1 = (j : Int) - 1 ∧ j ≤ c.vars.length ∧ a.2 = (digA m.size (c.vars.drop j) n).2) (fun a => (a.1 + 1).toNat) ((c.vars.length : Int) - 1, n) ⟨c.vars.length, rfl, Nat.le_refl _, by rw [hz0, hdg]⟩ (by simp (disch := omega) only [go_sem, go_cond, zA, zB, zC, zD, zE, zF, zG, zH, ↓reduceIte, zI, reduceCtorEq, zJ, zK, hL, hz0, hdg, hnone, hnew, List.map_nil, Int.toNat_natCast]) ?_
    rintro ⟨i, rest⟩ ⟨j0, hi, hj, hr⟩
    dsimp only at hi hr
    obtain ⟨r0, r1⟩ := digA_rest s1 (show 0 ≤ n by omega) (c.vars.drop j0)
    rw [← hr] at r0 r1
    rcases Nat.eq_zero_or_pos j0 with h0 | h0
    · subst h0
      obtain rfl : i = -1 := by omega
      have e1 : ((-1 : Int) + 1).toNat = 0 := rfl
      have hsa := satisfied_E m hm ht c hc (asg (digA m.size c.vars n).1) (asg_in fun x hx => digA_in s1 (by omega) _ x hx)
      cases hs : satA m (asg (digA m.size c.vars n).1) c.lits false with
      | none =>
        rw [hs] at hsa
        rw [cexN_no hkP hs] at hR
        rw [← hR]
        simp (disch := omega) only [go_sem, go_cond, zA, zB, zC, zD, zE, zF, zG, zH, ↓reduceIte, zI, reduceCtorEq, zJ, zK, e1, hsa, List.drop_zero, padA_zero, m_impl_Interpretation_satisfied, Option.getD_none, Option.isSome_none, Option.getD_some, Option.isSome_some, cexL, cexF]
        try first | rfl | exact ⟨rfl, rfl⟩
      | some b =>
        rw [hs] at hsa
        cases b with
        | false =>
          rw [cexN_hit hkP hs] at hR
          rw [← hR]
          simp (disch := omega) only [go_sem, go_cond, zA, zB, zC, zD, zE, zF, zG, zH, ↓reduceIte, zI, reduceCtorEq, zJ, zK, e1, hsa, List.drop_zero, padA_zero, m_impl_Interpretation_satisfied, Option.getD_none, Option.isSome_none, Option.getD_some, Option.isSome_some, cexL, cexF]
          try first | rfl | exact ⟨rfl, rfl⟩
        | true =>
          rw [cexN_go hkP hs] at hR
          simp (disch := omega) only [go_sem, go_cond, zA, zB, zC, zD, zE, zF, zG, zH, ↓reduceIte, zI, reduceCtorEq, zJ, zK, e1, hsa, List.drop_zero, padA_zero, m_impl_Interpretation_satisfied, Option.getD_none, Option.isSome_none, Option.getD_some, Option.isSome_some, cexL, cexF]
          exact ⟨n + 1, ⟨k + 1, by omega, by omega, hR⟩, by omega, by first | trivial | rfl | exact ⟨rfl, rfl⟩⟩
    · obtain ⟨j, rfl⟩ : ∃ j, j0 = j + 1 := ⟨j0 - 1, by omega⟩
      have hjl : j < c.vars.length := by omega
      have hni : i.toNat = j := by omega
      have hk1 : (i + 1).toNat = j + 1 := by omega
      have hk2 : (i - 1 + 1).toNat = j := by omega
      have hgn : (c.vars.map fun s => [OT.str s])[j]? = some [OT.str c.vars[j]] := by rw [List.getElem?_map, List.getElem?_eq_getElem hjl]; rfl
      have hdj : digA m.size (c.vars.drop j) n = (⟨c.vars[j], rest.tmod m.size⟩ :: (digA m.size (c.vars.drop (j + 1)) n).1, rest.tdiv m.size) := by rw [List.drop_eq_getElem_cons hjl, digA, ← hr]
      have hd1 : (digA m.size (c.vars.drop j) n).1 = ⟨c.vars[j], rest.tmod m.size⟩ :: (digA m.size (c.vars.drop (j + 1)) n).1 := by rw [hdj]
      have hd2 : (digA m.size (c.vars.drop j) n).2 = rest.tdiv m.size := by rw [hdj]
      have hdl := digA_len m.size n (c.vars.drop (j + 1))
      rw [List.length_drop] at hdl
      have hrl := padA_len (j + 1) ((digA m.size (c.vars.drop (j + 1)) n).1.map Ag.o)
      rw [List.length_map, hdl] at hrl
      have hset : (padA (j + 1) ((digA m.size (c.vars.drop (j + 1)) n).1.map Ag.o)).set j [OT.str c.vars[j], OT.int (rest.tmod m.size)] = padA j ((digA m.size (c.vars.drop j) n).1.map Ag.o) := by rw [padA_set, hd1]; rfl
      have hgo := padA_get ((digA m.size (c.vars.drop (j + 1)) n).1.map Ag.o) j
      have hmp : mput (envM (asg (digA m.size (c.vars.drop (j + 1)) n).1)) (.str c.vars[j]) (false, [.int (rest.tmod m.size)]) = envM (asg (digA m.size (c.vars.drop j) n).1) := by rw [envM_put, hd1, asg_cons]
      have hmd := tmod_in r0 s1
      have hdv := tdiv_le r0 s1
      simp (disch := omega) only [go_sem, go_cond, zA, zB, zC, zD, zE, zF, zG, zH, ↓reduceIte, zI, reduceCtorEq, zJ, zK, hni, hk1, hgn, hgo, hrl, hset, hmp, List.length_set]
      refine ⟨(i - 1, rest.tdiv m.size), ⟨j, by dsimp only; omega, by omega, hd2.symm⟩, by dsimp only; omega, ?_⟩
      first | trivial | rfl | simp (disch := omega) only [go_sem, go_cond, zA, zB, zC, zD, zE, zF, zG, zH, ↓reduceIte, zI, reduceCtorEq, zJ, zK, hk2]
  · obtain rfl : k = P.toNat := by omega
    rw [Nat.sub_self, cexN] at hR
    rw [← hR]
    simp (disch := omega) only [go_sem, go_cond, zA, zB, zC, zD, zE, zF, zG, zH, ↓reduceIte, zI, reduceCtorEq, zJ, zK, cexL, cexF, Option.isSome_some]
    try first | rfl | exact ⟨rfl, rfl⟩
set_option maxHeartbeats 8000000 in
theorem l10True_E (m : Ip) (hm : m.ok = true) (ht : m.tame) (as_ : List Ag) (hal : as_.length ≤ 1099511627776) (he : InE m.size (asg as_)) (x : Tm) (hx : x.atom = true) : E 93 [m.sv, .arr (as_.map Ag.d), x.sv, .bool true] [] = some (optT (x.tru m (asg as_)), []) := by
  have hnn := Tm.atom_nodes hx
  have hnq := Tm.nodes_eq x
  have hxl : x.args.length ≤ 29 := by have := Tm.length_le x.args; omega
  have ih : ∀ y ∈ x.args, LvC m as_ y := fun y hy => l10Value_E m hm ht.1 (fun t h => ht.2 t h) as_ hal he y (by have := Tm.nodes_mem hy; omega)
  have hml := ht.1
  have hvl := ht.2
  have hnv : varB x.name = false := by
    cases hv : varB x.name with
    | false => rfl
    | true =>
      have ha := hx
      unfold Tm.atom at ha
      cases hq : x.eqn with
      | true => exact absurd hv (by rw [Tm.eqn_var hq]; decide)
      | false =>
        rw [hq, if_neg (by simp), Bool.and_eq_true] at ha
        rw [var_noSym hv] at ha; cases ha.1
  have h1 := l2Var_E x.name
  rw [hnv] at h1
  obtain ⟨⟨s1, s3⟩, hT, _⟩ := Ip.ok_parts hm
  have hf := l10Find_E m.tables hml x.name x.args.length
  refine E_walk k_spec_l10Value m_spec_l10Value (of_decide_eq_true rfl) ?_
  simp (disch := omega) only [c_spec_l10Value, go_sem, go_cond, zA, zB, zC, zD, zE, zF, zG, zH, ↓reduceIte, zI, reduceCtorEq, zJ, zK, h1, m_spec_l2Var]
  refine go_loop (α := Int × (Int)) (fun a => ⟨slots 108 0 [(1, .arr (as_.map Ag.d)), (3, .bool true), (4, .ptr 0 0), (6, .ptr 1 0), (11, .int .i64 (a.2)), (12, .int .i64 (a.1))], [.box 51 [.int .i64 m.size, .arr (m.tables.map Tl.d)], .box 31 [.str x.name, .arr (x.args.map Tm.d)]]⟩) (fun a => ∃ k : Nat, a.1 = k ∧ k ≤ (x.args).length ∧ 0 ≤ (a.2) ∧ (a.2) < pw m.size k ∧ Tm.valS m (asg as_) (x.args.drop k) (a.2) = Tm.valS m (asg as_) x.args 0) (fun a => (x.args).length - (a.1).toNat) (0, 0) ⟨0, rfl, Nat.zero_le _, ⟨Int.le_refl 0, by rw [pw]; omega, by rw [List.drop_zero]⟩⟩ (by simp (disch := omega) only [go_sem, go_cond, zA, zB, zC, zD, zE, zF, zG, zH, ↓reduceIte, zI, reduceCtorEq, zJ, zK]) ?_
  rintro ⟨i, at_⟩ ⟨k, hi, hk, hR⟩
  dsimp only at hi hR
  have hni : i.toNat = k := by omega
  have hni1 : (i + 1).toNat = k + 1 := by omega
  rcases Nat.lt_or_ge k (x.args).length with hlt | hge
  · have hg := get_at Tm.d hlt
    rw [Tm.d_eq] at hg
    obtain ⟨r0, r1, r2⟩ := hR
    have hc := ih x.args[k] (List.getElem_mem hlt)
    rw [List.drop_eq_getElem_cons hlt, Tm.valS] at r2
    have hps := pw_mid s1 s3 (k := k + 1) (by omega)
    cases hv : x.args[k].val m (asg as_) with
    | none =>
      rw [hv] at r2
      unfold LvC at hc
      rw [hv] at hc
      have hrn : x.tru m (asg as_) = none := by
        unfold Tm.tru
        rw [← r2]
        cases x.eqn with
        | true => rfl
        | false =>
          simp only [Bool.false_eq_true, if_false]
          unfold readT
          split <;> first | rfl | (rename_i h; cases h)
      rw [hrn]
      simp (disch := omega) only [go_sem, go_cond, zA, zB, zC, zD, zE, zF, zG, zH, ↓reduceIte, zI, reduceCtorEq, zJ, zK, hni, hg, hc, Option.getD_none, Option.isSome_none, Option.getD_some, Option.isSome_some, m_spec_l10Value]
      try first | rfl | exact ⟨rfl, rfl⟩
    | some v =>
      rw [hv] at r2
      unfold LvC at hc
      rw [hv] at hc
      obtain ⟨v0, v1⟩ := Tm.val_in hm he _ v hv
      obtain ⟨q0, q1, q2, q3⟩ := at_next s1 r0 r1 v0 v1
      rw [pw] at hps
      simp (disch := omega) only [go_sem, go_cond, zA, zB, zC, zD, zE, zF, zG, zH, ↓reduceIte, zI, reduceCtorEq, zJ, zK, hni, hg, hc, Option.getD_none, Option.isSome_none, Option.getD_some, Option.isSome_some, m_spec_l10Value]
      refine ⟨(i + 1, at_ * m.size + v), ⟨k + 1, by dsimp only; omega, hlt, q0, (by rw [pw]; exact q1), r2⟩, by dsimp only; omega, ?_⟩
      first | trivial | rfl | exact ⟨rfl, rfl⟩
  · obtain rfl : k = x.args.length := by omega
    obtain ⟨r0, r1, r2⟩ := hR
    rw [List.drop_eq_nil_of_le hge, Tm.valS] at r2
    have hps := pw_mid s1 s3 (k := x.args.length) (by omega)
    have hdv0 : 0 ≤ at_.tdiv m.size := by rw [Int.tdiv_eq_ediv_of_nonneg r0]; exact Int.ediv_nonneg r0 (by omega)
    have hdv1 : at_.tdiv m.size ≤ at_ := by rw [Int.tdiv_eq_ediv_of_nonneg r0]; exact Int.ediv_le_self _ r0
    cases hq : x.eqn with
    | true =>
      have hrn : x.tru m (asg as_) = some (bif dec (at_.tmod m.size = at_.tdiv m.size) then 1 else 0) := by unfold Tm.tru; rw [hq, if_pos rfl, ← r2]
      rw [hrn]
      unfold Tm.eqn at hq
      cases hd : dec (at_.tmod m.size = at_.tdiv m.size) with
      | true =>
        simp (disch := omega) only [go_sem, go_cond, zA, zB, zC, zD, zE, zF, zG, zH, ↓reduceIte, zI, reduceCtorEq, zJ, zK, hni, hq, hd, Option.getD_some, Option.isSome_some]
        try first | rfl | exact ⟨rfl, rfl⟩
      | false =>
        simp (disch := omega) only [go_sem, go_cond, zA, zB, zC, zD, zE, zF, zG, zH, ↓reduceIte, zI, reduceCtorEq, zJ, zK, hni, hq, hd, Option.getD_some, Option.isSome_some]
        try first | rfl | exact ⟨rfl, rfl⟩
    | false =>
      have hrn0 : x.tru m (asg as_) = readT m.tables x.name x.args.length true (some at_) := by unfold Tm.tru; rw [hq, if_neg (by simp), ← r2]
      rw [hrn0]
      unfold Tm.eqn at hq
      have hTF := tabF_first (n := x.name) (z := x.args.length) (p := true) (tabs_pair hT)
      rcases idxP_find (fun t : Tl => dec (t.name = x.name) && dec (t.arity = (x.args.length : Int))) m.tables 0 with ⟨h2, h3⟩ | ⟨j, t, hj, h2, h3, h4⟩
      · rw [h2] at hTF
        rw [h3] at hf
        have hrn : readT m.tables x.name x.args.length true (some at_) = none := by unfold readT; rw [hTF]
        rw [hrn]
        simp (disch := omega) only [go_sem, go_cond, zA, zB, zC, zD, zE, zF, zG, zH, ↓reduceIte, zI, reduceCtorEq, zJ, zK, hni, hq, hf, m_spec_l10Find]
        try first | rfl | exact ⟨rfl, rfl⟩
      · rw [h2] at hTF
        rw [h3, Int.zero_add] at hf
        have hg := get_at Tl.d hj
        rw [h4, Tl.d_eq] at hg
        obtain ⟨jj, hjj⟩ : ∃ jj : Int, jj = (j : Int) := ⟨_, rfl⟩
        rw [← hjj] at hf
        have hnj : jj.toNat = j := by omega
        simp only at hTF
        have hbt : (false == true) = false := rfl
        have hbf : (true == true) = true := rfl
        cases hpr : t.pred with
        | false =>
          rw [hpr] at hTF
          have hrn : readT m.tables x.name x.args.length true (some at_) = none := by unfold readT; rw [hTF]; rfl
          rw [hrn]
          simp (disch := omega) only [go_sem, go_cond, zA, zB, zC, zD, zE, zF, zG, zH, ↓reduceIte, zI, reduceCtorEq, zJ, zK, hni, hq, hf, hnj, hg, hpr, hbt, m_spec_l10Find]
          try first | rfl | exact ⟨rfl, rfl⟩
        | true =>
          rw [hpr] at hTF
          have hTF : tabF m.tables x.name x.args.length true = some t := hTF
          have hrn : readT m.tables x.name x.args.length true (some at_) = some (t.vals.getD at_.toNat 0) := by unfold readT; rw [hTF]
          obtain ⟨g1, g2, _, _⟩ := read_in hm hTF r0 r1
          have hgv := get_at (fun n => [D.int n]) g1
          have hvt := hvl t (tabF_some hTF).1
          rw [hrn, g2]
          simp (disch := omega) only [go_sem, go_cond, zA, zB, zC, zD, zE, zF, zG, zH, ↓reduceIte, zI, reduceCtorEq, zJ, zK, hni, hq, hf, hnj, hg, hgv, hpr, hbf, Option.getD_some, Option.isSome_some, m_spec_l10Find]
          try first | rfl | exact ⟨rfl, rfl⟩
def c_spec_l10Counter : SC := (.seq (.reg [⟨some 2, none, .boxv 51 2 (.t 0)⟩, ⟨some 3, none, .boxv 72 1 (.t 1)⟩, ⟨some 4, none, .mv (.c .nil)⟩, ⟨some 5, none, .mv (.c (.int .i64 0))⟩]) (.seq (.reg [⟨some 15, none, .load true 1 (.t 3)⟩, ⟨some 16, none, .call 112 [(.t 15)]⟩, ⟨some 6, none, .mv (.t 16)⟩]) (.seq (.seq (.reg [⟨some 7, none, .mv (.c (.int .i64 0))⟩]) (.block 0 (.loop [0, 0, 1, 1, 0, 0, 1, 1, 0, 0, 0, 0, 0, 0, 0, 0, 0, 0, 0, 0, 0, 0, 0, 0, 0, 0, 0, 0, 0, 0, 0, 0, 0, 0, 0, 0, 0, 0, 0, 0, 0, 0, 0, 0, 0, 0, 0, 0, 0, 0, 0, 0, 0, 0, 0, 0, 0, 0, 0, 0, 0, 0, 0, 0, 0, 0, 0, 0, 0, 0, 0, 0, 0, 0, 0, 0, 0, 0, 0, 0, 0, 0, 0, 0, 0, 0, 0, 0, 0] (.seq (.seq (.reg [⟨some 17, none, .mv (.t 7)⟩, ⟨some 18, none, .faddr 0 (.t 2)⟩, ⟨some 19, none, .load false 1 (.t 18)⟩, ⟨some 20, none, .mv (.t 6)⟩, ⟨some 21, none, .len false (.t 20)⟩, ⟨some 22, none, .call 91 [(.t 19), (.t 21)]⟩, ⟨some 23, none, .bin .lss false (.t 17) (.t 22)⟩]) (.cond (.t 23) .skip (.exit 0))) (.seq (.block 1 (.seq (.reg [⟨(some 26), none, (.mkrow 94 2 [(.str ⟨#[]⟩), (.int .i64 0)] 0 [])⟩, ⟨some 8, none, .mv (.t 26)⟩]) (.seq (.reg [⟨some 27, none, .mv (.t 7)⟩, ⟨some 9, none, .mv (.t 27)⟩]) (.seq (.seq (.reg [⟨some 28, none, .mv (.t 6)⟩, ⟨some 29, none, .len false (.t 28)⟩, ⟨some 30, none, .bin .sub false (.t 29) (.c (.int .i64 1))⟩, ⟨some 10, none, .mv (.t 30)⟩]) (.block 2 (.loop [0, 0, 1, 1, 0, 0, 1, 1, 1, 1, 1, 0, 0, 0, 0, 0, 0, 0, 0, 0, 0, 0, 0, 0, 0, 0, 0, 0, 0, 0, 0, 0, 0, 0, 0, 0, 0, 0, 0, 0, 0, 0, 0, 0, 0, 0, 0, 0, 0, 0, 0, 0, 0, 0, 0, 0, 0, 0, 0, 0, 0, 0, 0, 0, 0, 0, 0, 0, 0, 0, 0, 0, 0, 0, 0, 0, 0, 0, 0, 0, 0, 0, 0, 0, 0, 0, 0, 0, 0] (.seq (.seq (.reg [⟨some 31, none, .mv (.t 10)⟩, ⟨some 32, none, .bin .geq false (.t 31) (.c (.int .i64 0))⟩]) (.cond (.t 32) .skip (.exit 2))) (.seq (.block 3 (.seq (.dreg [[], [], [0, 1], [2, 0, 1], [], [], [5], [4, 6, 5], [3, 2, 0, 1, 7, 4, 6, 5], [8, 3, 2, 0, 1, 7, 4, 6, 5], [], [9, 8, 3, 2, 0, 1, 7, 4, 6, 5, 10], [11, 9, 8, 3, 2, 0, 1, 7, 4, 6, 5, 10]] [⟨some 35, none, .mv (.t 6)⟩, ⟨some 36, none, .mv (.t 10)⟩, ⟨some 37, none, .iaddr 1 (.t 35) (.t 36)⟩, ⟨some 38, none, .load false 1 (.t 37)⟩, ⟨some 39, none, .mv (.t 9)⟩, ⟨some 40, none, .faddr 0 (.t 2)⟩, ⟨some 41, none, .load false 1 (.t 40)⟩, ⟨some 42, none, .bin .rem false (.t 39) (.t 41)⟩, ⟨(some 43), none, (.build [(.str ⟨#[]⟩), (.int .i64 0)] [(0, (1, (.t 38))), (1, (1, (.t 42)))])⟩, ⟨(some 44), none, (.mkrow 94 2 [(.str ⟨#[]⟩), (.int .i64 0)] 1 [(0, (.t 43))])⟩, ⟨some 45, none, .mv (.t 8)⟩, ⟨(some 46), none, (.append 94 2 24 [(.str ⟨#[]⟩), (.int .i64 0)] (.t 44) (.t 45))⟩, ⟨some 8, none, .mv (.t 46)⟩]) (.reg [⟨some 47, none, .mv (.t 9)⟩, ⟨some 48, none, .faddr 0 (.t 2)⟩, ⟨some 49, none, .load false 1 (.t 48)⟩, ⟨some 50, none, .bin .quo false (.t 47) (.t 49)⟩, ⟨some 9, none, .mv (.t 50)⟩]))) (.reg [⟨some 33, none, .mv (.t 10)⟩, ⟨some 34, none, .bin .sub false (.t 33) (.c (.int .i64 1))⟩, ⟨some 10, none, .mv (.t 34)⟩])))))) (.seq (.reg [⟨some 11, none, .mv (.c (.bool false))⟩]) (.seq (.seq (.reg [⟨some 12, none, .mv (.c (.int .i64 0))⟩]) (.block 4 (.loop [0, 0, 1, 1, 0, 0, 1, 1, 1, 0, 0, 1, 1, 0, 0, 0, 0, 0, 0, 0, 0, 0, 0, 0, 0, 0, 0, 0, 0, 0, 0, 0, 0, 0, 0, 0, 0, 0, 0, 0, 0, 0, 0, 0, 0, 0, 0, 0, 0, 0, 0, 0, 0, 0, 0, 0, 0, 0, 0, 0, 0, 0, 0, 0, 0, 0, 0, 0, 0, 0, 0, 0, 0, 0, 0, 0, 0, 0, 0, 0, 0, 0, 0, 0, 0, 0, 0, 0, 0] (.seq (.seq (.reg [⟨some 51, none, .mv (.t 12)⟩, ⟨some 52, none, .faddr 0 (.t 3)⟩, ⟨some 53, none, .load false 1 (.t 52)⟩, ⟨some 54, none, .len false (.t 53)⟩, ⟨some 55, none, .bin .lss false (.t 51) (.t 54)⟩]) (.cond (.t 55) .skip (.exit 4))) (.seq (.block 5 (.seq (.dreg [[], [], [], [2], [], [3, 2, 4], [5, 3, 2, 4], [6, 5, 3, 2, 4], [0, 1, 7, 6, 5, 3, 2, 4], [8, 0, 1, 7, 6, 5, 3, 2, 4], [9, 8, 0, 1, 7, 6, 5, 3, 2, 4], [9, 8, 0, 1, 7, 6, 5, 3, 2, 4], [10, 9, 8, 0, 1, 7, 6, 5, 3, 2, 4], [11, 9, 8, 0, 1, 7, 6, 5, 3, 2, 4, 12, 10]] [⟨some 59, none, .load true 2 (.t 2)⟩, ⟨some 60, none, .mv (.t 8)⟩, ⟨some 61, none, .faddr 0 (.t 3)⟩, ⟨some 62, none, .load false 1 (.t 61)⟩, ⟨some 63, none, .mv (.t 12)⟩, ⟨some 64, none, .iaddr 3 (.t 62) (.t 63)⟩, ⟨some 65, none, .faddr 1 (.t 64)⟩, ⟨some 66, none, .load true 2 (.t 65)⟩, ⟨some 67, none, .call 93 [(.t 59), (.t 60), (.t 66), (.c (.bool true))]⟩, ⟨some 58, none, .mv (.t 67)⟩, ⟨some 68, none, .ext (.t 58) 0⟩, ⟨some 69, none, .ext (.t 58) 1⟩, ⟨some 13, none, .mv (.t 68)⟩, ⟨some 14, none, .mv (.t 69)⟩]) (.seq (.seq (.reg [⟨some 70, none, .mv (.t 14)⟩, ⟨some 71, none, .un .not (.t 70)⟩]) (.cond (.t 71) (.seq (.reg [⟨(some 72), none, (.mkrow 94 2 [(.str ⟨#[]⟩), (.int .i64 0)] 0 [])⟩, ⟨some 4, none, .mv (.t 72)⟩, ⟨some 5, none, .mv (.c (.int .i64 (-(0 + 1))))⟩]) .ret) .skip)) (.reg [⟨some 73, none, .mv (.t 11)⟩, ⟨some 74, none, .mv (.t 73)⟩, ⟨(some 75), (some (74, false)), (.mv (.t 13))⟩, ⟨(some 76), (some (74, false)), (.bin .eql false (.t 75) (.c (.int .i64 1)))⟩, ⟨(some 77), (some (74, false)), (.faddr 0 (.t 3))⟩, ⟨(some 78), (some (74, false)), (.load false 1 (.t 77))⟩, ⟨(some 79), (some (74, false)), (.mv (.t 12))⟩, ⟨(some 80), (some (74, false)), (.iaddr 3 (.t 78) (.t 79))⟩, ⟨(some 81), (some (74, false)), (.faddr 0 (.t 80))⟩, ⟨(some 82), (some (74, false)), (.load false 1 (.t 81))⟩, ⟨(some 83), (some (74, false)), (.bin .eql true (.t 76) (.t 82))⟩, ⟨some 84, none, .pick (.t 74) (.c (.bool true)) (.t 83)⟩, ⟨some 11, none, .mv (.t 84)⟩])))) (.reg [⟨some 56, none, .mv (.t 12)⟩, ⟨some 57, none, .bin .add false (.t 56) (.c (.int .i64 1))⟩, ⟨some 12, none, .mv (.t 57)⟩])))))) (.seq (.reg [⟨some 85, none, .mv (.t 11)⟩, ⟨some 86, none, .un .not (.t 85)⟩]) (.cond (.t 86) (.seq (.reg [⟨some 87, none, .mv (.t 8)⟩, ⟨some 4, none, .mv (.t 87)⟩, ⟨some 5, none, .mv (.c (.int .i64 1))⟩]) .ret) .skip)))))))) (.reg [⟨some 24, none, .mv (.t 7)⟩, ⟨some 25, none, .bin .add false (.t 24) (.c (.int .i64 1))⟩, ⟨some 7, none, .mv (.t 25)⟩])))))) (.seq (.reg [⟨(some 88), none, (.mkrow 94 2 [(.str ⟨#[]⟩), (.int .i64 0)] 0 [])⟩, ⟨some 4, none, .mv (.t 88)⟩, ⟨some 5, none, .mv (.c (.int .i64 0))⟩]) .ret))))
theorem k_spec_l10Counter : codeOf Tryz.prog 62 = some ⟨89, c_spec_l10Counter, [(.tmp 4), (.tmp 5)]⟩ := by kernel_rfl
theorem m_spec_l10Counter : modes 62 = ⟨[], .frz, none, false⟩ := by unfold modes; rfl
set_option maxHeartbeats 16000000 in
theorem l10Counter_E (m : Ip) (hm : m.ok = true) (ht : m.tame) (c : Cl) (hc : c.ok = true) (hn6 : c.narrow = true) : E 62 [m.sv, c.sv] [] = some (.tup [.arr ((cexL (cexAll m c)).map Ag.d), .int .i64 (cexZ (cexAll m c))], []) := by
  obtain ⟨⟨s1, s3⟩, _, _⟩ := Ip.ok_parts hm
  have hv := l10Names_E c hc
  have hcl8 := Cl.ok_len hc
  have hcv : insA [] (Lt.vsL c.lits) = c.vars := rfl
  rw [hcv] at hv
  have h6 : c.vars.length ≤ 6 := by
    have h := dec_iff.1 hn6
    rw [hcv] at h
    omega
  have hp := l10Power_E m.size c.vars.length s1 s3 (by omega) (by omega)
  have hcs : (c.vars.length : Int).toNat = c.vars.length := by omega
  rw [hcs] at hp
  have hP := pw_nar s1 s3 h6
  obtain ⟨P, hPe⟩ : ∃ P, P = pw m.size c.vars.length := ⟨_, rfl⟩
  have hall : cexAll m c = cexN m c P.toNat 0 := by rw [hPe]; rfl
  rw [hall]
  rw [← hPe] at hp hP
  refine E_walk k_spec_l10Counter m_spec_l10Counter (of_decide_eq_true rfl) ?_
  simp (disch := omega) only [c_spec_l10Counter, go_sem, go_cond, zA, zB, zC, zD, zE, zF, zG, zH, ↓reduceIte, zI, reduceCtorEq, zJ, zK, hv, m_spec_l10Names]
  refine go_loop (α := Int) (fun n => ⟨slots 89 0 [(2, .ptr 0 0), (3, .ptr 1 0), (6, .arr (c.vars.map fun s => [D.str s])), (7, .int .i64 n)], [.box 51 [.int .i64 m.size, .arr (m.tables.map Tl.d)], .box 72 [.arr (c.lits.map Lt.d)]]⟩) (fun n => ∃ k : Nat, n = k ∧ k ≤ P.toNat ∧ cexN m c (P.toNat - k) n = cexN m c P.toNat 0) (fun n => P.toNat - n.toNat) 0 ⟨0, rfl, Nat.zero_le _, rfl⟩ (by simp (disch := omega) only [go_sem, go_cond, zA, zB, zC, zD, zE, zF, zG, zH, ↓reduceIte, zI, reduceCtorEq, zJ, zK]) ?_
  rintro n ⟨k, hn, hk, hR⟩
  rcases Int.lt_or_le n P with hlt | hge
  · have hkP : k < P.toNat := by omega
    have hL : ((c.vars.length : Int) - 1 + 1).toNat = c.vars.length := by omega
    have hz0 : (c.vars.drop c.vars.length) = [] := List.drop_length
    have hdg : digA m.size [] n = ([], n) := rfl
    simp (disch := omega) only [go_sem, go_cond, zA, zB, zC, zD, zE, zF, zG, zH, ↓reduceIte, zI, reduceCtorEq, zJ, zK, hp, m_spec_l10Power]
    refine go_loop (α := Int × Int) (fun a => ⟨slots 89 0 [(2, .ptr 0 0), (3, .ptr 1 0), (6, .arr (c.vars.map fun s => [D.str s])), (7, .int .i64 n), (8, .ref 2), (9, .int .i64 a.2), (10, .int .i64 a.1)], [.box 51 [.int .i64 m.size, .arr (m.tables.map Tl.d)], .box 72 [.arr (c.lits.map Lt.d)], .row 94 2 ((digA m.size (c.vars.drop (a.1 + 1).toNat) n).1.map Ag.o)]⟩) (fun a => ∃ j : Nat, a.1 = (j : Int) - 1 ∧ j ≤ c.vars.length ∧ a.2 = (digA m.size (c.vars.drop j) n).2) (fun a => (a.1 + 1).toNat) ((c.vars.length : Int) - 1, n) ⟨c.vars.length, rfl, Nat.le_refl _, by rw [hz0, hdg]⟩ (by simp (disch := omega) only [go_sem, go_cond, zA, zB, zC, zD, zE, zF, zG, zH, ↓reduceIte, zI, reduceCtorEq, zJ, zK, hL, hz0, hdg, List.map_nil, Int.toNat_natCast]) ?_
    rintro ⟨i, rest⟩ ⟨j0, hi, hj, hr⟩
    dsimp only at hi hr
    obtain ⟨r0, r1⟩ := digA_rest s1 (show 0 ≤ n by omega) (c.vars.drop j0)
    rw [← hr] at r0 r1
    rcases Nat.eq_zero_or_pos j0 with h0 | h0
    · subst h0
      obtain rfl : i = -1 := by omega
      have e1 : ((-1 : Int) + 1).toNat = 0 := rfl
      have hin : InE m.size (asg (digA m.size c.vars n).1) := asg_in fun x hx => digA_in s1 (by omega) _ x hx
      have hdl := digA_len m.size n c.vars
      obtain ⟨as_, has_⟩ : ∃ as_, as_ = (digA m.size c.vars n).1 := ⟨_, rfl⟩
      have hdz2 : (digA m.size c.vars n).1 = as_ := has_.symm
      have hdz : (digA m.size (c.vars.drop 0) n).1 = as_ := by rw [has_]; rfl
      have go' := cexN_go (m := m) (c := c) (n := n) hkP
      have hit' := cexN_hit (m := m) (c := c) (n := n) hkP
      have no' := cexN_no (m := m) (c := c) (n := n) hkP
      rw [← has_] at hin hdl go' hit' no'
      simp (disch := omega) only [go_sem, go_cond, zA, zB, zC, zD, zE, zF, zG, zH, ↓reduceIte, zI, reduceCtorEq, zJ, zK, e1, hdz, hdz2]
      refine go_loop (α := Int × Bool) (fun a => ⟨slots 89 0 [(2, .ptr 0 0), (3, .ptr 1 0), (6, .arr (c.vars.map fun s => [D.str s])), (7, .int .i64 n), (8, .ref 2), (11, .bool a.2), (12, .int .i64 a.1)], [.box 51 [.int .i64 m.size, .arr (m.tables.map Tl.d)], .box 72 [.arr (c.lits.map Lt.d)], .row 94 2 (as_.map Ag.o)]⟩) (fun a => ∃ q : Nat, a.1 = q ∧ q ≤ c.lits.length ∧ satA m (asg as_) (c.lits.drop q) a.2 = satA m (asg as_) c.lits false) (fun a => c.lits.length - a.1.toNat) (0, false) ⟨0, rfl, Nat.zero_le _, by rw [List.drop_zero]⟩ (by simp (disch := omega) only [go_sem, go_cond, zA, zB, zC, zD, zE, zF, zG, zH, ↓reduceIte, zI, reduceCtorEq, zJ, zK, e1, hdz, hdz2, Int.toNat_zero]) ?_
      rintro ⟨z, b⟩ ⟨q, hz, hq, hS⟩
      dsimp only at hz hS
      have hnz : z.toNat = q := by omega
      rcases Nat.lt_or_ge q c.lits.length with hlt2 | hge2
      · have hg := get_at Lt.d hlt2
        rw [Lt.d_eq] at hg
        have has : c.lits[q].atom.sv = .agg [.str c.lits[q].atom.name, .arr (c.lits[q].atom.args.map Tm.d)] := rfl
        have hct := l10True_E m hm ht as_ (by omega) hin c.lits[q].atom (Cl.ok_atom hc hlt2)
        rw [List.drop_eq_getElem_cons hlt2, satA] at hS
        cases hv2 : c.lits[q].atom.tru m (asg as_) with
        | none =>
          rw [hv2] at hct hS
          simp only at hS
          rw [no' hS.symm] at hR
          rw [← hR]
          simp (disch := omega) only [go_sem, go_cond, zA, zB, zC, zD, zE, zF, zG, zH, ↓reduceIte, zI, reduceCtorEq, zJ, zK, hnz, hg, has, hct, hdl, Ag.erss, Ag.noss, m_spec_l10Value, Option.getD_none, Option.isSome_none, Option.getD_some, Option.isSome_some, cexL, cexZ, List.map_nil, OT.erss, OT.noShss]
          try first | rfl | exact ⟨rfl, rfl⟩
        | some v =>
          rw [hv2] at hct hS
          simp only at hS
          cases b with
          | true =>
            rw [Bool.true_or] at hS
            simp (disch := omega) only [go_sem, go_cond, zA, zB, zC, zD, zE, zF, zG, zH, ↓reduceIte, zI, reduceCtorEq, zJ, zK, hnz, hg, has, hct, hdl, Ag.erss, Ag.noss, m_spec_l10Value, Option.getD_none, Option.isSome_none, Option.getD_some, Option.isSome_some, cexL, cexZ, List.map_nil, OT.erss, OT.noShss]
            exact ⟨(z + 1, true), ⟨q + 1, by dsimp only; omega, hlt2, hS⟩, by dsimp only; omega, by first | trivial | rfl | exact ⟨rfl, rfl⟩⟩
          | false =>
            rw [Bool.false_or] at hS
            simp (disch := omega) only [go_sem, go_cond, zA, zB, zC, zD, zE, zF, zG, zH, ↓reduceIte, zI, reduceCtorEq, zJ, zK, hnz, hg, has, hct, hdl, Ag.erss, Ag.noss, m_spec_l10Value, Option.getD_none, Option.isSome_none, Option.getD_some, Option.isSome_some, cexL, cexZ, List.map_nil, OT.erss, OT.noShss]
            exact ⟨(z + 1, dec (v = 1) == c.lits[q].pos), ⟨q + 1, by dsimp only; omega, hlt2, hS⟩, by dsimp only; omega, by first | trivial | rfl | exact ⟨rfl, rfl⟩⟩
      · rw [List.drop_eq_nil_of_le hge2, satA] at hS
        cases b with
        | false =>
          rw [hit' hS.symm] at hR
          rw [← hR]
          simp (disch := omega) only [go_sem, go_cond, zA, zB, zC, zD, zE, zF, zG, zH, ↓reduceIte, zI, reduceCtorEq, zJ, zK, hnz, Ag.erss, Ag.noss, cexL, cexZ]
          try first | rfl | exact ⟨rfl, rfl⟩
        | true =>
          rw [go' hS.symm] at hR
          simp (disch := omega) only [go_sem, go_cond, zA, zB, zC, zD, zE, zF, zG, zH, ↓reduceIte, zI, reduceCtorEq, zJ, zK, hnz, Ag.erss, Ag.noss, cexL, cexZ]
          exact ⟨n + 1, ⟨k + 1, by omega, by omega, hR⟩, by omega, by first | trivial | rfl | exact ⟨rfl, rfl⟩⟩
    · obtain ⟨j, rfl⟩ : ∃ j, j0 = j + 1 := ⟨j0 - 1, by omega⟩
      have hjl : j < c.vars.length := by omega
      have hni : i.toNat = j := by omega
      have hk1 : (i + 1).toNat = j + 1 := by omega
      have hk2 : (i - 1 + 1).toNat = j := by omega
      have hgn := get_at (fun s => [D.str s]) hjl
      have hdj : digA m.size (c.vars.drop j) n = (⟨c.vars[j], rest.tmod m.size⟩ :: (digA m.size (c.vars.drop (j + 1)) n).1, rest.tdiv m.size) := by rw [List.drop_eq_getElem_cons hjl, digA, ← hr]
      have hd1 : (digA m.size (c.vars.drop j) n).1 = ⟨c.vars[j], rest.tmod m.size⟩ :: (digA m.size (c.vars.drop (j + 1)) n).1 := by rw [hdj]
      have hd2 : (digA m.size (c.vars.drop j) n).2 = rest.tdiv m.size := by rw [hdj]
      have hdl := digA_len m.size n (c.vars.drop (j + 1))
      rw [List.length_drop] at hdl
      have hrl : ((digA m.size (c.vars.drop (j + 1)) n).1.map Ag.o).length = c.vars.length - (j + 1) := by rw [List.length_map, hdl]
      have hset : [OT.str c.vars[j], OT.int (rest.tmod m.size)] :: ((digA m.size (c.vars.drop (j + 1)) n).1.map Ag.o) = (digA m.size (c.vars.drop j) n).1.map Ag.o := by rw [hd1]; rfl
      have hmd := tmod_in r0 s1
      have hdv := tdiv_le r0 s1
      have hal : ((digA m.size (c.vars.drop (j + 1)) n).1.map Ag.o).all (fun l => l.length == 2) = true := by rw [List.all_map, List.all_eq_true]; intro x _; rfl
      simp (disch := omega) only [go_sem, go_cond, zA, zB, zC, zD, zE, zF, zG, zH, ↓reduceIte, zI, reduceCtorEq, zJ, zK, hni, hk1, hgn, hrl, hset, hal]
      refine ⟨(i - 1, rest.tdiv m.size), ⟨j, by dsimp only; omega, by omega, hd2.symm⟩, by dsimp only; omega, ?_⟩
      first | trivial | rfl | simp (disch := omega) only [go_sem, go_cond, zA, zB, zC, zD, zE, zF, zG, zH, ↓reduceIte, zI, reduceCtorEq, zJ, zK, hk2]
  · obtain rfl : k = P.toNat := by omega
    rw [Nat.sub_self, cexN] at hR
    rw [← hR]
    simp (disch := omega) only [go_sem, go_cond, zA, zB, zC, zD, zE, zF, zG, zH, ↓reduceIte, zI, reduceCtorEq, zJ, zK, hp, m_spec_l10Power, cexL, cexZ, List.map_nil, OT.erss, OT.noShss]
    try first | rfl | exact ⟨rfl, rfl⟩
noncomputable def cexT (m : Ip) (c : Cl) : Option (Option (List Ag)) := bif m.ok && (c.ok && c.narrow) then cexAll m c else none
noncomputable def saAll (m : Ip) : List Cl → Bool → Option Bool
  | [], b => some b
  | c :: r, b => match cexT m c with
    | none => none
    | some o => saAll m r (b && !(cexF (some o)))
noncomputable def saT (m : Ip) (cs : List Cl) : Option Bool := bif m.ok && decide (cs.length ≤ 30) then saAll m cs true else none
def c_impl_SatisfiesAll : SC := (.seq (.reg [⟨some 2, none, .boxv 51 2 (.t 0)⟩, ⟨some 4, none, .mv (.c (.bool false))⟩, ⟨some 5, none, .mv (.c (.bool false))⟩]) (.seq (.seq (.reg [⟨some 12, none, .load true 2 (.t 2)⟩, ⟨some 13, none, .call 56 [(.t 12)]⟩, ⟨some 14, none, .un .not (.t 13)⟩, ⟨some 15, none, .mv (.t 14)⟩, ⟨(some 16), (some (15, false)), (.mv (.t 1))⟩, ⟨(some 17), (some (15, false)), (.len false (.t 16))⟩, ⟨(some 18), (some (15, false)), (.bin .gtr false (.t 17) (.c (.int .i64 30)))⟩, ⟨some 19, none, .pick (.t 15) (.c (.bool true)) (.t 18)⟩]) (.cond (.t 19) (.seq (.reg [⟨some 4, none, .mv (.c (.bool false))⟩, ⟨some 5, none, .mv (.c (.bool false))⟩]) .ret) .skip)) (.seq (.reg [⟨some 6, none, .mv (.c (.bool true))⟩]) (.seq (.seq (.reg [⟨some 20, none, .mv (.t 1)⟩, ⟨some 21, none, .len false (.t 20)⟩, ⟨some 22, none, .mv (.c (.int .i64 0))⟩]) (.block 0 (.loop [0, 0, 1, 0, 0, 0, 1, 0, 0, 0, 0, 0, 0, 0, 0, 0, 0, 0, 0, 0, 1, 1, 1, 0, 0, 0, 0, 0, 0, 0, 0, 0, 0, 0, 0, 0, 0, 0, 0, 0, 0, 0] (.seq (.reg [⟨some 23, none, .bin .lss false (.t 22) (.t 21)⟩]) (.seq (.cond (.t 23) .skip (.exit 0)) (.seq (.block 1 (.seq (.reg [⟨some 24, none, .iaddr 1 (.t 20) (.t 22)⟩, ⟨some 25, none, .load true 1 (.t 24)⟩, ⟨some 8, none, .alloc 72 [.nil]⟩, ⟨none, none, (.store 1 (.t 8) (.t 25))⟩]) (.seq (.reg [⟨some 27, none, .load true 2 (.t 2)⟩, ⟨some 28, none, .load true 1 (.t 8)⟩, ⟨some 29, none, .call 63 [(.t 27), (.t 28)]⟩, ⟨some 26, none, .mv (.t 29)⟩, ⟨some 30, none, .ext (.t 26) 0⟩, ⟨some 31, none, .ext (.t 26) 1⟩, ⟨some 32, none, .ext (.t 26) 2⟩, ⟨some 9, none, .mv (.t 30)⟩, ⟨some 10, none, .mv (.t 31)⟩, ⟨some 11, none, .mv (.t 32)⟩]) (.seq (.seq (.reg [⟨some 33, none, .mv (.t 11)⟩, ⟨some 34, none, .un .not (.t 33)⟩]) (.cond (.t 34) (.seq (.reg [⟨some 4, none, .mv (.c (.bool false))⟩, ⟨some 5, none, .mv (.c (.bool false))⟩]) .ret) .skip)) (.reg [⟨some 35, none, .mv (.t 6)⟩, ⟨some 36, none, .mv (.t 35)⟩, ⟨(some 37), (some (36, true)), (.mv (.t 10))⟩, ⟨(some 38), (some (36, true)), (.un .not (.t 37))⟩, ⟨some 39, none, .pick (.t 36) (.t 38) (.c (.bool false))⟩, ⟨some 6, none, .mv (.t 39)⟩]))))) (.reg [⟨some 40, none, .bin .add false (.t 22) (.c (.int .i64 1))⟩, ⟨some 22, none, .mv (.t 40)⟩]))))))) (.seq (.reg [⟨some 41, none, .mv (.t 6)⟩, ⟨some 4, none, .mv (.t 41)⟩, ⟨some 5, none, .mv (.c (.bool true))⟩]) .ret)))))
theorem k_impl_SatisfiesAll : codeOf Tryz.prog 25 = some ⟨42, c_impl_SatisfiesAll, [(.tmp 4), (.tmp 5)]⟩ := by kernel_rfl
theorem m_impl_SatisfiesAll : modes 25 = ⟨[], .asis, none, false⟩ := by unfold modes; rfl
def c_spec_SatisfiesAll : SC := (.seq (.reg [⟨some 2, none, .boxv 51 2 (.t 0)⟩, ⟨some 4, none, .mv (.c (.bool false))⟩, ⟨some 5, none, .mv (.c (.bool false))⟩]) (.seq (.seq (.reg [⟨some 10, none, .load true 2 (.t 2)⟩, ⟨some 11, none, .call 50 [(.t 10)]⟩, ⟨some 12, none, .un .not (.t 11)⟩, ⟨some 13, none, .mv (.t 12)⟩, ⟨(some 14), (some (13, false)), (.mv (.t 1))⟩, ⟨(some 15), (some (13, false)), (.len false (.t 14))⟩, ⟨(some 16), (some (13, false)), (.bin .gtr false (.t 15) (.c (.int .i64 30)))⟩, ⟨some 17, none, .pick (.t 13) (.c (.bool true)) (.t 16)⟩]) (.cond (.t 17) (.seq (.reg [⟨some 4, none, .mv (.c (.bool false))⟩, ⟨some 5, none, .mv (.c (.bool false))⟩]) .ret) .skip)) (.seq (.reg [⟨some 6, none, .mv (.c (.bool true))⟩]) (.seq (.seq (.reg [⟨some 7, none, .mv (.c (.int .i64 0))⟩]) (.block 0 (.loop [0, 1, 1, 0, 0, 0, 1, 1, 0, 0, 0, 0, 0, 0, 0, 0, 0, 0, 0, 0, 0, 0, 0, 0, 0, 0, 0, 0, 0, 0, 0, 0, 0, 0, 0, 0, 0, 0, 0, 0, 0, 0, 0, 0, 0, 0, 0] (.seq (.seq (.reg [⟨some 18, none, .mv (.t 7)⟩, ⟨some 19, none, .mv (.t 1)⟩, ⟨some 20, none, .len false (.t 19)⟩, ⟨some 21, none, .bin .lss false (.t 18) (.t 20)⟩]) (.cond (.t 21) .skip (.exit 0))) (.seq (.block 1 (.seq (.seq (.reg [⟨some 24, none, .mv (.t 1)⟩, ⟨some 25, none, .mv (.t 7)⟩, ⟨some 26, none, .iaddr 1 (.t 24) (.t 25)⟩, ⟨some 27, none, .load true 1 (.t 26)⟩, ⟨some 28, none, .call 61 [(.t 27)]⟩, ⟨some 29, none, .un .not (.t 28)⟩]) (.cond (.t 29) (.seq (.reg [⟨some 4, none, .mv (.c (.bool false))⟩, ⟨some 5, none, .mv (.c (.bool false))⟩]) .ret) .skip)) (.seq (.dreg [[], [], [], [1, 2], [3, 1, 2], [0, 4, 3, 1, 2], [5, 0, 4, 3, 1, 2], [6, 5, 0, 4, 3, 1, 2], [6, 5, 0, 4, 3, 1, 2], [7, 6, 5, 0, 4, 3, 1, 2], [8, 6, 5, 0, 4, 3, 1, 2, 9, 7]] [⟨some 31, none, .load true 2 (.t 2)⟩, ⟨some 32, none, .mv (.t 1)⟩, ⟨some 33, none, .mv (.t 7)⟩, ⟨some 34, none, .iaddr 1 (.t 32) (.t 33)⟩, ⟨some 35, none, .load true 1 (.t 34)⟩, ⟨some 36, none, .call 62 [(.t 31), (.t 35)]⟩, ⟨some 30, none, .mv (.t 36)⟩, ⟨some 37, none, .ext (.t 30) 0⟩, ⟨some 38, none, .ext (.t 30) 1⟩, ⟨some 8, none, .mv (.t 37)⟩, ⟨some 9, none, .mv (.t 38)⟩]) (.seq (.seq (.reg [⟨some 39, none, .mv (.t 9)⟩, ⟨some 40, none, .bin .lss false (.t 39) (.c (.int .i64 0))⟩]) (.cond (.t 40) (.seq (.reg [⟨some 4, none, .mv (.c (.bool false))⟩, ⟨some 5, none, .mv (.c (.bool false))⟩]) .ret) .skip)) (.reg [⟨some 41, none, .mv (.t 6)⟩, ⟨some 42, none, .mv (.t 41)⟩, ⟨(some 43), (some (42, true)), (.mv (.t 9))⟩, ⟨(some 44), (some (42, true)), (.bin .eql false (.t 43) (.c (.int .i64 0)))⟩, ⟨some 45, none, .pick (.t 42) (.t 44) (.c (.bool false))⟩, ⟨some 6, none, .mv (.t 45)⟩]))))) (.reg [⟨some 22, none, .mv (.t 7)⟩, ⟨some 23, none, .bin .add false (.t 22) (.c (.int .i64 1))⟩, ⟨some 7, none, .mv (.t 23)⟩])))))) (.seq (.reg [⟨some 46, none, .mv (.t 6)⟩, ⟨some 4, none, .mv (.t 46)⟩, ⟨some 5, none, .mv (.c (.bool true))⟩]) .ret)))))
theorem k_spec_SatisfiesAll : codeOf Tryz.prog 23 = some ⟨47, c_spec_SatisfiesAll, [(.tmp 4), (.tmp 5)]⟩ := by kernel_rfl
theorem m_spec_SatisfiesAll : modes 23 = ⟨[], .asis, none, false⟩ := by unfold modes; rfl
set_option maxHeartbeats 4000000 in
theorem firstCounterexample_E (m : Ip) (ht : m.tame) (c : Cl) (hct : c.tame) : E 63 [m.sv, c.sv] [] = some (.tup [.ref 0, .bool (cexF (cexT m c)), .bool (cexT m c).isSome], [.row 94 2 ((cexL (cexT m c)).map Ag.o)]) := by
  have h1 := isValidInterpretation_E m ht
  have h2 := isValidClause_E c hct
  unfold cexT
  cases hm : m.ok with
  | false =>
    rw [hm] at h1
    refine E_walk k_impl_FirstCounterexample m_impl_FirstCounterexample (of_decide_eq_true rfl) ?_
    simp (disch := omega) only [c_impl_FirstCounterexample, go_sem, go_cond, zA, zB, zC, zD, zE, zF, zG, zH, ↓reduceIte, zI, reduceCtorEq, zJ, zK, h1, h2, m_impl_IsValidInterpretation, m_impl_IsValidClause, cexL, cexF, Option.isSome_none]
    try first | rfl | exact ⟨rfl, rfl⟩
  | true =>
    rw [hm] at h1
    cases hc : c.ok with
    | false =>
      rw [hc] at h2
      refine E_walk k_impl_FirstCounterexample m_impl_FirstCounterexample (of_decide_eq_true rfl) ?_
      simp (disch := omega) only [c_impl_FirstCounterexample, go_sem, go_cond, zA, zB, zC, zD, zE, zF, zG, zH, ↓reduceIte, zI, reduceCtorEq, zJ, zK, h1, h2, m_impl_IsValidInterpretation, m_impl_IsValidClause, cexL, cexF, Option.isSome_none]
      try first | rfl | exact ⟨rfl, rfl⟩
    | true =>
      rw [hc] at h2
      have h3 := isNarrow_E c hc
      cases hn : c.narrow with
      | false =>
        rw [hn] at h3
        refine E_walk k_impl_FirstCounterexample m_impl_FirstCounterexample (of_decide_eq_true rfl) ?_
        simp (disch := omega) only [c_impl_FirstCounterexample, go_sem, go_cond, zA, zB, zC, zD, zE, zF, zG, zH, ↓reduceIte, zI, reduceCtorEq, zJ, zK, h1, h2, m_impl_IsValidInterpretation, m_impl_IsValidClause, cexL, cexF, Option.isSome_none, h3, m_impl_isNarrow]
        try first | rfl | exact ⟨rfl, rfl⟩
      | true =>
        rw [hn] at h3
        have h4 := counterexample_E m hm ht c hc hn
        simp only [Bool.and_self, cond_true]
        generalize cexAll m c = o at *
        refine E_walk k_impl_FirstCounterexample m_impl_FirstCounterexample (of_decide_eq_true rfl) ?_
        simp (disch := omega) only [c_impl_FirstCounterexample, go_sem, go_cond, zA, zB, zC, zD, zE, zF, zG, zH, ↓reduceIte, zI, reduceCtorEq, zJ, zK, h1, h2, h3, h4, m_impl_IsValidInterpretation, m_impl_IsValidClause, m_impl_isNarrow, m_impl_Interpretation_counterexample]
        try first | rfl | exact ⟨rfl, rfl⟩
set_option maxHeartbeats 4000000 in
theorem satisfiesAll_E (m : Ip) (ht : m.tame) (cs : List Cl) (hl : cs.length ≤ 1099511627776) (hct : ∀ c ∈ cs, c.tame) : E 25 [m.sv, .arr (cs.map Cl.d)] [] = some (optB2 (saT m cs), []) := by
  have h1 := isValidInterpretation_E m ht
  unfold saT
  cases hm : m.ok with
  | false =>
    rw [hm] at h1
    refine E_walk k_impl_SatisfiesAll m_impl_SatisfiesAll (of_decide_eq_true rfl) ?_
    simp (disch := omega) only [c_impl_SatisfiesAll, go_sem, go_cond, zA, zB, zC, zD, zE, zF, zG, zH, ↓reduceIte, zI, reduceCtorEq, zJ, zK, h1, m_impl_IsValidInterpretation, Option.getD_none, Option.isSome_none]
    try first | rfl | exact ⟨rfl, rfl⟩
  | true =>
    rw [hm] at h1
    rw [Bool.true_and]
    rcases Nat.lt_or_ge 30 cs.length with h30 | h30
    · rw [decide_eq_false (by omega)]
      refine E_walk k_impl_SatisfiesAll m_impl_SatisfiesAll (of_decide_eq_true rfl) ?_
      simp (disch := omega) only [c_impl_SatisfiesAll, go_sem, go_cond, zA, zB, zC, zD, zE, zF, zG, zH, ↓reduceIte, zI, reduceCtorEq, zJ, zK, h1, m_impl_IsValidInterpretation, Option.getD_none, Option.isSome_none]
      try first | rfl | exact ⟨rfl, rfl⟩
    · rw [decide_eq_true h30, cond_true]
      refine E_walk k_impl_SatisfiesAll m_impl_SatisfiesAll (of_decide_eq_true rfl) ?_
      simp (disch := omega) only [c_impl_SatisfiesAll, go_sem, go_cond, zA, zB, zC, zD, zE, zF, zG, zH, ↓reduceIte, zI, reduceCtorEq, zJ, zK, h1, m_impl_IsValidInterpretation, Option.getD_none, Option.isSome_none]
      refine go_loop (α := Int × (Bool)) (fun a => ⟨slots 42 0 [(2, .ptr 0 0), (6, .bool (a.2)), (20, .arr (cs.map Cl.d)), (21, .int .i64 cs.length), (22, .int .i64 (a.1))], [.box 51 [.int .i64 m.size, .arr (m.tables.map Tl.d)]]⟩) (fun a => ∃ k : Nat, a.1 = k ∧ k ≤ (cs).length ∧ saAll m (cs.drop k) (a.2) = saAll m cs true) (fun a => (cs).length - (a.1).toNat) (0, true) ⟨0, rfl, Nat.zero_le _, by rw [List.drop_zero]⟩ (by simp (disch := omega) only [go_sem, go_cond, zA, zB, zC, zD, zE, zF, zG, zH, ↓reduceIte, zI, reduceCtorEq, zJ, zK]) ?_
      rintro ⟨i, b⟩ ⟨k, hi, hk, hR⟩
      dsimp only at hi hR
      have hni : i.toNat = k := by omega
      have hni1 : (i + 1).toNat = k + 1 := by omega
      rcases Nat.lt_or_ge k (cs).length with hlt | hge
      · have hg := get_at Cl.d hlt
        rw [Cl.d_eq] at hg
        have hcs : cs[k].sv = .agg [.arr (cs[k].lits.map Lt.d)] := rfl
        have htk := hct _ (List.getElem_mem hlt)
        rw [List.drop_eq_getElem_cons hlt, saAll] at hR
        have hc := firstCounterexample_E m ht cs[k] htk
        cases hx : cexT m cs[k] with
        | none =>
          rw [hx] at hc hR
          simp only at hR
          rw [← hR]
          simp (disch := omega) only [go_sem, go_cond, zA, zB, zC, zD, zE, zF, zG, zH, ↓reduceIte, zI, reduceCtorEq, zJ, zK, hni, hg, hcs, hc, cexF, cexL, m_impl_FirstCounterexample, Option.getD_none, Option.isSome_none, Option.getD_some, Option.isSome_some]
          try first | rfl | exact ⟨rfl, rfl⟩
        | some o =>
          rw [hx] at hc hR
          simp only at hR
          cases b <;> cases o
          all_goals
            simp only [cexF, Bool.not_true, Bool.not_false, Bool.and_true, Bool.and_false, Bool.false_and, Bool.true_and] at hR
            simp (disch := omega) only [go_sem, go_cond, zA, zB, zC, zD, zE, zF, zG, zH, ↓reduceIte, zI, reduceCtorEq, zJ, zK, hni, hg, hcs, hc, cexF, cexL, m_impl_FirstCounterexample, Option.getD_none, Option.isSome_none, Option.getD_some, Option.isSome_some]
            refine ⟨(i + 1, _), ⟨k + 1, ?_, hlt, hR⟩, ?_, ?_⟩
            · dsimp only; omega
            · dsimp only; omega
            dsimp only
            first | trivial | rfl | exact ⟨rfl, rfl⟩
      · rw [List.drop_eq_nil_of_le hge, saAll] at hR
        rw [← hR]
        simp (disch := omega) only [go_sem, go_cond, zA, zB, zC, zD, zE, zF, zG, zH, ↓reduceIte, zI, reduceCtorEq, zJ, zK, hni, Option.getD_some, Option.isSome_some]
        try first | rfl | exact ⟨rfl, rfl⟩
set_option maxHeartbeats 4000000 in
theorem l10SatisfiesAll_E (m : Ip) (ht : m.tame) (cs : List Cl) (hl : cs.length ≤ 1099511627776) (hct : ∀ c ∈ cs, c.tame) : E 23 [m.sv, .arr (cs.map Cl.d)] [] = some (optB2 (saT m cs), []) := by
  have h1 := l10Good_E m ht
  unfold saT
  cases hm : m.ok with
  | false =>
    rw [hm] at h1
    refine E_walk k_spec_SatisfiesAll m_spec_SatisfiesAll (of_decide_eq_true rfl) ?_
    simp (disch := omega) only [c_spec_SatisfiesAll, go_sem, go_cond, zA, zB, zC, zD, zE, zF, zG, zH, ↓reduceIte, zI, reduceCtorEq, zJ, zK, h1, m_spec_l10Good, Option.getD_none, Option.isSome_none]
    try first | rfl | exact ⟨rfl, rfl⟩
  | true =>
    rw [hm] at h1
    rw [Bool.true_and]
    rcases Nat.lt_or_ge 30 cs.length with h30 | h30
    · rw [decide_eq_false (by omega)]
      refine E_walk k_spec_SatisfiesAll m_spec_SatisfiesAll (of_decide_eq_true rfl) ?_
      simp (disch := omega) only [c_spec_SatisfiesAll, go_sem, go_cond, zA, zB, zC, zD, zE, zF, zG, zH, ↓reduceIte, zI, reduceCtorEq, zJ, zK, h1, m_spec_l10Good, Option.getD_none, Option.isSome_none]
      try first | rfl | exact ⟨rfl, rfl⟩
    · rw [decide_eq_true h30, cond_true]
      refine E_walk k_spec_SatisfiesAll m_spec_SatisfiesAll (of_decide_eq_true rfl) ?_
      simp (disch := omega) only [c_spec_SatisfiesAll, go_sem, go_cond, zA, zB, zC, zD, zE, zF, zG, zH, ↓reduceIte, zI, reduceCtorEq, zJ, zK, h1, m_spec_l10Good, Option.getD_none, Option.isSome_none]
      refine go_loop (α := Int × (Bool)) (fun a => ⟨slots 47 0 [(1, .arr (cs.map Cl.d)), (2, .ptr 0 0), (6, .bool (a.2)), (7, .int .i64 (a.1))], [.box 51 [.int .i64 m.size, .arr (m.tables.map Tl.d)]]⟩) (fun a => ∃ k : Nat, a.1 = k ∧ k ≤ (cs).length ∧ saAll m (cs.drop k) (a.2) = saAll m cs true) (fun a => (cs).length - (a.1).toNat) (0, true) ⟨0, rfl, Nat.zero_le _, by rw [List.drop_zero]⟩ (by simp (disch := omega) only [go_sem, go_cond, zA, zB, zC, zD, zE, zF, zG, zH, ↓reduceIte, zI, reduceCtorEq, zJ, zK]) ?_
      rintro ⟨i, b⟩ ⟨k, hi, hk, hR⟩
      dsimp only at hi hR
      have hni : i.toNat = k := by omega
      have hni1 : (i + 1).toNat = k + 1 := by omega
      rcases Nat.lt_or_ge k (cs).length with hlt | hge
      · have hg := get_at Cl.d hlt
        rw [Cl.d_eq] at hg
        have hcs : cs[k].sv = .agg [.arr (cs[k].lits.map Lt.d)] := rfl
        have htk := hct _ (List.getElem_mem hlt)
        rw [List.drop_eq_getElem_cons hlt, saAll] at hR
        have hq := l10Clause_E cs[k] htk
        unfold cexT at hR
        rw [hm, Bool.true_and] at hR
        cases hcn : cs[k].ok && cs[k].narrow with
        | false =>
          rw [hcn] at hq hR
          simp only [cond_false] at hR
          rw [← hR]
          simp (disch := omega) only [go_sem, go_cond, zA, zB, zC, zD, zE, zF, zG, zH, ↓reduceIte, zI, reduceCtorEq, zJ, zK, hni, hg, hcs, hq, m_spec_l10Clause, Option.getD_none, Option.isSome_none, Option.getD_some, Option.isSome_some]
          try first | rfl | exact ⟨rfl, rfl⟩
        | true =>
          rw [hcn] at hq hR
          simp only [cond_true] at hR
          rw [Bool.and_eq_true] at hcn
          have hc := l10Counter_E m hm ht cs[k] hcn.1 hcn.2
          generalize cexAll m cs[k] = o at *
          cases o with
          | none =>
            simp only at hR
            rw [← hR]
            simp (disch := omega) only [go_sem, go_cond, zA, zB, zC, zD, zE, zF, zG, zH, ↓reduceIte, zI, reduceCtorEq, zJ, zK, hni, hg, hcs, hq, hc, cexF, cexL, cexZ, m_spec_l10Clause, m_spec_l10Counter, Option.getD_none, Option.isSome_none, Option.getD_some, Option.isSome_some]
            try first | rfl | exact ⟨rfl, rfl⟩
          | some o =>
            simp only at hR
            cases b <;> cases o
            all_goals
              simp only [cexF, Bool.not_true, Bool.not_false, Bool.and_true, Bool.and_false, Bool.false_and, Bool.true_and] at hR
              simp (disch := omega) only [go_sem, go_cond, zA, zB, zC, zD, zE, zF, zG, zH, ↓reduceIte, zI, reduceCtorEq, zJ, zK, hni, hg, hcs, hq, hc, cexF, cexL, cexZ, m_spec_l10Clause, m_spec_l10Counter, Option.getD_none, Option.isSome_none, Option.getD_some, Option.isSome_some]
              refine ⟨(i + 1, _), ⟨k + 1, ?_, hlt, hR⟩, ?_, ?_⟩
              · dsimp only; omega
              · dsimp only; omega
              dsimp only
              first | trivial | rfl | exact ⟨rfl, rfl⟩
      · rw [List.drop_eq_nil_of_le hge, saAll] at hR
        rw [← hR]
        simp (disch := omega) only [go_sem, go_cond, zA, zB, zC, zD, zE, zF, zG, zH, ↓reduceIte, zI, reduceCtorEq, zJ, zK, hni, Option.getD_some, Option.isSome_some]
        try first | rfl | exact ⟨rfl, rfl⟩
def c_laws_szIntS : SC := (.seq (.reg [⟨some 4, none, .mv (.c (.int .i64 0))⟩]) (.seq (.reg [⟨some 5, none, .mv (.t 1)⟩, ⟨some 6, none, .mv (.t 0)⟩, ⟨some 7, none, .len false (.t 6)⟩, ⟨some 8, none, .bin .sub false (.t 5) (.t 7)⟩, ⟨some 1, none, .mv (.t 8)⟩]) (.seq (.seq (.reg [⟨some 9, none, .mv (.t 1)⟩, ⟨some 10, none, .bin .lss false (.t 9) (.c (.int .i64 0))⟩]) (.cond (.t 10) (.seq (.reg [⟨some 4, none, .mv (.c (.int .i64 (-(0 + 1))))⟩]) .ret) .skip)) (.seq (.reg [⟨some 11, none, .mv (.t 1)⟩, ⟨some 4, none, .mv (.t 11)⟩]) .ret))))
theorem k_laws_szIntS : codeOf Tryz.prog 136 = some ⟨12, c_laws_szIntS, [(.tmp 4)]⟩ := by kernel_rfl
theorem m_laws_szIntS : modes 136 = ⟨[], .asis, none, false⟩ := by unfold modes; rfl
abbrev SzTS_int (xs : List Int) : Prop := D.fit (.arr (xs.map (fun s => [D.int s]))) → ∀ left : Int, 0 ≤ left → left ≤ 1048576 → E 136 [.arr (xs.map (fun s => [D.int s])), .int .i64 left] [] = some (.int .i64 (szR left (xs.length : Nat)), [])
theorem szTS_int (xs : List Int) : SzTS_int xs := by
  intro hfit left h0 h1
  simp only [D.fit, List.length_map] at hfit
  have q0 := szR_spec left xs.length
  refine E_walk k_laws_szIntS m_laws_szIntS (of_decide_eq_true rfl) ?_
  simp (disch := omega) only [c_laws_szIntS, go_sem, go_cond, zA, zB, zC, zD, zE, zF, zG, zH, ↓reduceIte, zI, reduceCtorEq, zJ, zK]
  repeat' (refine boolP_split (fun hq => ?_) (fun hq => ?_) <;> (first | replace hq := dec_iff.1 hq | replace hq := dec_not.1 hq) <;> (try simp (disch := omega) only [go_sem, go_cond, zA, zB, zC, zD, zE, zF, zG, zH, ↓reduceIte, zI, reduceCtorEq, zJ, zK]))
  all_goals omega
def c_laws_szTerm : SC := (.seq (.reg [⟨some 2, none, .boxv 24 2 (.t 0)⟩, ⟨some 4, none, .mv (.c (.int .i64 0))⟩]) (.seq (.reg [⟨some 5, none, .mv (.t 1)⟩, ⟨some 6, none, .faddr 0 (.t 2)⟩, ⟨some 7, none, .load false 1 (.t 6)⟩, ⟨some 8, none, .len true (.t 7)⟩, ⟨some 9, none, .bin .sub false (.t 5) (.t 8)⟩, ⟨some 1, none, .mv (.t 9)⟩]) (.seq (.seq (.reg [⟨some 10, none, .mv (.t 1)⟩, ⟨some 11, none, .bin .lss false (.t 10) (.c (.int .i64 0))⟩]) (.cond (.t 11) (.seq (.reg [⟨some 4, none, .mv (.c (.int .i64 (-(0 + 1))))⟩]) .ret) .skip)) (.seq (.reg [⟨some 12, none, .faddr 1 (.t 2)⟩, ⟨some 13, none, .load false 1 (.t 12)⟩, ⟨some 14, none, .mv (.t 1)⟩, ⟨some 15, none, .call 72 [(.t 13), (.t 14)]⟩, ⟨some 1, none, .mv (.t 15)⟩]) (.seq (.seq (.reg [⟨some 16, none, .mv (.t 1)⟩, ⟨some 17, none, .bin .lss false (.t 16) (.c (.int .i64 0))⟩]) (.cond (.t 17) (.seq (.reg [⟨some 4, none, .mv (.c (.int .i64 (-(0 + 1))))⟩]) .ret) .skip)) (.seq (.reg [⟨some 18, none, .mv (.t 1)⟩, ⟨some 4, none, .mv (.t 18)⟩]) .ret))))))
theorem k_laws_szTerm : codeOf Tryz.prog 33 = some ⟨19, c_laws_szTerm, [(.tmp 4)]⟩ := by kernel_rfl
theorem m_laws_szTerm : modes 33 = ⟨[], .asis, none, false⟩ := by unfold modes; rfl
def c_laws_szTermS : SC := (.seq (.reg [⟨some 4, none, .mv (.c (.int .i64 0))⟩]) (.seq (.reg [⟨some 6, none, .mv (.t 1)⟩, ⟨some 7, none, .mv (.t 0)⟩, ⟨some 8, none, .len false (.t 7)⟩, ⟨some 9, none, .bin .sub false (.t 6) (.t 8)⟩, ⟨some 1, none, .mv (.t 9)⟩]) (.seq (.seq (.reg [⟨some 10, none, .mv (.t 1)⟩, ⟨some 11, none, .bin .lss false (.t 10) (.c (.int .i64 0))⟩]) (.cond (.t 11) (.seq (.reg [⟨some 4, none, .mv (.c (.int .i64 (-(0 + 1))))⟩]) .ret) .skip)) (.seq (.seq (.reg [⟨some 5, none, .mv (.c (.int .i64 0))⟩]) (.block 0 (.loop [1, 1, 0, 0, 0, 1, 0, 0, 0, 0, 0, 0, 0, 0, 0, 0, 0, 0, 0, 0, 0, 0, 0, 0, 0, 0, 0] (.seq (.seq (.reg [⟨some 12, none, .mv (.t 5)⟩, ⟨some 13, none, .mv (.t 0)⟩, ⟨some 14, none, .len false (.t 13)⟩, ⟨some 15, none, .bin .lss false (.t 12) (.t 14)⟩]) (.cond (.t 15) .skip (.exit 0))) (.seq (.block 1 (.seq (.reg [⟨some 18, none, .mv (.t 0)⟩, ⟨some 19, none, .mv (.t 5)⟩, ⟨some 20, none, .iaddr 2 (.t 18) (.t 19)⟩, ⟨some 21, none, .load true 2 (.t 20)⟩, ⟨some 22, none, .mv (.t 1)⟩, ⟨some 23, none, .call 33 [(.t 21), (.t 22)]⟩, ⟨some 1, none, .mv (.t 23)⟩]) (.seq (.reg [⟨some 24, none, .mv (.t 1)⟩, ⟨some 25, none, .bin .lss false (.t 24) (.c (.int .i64 0))⟩]) (.cond (.t 25) (.seq (.reg [⟨some 4, none, .mv (.c (.int .i64 (-(0 + 1))))⟩]) .ret) .skip)))) (.reg [⟨some 16, none, .mv (.t 5)⟩, ⟨some 17, none, .bin .add false (.t 16) (.c (.int .i64 1))⟩, ⟨some 5, none, .mv (.t 17)⟩])))))) (.seq (.reg [⟨some 26, none, .mv (.t 1)⟩, ⟨some 4, none, .mv (.t 26)⟩]) .ret)))))
theorem k_laws_szTermS : codeOf Tryz.prog 72 = some ⟨27, c_laws_szTermS, [(.tmp 4)]⟩ := by kernel_rfl
theorem m_laws_szTermS : modes 72 = ⟨[], .asis, none, false⟩ := by unfold modes; rfl
abbrev SzT_Term (x : Tm) : Prop := D.fits x.d → ∀ left : Int, 0 ≤ left → left ≤ 1048576 → E 33 [x.sv, .int .i64 left] [] = some (.int .i64 (szR left x.bulk), [])
abbrev SzTS_Term (xs : List Tm) : Prop := D.fit (.arr (xs.map Tm.d)) → ∀ left : Int, 0 ≤ left → left ≤ 1048576 → E 72 [.arr (xs.map Tm.d), .int .i64 left] [] = some (.int .i64 (szR left (xs.length + Tm.sumB xs : Nat)), [])
set_option maxHeartbeats 1000000 in
theorem szTS_Term_of (xs : List Tm) (h : ∀ x ∈ xs, SzT_Term x) : SzTS_Term xs := by
  intro hfit left h0 h1
  simp only [D.fit, List.length_map] at hfit
  have q0 := szR_spec left (xs.length + Tm.sumB xs)
  refine E_walk k_laws_szTermS m_laws_szTermS (of_decide_eq_true rfl) ?_
  simp (disch := omega) only [c_laws_szTermS, go_sem, go_cond, zA, zB, zC, zD, zE, zF, zG, zH, ↓reduceIte, zI, reduceCtorEq, zJ, zK]
  repeat' (refine boolP_split (fun hq => ?_) (fun hq => ?_) <;> (first | replace hq := dec_iff.1 hq | replace hq := dec_not.1 hq) <;> (try simp (disch := omega) only [go_sem, go_cond, zA, zB, zC, zD, zE, zF, zG, zH, ↓reduceIte, zI, reduceCtorEq, zJ, zK]))
  · omega
  refine go_loop (α := Int × Int) (fun a => ⟨slots 27 0 [(0, .arr (xs.map Tm.d)), (1, .int .i64 a.2), (5, .int .i64 a.1)], []⟩) (fun a => ∃ k : Nat, a.1 = k ∧ k ≤ xs.length ∧ 0 ≤ a.2 ∧ a.2 ≤ 1048576 ∧ szR a.2 (Tm.sumB (xs.drop k)) = szR left (xs.length + Tm.sumB xs : Nat)) (fun a => xs.length - a.1.toNat) (0, left - xs.length) ⟨0, rfl, Nat.zero_le _, by omega, by omega, ?_⟩ (by simp (disch := omega) only [go_sem, go_cond, zA, zB, zC, zD, zE, zF, zG, zH, ↓reduceIte, zI, reduceCtorEq, zJ, zK]) ?_
  · have q1 := szR_spec (left - xs.length) (Tm.sumB xs)
    rw [List.drop_zero]
    dsimp only
    omega
  · rintro ⟨i, l⟩ ⟨k, hi, hk, hl0, hl1, hs⟩
    dsimp only at hi hl0 hl1 hs
    rcases Nat.lt_or_ge k xs.length with hlt | hge
    · have hg := get_at Tm.d hlt
      rw [Tm.d_eq] at hg
      have hd : Tm.sumB (xs.drop k) = xs[k].bulk + Tm.sumB (xs.drop (k + 1)) := by rw [List.drop_eq_getElem_cons hlt, Tm.sumB]
      rw [hd] at hs
      have hc := h xs[k] (List.getElem_mem hlt) (D.fitss_mem hfit.2 _ (List.getElem_mem hlt)) l hl0 hl1
      have q1 := szR_spec l xs[k].bulk
      have q2 := szR_spec l (xs[k].bulk + Tm.sumB (xs.drop (k + 1)))
      have q3 := szR_spec (l - xs[k].bulk) (Tm.sumB (xs.drop (k + 1)))
      have hn : i.toNat = k := by omega
      simp (disch := omega) only [go_sem, go_cond, zA, zB, zC, zD, zE, zF, zG, zH, ↓reduceIte, zI, reduceCtorEq, zJ, zK, hn, hg, hc, m_laws_szTerm]
      repeat' (refine boolP_split (fun hq => ?_) (fun hq => ?_) <;> (first | replace hq := dec_iff.1 hq | replace hq := dec_not.1 hq) <;> (try simp (disch := omega) only [go_sem, go_cond, zA, zB, zC, zD, zE, zF, zG, zH, ↓reduceIte, zI, reduceCtorEq, zJ, zK]))
      · omega
      · refine ⟨(i + 1, l - xs[k].bulk), ⟨k + 1, by dsimp only; omega, hlt, by dsimp only; omega, by dsimp only; omega, by dsimp only; omega⟩, by dsimp only; omega, ?_⟩
        have e : szR l xs[k].bulk = l - xs[k].bulk := by omega
        simp only [e, and_self]
    · have hd : xs.drop k = [] := List.drop_eq_nil_of_le hge
      rw [hd] at hs
      have q1 := szR_spec l (Tm.sumB [])
      simp only [Tm.sumB] at hs q1
      simp (disch := omega) only [go_sem, go_cond, zA, zB, zC, zD, zE, zF, zG, zH, ↓reduceIte, zI, reduceCtorEq, zJ, zK]
      omega
set_option maxHeartbeats 1000000 in
theorem szT_Term_of (x : Tm) (h_args : SzTS_Term x.args) : SzT_Term x := by
  intro hfit left h0 h1
  rw [Tm.d_eq] at hfit
  simp only [D.fits, D.fit] at hfit
  replace h_args := h_args (by simp only [D.fit, List.length_map]; simp only [List.length_map] at hfit; simp only [hfit, and_self])
  have q := szR_spec left x.bulk
  have qb := Tm.bulk_eq x
  have q0 := szR_spec (left - (x.name.size : Int)) ((x.args.length + Tm.sumB x.args))
  refine E_walk k_laws_szTerm m_laws_szTerm (of_decide_eq_true rfl) ?_
  simp (disch := omega) only [c_laws_szTerm, go_sem, go_cond, zA, zB, zC, zD, zE, zF, zG, zH, ↓reduceIte, zI, reduceCtorEq, zJ, zK, h_args, m_laws_szTermS]
  repeat' (refine boolP_split (fun hq => ?_) (fun hq => ?_) <;> (first | replace hq := dec_iff.1 hq | replace hq := dec_not.1 hq) <;> (try simp (disch := omega) only [go_sem, go_cond, zA, zB, zC, zD, zE, zF, zG, zH, ↓reduceIte, zI, reduceCtorEq, zJ, zK, h_args, m_laws_szTermS]))
  all_goals omega
theorem szT_Term (x : Tm) : SzT_Term x := szT_Term_of x (szTS_Term_of x.args fun y hy => szT_Term y)
termination_by SizeOf.sizeOf x
decreasing_by exact Tm.lt_of_mem hy
def c_laws_szLiteral : SC := (.seq (.reg [⟨some 2, none, .boxv 154 3 (.t 0)⟩, ⟨some 4, none, .mv (.c (.int .i64 0))⟩]) (.seq (.reg [⟨some 5, none, .faddr 1 (.t 2)⟩, ⟨some 6, none, .load true 2 (.t 5)⟩, ⟨some 7, none, .mv (.t 1)⟩, ⟨some 8, none, .call 33 [(.t 6), (.t 7)]⟩, ⟨some 1, none, .mv (.t 8)⟩]) (.seq (.seq (.reg [⟨some 9, none, .mv (.t 1)⟩, ⟨some 10, none, .bin .lss false (.t 9) (.c (.int .i64 0))⟩]) (.cond (.t 10) (.seq (.reg [⟨some 4, none, .mv (.c (.int .i64 (-(0 + 1))))⟩]) .ret) .skip)) (.seq (.reg [⟨some 11, none, .mv (.t 1)⟩, ⟨some 4, none, .mv (.t 11)⟩]) .ret))))
theorem k_laws_szLiteral : codeOf Tryz.prog 115 = some ⟨12, c_laws_szLiteral, [(.tmp 4)]⟩ := by kernel_rfl
theorem m_laws_szLiteral : modes 115 = ⟨[], .asis, none, false⟩ := by unfold modes; rfl
def c_laws_szLiteralS : SC := (.seq (.reg [⟨some 4, none, .mv (.c (.int .i64 0))⟩]) (.seq (.reg [⟨some 6, none, .mv (.t 1)⟩, ⟨some 7, none, .mv (.t 0)⟩, ⟨some 8, none, .len false (.t 7)⟩, ⟨some 9, none, .bin .sub false (.t 6) (.t 8)⟩, ⟨some 1, none, .mv (.t 9)⟩]) (.seq (.seq (.reg [⟨some 10, none, .mv (.t 1)⟩, ⟨some 11, none, .bin .lss false (.t 10) (.c (.int .i64 0))⟩]) (.cond (.t 11) (.seq (.reg [⟨some 4, none, .mv (.c (.int .i64 (-(0 + 1))))⟩]) .ret) .skip)) (.seq (.seq (.reg [⟨some 5, none, .mv (.c (.int .i64 0))⟩]) (.block 0 (.loop [1, 1, 0, 0, 0, 1, 0, 0, 0, 0, 0, 0, 0, 0, 0, 0, 0, 0, 0, 0, 0, 0, 0, 0, 0, 0, 0] (.seq (.seq (.reg [⟨some 12, none, .mv (.t 5)⟩, ⟨some 13, none, .mv (.t 0)⟩, ⟨some 14, none, .len false (.t 13)⟩, ⟨some 15, none, .bin .lss false (.t 12) (.t 14)⟩]) (.cond (.t 15) .skip (.exit 0))) (.seq (.block 1 (.seq (.reg [⟨some 18, none, .mv (.t 0)⟩, ⟨some 19, none, .mv (.t 5)⟩, ⟨some 20, none, .iaddr 3 (.t 18) (.t 19)⟩, ⟨some 21, none, .load true 3 (.t 20)⟩, ⟨some 22, none, .mv (.t 1)⟩, ⟨some 23, none, .call 115 [(.t 21), (.t 22)]⟩, ⟨some 1, none, .mv (.t 23)⟩]) (.seq (.reg [⟨some 24, none, .mv (.t 1)⟩, ⟨some 25, none, .bin .lss false (.t 24) (.c (.int .i64 0))⟩]) (.cond (.t 25) (.seq (.reg [⟨some 4, none, .mv (.c (.int .i64 (-(0 + 1))))⟩]) .ret) .skip)))) (.reg [⟨some 16, none, .mv (.t 5)⟩, ⟨some 17, none, .bin .add false (.t 16) (.c (.int .i64 1))⟩, ⟨some 5, none, .mv (.t 17)⟩])))))) (.seq (.reg [⟨some 26, none, .mv (.t 1)⟩, ⟨some 4, none, .mv (.t 26)⟩]) .ret)))))
theorem k_laws_szLiteralS : codeOf Tryz.prog 64 = some ⟨27, c_laws_szLiteralS, [(.tmp 4)]⟩ := by kernel_rfl
theorem m_laws_szLiteralS : modes 64 = ⟨[], .asis, none, false⟩ := by unfold modes; rfl
abbrev SzT_Literal (x : Lt) : Prop := D.fits x.d → ∀ left : Int, 0 ≤ left → left ≤ 1048576 → E 115 [x.sv, .int .i64 left] [] = some (.int .i64 (szR left x.bulk), [])
abbrev SzTS_Literal (xs : List Lt) : Prop := D.fit (.arr (xs.map Lt.d)) → ∀ left : Int, 0 ≤ left → left ≤ 1048576 → E 64 [.arr (xs.map Lt.d), .int .i64 left] [] = some (.int .i64 (szR left (xs.length + Lt.sumB xs : Nat)), [])
set_option maxHeartbeats 1000000 in
theorem szTS_Literal_of (xs : List Lt) (h : ∀ x ∈ xs, SzT_Literal x) : SzTS_Literal xs := by
  intro hfit left h0 h1
  simp only [D.fit, List.length_map] at hfit
  have q0 := szR_spec left (xs.length + Lt.sumB xs)
  refine E_walk k_laws_szLiteralS m_laws_szLiteralS (of_decide_eq_true rfl) ?_
  simp (disch := omega) only [c_laws_szLiteralS, go_sem, go_cond, zA, zB, zC, zD, zE, zF, zG, zH, ↓reduceIte, zI, reduceCtorEq, zJ, zK]
  repeat' (refine boolP_split (fun hq => ?_) (fun hq => ?_) <;> (first | replace hq := dec_iff.1 hq | replace hq := dec_not.1 hq) <;> (try simp (disch := omega) only [go_sem, go_cond, zA, zB, zC, zD, zE, zF, zG, zH, ↓reduceIte, zI, reduceCtorEq, zJ, zK]))
  · omega
  refine go_loop (α := Int × Int) (fun a => ⟨slots 27 0 [(0, .arr (xs.map Lt.d)), (1, .int .i64 a.2), (5, .int .i64 a.1)], []⟩) (fun a => ∃ k : Nat, a.1 = k ∧ k ≤ xs.length ∧ 0 ≤ a.2 ∧ a.2 ≤ 1048576 ∧ szR a.2 (Lt.sumB (xs.drop k)) = szR left (xs.length + Lt.sumB xs : Nat)) (fun a => xs.length - a.1.toNat) (0, left - xs.length) ⟨0, rfl, Nat.zero_le _, by omega, by omega, ?_⟩ (by simp (disch := omega) only [go_sem, go_cond, zA, zB, zC, zD, zE, zF, zG, zH, ↓reduceIte, zI, reduceCtorEq, zJ, zK]) ?_
  · have q1 := szR_spec (left - xs.length) (Lt.sumB xs)
    rw [List.drop_zero]
    dsimp only
    omega
  · rintro ⟨i, l⟩ ⟨k, hi, hk, hl0, hl1, hs⟩
    dsimp only at hi hl0 hl1 hs
    rcases Nat.lt_or_ge k xs.length with hlt | hge
    · have hg := get_at Lt.d hlt
      rw [Lt.d_eq] at hg
      have hd : Lt.sumB (xs.drop k) = xs[k].bulk + Lt.sumB (xs.drop (k + 1)) := by rw [List.drop_eq_getElem_cons hlt, Lt.sumB]
      rw [hd] at hs
      have hc := h xs[k] (List.getElem_mem hlt) (D.fitss_mem hfit.2 _ (List.getElem_mem hlt)) l hl0 hl1
      have q1 := szR_spec l xs[k].bulk
      have q2 := szR_spec l (xs[k].bulk + Lt.sumB (xs.drop (k + 1)))
      have q3 := szR_spec (l - xs[k].bulk) (Lt.sumB (xs.drop (k + 1)))
      have hn : i.toNat = k := by omega
      simp (disch := omega) only [go_sem, go_cond, zA, zB, zC, zD, zE, zF, zG, zH, ↓reduceIte, zI, reduceCtorEq, zJ, zK, hn, hg, hc, m_laws_szLiteral]
      repeat' (refine boolP_split (fun hq => ?_) (fun hq => ?_) <;> (first | replace hq := dec_iff.1 hq | replace hq := dec_not.1 hq) <;> (try simp (disch := omega) only [go_sem, go_cond, zA, zB, zC, zD, zE, zF, zG, zH, ↓reduceIte, zI, reduceCtorEq, zJ, zK]))
      · omega
      · refine ⟨(i + 1, l - xs[k].bulk), ⟨k + 1, by dsimp only; omega, hlt, by dsimp only; omega, by dsimp only; omega, by dsimp only; omega⟩, by dsimp only; omega, ?_⟩
        have e : szR l xs[k].bulk = l - xs[k].bulk := by omega
        simp only [e, and_self]
    · have hd : xs.drop k = [] := List.drop_eq_nil_of_le hge
      rw [hd] at hs
      have q1 := szR_spec l (Lt.sumB [])
      simp only [Lt.sumB] at hs q1
      simp (disch := omega) only [go_sem, go_cond, zA, zB, zC, zD, zE, zF, zG, zH, ↓reduceIte, zI, reduceCtorEq, zJ, zK]
      omega
set_option maxHeartbeats 1000000 in
theorem szT_Literal_of (x : Lt) (h_atom : SzT_Term x.atom) : SzT_Literal x := by
  intro hfit left h0 h1
  rw [Lt.d_eq] at hfit
  simp only [D.fits, D.fit] at hfit
  replace h_atom := h_atom (by rw [Tm.d_eq]; simp only [D.fits, D.fit, hfit, and_self])
  have q := szR_spec left x.bulk
  have qb := Lt.bulk_eq x
  have q0 := szR_spec left (x.atom.bulk)
  refine E_walk k_laws_szLiteral m_laws_szLiteral (of_decide_eq_true rfl) ?_
  simp (disch := omega) only [c_laws_szLiteral, go_sem, go_cond, zA, zB, zC, zD, zE, zF, zG, zH, ↓reduceIte, zI, reduceCtorEq, zJ, zK, h_atom, m_laws_szTerm]
  repeat' (refine boolP_split (fun hq => ?_) (fun hq => ?_) <;> (first | replace hq := dec_iff.1 hq | replace hq := dec_not.1 hq) <;> (try simp (disch := omega) only [go_sem, go_cond, zA, zB, zC, zD, zE, zF, zG, zH, ↓reduceIte, zI, reduceCtorEq, zJ, zK, h_atom, m_laws_szTerm]))
  all_goals omega
theorem szT_Literal (x : Lt) : SzT_Literal x := szT_Literal_of x (szT_Term x.atom)
def c_laws_szClause : SC := (.seq (.reg [⟨some 2, none, .boxv 67 1 (.t 0)⟩, ⟨some 4, none, .mv (.c (.int .i64 0))⟩]) (.seq (.reg [⟨some 5, none, .faddr 0 (.t 2)⟩, ⟨some 6, none, .load false 1 (.t 5)⟩, ⟨some 7, none, .mv (.t 1)⟩, ⟨some 8, none, .call 64 [(.t 6), (.t 7)]⟩, ⟨some 1, none, .mv (.t 8)⟩]) (.seq (.seq (.reg [⟨some 9, none, .mv (.t 1)⟩, ⟨some 10, none, .bin .lss false (.t 9) (.c (.int .i64 0))⟩]) (.cond (.t 10) (.seq (.reg [⟨some 4, none, .mv (.c (.int .i64 (-(0 + 1))))⟩]) .ret) .skip)) (.seq (.reg [⟨some 11, none, .mv (.t 1)⟩, ⟨some 4, none, .mv (.t 11)⟩]) .ret))))
theorem k_laws_szClause : codeOf Tryz.prog 27 = some ⟨12, c_laws_szClause, [(.tmp 4)]⟩ := by kernel_rfl
theorem m_laws_szClause : modes 27 = ⟨[], .asis, none, false⟩ := by unfold modes; rfl
def c_laws_szClauseS : SC := (.seq (.reg [⟨some 4, none, .mv (.c (.int .i64 0))⟩]) (.seq (.reg [⟨some 6, none, .mv (.t 1)⟩, ⟨some 7, none, .mv (.t 0)⟩, ⟨some 8, none, .len false (.t 7)⟩, ⟨some 9, none, .bin .sub false (.t 6) (.t 8)⟩, ⟨some 1, none, .mv (.t 9)⟩]) (.seq (.seq (.reg [⟨some 10, none, .mv (.t 1)⟩, ⟨some 11, none, .bin .lss false (.t 10) (.c (.int .i64 0))⟩]) (.cond (.t 11) (.seq (.reg [⟨some 4, none, .mv (.c (.int .i64 (-(0 + 1))))⟩]) .ret) .skip)) (.seq (.seq (.reg [⟨some 5, none, .mv (.c (.int .i64 0))⟩]) (.block 0 (.loop [1, 1, 0, 0, 0, 1, 0, 0, 0, 0, 0, 0, 0, 0, 0, 0, 0, 0, 0, 0, 0, 0, 0, 0, 0, 0, 0] (.seq (.seq (.reg [⟨some 12, none, .mv (.t 5)⟩, ⟨some 13, none, .mv (.t 0)⟩, ⟨some 14, none, .len false (.t 13)⟩, ⟨some 15, none, .bin .lss false (.t 12) (.t 14)⟩]) (.cond (.t 15) .skip (.exit 0))) (.seq (.block 1 (.seq (.reg [⟨some 18, none, .mv (.t 0)⟩, ⟨some 19, none, .mv (.t 5)⟩, ⟨some 20, none, .iaddr 1 (.t 18) (.t 19)⟩, ⟨some 21, none, .load true 1 (.t 20)⟩, ⟨some 22, none, .mv (.t 1)⟩, ⟨some 23, none, .call 27 [(.t 21), (.t 22)]⟩, ⟨some 1, none, .mv (.t 23)⟩]) (.seq (.reg [⟨some 24, none, .mv (.t 1)⟩, ⟨some 25, none, .bin .lss false (.t 24) (.c (.int .i64 0))⟩]) (.cond (.t 25) (.seq (.reg [⟨some 4, none, .mv (.c (.int .i64 (-(0 + 1))))⟩]) .ret) .skip)))) (.reg [⟨some 16, none, .mv (.t 5)⟩, ⟨some 17, none, .bin .add false (.t 16) (.c (.int .i64 1))⟩, ⟨some 5, none, .mv (.t 17)⟩])))))) (.seq (.reg [⟨some 26, none, .mv (.t 1)⟩, ⟨some 4, none, .mv (.t 26)⟩]) .ret)))))
theorem k_laws_szClauseS : codeOf Tryz.prog 22 = some ⟨27, c_laws_szClauseS, [(.tmp 4)]⟩ := by kernel_rfl
theorem m_laws_szClauseS : modes 22 = ⟨[], .asis, none, false⟩ := by unfold modes; rfl
abbrev SzT_Clause (x : Cl) : Prop := D.fits x.d → ∀ left : Int, 0 ≤ left → left ≤ 1048576 → E 27 [x.sv, .int .i64 left] [] = some (.int .i64 (szR left x.bulk), [])
abbrev SzTS_Clause (xs : List Cl) : Prop := D.fit (.arr (xs.map Cl.d)) → ∀ left : Int, 0 ≤ left → left ≤ 1048576 → E 22 [.arr (xs.map Cl.d), .int .i64 left] [] = some (.int .i64 (szR left (xs.length + Cl.sumB xs : Nat)), [])
set_option maxHeartbeats 1000000 in
theorem szTS_Clause_of (xs : List Cl) (h : ∀ x ∈ xs, SzT_Clause x) : SzTS_Clause xs := by
  intro hfit left h0 h1
  simp only [D.fit, List.length_map] at hfit
  have q0 := szR_spec left (xs.length + Cl.sumB xs)
  refine E_walk k_laws_szClauseS m_laws_szClauseS (of_decide_eq_true rfl) ?_
  simp (disch := omega) only [c_laws_szClauseS, go_sem, go_cond, zA, zB, zC, zD, zE, zF, zG, zH, ↓reduceIte, zI, reduceCtorEq, zJ, zK]
  repeat' (refine boolP_split (fun hq => ?_) (fun hq => ?_) <;> (first | replace hq := dec_iff.1 hq | replace hq := dec_not.1 hq) <;> (try simp (disch := omega) only [go_sem, go_cond, zA, zB, zC, zD, zE, zF, zG, zH, ↓reduceIte, zI, reduceCtorEq, zJ, zK]))
  · omega
  refine go_loop (α := Int × Int) (fun a => ⟨slots 27 0 [(0, .arr (xs.map Cl.d)), (1, .int .i64 a.2), (5, .int .i64 a.1)], []⟩) (fun a => ∃ k : Nat, a.1 = k ∧ k ≤ xs.length ∧ 0 ≤ a.2 ∧ a.2 ≤ 1048576 ∧ szR a.2 (Cl.sumB (xs.drop k)) = szR left (xs.length + Cl.sumB xs : Nat)) (fun a => xs.length - a.1.toNat) (0, left - xs.length) ⟨0, rfl, Nat.zero_le _, by omega, by omega, ?_⟩ (by simp (disch := omega) only [go_sem, go_cond, zA, zB, zC, zD, zE, zF, zG, zH, ↓reduceIte, zI, reduceCtorEq, zJ, zK]) ?_
  · have q1 := szR_spec (left - xs.length) (Cl.sumB xs)
    rw [List.drop_zero]
    dsimp only
    omega
  · rintro ⟨i, l⟩ ⟨k, hi, hk, hl0, hl1, hs⟩
    dsimp only at hi hl0 hl1 hs
    rcases Nat.lt_or_ge k xs.length with hlt | hge
    · have hg := get_at Cl.d hlt
      rw [Cl.d_eq] at hg
      have hd : Cl.sumB (xs.drop k) = xs[k].bulk + Cl.sumB (xs.drop (k + 1)) := by rw [List.drop_eq_getElem_cons hlt, Cl.sumB]
      rw [hd] at hs
      have hc := h xs[k] (List.getElem_mem hlt) (D.fitss_mem hfit.2 _ (List.getElem_mem hlt)) l hl0 hl1
      have q1 := szR_spec l xs[k].bulk
      have q2 := szR_spec l (xs[k].bulk + Cl.sumB (xs.drop (k + 1)))
      have q3 := szR_spec (l - xs[k].bulk) (Cl.sumB (xs.drop (k + 1)))
      have hn : i.toNat = k := by omega
      simp (disch := omega) only [go_sem, go_cond, zA, zB, zC, zD, zE, zF, zG, zH, ↓reduceIte, zI, reduceCtorEq, zJ, zK, hn, hg, hc, m_laws_szClause]
      repeat' (refine boolP_split (fun hq => ?_) (fun hq => ?_) <;> (first | replace hq := dec_iff.1 hq | replace hq := dec_not.1 hq) <;> (try simp (disch := omega) only [go_sem, go_cond, zA, zB, zC, zD, zE, zF, zG, zH, ↓reduceIte, zI, reduceCtorEq, zJ, zK]))
      · omega
      · refine ⟨(i + 1, l - xs[k].bulk), ⟨k + 1, by dsimp only; omega, hlt, by dsimp only; omega, by dsimp only; omega, by dsimp only; omega⟩, by dsimp only; omega, ?_⟩
        have e : szR l xs[k].bulk = l - xs[k].bulk := by omega
        simp only [e, and_self]
    · have hd : xs.drop k = [] := List.drop_eq_nil_of_le hge
      rw [hd] at hs
      have q1 := szR_spec l (Cl.sumB [])
      simp only [Cl.sumB] at hs q1
      simp (disch := omega) only [go_sem, go_cond, zA, zB, zC, zD, zE, zF, zG, zH, ↓reduceIte, zI, reduceCtorEq, zJ, zK]
      omega
set_option maxHeartbeats 1000000 in
theorem szT_Clause_of (x : Cl) (h_lits : SzTS_Literal x.lits) : SzT_Clause x := by
  intro hfit left h0 h1
  rw [Cl.d_eq] at hfit
  simp only [D.fits, D.fit] at hfit
  replace h_lits := h_lits (by simp only [D.fit, List.length_map]; simp only [List.length_map] at hfit; simp only [hfit, and_self])
  have q := szR_spec left x.bulk
  have qb := Cl.bulk_eq x
  have q0 := szR_spec left ((x.lits.length + Lt.sumB x.lits))
  refine E_walk k_laws_szClause m_laws_szClause (of_decide_eq_true rfl) ?_
  simp (disch := omega) only [c_laws_szClause, go_sem, go_cond, zA, zB, zC, zD, zE, zF, zG, zH, ↓reduceIte, zI, reduceCtorEq, zJ, zK, h_lits, m_laws_szLiteralS]
  repeat' (refine boolP_split (fun hq => ?_) (fun hq => ?_) <;> (first | replace hq := dec_iff.1 hq | replace hq := dec_not.1 hq) <;> (try simp (disch := omega) only [go_sem, go_cond, zA, zB, zC, zD, zE, zF, zG, zH, ↓reduceIte, zI, reduceCtorEq, zJ, zK, h_lits, m_laws_szLiteralS]))
  all_goals omega
theorem szT_Clause (x : Cl) : SzT_Clause x := szT_Clause_of x (szTS_Literal_of x.lits fun y hy => szT_Literal y)
theorem szTS_Clause (xs : List Cl) : SzTS_Clause xs := szTS_Clause_of xs fun x _ => szT_Clause x
def c_laws_szTable : SC := (.seq (.reg [⟨some 2, none, .boxv 131 4 (.t 0)⟩, ⟨some 4, none, .mv (.c (.int .i64 0))⟩]) (.seq (.reg [⟨some 5, none, .mv (.t 1)⟩, ⟨some 6, none, .faddr 0 (.t 2)⟩, ⟨some 7, none, .load false 1 (.t 6)⟩, ⟨some 8, none, .len true (.t 7)⟩, ⟨some 9, none, .bin .sub false (.t 5) (.t 8)⟩, ⟨some 1, none, .mv (.t 9)⟩]) (.seq (.seq (.reg [⟨some 10, none, .mv (.t 1)⟩, ⟨some 11, none, .bin .lss false (.t 10) (.c (.int .i64 0))⟩]) (.cond (.t 11) (.seq (.reg [⟨some 4, none, .mv (.c (.int .i64 (-(0 + 1))))⟩]) .ret) .skip)) (.seq (.reg [⟨some 12, none, .faddr 3 (.t 2)⟩, ⟨some 13, none, .load false 1 (.t 12)⟩, ⟨some 14, none, .mv (.t 1)⟩, ⟨some 15, none, .call 136 [(.t 13), (.t 14)]⟩, ⟨some 1, none, .mv (.t 15)⟩]) (.seq (.seq (.reg [⟨some 16, none, .mv (.t 1)⟩, ⟨some 17, none, .bin .lss false (.t 16) (.c (.int .i64 0))⟩]) (.cond (.t 17) (.seq (.reg [⟨some 4, none, .mv (.c (.int .i64 (-(0 + 1))))⟩]) .ret) .skip)) (.seq (.reg [⟨some 18, none, .mv (.t 1)⟩, ⟨some 4, none, .mv (.t 18)⟩]) .ret))))))
theorem k_laws_szTable : codeOf Tryz.prog 88 = some ⟨19, c_laws_szTable, [(.tmp 4)]⟩ := by kernel_rfl
theorem m_laws_szTable : modes 88 = ⟨[], .asis, none, false⟩ := by unfold modes; rfl
def c_laws_szTableS : SC := (.seq (.reg [⟨some 4, none, .mv (.c (.int .i64 0))⟩]) (.seq (.reg [⟨some 6, none, .mv (.t 1)⟩, ⟨some 7, none, .mv (.t 0)⟩, ⟨some 8, none, .len false (.t 7)⟩, ⟨some 9, none, .bin .sub false (.t 6) (.t 8)⟩, ⟨some 1, none, .mv (.t 9)⟩]) (.seq (.seq (.reg [⟨some 10, none, .mv (.t 1)⟩, ⟨some 11, none, .bin .lss false (.t 10) (.c (.int .i64 0))⟩]) (.cond (.t 11) (.seq (.reg [⟨some 4, none, .mv (.c (.int .i64 (-(0 + 1))))⟩]) .ret) .skip)) (.seq (.seq (.reg [⟨some 5, none, .mv (.c (.int .i64 0))⟩]) (.block 0 (.loop [1, 1, 0, 0, 0, 1, 0, 0, 0, 0, 0, 0, 0, 0, 0, 0, 0, 0, 0, 0, 0, 0, 0, 0, 0, 0, 0] (.seq (.seq (.reg [⟨some 12, none, .mv (.t 5)⟩, ⟨some 13, none, .mv (.t 0)⟩, ⟨some 14, none, .len false (.t 13)⟩, ⟨some 15, none, .bin .lss false (.t 12) (.t 14)⟩]) (.cond (.t 15) .skip (.exit 0))) (.seq (.block 1 (.seq (.reg [⟨some 18, none, .mv (.t 0)⟩, ⟨some 19, none, .mv (.t 5)⟩, ⟨some 20, none, .iaddr 4 (.t 18) (.t 19)⟩, ⟨some 21, none, .load true 4 (.t 20)⟩, ⟨some 22, none, .mv (.t 1)⟩, ⟨some 23, none, .call 88 [(.t 21), (.t 22)]⟩, ⟨some 1, none, .mv (.t 23)⟩]) (.seq (.reg [⟨some 24, none, .mv (.t 1)⟩, ⟨some 25, none, .bin .lss false (.t 24) (.c (.int .i64 0))⟩]) (.cond (.t 25) (.seq (.reg [⟨some 4, none, .mv (.c (.int .i64 (-(0 + 1))))⟩]) .ret) .skip)))) (.reg [⟨some 16, none, .mv (.t 5)⟩, ⟨some 17, none, .bin .add false (.t 16) (.c (.int .i64 1))⟩, ⟨some 5, none, .mv (.t 17)⟩])))))) (.seq (.reg [⟨some 26, none, .mv (.t 1)⟩, ⟨some 4, none, .mv (.t 26)⟩]) .ret)))))
theorem k_laws_szTableS : codeOf Tryz.prog 48 = some ⟨27, c_laws_szTableS, [(.tmp 4)]⟩ := by kernel_rfl
theorem m_laws_szTableS : modes 48 = ⟨[], .asis, none, false⟩ := by unfold modes; rfl
abbrev SzT_Table (x : Tl) : Prop := D.fits x.d → ∀ left : Int, 0 ≤ left → left ≤ 1048576 → E 88 [x.sv, .int .i64 left] [] = some (.int .i64 (szR left x.bulk), [])
abbrev SzTS_Table (xs : List Tl) : Prop := D.fit (.arr (xs.map Tl.d)) → ∀ left : Int, 0 ≤ left → left ≤ 1048576 → E 48 [.arr (xs.map Tl.d), .int .i64 left] [] = some (.int .i64 (szR left (xs.length + Tl.sumB xs : Nat)), [])
set_option maxHeartbeats 1000000 in
theorem szTS_Table_of (xs : List Tl) (h : ∀ x ∈ xs, SzT_Table x) : SzTS_Table xs := by
  intro hfit left h0 h1
  simp only [D.fit, List.length_map] at hfit
  have q0 := szR_spec left (xs.length + Tl.sumB xs)
  refine E_walk k_laws_szTableS m_laws_szTableS (of_decide_eq_true rfl) ?_
  simp (disch := omega) only [c_laws_szTableS, go_sem, go_cond, zA, zB, zC, zD, zE, zF, zG, zH, ↓reduceIte, zI, reduceCtorEq, zJ, zK]
  repeat' (refine boolP_split (fun hq => ?_) (fun hq => ?_) <;> (first | replace hq := dec_iff.1 hq | replace hq := dec_not.1 hq) <;> (try simp (disch := omega) only [go_sem, go_cond, zA, zB, zC, zD, zE, zF, zG, zH, ↓reduceIte, zI, reduceCtorEq, zJ, zK]))
  · omega
  refine go_loop (α := Int × Int) (fun a => ⟨slots 27 0 [(0, .arr (xs.map Tl.d)), (1, .int .i64 a.2), (5, .int .i64 a.1)], []⟩) (fun a => ∃ k : Nat, a.1 = k ∧ k ≤ xs.length ∧ 0 ≤ a.2 ∧ a.2 ≤ 1048576 ∧ szR a.2 (Tl.sumB (xs.drop k)) = szR left (xs.length + Tl.sumB xs : Nat)) (fun a => xs.length - a.1.toNat) (0, left - xs.length) ⟨0, rfl, Nat.zero_le _, by omega, by omega, ?_⟩ (by simp (disch := omega) only [go_sem, go_cond, zA, zB, zC, zD, zE, zF, zG, zH, ↓reduceIte, zI, reduceCtorEq, zJ, zK]) ?_
  · have q1 := szR_spec (left - xs.length) (Tl.sumB xs)
    rw [List.drop_zero]
    dsimp only
    omega
  · rintro ⟨i, l⟩ ⟨k, hi, hk, hl0, hl1, hs⟩
    dsimp only at hi hl0 hl1 hs
    rcases Nat.lt_or_ge k xs.length with hlt | hge
    · have hg := get_at Tl.d hlt
      rw [Tl.d_eq] at hg
      have hd : Tl.sumB (xs.drop k) = xs[k].bulk + Tl.sumB (xs.drop (k + 1)) := by rw [List.drop_eq_getElem_cons hlt, Tl.sumB]
      rw [hd] at hs
      have hc := h xs[k] (List.getElem_mem hlt) (D.fitss_mem hfit.2 _ (List.getElem_mem hlt)) l hl0 hl1
      have q1 := szR_spec l xs[k].bulk
      have q2 := szR_spec l (xs[k].bulk + Tl.sumB (xs.drop (k + 1)))
      have q3 := szR_spec (l - xs[k].bulk) (Tl.sumB (xs.drop (k + 1)))
      have hn : i.toNat = k := by omega
      simp (disch := omega) only [go_sem, go_cond, zA, zB, zC, zD, zE, zF, zG, zH, ↓reduceIte, zI, reduceCtorEq, zJ, zK, hn, hg, hc, m_laws_szTable]
      repeat' (refine boolP_split (fun hq => ?_) (fun hq => ?_) <;> (first | replace hq := dec_iff.1 hq | replace hq := dec_not.1 hq) <;> (try simp (disch := omega) only [go_sem, go_cond, zA, zB, zC, zD, zE, zF, zG, zH, ↓reduceIte, zI, reduceCtorEq, zJ, zK]))
      · omega
      · refine ⟨(i + 1, l - xs[k].bulk), ⟨k + 1, by dsimp only; omega, hlt, by dsimp only; omega, by dsimp only; omega, by dsimp only; omega⟩, by dsimp only; omega, ?_⟩
        have e : szR l xs[k].bulk = l - xs[k].bulk := by omega
        simp only [e, and_self]
    · have hd : xs.drop k = [] := List.drop_eq_nil_of_le hge
      rw [hd] at hs
      have q1 := szR_spec l (Tl.sumB [])
      simp only [Tl.sumB] at hs q1
      simp (disch := omega) only [go_sem, go_cond, zA, zB, zC, zD, zE, zF, zG, zH, ↓reduceIte, zI, reduceCtorEq, zJ, zK]
      omega
set_option maxHeartbeats 1000000 in
theorem szT_Table_of (x : Tl) (h_vals : SzTS_int x.vals) : SzT_Table x := by
  intro hfit left h0 h1
  rw [Tl.d_eq] at hfit
  simp only [D.fits, D.fit] at hfit
  replace h_vals := h_vals (by simp only [D.fit, List.length_map]; simp only [List.length_map] at hfit; simp only [hfit, and_self])
  have q := szR_spec left x.bulk
  have qb := Tl.bulk_eq x
  have q0 := szR_spec (left - (x.name.size : Int)) (x.vals.length)
  refine E_walk k_laws_szTable m_laws_szTable (of_decide_eq_true rfl) ?_
  simp (disch := omega) only [c_laws_szTable, go_sem, go_cond, zA, zB, zC, zD, zE, zF, zG, zH, ↓reduceIte, zI, reduceCtorEq, zJ, zK, h_vals, m_laws_szIntS]
  repeat' (refine boolP_split (fun hq => ?_) (fun hq => ?_) <;> (first | replace hq := dec_iff.1 hq | replace hq := dec_not.1 hq) <;> (try simp (disch := omega) only [go_sem, go_cond, zA, zB, zC, zD, zE, zF, zG, zH, ↓reduceIte, zI, reduceCtorEq, zJ, zK, h_vals, m_laws_szIntS]))
  all_goals omega
theorem szT_Table (x : Tl) : SzT_Table x := szT_Table_of x (szTS_int x.vals)
def c_laws_szInterpretation : SC := (.seq (.reg [⟨some 2, none, .boxv 43 2 (.t 0)⟩, ⟨some 4, none, .mv (.c (.int .i64 0))⟩]) (.seq (.reg [⟨some 5, none, .faddr 1 (.t 2)⟩, ⟨some 6, none, .load false 1 (.t 5)⟩, ⟨some 7, none, .mv (.t 1)⟩, ⟨some 8, none, .call 48 [(.t 6), (.t 7)]⟩, ⟨some 1, none, .mv (.t 8)⟩]) (.seq (.seq (.reg [⟨some 9, none, .mv (.t 1)⟩, ⟨some 10, none, .bin .lss false (.t 9) (.c (.int .i64 0))⟩]) (.cond (.t 10) (.seq (.reg [⟨some 4, none, .mv (.c (.int .i64 (-(0 + 1))))⟩]) .ret) .skip)) (.seq (.reg [⟨some 11, none, .mv (.t 1)⟩, ⟨some 4, none, .mv (.t 11)⟩]) .ret))))
theorem k_laws_szInterpretation : codeOf Tryz.prog 14 = some ⟨12, c_laws_szInterpretation, [(.tmp 4)]⟩ := by kernel_rfl
theorem m_laws_szInterpretation : modes 14 = ⟨[], .asis, none, false⟩ := by unfold modes; rfl
abbrev SzT_Interpretation (x : Ip) : Prop := D.fits x.d → ∀ left : Int, 0 ≤ left → left ≤ 1048576 → E 14 [x.sv, .int .i64 left] [] = some (.int .i64 (szR left x.bulk), [])
set_option maxHeartbeats 1000000 in
theorem szT_Interpretation_of (x : Ip) (h_tables : SzTS_Table x.tables) : SzT_Interpretation x := by
  intro hfit left h0 h1
  rw [Ip.d_eq] at hfit
  simp only [D.fits, D.fit] at hfit
  replace h_tables := h_tables (by simp only [D.fit, List.length_map]; simp only [List.length_map] at hfit; simp only [hfit, and_self])
  have q := szR_spec left x.bulk
  have qb := Ip.bulk_eq x
  have q0 := szR_spec left ((x.tables.length + Tl.sumB x.tables))
  refine E_walk k_laws_szInterpretation m_laws_szInterpretation (of_decide_eq_true rfl) ?_
  simp (disch := omega) only [c_laws_szInterpretation, go_sem, go_cond, zA, zB, zC, zD, zE, zF, zG, zH, ↓reduceIte, zI, reduceCtorEq, zJ, zK, h_tables, m_laws_szTableS]
  repeat' (refine boolP_split (fun hq => ?_) (fun hq => ?_) <;> (first | replace hq := dec_iff.1 hq | replace hq := dec_not.1 hq) <;> (try simp (disch := omega) only [go_sem, go_cond, zA, zB, zC, zD, zE, zF, zG, zH, ↓reduceIte, zI, reduceCtorEq, zJ, zK, h_tables, m_laws_szTableS]))
  all_goals omega
theorem szT_Interpretation (x : Ip) : SzT_Interpretation x := szT_Interpretation_of x (szTS_Table_of x.tables fun y hy => szT_Table y)
def c_laws_toIntS : SC := (.seq (.reg [⟨some 2, none, .mv (.c .nil)⟩]) (.seq (.reg [⟨some 5, none, .mv (.t 0)⟩, ⟨some 6, none, .len false (.t 5)⟩, ⟨some 7, none, .mkslice 3 1 8 [(.int .i64 0)] (.t 6)⟩, ⟨some 3, none, .mv (.t 7)⟩]) (.seq (.seq (.reg [⟨some 4, none, .mv (.c (.int .i64 0))⟩]) (.block 0 (.loop [1, 0, 0, 1, 1, 0, 0, 0, 0, 0, 0, 0, 0, 0, 0, 0, 0, 0, 0, 0, 0, 0] (.seq (.seq (.reg [⟨some 8, none, .mv (.t 4)⟩, ⟨some 9, none, .mv (.t 0)⟩, ⟨some 10, none, .len false (.t 9)⟩, ⟨some 11, none, .bin .lss false (.t 8) (.t 10)⟩]) (.cond (.t 11) .skip (.exit 0))) (.seq (.block 1 (.reg [⟨some 14, none, .mv (.t 3)⟩, ⟨some 15, none, .mv (.t 4)⟩, ⟨some 16, none, .mv (.t 0)⟩, ⟨some 17, none, .mv (.t 4)⟩, ⟨some 18, none, .iaddr 1 (.t 16) (.t 17)⟩, ⟨some 19, none, .load false 1 (.t 18)⟩, ⟨some 20, none, .iaddr 1 (.t 14) (.t 15)⟩, ⟨none, none, (.store 1 (.t 20) (.t 19))⟩])) (.reg [⟨some 12, none, .mv (.t 4)⟩, ⟨some 13, none, .bin .add false (.t 12) (.c (.int .i64 1))⟩, ⟨some 4, none, .mv (.t 13)⟩])))))) (.seq (.reg [⟨some 21, none, .mv (.t 3)⟩, ⟨some 2, none, .mv (.t 21)⟩]) .ret))))
theorem k_laws_toIntS : codeOf Tryz.prog 141 = some ⟨22, c_laws_toIntS, [(.tmp 2)]⟩ := by kernel_rfl
theorem m_laws_toIntS : modes 141 = ⟨[], .asis, none, false⟩ := by unfold modes; rfl
abbrev ToTS_int (xs : List Int) : Prop := xs.length ≤ 1048576 → E 141 [.arr (xs.map (fun s => [D.int s]))] [] = some (.ref 0, [.row 3 1 (xs.map (fun s => [OT.int s]))])
set_option maxHeartbeats 1000000 in
theorem toTS_int (xs : List Int) : ToTS_int xs := by
  intro hb
  refine E_walk k_laws_toIntS m_laws_toIntS (of_decide_eq_true rfl) ?_
  simp (disch := omega) only [c_laws_toIntS, go_sem, go_cond, zA, zB, zC, zD, zE, zF, zG, zH, ↓reduceIte, zI, reduceCtorEq, zJ, zK]
  refine go_loop (α := Int) (fun i => ⟨slots 22 0 [(0, .arr (xs.map (fun s => [D.int s]))), (3, .ref 0), (4, .int .i64 i)], [.row 3 1 (fillR (fun s => [OT.int s]) [.int 0] xs i.toNat)]⟩) (fun i => ∃ k : Nat, i = k ∧ k ≤ xs.length) (fun i => xs.length - i.toNat) 0 ⟨0, rfl, Nat.zero_le _⟩ (by simp (disch := omega) only [go_sem, go_cond, zA, zB, zC, zD, zE, zF, zG, zH, ↓reduceIte, zI, reduceCtorEq, zJ, zK, fillR_zero, Int.toNat_zero]) ?_
  · rintro i ⟨k, rfl, hk⟩
    obtain ⟨i, hi⟩ : ∃ i : Int, i = (k : Int) := ⟨_, rfl⟩
    rw [← hi]
    have hn : i.toNat = k := by omega
    have hn1 : (i + 1).toNat = k + 1 := by omega
    rcases Nat.lt_or_ge k xs.length with hlt | hge
    · have hg := get_at (fun s => [D.int s]) hlt
      have hz := fillR_get (fun s => [OT.int s]) [.int 0] hlt
      have hs := fillR_set (fun s => [OT.int s]) [.int 0] hlt
      simp (disch := omega) only [go_sem, go_cond, zA, zB, zC, zD, zE, zF, zG, zH, ↓reduceIte, zI, reduceCtorEq, zJ, zK, hn, hg, hz, fillR_len]
      refine ⟨i + 1, ⟨k + 1, by omega, hlt⟩, by omega, ?_⟩
      simp (disch := omega) only [go_sem, go_cond, zA, zB, zC, zD, zE, zF, zG, zH, ↓reduceIte, zI, reduceCtorEq, zJ, zK, hn1, hs]
    · obtain rfl : k = xs.length := by omega
      simp (disch := omega) only [go_sem, go_cond, zA, zB, zC, zD, zE, zF, zG, zH, ↓reduceIte, zI, reduceCtorEq, zJ, zK, hn, fillR_end]
def c_laws_toTerm : SC := (.seq (.reg [⟨some 1, none, .boxv 24 2 (.t 0)⟩, ⟨(some 2), none, (.alloc 31 [(.str ⟨#[]⟩), .nil])⟩]) (.seq (.reg [⟨(some 3), none, (.alloc 31 [(.str ⟨#[]⟩), .nil])⟩]) (.seq (.reg [⟨some 4, none, .faddr 0 (.t 1)⟩, ⟨some 5, none, .load false 1 (.t 4)⟩, ⟨some 6, none, .faddr 0 (.t 3)⟩, ⟨none, none, (.store 1 (.t 6) (.t 5))⟩]) (.seq (.reg [⟨some 7, none, .faddr 1 (.t 1)⟩, ⟨some 8, none, .load false 1 (.t 7)⟩, ⟨some 9, none, .call 77 [(.t 8)]⟩, ⟨some 10, none, .faddr 1 (.t 3)⟩, ⟨none, none, (.store 1 (.t 10) (.t 9))⟩]) (.seq (.reg [⟨some 11, none, .load true 2 (.t 3)⟩, ⟨none, none, (.store 2 (.t 2) (.t 11))⟩]) .ret)))))
theorem k_laws_toTerm : codeOf Tryz.prog 37 = some ⟨12, c_laws_toTerm, [(.cell 2 true 2)]⟩ := by kernel_rfl
theorem m_laws_toTerm : modes 37 = ⟨[], .asis, none, false⟩ := by unfold modes; rfl
def c_laws_toTermS : SC := (.seq (.reg [⟨some 2, none, .mv (.c .nil)⟩]) (.seq (.reg [⟨some 5, none, .mv (.t 0)⟩, ⟨some 6, none, .len false (.t 5)⟩, ⟨(some 7), none, (.mkslice 31 2 40 [(.str ⟨#[]⟩), .nil] (.t 6))⟩, ⟨some 3, none, .mv (.t 7)⟩]) (.seq (.seq (.reg [⟨some 4, none, .mv (.c (.int .i64 0))⟩]) (.block 0 (.loop [1, 0, 0, 1, 1, 0, 0, 0, 0, 0, 0, 0, 0, 0, 0, 0, 0, 0, 0, 0, 0, 0, 0] (.seq (.seq (.reg [⟨some 8, none, .mv (.t 4)⟩, ⟨some 9, none, .mv (.t 0)⟩, ⟨some 10, none, .len false (.t 9)⟩, ⟨some 11, none, .bin .lss false (.t 8) (.t 10)⟩]) (.cond (.t 11) .skip (.exit 0))) (.seq (.block 1 (.reg [⟨some 14, none, .mv (.t 3)⟩, ⟨some 15, none, .mv (.t 4)⟩, ⟨some 16, none, .mv (.t 0)⟩, ⟨some 17, none, .mv (.t 4)⟩, ⟨some 18, none, .iaddr 2 (.t 16) (.t 17)⟩, ⟨some 19, none, .load true 2 (.t 18)⟩, ⟨some 20, none, .call 37 [(.t 19)]⟩, ⟨some 21, none, .iaddr 2 (.t 14) (.t 15)⟩, ⟨none, none, (.store 2 (.t 21) (.t 20))⟩])) (.reg [⟨some 12, none, .mv (.t 4)⟩, ⟨some 13, none, .bin .add false (.t 12) (.c (.int .i64 1))⟩, ⟨some 4, none, .mv (.t 13)⟩])))))) (.seq (.reg [⟨some 22, none, .mv (.t 3)⟩, ⟨some 2, none, .mv (.t 22)⟩]) .ret))))
theorem k_laws_toTermS : codeOf Tryz.prog 77 = some ⟨23, c_laws_toTermS, [(.tmp 2)]⟩ := by kernel_rfl
theorem m_laws_toTermS : modes 77 = ⟨[], .asis, none, false⟩ := by unfold modes; rfl
abbrev ToT_Term (x : Tm) : Prop := x.bulk ≤ 1048576 → E 37 [x.sv] [] = some (x.osv, x.obs)
abbrev ToTS_Term (xs : List Tm) : Prop := xs.length + Tm.sumB xs ≤ 1048576 → E 77 [.arr (xs.map Tm.d)] [] = some (.ref 0, [.row 31 2 (xs.map Tm.o)])
set_option maxHeartbeats 1000000 in
theorem toTS_Term_of (xs : List Tm) (h : ∀ x ∈ xs, ToT_Term x) : ToTS_Term xs := by
  intro hb
  refine E_walk k_laws_toTermS m_laws_toTermS (of_decide_eq_true rfl) ?_
  simp (disch := omega) only [c_laws_toTermS, go_sem, go_cond, zA, zB, zC, zD, zE, zF, zG, zH, ↓reduceIte, zI, reduceCtorEq, zJ, zK]
  refine go_loop (α := Int) (fun i => ⟨slots 23 0 [(0, .arr (xs.map Tm.d)), (3, .ref 0), (4, .int .i64 i)], [.row 31 2 (fillR Tm.o [.str ⟨#[]⟩, .ow []] xs i.toNat)]⟩) (fun i => ∃ k : Nat, i = k ∧ k ≤ xs.length) (fun i => xs.length - i.toNat) 0 ⟨0, rfl, Nat.zero_le _⟩ (by simp (disch := omega) only [go_sem, go_cond, zA, zB, zC, zD, zE, zF, zG, zH, ↓reduceIte, zI, reduceCtorEq, zJ, zK, fillR_zero, Int.toNat_zero]) ?_
  · rintro i ⟨k, rfl, hk⟩
    obtain ⟨i, hi⟩ : ∃ i : Int, i = (k : Int) := ⟨_, rfl⟩
    rw [← hi]
    have hn : i.toNat = k := by omega
    have hn1 : (i + 1).toNat = k + 1 := by omega
    rcases Nat.lt_or_ge k xs.length with hlt | hge
    · have hg := get_at Tm.d hlt
      rw [Tm.d_eq] at hg
      have hz := fillR_get Tm.o [.str ⟨#[]⟩, .ow []] hlt
      have hle := Tm.bulk_le xs k hlt
      have hc := h xs[k] (List.getElem_mem hlt) (by omega)
      have hs := fillR_set Tm.o [.str ⟨#[]⟩, .ow []] hlt
      rw [Tm.o_eq] at hs
      simp (disch := omega) only [go_sem, go_cond, zA, zB, zC, zD, zE, zF, zG, zH, ↓reduceIte, zI, reduceCtorEq, zJ, zK, hn, hg, hc, hz, fillR_len, m_laws_toTerm, Tm.osv, Tm.obs]
      refine ⟨i + 1, ⟨k + 1, by omega, hlt⟩, by omega, ?_⟩
      simp (disch := omega) only [go_sem, go_cond, zA, zB, zC, zD, zE, zF, zG, zH, ↓reduceIte, zI, reduceCtorEq, zJ, zK, hn1, hs]
    · obtain rfl : k = xs.length := by omega
      simp (disch := omega) only [go_sem, go_cond, zA, zB, zC, zD, zE, zF, zG, zH, ↓reduceIte, zI, reduceCtorEq, zJ, zK, hn, fillR_end]
set_option maxHeartbeats 1000000 in
theorem toT_Term_of (x : Tm) (h_args : ToTS_Term x.args) : ToT_Term x := by
  intro hb
  have qb := Tm.bulk_eq x
  replace h_args := h_args (by omega)
  refine E_walk k_laws_toTerm m_laws_toTerm (of_decide_eq_true rfl) ?_
  simp (disch := omega) only [c_laws_toTerm, go_sem, go_cond, zA, zB, zC, zD, zE, zF, zG, zH, ↓reduceIte, zI, reduceCtorEq, zJ, zK, h_args, m_laws_toTermS]
theorem toT_Term (x : Tm) : ToT_Term x := toT_Term_of x (toTS_Term_of x.args fun y hy => toT_Term y)
termination_by SizeOf.sizeOf x
decreasing_by exact Tm.lt_of_mem hy
def c_laws_toLiteral : SC := (.seq (.reg [⟨some 1, none, .boxv 154 3 (.t 0)⟩, ⟨(some 2), none, (.alloc 111 [(.bool false), (.str ⟨#[]⟩), .nil])⟩]) (.seq (.reg [⟨(some 3), none, (.alloc 111 [(.bool false), (.str ⟨#[]⟩), .nil])⟩]) (.seq (.reg [⟨some 4, none, .faddr 0 (.t 1)⟩, ⟨some 5, none, .load false 1 (.t 4)⟩, ⟨some 6, none, .faddr 0 (.t 3)⟩, ⟨none, none, (.store 1 (.t 6) (.t 5))⟩]) (.seq (.reg [⟨some 7, none, .faddr 1 (.t 1)⟩, ⟨some 8, none, .load true 2 (.t 7)⟩, ⟨some 9, none, .call 37 [(.t 8)]⟩, ⟨some 10, none, .faddr 1 (.t 3)⟩, ⟨none, none, (.store 2 (.t 10) (.t 9))⟩]) (.seq (.reg [⟨some 11, none, .load true 3 (.t 3)⟩, ⟨none, none, (.store 3 (.t 2) (.t 11))⟩]) .ret)))))
theorem k_laws_toLiteral : codeOf Tryz.prog 119 = some ⟨12, c_laws_toLiteral, [(.cell 2 true 3)]⟩ := by kernel_rfl
theorem m_laws_toLiteral : modes 119 = ⟨[], .asis, none, false⟩ := by unfold modes; rfl
def c_laws_toLiteralS : SC := (.seq (.reg [⟨some 2, none, .mv (.c .nil)⟩]) (.seq (.reg [⟨some 5, none, .mv (.t 0)⟩, ⟨some 6, none, .len false (.t 5)⟩, ⟨(some 7), none, (.mkslice 111 3 48 [(.bool false), (.str ⟨#[]⟩), .nil] (.t 6))⟩, ⟨some 3, none, .mv (.t 7)⟩]) (.seq (.seq (.reg [⟨some 4, none, .mv (.c (.int .i64 0))⟩]) (.block 0 (.loop [1, 0, 0, 1, 1, 0, 0, 0, 0, 0, 0, 0, 0, 0, 0, 0, 0, 0, 0, 0, 0, 0, 0] (.seq (.seq (.reg [⟨some 8, none, .mv (.t 4)⟩, ⟨some 9, none, .mv (.t 0)⟩, ⟨some 10, none, .len false (.t 9)⟩, ⟨some 11, none, .bin .lss false (.t 8) (.t 10)⟩]) (.cond (.t 11) .skip (.exit 0))) (.seq (.block 1 (.reg [⟨some 14, none, .mv (.t 3)⟩, ⟨some 15, none, .mv (.t 4)⟩, ⟨some 16, none, .mv (.t 0)⟩, ⟨some 17, none, .mv (.t 4)⟩, ⟨some 18, none, .iaddr 3 (.t 16) (.t 17)⟩, ⟨some 19, none, .load true 3 (.t 18)⟩, ⟨some 20, none, .call 119 [(.t 19)]⟩, ⟨some 21, none, .iaddr 3 (.t 14) (.t 15)⟩, ⟨none, none, (.store 3 (.t 21) (.t 20))⟩])) (.reg [⟨some 12, none, .mv (.t 4)⟩, ⟨some 13, none, .bin .add false (.t 12) (.c (.int .i64 1))⟩, ⟨some 4, none, .mv (.t 13)⟩])))))) (.seq (.reg [⟨some 22, none, .mv (.t 3)⟩, ⟨some 2, none, .mv (.t 22)⟩]) .ret))))
theorem k_laws_toLiteralS : codeOf Tryz.prog 67 = some ⟨23, c_laws_toLiteralS, [(.tmp 2)]⟩ := by kernel_rfl
theorem m_laws_toLiteralS : modes 67 = ⟨[], .asis, none, false⟩ := by unfold modes; rfl
abbrev ToT_Literal (x : Lt) : Prop := x.bulk ≤ 1048576 → E 119 [x.sv] [] = some (x.osv, x.obs)
abbrev ToTS_Literal (xs : List Lt) : Prop := xs.length + Lt.sumB xs ≤ 1048576 → E 67 [.arr (xs.map Lt.d)] [] = some (.ref 0, [.row 111 3 (xs.map Lt.o)])
set_option maxHeartbeats 1000000 in
theorem toTS_Literal_of (xs : List Lt) (h : ∀ x ∈ xs, ToT_Literal x) : ToTS_Literal xs := by
  intro hb
  refine E_walk k_laws_toLiteralS m_laws_toLiteralS (of_decide_eq_true rfl) ?_
  simp (disch := omega) only [c_laws_toLiteralS, go_sem, go_cond, zA, zB, zC, zD, zE, zF, zG, zH, ↓reduceIte, zI, reduceCtorEq, zJ, zK]
  refine go_loop (α := Int) (fun i => ⟨slots 23 0 [(0, .arr (xs.map Lt.d)), (3, .ref 0), (4, .int .i64 i)], [.row 111 3 (fillR Lt.o [.bool false, .str ⟨#[]⟩, .ow []] xs i.toNat)]⟩) (fun i => ∃ k : Nat, i = k ∧ k ≤ xs.length) (fun i => xs.length - i.toNat) 0 ⟨0, rfl, Nat.zero_le _⟩ (by simp (disch := omega) only [go_sem, go_cond, zA, zB, zC, zD, zE, zF, zG, zH, ↓reduceIte, zI, reduceCtorEq, zJ, zK, fillR_zero, Int.toNat_zero]) ?_
  · rintro i ⟨k, rfl, hk⟩
    obtain ⟨i, hi⟩ : ∃ i : Int, i = (k : Int) := ⟨_, rfl⟩
    rw [← hi]
    have hn : i.toNat = k := by omega
    have hn1 : (i + 1).toNat = k + 1 := by omega
    rcases Nat.lt_or_ge k xs.length with hlt | hge
    · have hg := get_at Lt.d hlt
      rw [Lt.d_eq] at hg
      have hz := fillR_get Lt.o [.bool false, .str ⟨#[]⟩, .ow []] hlt
      have hle := Lt.bulk_le xs k hlt
      have hc := h xs[k] (List.getElem_mem hlt) (by omega)
      have hs := fillR_set Lt.o [.bool false, .str ⟨#[]⟩, .ow []] hlt
      rw [Lt.o_eq] at hs
      simp (disch := omega) only [go_sem, go_cond, zA, zB, zC, zD, zE, zF, zG, zH, ↓reduceIte, zI, reduceCtorEq, zJ, zK, hn, hg, hc, hz, fillR_len, m_laws_toLiteral, Lt.osv, Lt.obs]
      refine ⟨i + 1, ⟨k + 1, by omega, hlt⟩, by omega, ?_⟩
      simp (disch := omega) only [go_sem, go_cond, zA, zB, zC, zD, zE, zF, zG, zH, ↓reduceIte, zI, reduceCtorEq, zJ, zK, hn1, hs]
    · obtain rfl : k = xs.length := by omega
      simp (disch := omega) only [go_sem, go_cond, zA, zB, zC, zD, zE, zF, zG, zH, ↓reduceIte, zI, reduceCtorEq, zJ, zK, hn, fillR_end]
set_option maxHeartbeats 1000000 in
theorem toT_Literal_of (x : Lt) (h_atom : ToT_Term x.atom) : ToT_Literal x := by
  intro hb
  have qb := Lt.bulk_eq x
  replace h_atom := h_atom (by omega)
  refine E_walk k_laws_toLiteral m_laws_toLiteral (of_decide_eq_true rfl) ?_
  simp (disch := omega) only [c_laws_toLiteral, go_sem, go_cond, zA, zB, zC, zD, zE, zF, zG, zH, ↓reduceIte, zI, reduceCtorEq, zJ, zK, h_atom, m_laws_toTerm]
theorem toT_Literal (x : Lt) : ToT_Literal x := toT_Literal_of x (toT_Term x.atom)
def c_laws_toClause : SC := (.seq (.reg [⟨some 1, none, .boxv 67 1 (.t 0)⟩, ⟨some 2, none, .alloc 72 [.nil]⟩]) (.seq (.reg [⟨some 3, none, .alloc 72 [.nil]⟩]) (.seq (.reg [⟨some 4, none, .faddr 0 (.t 1)⟩, ⟨some 5, none, .load false 1 (.t 4)⟩, ⟨some 6, none, .call 67 [(.t 5)]⟩, ⟨some 7, none, .faddr 0 (.t 3)⟩, ⟨none, none, (.store 1 (.t 7) (.t 6))⟩]) (.seq (.reg [⟨some 8, none, .load true 1 (.t 3)⟩, ⟨none, none, (.store 1 (.t 2) (.t 8))⟩]) .ret))))
theorem k_laws_toClause : codeOf Tryz.prog 29 = some ⟨9, c_laws_toClause, [(.cell 2 true 1)]⟩ := by kernel_rfl
theorem m_laws_toClause : modes 29 = ⟨[], .asis, none, false⟩ := by unfold modes; rfl
def c_laws_toClauseS : SC := (.seq (.reg [⟨some 2, none, .mv (.c .nil)⟩]) (.seq (.reg [⟨some 5, none, .mv (.t 0)⟩, ⟨some 6, none, .len false (.t 5)⟩, ⟨some 7, none, .mkslice 72 1 24 [.nil] (.t 6)⟩, ⟨some 3, none, .mv (.t 7)⟩]) (.seq (.seq (.reg [⟨some 4, none, .mv (.c (.int .i64 0))⟩]) (.block 0 (.loop [1, 0, 0, 1, 1, 0, 0, 0, 0, 0, 0, 0, 0, 0, 0, 0, 0, 0, 0, 0, 0, 0, 0] (.seq (.seq (.reg [⟨some 8, none, .mv (.t 4)⟩, ⟨some 9, none, .mv (.t 0)⟩, ⟨some 10, none, .len false (.t 9)⟩, ⟨some 11, none, .bin .lss false (.t 8) (.t 10)⟩]) (.cond (.t 11) .skip (.exit 0))) (.seq (.block 1 (.reg [⟨some 14, none, .mv (.t 3)⟩, ⟨some 15, none, .mv (.t 4)⟩, ⟨some 16, none, .mv (.t 0)⟩, ⟨some 17, none, .mv (.t 4)⟩, ⟨some 18, none, .iaddr 1 (.t 16) (.t 17)⟩, ⟨some 19, none, .load true 1 (.t 18)⟩, ⟨some 20, none, .call 29 [(.t 19)]⟩, ⟨some 21, none, .iaddr 1 (.t 14) (.t 15)⟩, ⟨none, none, (.store 1 (.t 21) (.t 20))⟩])) (.reg [⟨some 12, none, .mv (.t 4)⟩, ⟨some 13, none, .bin .add false (.t 12) (.c (.int .i64 1))⟩, ⟨some 4, none, .mv (.t 13)⟩])))))) (.seq (.reg [⟨some 22, none, .mv (.t 3)⟩, ⟨some 2, none, .mv (.t 22)⟩]) .ret))))
theorem k_laws_toClauseS : codeOf Tryz.prog 24 = some ⟨23, c_laws_toClauseS, [(.tmp 2)]⟩ := by kernel_rfl
theorem m_laws_toClauseS : modes 24 = ⟨[], .asis, none, false⟩ := by unfold modes; rfl
abbrev ToT_Clause (x : Cl) : Prop := x.bulk ≤ 1048576 → E 29 [x.sv] [] = some (x.osv, x.obs)
abbrev ToTS_Clause (xs : List Cl) : Prop := xs.length + Cl.sumB xs ≤ 1048576 → E 24 [.arr (xs.map Cl.d)] [] = some (.ref 0, [.row 72 1 (xs.map Cl.o)])
set_option maxHeartbeats 1000000 in
theorem toTS_Clause_of (xs : List Cl) (h : ∀ x ∈ xs, ToT_Clause x) : ToTS_Clause xs := by
  intro hb
  refine E_walk k_laws_toClauseS m_laws_toClauseS (of_decide_eq_true rfl) ?_
  simp (disch := omega) only [c_laws_toClauseS, go_sem, go_cond, zA, zB, zC, zD, zE, zF, zG, zH, ↓reduceIte, zI, reduceCtorEq, zJ, zK]
  refine go_loop (α := Int) (fun i => ⟨slots 23 0 [(0, .arr (xs.map Cl.d)), (3, .ref 0), (4, .int .i64 i)], [.row 72 1 (fillR Cl.o [.ow []] xs i.toNat)]⟩) (fun i => ∃ k : Nat, i = k ∧ k ≤ xs.length) (fun i => xs.length - i.toNat) 0 ⟨0, rfl, Nat.zero_le _⟩ (by simp (disch := omega) only [go_sem, go_cond, zA, zB, zC, zD, zE, zF, zG, zH, ↓reduceIte, zI, reduceCtorEq, zJ, zK, fillR_zero, Int.toNat_zero]) ?_
  · rintro i ⟨k, rfl, hk⟩
    obtain ⟨i, hi⟩ : ∃ i : Int, i = (k : Int) := ⟨_, rfl⟩
    rw [← hi]
    have hn : i.toNat = k := by omega
    have hn1 : (i + 1).toNat = k + 1 := by omega
    rcases Nat.lt_or_ge k xs.length with hlt | hge
    · have hg := get_at Cl.d hlt
      rw [Cl.d_eq] at hg
      have hz := fillR_get Cl.o [.ow []] hlt
      have hle := Cl.bulk_le xs k hlt
      have hc := h xs[k] (List.getElem_mem hlt) (by omega)
      have hs := fillR_set Cl.o [.ow []] hlt
      rw [Cl.o_eq] at hs
      simp (disch := omega) only [go_sem, go_cond, zA, zB, zC, zD, zE, zF, zG, zH, ↓reduceIte, zI, reduceCtorEq, zJ, zK, hn, hg, hc, hz, fillR_len, m_laws_toClause, Cl.osv, Cl.obs]
      refine ⟨i + 1, ⟨k + 1, by omega, hlt⟩, by omega, ?_⟩
      simp (disch := omega) only [go_sem, go_cond, zA, zB, zC, zD, zE, zF, zG, zH, ↓reduceIte, zI, reduceCtorEq, zJ, zK, hn1, hs]
    · obtain rfl : k = xs.length := by omega
      simp (disch := omega) only [go_sem, go_cond, zA, zB, zC, zD, zE, zF, zG, zH, ↓reduceIte, zI, reduceCtorEq, zJ, zK, hn, fillR_end]
set_option maxHeartbeats 1000000 in
theorem toT_Clause_of (x : Cl) (h_lits : ToTS_Literal x.lits) : ToT_Clause x := by
  intro hb
  have qb := Cl.bulk_eq x
  replace h_lits := h_lits (by omega)
  refine E_walk k_laws_toClause m_laws_toClause (of_decide_eq_true rfl) ?_
  simp (disch := omega) only [c_laws_toClause, go_sem, go_cond, zA, zB, zC, zD, zE, zF, zG, zH, ↓reduceIte, zI, reduceCtorEq, zJ, zK, h_lits, m_laws_toLiteralS]
theorem toT_Clause (x : Cl) : ToT_Clause x := toT_Clause_of x (toTS_Literal_of x.lits fun y hy => toT_Literal y)
theorem toTS_Clause (xs : List Cl) : ToTS_Clause xs := toTS_Clause_of xs fun x _ => toT_Clause x
def c_laws_toTable : SC := (.seq (.reg [⟨some 1, none, .boxv 131 4 (.t 0)⟩, ⟨(some 2), none, (.alloc 134 [(.str ⟨#[]⟩), (.int .i64 0), (.bool false), .nil])⟩]) (.seq (.reg [⟨(some 3), none, (.alloc 134 [(.str ⟨#[]⟩), (.int .i64 0), (.bool false), .nil])⟩]) (.seq (.reg [⟨some 4, none, .faddr 0 (.t 1)⟩, ⟨some 5, none, .load false 1 (.t 4)⟩, ⟨some 6, none, .faddr 0 (.t 3)⟩, ⟨none, none, (.store 1 (.t 6) (.t 5))⟩]) (.seq (.reg [⟨some 7, none, .faddr 1 (.t 1)⟩, ⟨some 8, none, .load false 1 (.t 7)⟩, ⟨some 9, none, .faddr 1 (.t 3)⟩, ⟨none, none, (.store 1 (.t 9) (.t 8))⟩]) (.seq (.reg [⟨some 10, none, .faddr 2 (.t 1)⟩, ⟨some 11, none, .load false 1 (.t 10)⟩, ⟨some 12, none, .faddr 2 (.t 3)⟩, ⟨none, none, (.store 1 (.t 12) (.t 11))⟩]) (.seq (.reg [⟨some 13, none, .faddr 3 (.t 1)⟩, ⟨some 14, none, .load false 1 (.t 13)⟩, ⟨some 15, none, .call 141 [(.t 14)]⟩, ⟨some 16, none, .faddr 3 (.t 3)⟩, ⟨none, none, (.store 1 (.t 16) (.t 15))⟩]) (.seq (.reg [⟨some 17, none, .load true 4 (.t 3)⟩, ⟨none, none, (.store 4 (.t 2) (.t 17))⟩]) .ret)))))))
theorem k_laws_toTable : codeOf Tryz.prog 95 = some ⟨18, c_laws_toTable, [(.cell 2 true 4)]⟩ := by kernel_rfl
theorem m_laws_toTable : modes 95 = ⟨[], .asis, none, false⟩ := by unfold modes; rfl
def c_laws_toTableS : SC := (.seq (.reg [⟨some 2, none, .mv (.c .nil)⟩]) (.seq (.reg [⟨some 5, none, .mv (.t 0)⟩, ⟨some 6, none, .len false (.t 5)⟩, ⟨(some 7), none, (.mkslice 134 4 56 [(.str ⟨#[]⟩), (.int .i64 0), (.bool false), .nil] (.t 6))⟩, ⟨some 3, none, .mv (.t 7)⟩]) (.seq (.seq (.reg [⟨some 4, none, .mv (.c (.int .i64 0))⟩]) (.block 0 (.loop [1, 0, 0, 1, 1, 0, 0, 0, 0, 0, 0, 0, 0, 0, 0, 0, 0, 0, 0, 0, 0, 0, 0] (.seq (.seq (.reg [⟨some 8, none, .mv (.t 4)⟩, ⟨some 9, none, .mv (.t 0)⟩, ⟨some 10, none, .len false (.t 9)⟩, ⟨some 11, none, .bin .lss false (.t 8) (.t 10)⟩]) (.cond (.t 11) .skip (.exit 0))) (.seq (.block 1 (.reg [⟨some 14, none, .mv (.t 3)⟩, ⟨some 15, none, .mv (.t 4)⟩, ⟨some 16, none, .mv (.t 0)⟩, ⟨some 17, none, .mv (.t 4)⟩, ⟨some 18, none, .iaddr 4 (.t 16) (.t 17)⟩, ⟨some 19, none, .load true 4 (.t 18)⟩, ⟨some 20, none, .call 95 [(.t 19)]⟩, ⟨some 21, none, .iaddr 4 (.t 14) (.t 15)⟩, ⟨none, none, (.store 4 (.t 21) (.t 20))⟩])) (.reg [⟨some 12, none, .mv (.t 4)⟩, ⟨some 13, none, .bin .add false (.t 12) (.c (.int .i64 1))⟩, ⟨some 4, none, .mv (.t 13)⟩])))))) (.seq (.reg [⟨some 22, none, .mv (.t 3)⟩, ⟨some 2, none, .mv (.t 22)⟩]) .ret))))
theorem k_laws_toTableS : codeOf Tryz.prog 53 = some ⟨23, c_laws_toTableS, [(.tmp 2)]⟩ := by kernel_rfl
theorem m_laws_toTableS : modes 53 = ⟨[], .asis, none, false⟩ := by unfold modes; rfl
abbrev ToT_Table (x : Tl) : Prop := x.bulk ≤ 1048576 → E 95 [x.sv] [] = some (x.osv, x.obs)
abbrev ToTS_Table (xs : List Tl) : Prop := xs.length + Tl.sumB xs ≤ 1048576 → E 53 [.arr (xs.map Tl.d)] [] = some (.ref 0, [.row 134 4 (xs.map Tl.o)])
set_option maxHeartbeats 1000000 in
theorem toTS_Table_of (xs : List Tl) (h : ∀ x ∈ xs, ToT_Table x) : ToTS_Table xs := by
  intro hb
  refine E_walk k_laws_toTableS m_laws_toTableS (of_decide_eq_true rfl) ?_
  simp (disch := omega) only [c_laws_toTableS, go_sem, go_cond, zA, zB, zC, zD, zE, zF, zG, zH, ↓reduceIte, zI, reduceCtorEq, zJ, zK]
  refine go_loop (α := Int) (fun i => ⟨slots 23 0 [(0, .arr (xs.map Tl.d)), (3, .ref 0), (4, .int .i64 i)], [.row 134 4 (fillR Tl.o [.str ⟨#[]⟩, .int 0, .bool false, .ow []] xs i.toNat)]⟩) (fun i => ∃ k : Nat, i = k ∧ k ≤ xs.length) (fun i => xs.length - i.toNat) 0 ⟨0, rfl, Nat.zero_le _⟩ (by simp (disch := omega) only [go_sem, go_cond, zA, zB, zC, zD, zE, zF, zG, zH, ↓reduceIte, zI, reduceCtorEq, zJ, zK, fillR_zero, Int.toNat_zero]) ?_
  · rintro i ⟨k, rfl, hk⟩
    obtain ⟨i, hi⟩ : ∃ i : Int, i = (k : Int) := ⟨_, rfl⟩
    rw [← hi]
    have hn : i.toNat = k := by omega
    have hn1 : (i + 1).toNat = k + 1 := by omega
    rcases Nat.lt_or_ge k xs.length with hlt | hge
    · have hg := get_at Tl.d hlt
      rw [Tl.d_eq] at hg
      have hz := fillR_get Tl.o [.str ⟨#[]⟩, .int 0, .bool false, .ow []] hlt
      have hle := Tl.bulk_le xs k hlt
      have hc := h xs[k] (List.getElem_mem hlt) (by omega)
      have hs := fillR_set Tl.o [.str ⟨#[]⟩, .int 0, .bool false, .ow []] hlt
      rw [Tl.o_eq] at hs
      simp (disch := omega) only [go_sem, go_cond, zA, zB, zC, zD, zE, zF, zG, zH, ↓reduceIte, zI, reduceCtorEq, zJ, zK, hn, hg, hc, hz, fillR_len, m_laws_toTable, Tl.osv, Tl.obs]
      refine ⟨i + 1, ⟨k + 1, by omega, hlt⟩, by omega, ?_⟩
      simp (disch := omega) only [go_sem, go_cond, zA, zB, zC, zD, zE, zF, zG, zH, ↓reduceIte, zI, reduceCtorEq, zJ, zK, hn1, hs]
    · obtain rfl : k = xs.length := by omega
      simp (disch := omega) only [go_sem, go_cond, zA, zB, zC, zD, zE, zF, zG, zH, ↓reduceIte, zI, reduceCtorEq, zJ, zK, hn, fillR_end]
set_option maxHeartbeats 1000000 in
theorem toT_Table_of (x : Tl) (h_vals : ToTS_int x.vals) : ToT_Table x := by
  intro hb
  have qb := Tl.bulk_eq x
  replace h_vals := h_vals (by omega)
  refine E_walk k_laws_toTable m_laws_toTable (of_decide_eq_true rfl) ?_
  simp (disch := omega) only [c_laws_toTable, go_sem, go_cond, zA, zB, zC, zD, zE, zF, zG, zH, ↓reduceIte, zI, reduceCtorEq, zJ, zK, h_vals, m_laws_toIntS]
theorem toT_Table (x : Tl) : ToT_Table x := toT_Table_of x (toTS_int x.vals)
def c_laws_toInterpretation : SC := (.seq (.reg [⟨some 1, none, .boxv 43 2 (.t 0)⟩, ⟨some 2, none, .alloc 51 [(.int .i64 0), .nil]⟩]) (.seq (.reg [⟨some 3, none, .alloc 51 [(.int .i64 0), .nil]⟩]) (.seq (.reg [⟨some 4, none, .faddr 0 (.t 1)⟩, ⟨some 5, none, .load false 1 (.t 4)⟩, ⟨some 6, none, .faddr 0 (.t 3)⟩, ⟨none, none, (.store 1 (.t 6) (.t 5))⟩]) (.seq (.reg [⟨some 7, none, .faddr 1 (.t 1)⟩, ⟨some 8, none, .load false 1 (.t 7)⟩, ⟨some 9, none, .call 53 [(.t 8)]⟩, ⟨some 10, none, .faddr 1 (.t 3)⟩, ⟨none, none, (.store 1 (.t 10) (.t 9))⟩]) (.seq (.reg [⟨some 11, none, .load true 2 (.t 3)⟩, ⟨none, none, (.store 2 (.t 2) (.t 11))⟩]) .ret)))))
theorem k_laws_toInterpretation : codeOf Tryz.prog 17 = some ⟨12, c_laws_toInterpretation, [(.cell 2 true 2)]⟩ := by kernel_rfl
theorem m_laws_toInterpretation : modes 17 = ⟨[], .asis, none, false⟩ := by unfold modes; rfl
abbrev ToT_Interpretation (x : Ip) : Prop := x.bulk ≤ 1048576 → E 17 [x.sv] [] = some (x.osv, x.obs)
set_option maxHeartbeats 1000000 in
theorem toT_Interpretation_of (x : Ip) (h_tables : ToTS_Table x.tables) : ToT_Interpretation x := by
  intro hb
  have qb := Ip.bulk_eq x
  replace h_tables := h_tables (by omega)
  refine E_walk k_laws_toInterpretation m_laws_toInterpretation (of_decide_eq_true rfl) ?_
  simp (disch := omega) only [c_laws_toInterpretation, go_sem, go_cond, zA, zB, zC, zD, zE, zF, zG, zH, ↓reduceIte, zI, reduceCtorEq, zJ, zK, h_tables, m_laws_toTableS]
theorem toT_Interpretation (x : Ip) : ToT_Interpretation x := toT_Interpretation_of x (toTS_Table_of x.tables fun y hy => toT_Table y)
def c_laws_eqIntS : SC := (.seq (.reg [⟨some 4, none, .mv (.c (.bool false))⟩]) (.seq (.seq (.reg [⟨some 6, none, .mv (.t 0)⟩, ⟨some 7, none, .len false (.t 6)⟩, ⟨some 8, none, .mv (.t 1)⟩, ⟨some 9, none, .len false (.t 8)⟩, ⟨some 10, none, .bin .neq false (.t 7) (.t 9)⟩]) (.cond (.t 10) (.seq (.reg [⟨some 4, none, .mv (.c (.bool false))⟩]) .ret) .skip)) (.seq (.seq (.reg [⟨some 5, none, .mv (.c (.int .i64 0))⟩]) (.block 0 (.loop [1, 1, 0, 0, 0, 1, 0, 0, 0, 0, 0, 0, 0, 0, 0, 0, 0, 0, 0, 0, 0, 0, 0, 0, 0, 0] (.seq (.seq (.reg [⟨some 11, none, .mv (.t 5)⟩, ⟨some 12, none, .mv (.t 0)⟩, ⟨some 13, none, .len false (.t 12)⟩, ⟨some 14, none, .bin .lss false (.t 11) (.t 13)⟩]) (.cond (.t 14) .skip (.exit 0))) (.seq (.block 1 (.seq (.dreg [[], [], [0, 1], [2, 0, 1], [], [], [4, 5], [6, 4, 5], [3, 2, 0, 1, 7, 6, 4, 5]] [⟨some 17, none, .mv (.t 0)⟩, ⟨some 18, none, .mv (.t 5)⟩, ⟨some 19, none, .iaddr 1 (.t 17) (.t 18)⟩, ⟨some 20, none, .load false 1 (.t 19)⟩, ⟨some 21, none, .mv (.t 1)⟩, ⟨some 22, none, .mv (.t 5)⟩, ⟨some 23, none, .iaddr 1 (.t 21) (.t 22)⟩, ⟨some 24, none, .load false 1 (.t 23)⟩, ⟨some 25, none, .bin .neq false (.t 20) (.t 24)⟩]) (.cond (.t 25) (.seq (.reg [⟨some 4, none, .mv (.c (.bool false))⟩]) .ret) .skip))) (.reg [⟨some 15, none, .mv (.t 5)⟩, ⟨some 16, none, .bin .add false (.t 15) (.c (.int .i64 1))⟩, ⟨some 5, none, .mv (.t 16)⟩])))))) (.seq (.reg [⟨some 4, none, .mv (.c (.bool true))⟩]) .ret))))
theorem k_laws_eqIntS : codeOf Tryz.prog 154 = some ⟨26, c_laws_eqIntS, [(.tmp 4)]⟩ := by kernel_rfl
theorem m_laws_eqIntS : modes 154 = ⟨[], .asis, none, false⟩ := by unfold modes; rfl
abbrev EqTS_int (xs : List Int) : Prop := xs.length ≤ 1048576 → E 154 [.arr (xs.map (fun s => [D.int s])), .arr (xs.map (fun s => [D.int s]))] [] = some (.bool true, [])
set_option maxHeartbeats 1000000 in
theorem eqTS_int (xs : List Int) : EqTS_int xs := by
  intro hb
  refine E_walk k_laws_eqIntS m_laws_eqIntS (of_decide_eq_true rfl) ?_
  simp (disch := omega) only [c_laws_eqIntS, go_sem, go_cond, zA, zB, zC, zD, zE, zF, zG, zH, ↓reduceIte, zI, reduceCtorEq, zJ, zK]
  refine go_loop (α := Int) (fun i => ⟨slots 26 0 [(0, .arr (xs.map (fun s => [D.int s]))), (1, .arr (xs.map (fun s => [D.int s]))), (5, .int .i64 i)], []⟩) (fun i => ∃ k : Nat, i = k ∧ k ≤ xs.length) (fun i => xs.length - i.toNat) 0 ⟨0, rfl, Nat.zero_le _⟩ (by simp (disch := omega) only [go_sem, go_cond, zA, zB, zC, zD, zE, zF, zG, zH, ↓reduceIte, zI, reduceCtorEq, zJ, zK]) ?_
  · rintro i ⟨k, rfl, hk⟩
    obtain ⟨i, hi⟩ : ∃ i : Int, i = (k : Int) := ⟨_, rfl⟩
    rw [← hi]
    have hn : i.toNat = k := by omega
    rcases Nat.lt_or_ge k xs.length with hlt | hge
    · have hg := get_at (fun s => [D.int s]) hlt
      simp (disch := omega) only [go_sem, go_cond, zA, zB, zC, zD, zE, zF, zG, zH, ↓reduceIte, zI, reduceCtorEq, zJ, zK, hn, hg, dec_refl]
      refine ⟨i + 1, ⟨k + 1, by omega, hlt⟩, by omega, ?_⟩
      trivial
    · obtain rfl : k = xs.length := by omega
      simp (disch := omega) only [go_sem, go_cond, zA, zB, zC, zD, zE, zF, zG, zH, ↓reduceIte, zI, reduceCtorEq, zJ, zK, hn]
def c_laws_eqTerm : SC := (.seq (.reg [⟨some 2, none, .boxv 31 2 (.t 0)⟩, ⟨some 3, none, .boxv 31 2 (.t 1)⟩, ⟨some 4, none, .mv (.c (.bool false))⟩]) (.seq (.seq (.reg [⟨some 5, none, .faddr 0 (.t 2)⟩, ⟨some 6, none, .load false 1 (.t 5)⟩, ⟨some 7, none, .faddr 0 (.t 3)⟩, ⟨some 8, none, .load false 1 (.t 7)⟩, ⟨some 9, none, .bin .neq false (.t 6) (.t 8)⟩]) (.cond (.t 9) (.seq (.reg [⟨some 4, none, .mv (.c (.bool false))⟩]) .ret) .skip)) (.seq (.seq (.reg [⟨some 10, none, .faddr 1 (.t 2)⟩, ⟨some 11, none, .load false 1 (.t 10)⟩, ⟨some 12, none, .faddr 1 (.t 3)⟩, ⟨some 13, none, .load false 1 (.t 12)⟩, ⟨some 14, none, .call 84 [(.t 11), (.t 13)]⟩, ⟨some 15, none, .un .not (.t 14)⟩]) (.cond (.t 15) (.seq (.reg [⟨some 4, none, .mv (.c (.bool false))⟩]) .ret) .skip)) (.seq (.reg [⟨some 4, none, .mv (.c (.bool true))⟩]) .ret))))
theorem k_laws_eqTerm : codeOf Tryz.prog 42 = some ⟨16, c_laws_eqTerm, [(.tmp 4)]⟩ := by kernel_rfl
theorem m_laws_eqTerm : modes 42 = ⟨[], .asis, none, false⟩ := by unfold modes; rfl
def c_laws_eqTermS : SC := (.seq (.reg [⟨some 4, none, .mv (.c (.bool false))⟩]) (.seq (.seq (.reg [⟨some 6, none, .mv (.t 0)⟩, ⟨some 7, none, .len false (.t 6)⟩, ⟨some 8, none, .mv (.t 1)⟩, ⟨some 9, none, .len false (.t 8)⟩, ⟨some 10, none, .bin .neq false (.t 7) (.t 9)⟩]) (.cond (.t 10) (.seq (.reg [⟨some 4, none, .mv (.c (.bool false))⟩]) .ret) .skip)) (.seq (.seq (.reg [⟨some 5, none, .mv (.c (.int .i64 0))⟩]) (.block 0 (.loop [1, 1, 0, 0, 0, 1, 0, 0, 0, 0, 0, 0, 0, 0, 0, 0, 0, 0, 0, 0, 0, 0, 0, 0, 0, 0, 0] (.seq (.seq (.reg [⟨some 11, none, .mv (.t 5)⟩, ⟨some 12, none, .mv (.t 0)⟩, ⟨some 13, none, .len false (.t 12)⟩, ⟨some 14, none, .bin .lss false (.t 11) (.t 13)⟩]) (.cond (.t 14) .skip (.exit 0))) (.seq (.block 1 (.seq (.dreg [[], [], [0, 1], [2, 0, 1], [], [], [4, 5], [6, 4, 5], [3, 2, 0, 1, 7, 6, 4, 5], [8, 3, 2, 0, 1, 7, 6, 4, 5]] [⟨some 17, none, .mv (.t 0)⟩, ⟨some 18, none, .mv (.t 5)⟩, ⟨some 19, none, .iaddr 2 (.t 17) (.t 18)⟩, ⟨some 20, none, .load true 2 (.t 19)⟩, ⟨some 21, none, .mv (.t 1)⟩, ⟨some 22, none, .mv (.t 5)⟩, ⟨some 23, none, .iaddr 2 (.t 21) (.t 22)⟩, ⟨some 24, none, .load true 2 (.t 23)⟩, ⟨some 25, none, .call 42 [(.t 20), (.t 24)]⟩, ⟨some 26, none, .un .not (.t 25)⟩]) (.cond (.t 26) (.seq (.reg [⟨some 4, none, .mv (.c (.bool false))⟩]) .ret) .skip))) (.reg [⟨some 15, none, .mv (.t 5)⟩, ⟨some 16, none, .bin .add false (.t 15) (.c (.int .i64 1))⟩, ⟨some 5, none, .mv (.t 16)⟩])))))) (.seq (.reg [⟨some 4, none, .mv (.c (.bool true))⟩]) .ret))))
theorem k_laws_eqTermS : codeOf Tryz.prog 84 = some ⟨27, c_laws_eqTermS, [(.tmp 4)]⟩ := by kernel_rfl
theorem m_laws_eqTermS : modes 84 = ⟨[], .asis, none, false⟩ := by unfold modes; rfl
abbrev EqT_Term (x : Tm) : Prop := x.bulk ≤ 1048576 → E 42 [x.sv, x.sv] [] = some (.bool true, [])
abbrev EqTS_Term (xs : List Tm) : Prop := xs.length + Tm.sumB xs ≤ 1048576 → E 84 [.arr (xs.map Tm.d), .arr (xs.map Tm.d)] [] = some (.bool true, [])
set_option maxHeartbeats 1000000 in
theorem eqTS_Term_of (xs : List Tm) (h : ∀ x ∈ xs, EqT_Term x) : EqTS_Term xs := by
  intro hb
  refine E_walk k_laws_eqTermS m_laws_eqTermS (of_decide_eq_true rfl) ?_
  simp (disch := omega) only [c_laws_eqTermS, go_sem, go_cond, zA, zB, zC, zD, zE, zF, zG, zH, ↓reduceIte, zI, reduceCtorEq, zJ, zK]
  refine go_loop (α := Int) (fun i => ⟨slots 27 0 [(0, .arr (xs.map Tm.d)), (1, .arr (xs.map Tm.d)), (5, .int .i64 i)], []⟩) (fun i => ∃ k : Nat, i = k ∧ k ≤ xs.length) (fun i => xs.length - i.toNat) 0 ⟨0, rfl, Nat.zero_le _⟩ (by simp (disch := omega) only [go_sem, go_cond, zA, zB, zC, zD, zE, zF, zG, zH, ↓reduceIte, zI, reduceCtorEq, zJ, zK]) ?_
  · rintro i ⟨k, rfl, hk⟩
    obtain ⟨i, hi⟩ : ∃ i : Int, i = (k : Int) := ⟨_, rfl⟩
    rw [← hi]
    have hn : i.toNat = k := by omega
    rcases Nat.lt_or_ge k xs.length with hlt | hge
    · have hg := get_at Tm.d hlt
      rw [Tm.d_eq] at hg
      have hle := Tm.bulk_le xs k hlt
      have hc := h xs[k] (List.getElem_mem hlt) (by omega)
      simp (disch := omega) only [go_sem, go_cond, zA, zB, zC, zD, zE, zF, zG, zH, ↓reduceIte, zI, reduceCtorEq, zJ, zK, hn, hg, hc, m_laws_eqTerm]
      refine ⟨i + 1, ⟨k + 1, by omega, hlt⟩, by omega, ?_⟩
      trivial
    · obtain rfl : k = xs.length := by omega
      simp (disch := omega) only [go_sem, go_cond, zA, zB, zC, zD, zE, zF, zG, zH, ↓reduceIte, zI, reduceCtorEq, zJ, zK, hn]
set_option maxHeartbeats 1000000 in
theorem eqT_Term_of (x : Tm) (h_args : EqTS_Term x.args) : EqT_Term x := by
  intro hb
  have qb := Tm.bulk_eq x
  replace h_args := h_args (by omega)
  refine E_walk k_laws_eqTerm m_laws_eqTerm (of_decide_eq_true rfl) ?_
  simp (disch := omega) only [c_laws_eqTerm, go_sem, go_cond, zA, zB, zC, zD, zE, zF, zG, zH, ↓reduceIte, zI, reduceCtorEq, zJ, zK, h_args, m_laws_eqTermS, dec_refl]
theorem eqT_Term (x : Tm) : EqT_Term x := eqT_Term_of x (eqTS_Term_of x.args fun y hy => eqT_Term y)
termination_by SizeOf.sizeOf x
decreasing_by exact Tm.lt_of_mem hy
def c_laws_eqLiteral : SC := (.seq (.reg [⟨some 2, none, .boxv 111 3 (.t 0)⟩, ⟨some 3, none, .boxv 111 3 (.t 1)⟩, ⟨some 4, none, .mv (.c (.bool false))⟩]) (.seq (.seq (.reg [⟨some 5, none, .faddr 0 (.t 2)⟩, ⟨some 6, none, .load false 1 (.t 5)⟩, ⟨some 7, none, .faddr 0 (.t 3)⟩, ⟨some 8, none, .load false 1 (.t 7)⟩, ⟨some 9, none, .bin .neq true (.t 6) (.t 8)⟩]) (.cond (.t 9) (.seq (.reg [⟨some 4, none, .mv (.c (.bool false))⟩]) .ret) .skip)) (.seq (.seq (.reg [⟨some 10, none, .faddr 1 (.t 2)⟩, ⟨some 11, none, .load true 2 (.t 10)⟩, ⟨some 12, none, .faddr 1 (.t 3)⟩, ⟨some 13, none, .load true 2 (.t 12)⟩, ⟨some 14, none, .call 42 [(.t 11), (.t 13)]⟩, ⟨some 15, none, .un .not (.t 14)⟩]) (.cond (.t 15) (.seq (.reg [⟨some 4, none, .mv (.c (.bool false))⟩]) .ret) .skip)) (.seq (.reg [⟨some 4, none, .mv (.c (.bool true))⟩]) .ret))))
theorem k_laws_eqLiteral : codeOf Tryz.prog 125 = some ⟨16, c_laws_eqLiteral, [(.tmp 4)]⟩ := by kernel_rfl
theorem m_laws_eqLiteral : modes 125 = ⟨[], .asis, none, false⟩ := by unfold modes; rfl
def c_laws_eqLiteralS : SC := (.seq (.reg [⟨some 4, none, .mv (.c (.bool false))⟩]) (.seq (.seq (.reg [⟨some 6, none, .mv (.t 0)⟩, ⟨some 7, none, .len false (.t 6)⟩, ⟨some 8, none, .mv (.t 1)⟩, ⟨some 9, none, .len false (.t 8)⟩, ⟨some 10, none, .bin .neq false (.t 7) (.t 9)⟩]) (.cond (.t 10) (.seq (.reg [⟨some 4, none, .mv (.c (.bool false))⟩]) .ret) .skip)) (.seq (.seq (.reg [⟨some 5, none, .mv (.c (.int .i64 0))⟩]) (.block 0 (.loop [1, 1, 0, 0, 0, 1, 0, 0, 0, 0, 0, 0, 0, 0, 0, 0, 0, 0, 0, 0, 0, 0, 0, 0, 0, 0, 0] (.seq (.seq (.reg [⟨some 11, none, .mv (.t 5)⟩, ⟨some 12, none, .mv (.t 0)⟩, ⟨some 13, none, .len false (.t 12)⟩, ⟨some 14, none, .bin .lss false (.t 11) (.t 13)⟩]) (.cond (.t 14) .skip (.exit 0))) (.seq (.block 1 (.seq (.dreg [[], [], [0, 1], [2, 0, 1], [], [], [4, 5], [6, 4, 5], [3, 2, 0, 1, 7, 6, 4, 5], [8, 3, 2, 0, 1, 7, 6, 4, 5]] [⟨some 17, none, .mv (.t 0)⟩, ⟨some 18, none, .mv (.t 5)⟩, ⟨some 19, none, .iaddr 3 (.t 17) (.t 18)⟩, ⟨some 20, none, .load true 3 (.t 19)⟩, ⟨some 21, none, .mv (.t 1)⟩, ⟨some 22, none, .mv (.t 5)⟩, ⟨some 23, none, .iaddr 3 (.t 21) (.t 22)⟩, ⟨some 24, none, .load true 3 (.t 23)⟩, ⟨some 25, none, .call 125 [(.t 20), (.t 24)]⟩, ⟨some 26, none, .un .not (.t 25)⟩]) (.cond (.t 26) (.seq (.reg [⟨some 4, none, .mv (.c (.bool false))⟩]) .ret) .skip))) (.reg [⟨some 15, none, .mv (.t 5)⟩, ⟨some 16, none, .bin .add false (.t 15) (.c (.int .i64 1))⟩, ⟨some 5, none, .mv (.t 16)⟩])))))) (.seq (.reg [⟨some 4, none, .mv (.c (.bool true))⟩]) .ret))))
theorem k_laws_eqLiteralS : codeOf Tryz.prog 70 = some ⟨27, c_laws_eqLiteralS, [(.tmp 4)]⟩ := by kernel_rfl
theorem m_laws_eqLiteralS : modes 70 = ⟨[], .asis, none, false⟩ := by unfold modes; rfl
abbrev EqT_Literal (x : Lt) : Prop := x.bulk ≤ 1048576 → E 125 [x.sv, x.sv] [] = some (.bool true, [])
abbrev EqTS_Literal (xs : List Lt) : Prop := xs.length + Lt.sumB xs ≤ 1048576 → E 70 [.arr (xs.map Lt.d), .arr (xs.map Lt.d)] [] = some (.bool true, [])
set_option maxHeartbeats 1000000 in
theorem eqTS_Literal_of (xs : List Lt) (h : ∀ x ∈ xs, EqT_Literal x) : EqTS_Literal xs := by
  intro hb
  refine E_walk k_laws_eqLiteralS m_laws_eqLiteralS (of_decide_eq_true rfl) ?_
  simp (disch := omega) only [c_laws_eqLiteralS, go_sem, go_cond, zA, zB, zC, zD, zE, zF, zG, zH, ↓reduceIte, zI, reduceCtorEq, zJ, zK]
  refine go_loop (α := Int) (fun i => ⟨slots 27 0 [(0, .arr (xs.map Lt.d)), (1, .arr (xs.map Lt.d)), (5, .int .i64 i)], []⟩) (fun i => ∃ k : Nat, i = k ∧ k ≤ xs.length) (fun i => xs.length - i.toNat) 0 ⟨0, rfl, Nat.zero_le _⟩ (by simp (disch := omega) only [go_sem, go_cond, zA, zB, zC, zD, zE, zF, zG, zH, ↓reduceIte, zI, reduceCtorEq, zJ, zK]) ?_
  · rintro i ⟨k, rfl, hk⟩
    obtain ⟨i, hi⟩ : ∃ i : Int, i = (k : Int) := ⟨_, rfl⟩
    rw [← hi]
    have hn : i.toNat = k := by omega
    rcases Nat.lt_or_ge k xs.length with hlt | hge
    · have hg := get_at Lt.d hlt
      rw [Lt.d_eq] at hg
      have hle := Lt.bulk_le xs k hlt
      have hc := h xs[k] (List.getElem_mem hlt) (by omega)
      simp (disch := omega) only [go_sem, go_cond, zA, zB, zC, zD, zE, zF, zG, zH, ↓reduceIte, zI, reduceCtorEq, zJ, zK, hn, hg, hc, m_laws_eqLiteral]
      refine ⟨i + 1, ⟨k + 1, by omega, hlt⟩, by omega, ?_⟩
      trivial
    · obtain rfl : k = xs.length := by omega
      simp (disch := omega) only [go_sem, go_cond, zA, zB, zC, zD, zE, zF, zG, zH, ↓reduceIte, zI, reduceCtorEq, zJ, zK, hn]
set_option maxHeartbeats 1000000 in
theorem eqT_Literal_of (x : Lt) (h_atom : EqT_Term x.atom) : EqT_Literal x := by
  intro hb
  have qb := Lt.bulk_eq x
  replace h_atom := h_atom (by omega)
  refine E_walk k_laws_eqLiteral m_laws_eqLiteral (of_decide_eq_true rfl) ?_
  simp (disch := omega) only [c_laws_eqLiteral, go_sem, go_cond, zA, zB, zC, zD, zE, zF, zG, zH, ↓reduceIte, zI, reduceCtorEq, zJ, zK, h_atom, m_laws_eqTerm, dec_refl]
theorem eqT_Literal (x : Lt) : EqT_Literal x := eqT_Literal_of x (eqT_Term x.atom)
def c_laws_eqClause : SC := (.seq (.reg [⟨some 2, none, .boxv 72 1 (.t 0)⟩, ⟨some 3, none, .boxv 72 1 (.t 1)⟩, ⟨some 4, none, .mv (.c (.bool false))⟩]) (.seq (.seq (.reg [⟨some 5, none, .faddr 0 (.t 2)⟩, ⟨some 6, none, .load false 1 (.t 5)⟩, ⟨some 7, none, .faddr 0 (.t 3)⟩, ⟨some 8, none, .load false 1 (.t 7)⟩, ⟨some 9, none, .call 70 [(.t 6), (.t 8)]⟩, ⟨some 10, none, .un .not (.t 9)⟩]) (.cond (.t 10) (.seq (.reg [⟨some 4, none, .mv (.c (.bool false))⟩]) .ret) .skip)) (.seq (.reg [⟨some 4, none, .mv (.c (.bool true))⟩]) .ret)))
theorem k_laws_eqClause : codeOf Tryz.prog 31 = some ⟨11, c_laws_eqClause, [(.tmp 4)]⟩ := by kernel_rfl
theorem m_laws_eqClause : modes 31 = ⟨[], .asis, none, false⟩ := by unfold modes; rfl
def c_laws_eqClauseS : SC := (.seq (.reg [⟨some 4, none, .mv (.c (.bool false))⟩]) (.seq (.seq (.reg [⟨some 6, none, .mv (.t 0)⟩, ⟨some 7, none, .len false (.t 6)⟩, ⟨some 8, none, .mv (.t 1)⟩, ⟨some 9, none, .len false (.t 8)⟩, ⟨some 10, none, .bin .neq false (.t 7) (.t 9)⟩]) (.cond (.t 10) (.seq (.reg [⟨some 4, none, .mv (.c (.bool false))⟩]) .ret) .skip)) (.seq (.seq (.reg [⟨some 5, none, .mv (.c (.int .i64 0))⟩]) (.block 0 (.loop [1, 1, 0, 0, 0, 1, 0, 0, 0, 0, 0, 0, 0, 0, 0, 0, 0, 0, 0, 0, 0, 0, 0, 0, 0, 0, 0] (.seq (.seq (.reg [⟨some 11, none, .mv (.t 5)⟩, ⟨some 12, none, .mv (.t 0)⟩, ⟨some 13, none, .len false (.t 12)⟩, ⟨some 14, none, .bin .lss false (.t 11) (.t 13)⟩]) (.cond (.t 14) .skip (.exit 0))) (.seq (.block 1 (.seq (.dreg [[], [], [0, 1], [2, 0, 1], [], [], [4, 5], [6, 4, 5], [3, 2, 0, 1, 7, 6, 4, 5], [8, 3, 2, 0, 1, 7, 6, 4, 5]] [⟨some 17, none, .mv (.t 0)⟩, ⟨some 18, none, .mv (.t 5)⟩, ⟨some 19, none, .iaddr 1 (.t 17) (.t 18)⟩, ⟨some 20, none, .load true 1 (.t 19)⟩, ⟨some 21, none, .mv (.t 1)⟩, ⟨some 22, none, .mv (.t 5)⟩, ⟨some 23, none, .iaddr 1 (.t 21) (.t 22)⟩, ⟨some 24, none, .load true 1 (.t 23)⟩, ⟨some 25, none, .call 31 [(.t 20), (.t 24)]⟩, ⟨some 26, none, .un .not (.t 25)⟩]) (.cond (.t 26) (.seq (.reg [⟨some 4, none, .mv (.c (.bool false))⟩]) .ret) .skip))) (.reg [⟨some 15, none, .mv (.t 5)⟩, ⟨some 16, none, .bin .add false (.t 15) (.c (.int .i64 1))⟩, ⟨some 5, none, .mv (.t 16)⟩])))))) (.seq (.reg [⟨some 4, none, .mv (.c (.bool true))⟩]) .ret))))
theorem k_laws_eqClauseS : codeOf Tryz.prog 26 = some ⟨27, c_laws_eqClauseS, [(.tmp 4)]⟩ := by kernel_rfl
theorem m_laws_eqClauseS : modes 26 = ⟨[], .asis, none, false⟩ := by unfold modes; rfl
abbrev EqT_Clause (x : Cl) : Prop := x.bulk ≤ 1048576 → E 31 [x.sv, x.sv] [] = some (.bool true, [])
abbrev EqTS_Clause (xs : List Cl) : Prop := xs.length + Cl.sumB xs ≤ 1048576 → E 26 [.arr (xs.map Cl.d), .arr (xs.map Cl.d)] [] = some (.bool true, [])
set_option maxHeartbeats 1000000 in
theorem eqTS_Clause_of (xs : List Cl) (h : ∀ x ∈ xs, EqT_Clause x) : EqTS_Clause xs := by
  intro hb
  refine E_walk k_laws_eqClauseS m_laws_eqClauseS (of_decide_eq_true rfl) ?_
  simp (disch := omega) only [c_laws_eqClauseS, go_sem, go_cond, zA, zB, zC, zD, zE, zF, zG, zH, ↓reduceIte, zI, reduceCtorEq, zJ, zK]
  refine go_loop (α := Int) (fun i => ⟨slots 27 0 [(0, .arr (xs.map Cl.d)), (1, .arr (xs.map Cl.d)), (5, .int .i64 i)], []⟩) (fun i => ∃ k : Nat, i = k ∧ k ≤ xs.length) (fun i => xs.length - i.toNat) 0 ⟨0, rfl, Nat.zero_le _⟩ (by simp (disch := omega) only [go_sem, go_cond, zA, zB, zC, zD, zE, zF, zG, zH, ↓reduceIte, zI, reduceCtorEq, zJ, zK]) ?_
  · rintro i ⟨k, rfl, hk⟩
    obtain ⟨i, hi⟩ : ∃ i : Int, i = (k : Int) := ⟨_, rfl⟩
    rw [← hi]
    have hn : i.toNat = k := by omega
    rcases Nat.lt_or_ge k xs.length with hlt | hge
    · have hg := get_at Cl.d hlt
      rw [Cl.d_eq] at hg
      have hle := Cl.bulk_le xs k hlt
      have hc := h xs[k] (List.getElem_mem hlt) (by omega)
      simp (disch := omega) only [go_sem, go_cond, zA, zB, zC, zD, zE, zF, zG, zH, ↓reduceIte, zI, reduceCtorEq, zJ, zK, hn, hg, hc, m_laws_eqClause]
      refine ⟨i + 1, ⟨k + 1, by omega, hlt⟩, by omega, ?_⟩
      trivial
    · obtain rfl : k = xs.length := by omega
      simp (disch := omega) only [go_sem, go_cond, zA, zB, zC, zD, zE, zF, zG, zH, ↓reduceIte, zI, reduceCtorEq, zJ, zK, hn]
set_option maxHeartbeats 1000000 in
theorem eqT_Clause_of (x : Cl) (h_lits : EqTS_Literal x.lits) : EqT_Clause x := by
  intro hb
  have qb := Cl.bulk_eq x
  replace h_lits := h_lits (by omega)
  refine E_walk k_laws_eqClause m_laws_eqClause (of_decide_eq_true rfl) ?_
  simp (disch := omega) only [c_laws_eqClause, go_sem, go_cond, zA, zB, zC, zD, zE, zF, zG, zH, ↓reduceIte, zI, reduceCtorEq, zJ, zK, h_lits, m_laws_eqLiteralS, dec_refl]
theorem eqT_Clause (x : Cl) : EqT_Clause x := eqT_Clause_of x (eqTS_Literal_of x.lits fun y hy => eqT_Literal y)
theorem eqTS_Clause (xs : List Cl) : EqTS_Clause xs := eqTS_Clause_of xs fun x _ => eqT_Clause x
def c_laws_eqTable : SC := (.seq (.reg [⟨some 2, none, .boxv 134 4 (.t 0)⟩, ⟨some 3, none, .boxv 134 4 (.t 1)⟩, ⟨some 4, none, .mv (.c (.bool false))⟩]) (.seq (.seq (.reg [⟨some 5, none, .faddr 0 (.t 2)⟩, ⟨some 6, none, .load false 1 (.t 5)⟩, ⟨some 7, none, .faddr 0 (.t 3)⟩, ⟨some 8, none, .load false 1 (.t 7)⟩, ⟨some 9, none, .bin .neq false (.t 6) (.t 8)⟩]) (.cond (.t 9) (.seq (.reg [⟨some 4, none, .mv (.c (.bool false))⟩]) .ret) .skip)) (.seq (.seq (.reg [⟨some 10, none, .faddr 1 (.t 2)⟩, ⟨some 11, none, .load false 1 (.t 10)⟩, ⟨some 12, none, .faddr 1 (.t 3)⟩, ⟨some 13, none, .load false 1 (.t 12)⟩, ⟨some 14, none, .bin .neq false (.t 11) (.t 13)⟩]) (.cond (.t 14) (.seq (.reg [⟨some 4, none, .mv (.c (.bool false))⟩]) .ret) .skip)) (.seq (.seq (.reg [⟨some 15, none, .faddr 2 (.t 2)⟩, ⟨some 16, none, .load false 1 (.t 15)⟩, ⟨some 17, none, .faddr 2 (.t 3)⟩, ⟨some 18, none, .load false 1 (.t 17)⟩, ⟨some 19, none, .bin .neq true (.t 16) (.t 18)⟩]) (.cond (.t 19) (.seq (.reg [⟨some 4, none, .mv (.c (.bool false))⟩]) .ret) .skip)) (.seq (.seq (.reg [⟨some 20, none, .faddr 3 (.t 2)⟩, ⟨some 21, none, .load false 1 (.t 20)⟩, ⟨some 22, none, .faddr 3 (.t 3)⟩, ⟨some 23, none, .load false 1 (.t 22)⟩, ⟨some 24, none, .call 154 [(.t 21), (.t 23)]⟩, ⟨some 25, none, .un .not (.t 24)⟩]) (.cond (.t 25) (.seq (.reg [⟨some 4, none, .mv (.c (.bool false))⟩]) .ret) .skip)) (.seq (.reg [⟨some 4, none, .mv (.c (.bool true))⟩]) .ret))))))
theorem k_laws_eqTable : codeOf Tryz.prog 111 = some ⟨26, c_laws_eqTable, [(.tmp 4)]⟩ := by kernel_rfl
theorem m_laws_eqTable : modes 111 = ⟨[], .asis, none, false⟩ := by unfold modes; rfl
def c_laws_eqTableS : SC := (.seq (.reg [⟨some 4, none, .mv (.c (.bool false))⟩]) (.seq (.seq (.reg [⟨some 6, none, .mv (.t 0)⟩, ⟨some 7, none, .len false (.t 6)⟩, ⟨some 8, none, .mv (.t 1)⟩, ⟨some 9, none, .len false (.t 8)⟩, ⟨some 10, none, .bin .neq false (.t 7) (.t 9)⟩]) (.cond (.t 10) (.seq (.reg [⟨some 4, none, .mv (.c (.bool false))⟩]) .ret) .skip)) (.seq (.seq (.reg [⟨some 5, none, .mv (.c (.int .i64 0))⟩]) (.block 0 (.loop [1, 1, 0, 0, 0, 1, 0, 0, 0, 0, 0, 0, 0, 0, 0, 0, 0, 0, 0, 0, 0, 0, 0, 0, 0, 0, 0] (.seq (.seq (.reg [⟨some 11, none, .mv (.t 5)⟩, ⟨some 12, none, .mv (.t 0)⟩, ⟨some 13, none, .len false (.t 12)⟩, ⟨some 14, none, .bin .lss false (.t 11) (.t 13)⟩]) (.cond (.t 14) .skip (.exit 0))) (.seq (.block 1 (.seq (.dreg [[], [], [0, 1], [2, 0, 1], [], [], [4, 5], [6, 4, 5], [3, 2, 0, 1, 7, 6, 4, 5], [8, 3, 2, 0, 1, 7, 6, 4, 5]] [⟨some 17, none, .mv (.t 0)⟩, ⟨some 18, none, .mv (.t 5)⟩, ⟨some 19, none, .iaddr 4 (.t 17) (.t 18)⟩, ⟨some 20, none, .load true 4 (.t 19)⟩, ⟨some 21, none, .mv (.t 1)⟩, ⟨some 22, none, .mv (.t 5)⟩, ⟨some 23, none, .iaddr 4 (.t 21) (.t 22)⟩, ⟨some 24, none, .load true 4 (.t 23)⟩, ⟨some 25, none, .call 111 [(.t 20), (.t 24)]⟩, ⟨some 26, none, .un .not (.t 25)⟩]) (.cond (.t 26) (.seq (.reg [⟨some 4, none, .mv (.c (.bool false))⟩]) .ret) .skip))) (.reg [⟨some 15, none, .mv (.t 5)⟩, ⟨some 16, none, .bin .add false (.t 15) (.c (.int .i64 1))⟩, ⟨some 5, none, .mv (.t 16)⟩])))))) (.seq (.reg [⟨some 4, none, .mv (.c (.bool true))⟩]) .ret))))
theorem k_laws_eqTableS : codeOf Tryz.prog 59 = some ⟨27, c_laws_eqTableS, [(.tmp 4)]⟩ := by kernel_rfl
theorem m_laws_eqTableS : modes 59 = ⟨[], .asis, none, false⟩ := by unfold modes; rfl
abbrev EqT_Table (x : Tl) : Prop := x.bulk ≤ 1048576 → E 111 [x.sv, x.sv] [] = some (.bool true, [])
abbrev EqTS_Table (xs : List Tl) : Prop := xs.length + Tl.sumB xs ≤ 1048576 → E 59 [.arr (xs.map Tl.d), .arr (xs.map Tl.d)] [] = some (.bool true, [])
set_option maxHeartbeats 1000000 in
theorem eqTS_Table_of (xs : List Tl) (h : ∀ x ∈ xs, EqT_Table x) : EqTS_Table xs := by
  intro hb
  refine E_walk k_laws_eqTableS m_laws_eqTableS (of_decide_eq_true rfl) ?_
  simp (disch := omega) only [c_laws_eqTableS, go_sem, go_cond, zA, zB, zC, zD, zE, zF, zG, zH, ↓reduceIte, zI, reduceCtorEq, zJ, zK]
  refine go_loop (α := Int) (fun i => ⟨slots 27 0 [(0, .arr (xs.map Tl.d)), (1, .arr (xs.map Tl.d)), (5, .int .i64 i)], []⟩) (fun i => ∃ k : Nat, i = k ∧ k ≤ xs.length) (fun i => xs.length - i.toNat) 0 ⟨0, rfl, Nat.zero_le _⟩ (by simp (disch := omega) only [go_sem, go_cond, zA, zB, zC, zD, zE, zF, zG, zH, ↓reduceIte, zI, reduceCtorEq, zJ, zK]) ?_
  · rintro i ⟨k, rfl, hk⟩
    obtain ⟨i, hi⟩ : ∃ i : Int, i = (k : Int) := ⟨_, rfl⟩
    rw [← hi]
    have hn : i.toNat = k := by omega
    rcases Nat.lt_or_ge k xs.length with hlt | hge
    · have hg := get_at Tl.d hlt
      rw [Tl.d_eq] at hg
      have hle := Tl.bulk_le xs k hlt
      have hc := h xs[k] (List.getElem_mem hlt) (by omega)
      simp (disch := omega) only [go_sem, go_cond, zA, zB, zC, zD, zE, zF, zG, zH, ↓reduceIte, zI, reduceCtorEq, zJ, zK, hn, hg, hc, m_laws_eqTable]
      refine ⟨i + 1, ⟨k + 1, by omega, hlt⟩, by omega, ?_⟩
      trivial
    · obtain rfl : k = xs.length := by omega
      simp (disch := omega) only [go_sem, go_cond, zA, zB, zC, zD, zE, zF, zG, zH, ↓reduceIte, zI, reduceCtorEq, zJ, zK, hn]
set_option maxHeartbeats 1000000 in
theorem eqT_Table_of (x : Tl) (h_vals : EqTS_int x.vals) : EqT_Table x := by
  intro hb
  have qb := Tl.bulk_eq x
  replace h_vals := h_vals (by omega)
  refine E_walk k_laws_eqTable m_laws_eqTable (of_decide_eq_true rfl) ?_
  simp (disch := omega) only [c_laws_eqTable, go_sem, go_cond, zA, zB, zC, zD, zE, zF, zG, zH, ↓reduceIte, zI, reduceCtorEq, zJ, zK, h_vals, m_laws_eqIntS, dec_refl]
theorem eqT_Table (x : Tl) : EqT_Table x := eqT_Table_of x (eqTS_int x.vals)
def c_laws_eqInterpretation : SC := (.seq (.reg [⟨some 2, none, .boxv 51 2 (.t 0)⟩, ⟨some 3, none, .boxv 51 2 (.t 1)⟩, ⟨some 4, none, .mv (.c (.bool false))⟩]) (.seq (.seq (.reg [⟨some 5, none, .faddr 0 (.t 2)⟩, ⟨some 6, none, .load false 1 (.t 5)⟩, ⟨some 7, none, .faddr 0 (.t 3)⟩, ⟨some 8, none, .load false 1 (.t 7)⟩, ⟨some 9, none, .bin .neq false (.t 6) (.t 8)⟩]) (.cond (.t 9) (.seq (.reg [⟨some 4, none, .mv (.c (.bool false))⟩]) .ret) .skip)) (.seq (.seq (.reg [⟨some 10, none, .faddr 1 (.t 2)⟩, ⟨some 11, none, .load false 1 (.t 10)⟩, ⟨some 12, none, .faddr 1 (.t 3)⟩, ⟨some 13, none, .load false 1 (.t 12)⟩, ⟨some 14, none, .call 59 [(.t 11), (.t 13)]⟩, ⟨some 15, none, .un .not (.t 14)⟩]) (.cond (.t 15) (.seq (.reg [⟨some 4, none, .mv (.c (.bool false))⟩]) .ret) .skip)) (.seq (.reg [⟨some 4, none, .mv (.c (.bool true))⟩]) .ret))))
theorem k_laws_eqInterpretation : codeOf Tryz.prog 20 = some ⟨16, c_laws_eqInterpretation, [(.tmp 4)]⟩ := by kernel_rfl
theorem m_laws_eqInterpretation : modes 20 = ⟨[], .asis, none, false⟩ := by unfold modes; rfl
abbrev EqT_Interpretation (x : Ip) : Prop := x.bulk ≤ 1048576 → E 20 [x.sv, x.sv] [] = some (.bool true, [])
set_option maxHeartbeats 1000000 in
theorem eqT_Interpretation_of (x : Ip) (h_tables : EqTS_Table x.tables) : EqT_Interpretation x := by
  intro hb
  have qb := Ip.bulk_eq x
  replace h_tables := h_tables (by omega)
  refine E_walk k_laws_eqInterpretation m_laws_eqInterpretation (of_decide_eq_true rfl) ?_
  simp (disch := omega) only [c_laws_eqInterpretation, go_sem, go_cond, zA, zB, zC, zD, zE, zF, zG, zH, ↓reduceIte, zI, reduceCtorEq, zJ, zK, h_tables, m_laws_eqTableS, dec_refl]
theorem eqT_Interpretation (x : Ip) : EqT_Interpretation x := eqT_Interpretation_of x (eqTS_Table_of x.tables fun y hy => eqT_Table y)
theorem Ip.bulk_tame (m : Ip) (hb : m.bulk ≤ 1048576) : m.tame := by
  rw [Ip.bulk_eq] at hb
  refine ⟨by omega, fun t ht => ?_⟩
  obtain ⟨k, hk, rfl⟩ := List.getElem_of_mem ht
  have h1 := Tl.bulk_le m.tables k hk
  rw [Tl.bulk_eq] at h1
  omega
def c_laws_FnExactSatisfiesAll : SC := (.seq (.reg [⟨some 2, none, .boxv 43 2 (.t 0)⟩, ⟨some 4, none, .mv (.c (.bool false))⟩]) (.seq (.reg [⟨some 5, none, .mv (.c (.int .i64 1048576))⟩]) (.seq (.reg [⟨some 12, none, .load true 2 (.t 2)⟩, ⟨some 13, none, .mv (.t 5)⟩, ⟨some 14, none, .call 14 [(.t 12), (.t 13)]⟩, ⟨some 5, none, .mv (.t 14)⟩]) (.seq (.seq (.reg [⟨some 15, none, .mv (.t 5)⟩, ⟨some 16, none, .bin .lss false (.t 15) (.c (.int .i64 0))⟩]) (.cond (.t 16) (.seq (.reg [⟨some 4, none, .mv (.c (.bool true))⟩]) .ret) .skip)) (.seq (.reg [⟨some 17, none, .mv (.t 1)⟩, ⟨some 18, none, .mv (.t 5)⟩, ⟨some 19, none, .call 22 [(.t 17), (.t 18)]⟩, ⟨some 5, none, .mv (.t 19)⟩]) (.seq (.seq (.reg [⟨some 20, none, .mv (.t 5)⟩, ⟨some 21, none, .bin .lss false (.t 20) (.c (.int .i64 0))⟩]) (.cond (.t 21) (.seq (.reg [⟨some 4, none, .mv (.c (.bool true))⟩]) .ret) .skip)) (.seq (.reg [⟨some 23, none, .load true 2 (.t 2)⟩, ⟨some 24, none, .call 17 [(.t 23)]⟩, ⟨some 25, none, .mv (.t 1)⟩, ⟨some 26, none, .call 24 [(.t 25)]⟩, ⟨some 27, none, .call 23 [(.t 24), (.t 26)]⟩, ⟨some 22, none, .mv (.t 27)⟩, ⟨some 28, none, .ext (.t 22) 0⟩, ⟨some 29, none, .ext (.t 22) 1⟩, ⟨some 6, none, .mv (.t 28)⟩, ⟨some 7, none, .mv (.t 29)⟩]) (.seq (.reg [⟨some 30, none, .load true 2 (.t 2)⟩, ⟨some 31, none, .call 17 [(.t 30)]⟩, ⟨some 8, none, .alloc 51 [(.int .i64 0), .nil]⟩, ⟨none, none, (.store 2 (.t 8) (.t 31))⟩]) (.seq (.reg [⟨some 32, none, .mv (.t 1)⟩, ⟨some 33, none, .call 24 [(.t 32)]⟩, ⟨some 9, none, .mv (.t 33)⟩]) (.seq (.reg [⟨some 35, none, .load true 2 (.t 8)⟩, ⟨some 36, none, .mv (.t 9)⟩, ⟨some 37, none, .call 25 [(.t 35), (.t 36)]⟩, ⟨some 34, none, .mv (.t 37)⟩, ⟨some 38, none, .ext (.t 34) 0⟩, ⟨some 39, none, .ext (.t 34) 1⟩, ⟨some 10, none, .mv (.t 38)⟩, ⟨some 11, none, .mv (.t 39)⟩]) (.seq (.seq (.reg [⟨some 40, none, .mv (.t 10)⟩, ⟨some 41, none, .mv (.t 6)⟩, ⟨some 42, none, .bin .neq true (.t 40) (.t 41)⟩, ⟨some 43, none, .mv (.t 42)⟩, ⟨(some 44), (some (43, false)), (.mv (.t 11))⟩, ⟨(some 45), (some (43, false)), (.mv (.t 7))⟩, ⟨(some 46), (some (43, false)), (.bin .neq true (.t 44) (.t 45))⟩, ⟨some 47, none, .pick (.t 43) (.c (.bool true)) (.t 46)⟩]) (.cond (.t 47) (.seq (.reg [⟨some 4, none, .mv (.c (.bool false))⟩]) .ret) .skip)) (.seq (.seq (.dreg [[], [], [1], [0, 2, 1], [3, 0, 2, 1]] [⟨some 48, none, .load true 2 (.t 8)⟩, ⟨some 49, none, .load true 2 (.t 2)⟩, ⟨some 50, none, .call 17 [(.t 49)]⟩, ⟨some 51, none, .call 20 [(.t 48), (.t 50)]⟩, ⟨some 52, none, .un .not (.t 51)⟩]) (.cond (.t 52) (.seq (.reg [⟨some 4, none, .mv (.c (.bool false))⟩]) .ret) .skip)) (.seq (.seq (.reg [⟨some 53, none, .mv (.t 9)⟩, ⟨some 54, none, .mv (.t 1)⟩, ⟨some 55, none, .call 24 [(.t 54)]⟩, ⟨some 56, none, .call 26 [(.t 53), (.t 55)]⟩, ⟨some 57, none, .un .not (.t 56)⟩]) (.cond (.t 57) (.seq (.reg [⟨some 4, none, .mv (.c (.bool false))⟩]) .ret) .skip)) (.seq (.reg [⟨some 4, none, .mv (.c (.bool true))⟩]) .ret))))))))))))))
theorem k_laws_FnExactSatisfiesAll : codeOf Tryz.prog 5 = some ⟨58, c_laws_FnExactSatisfiesAll, [(.tmp 4)]⟩ := by kernel_rfl
theorem m_laws_FnExactSatisfiesAll : modes 5 = ⟨[], .asis, none, false⟩ := by unfold modes; rfl
theorem Cl.bulk_tame (x : Cl) (h : x.bulk ≤ 1048576) : x.tame := by
  rw [Cl.bulk_eq] at h
  refine ⟨by omega, fun y hy => ?_⟩
  obtain ⟨k, hk, rfl⟩ := List.getElem_of_mem hy
  have h1 := Lt.bulk_le x.lits k hk
  have h2 := Tm.nodes_bulk x.lits[k].atom
  rw [Lt.bulk_eq] at h1
  omega
theorem Cl.tame_list {cs : List Cl} (h : cs.length + Cl.sumB cs ≤ 1048576) : ∀ c ∈ cs, c.tame := fun c hc => by
  obtain ⟨k, hk, rfl⟩ := List.getElem_of_mem hc
  have h1 := Cl.bulk_le cs k hk
  exact Cl.bulk_tame _ (by omega)
set_option maxHeartbeats 8000000 in
theorem law35_E (m : Ip) (cs : List Cl) (hfm : D.fits m.d) (hfcs : D.fit (.arr (cs.map Cl.d))) : E 5 [m.sv, .arr (cs.map Cl.d)] [] = some (.bool true, []) := by
  have s0 := szT_Interpretation m hfm 1048576 (by omega) (by omega)
  have q0 := szR_spec 1048576 m.bulk
  obtain ⟨l0, hl0⟩ : ∃ l, l = szR 1048576 (m.bulk : Nat) := ⟨_, rfl⟩
  rw [← hl0] at s0 q0
  rcases Int.lt_or_le l0 0 with h0 | h0_0
  · refine E_walk k_laws_FnExactSatisfiesAll m_laws_FnExactSatisfiesAll (of_decide_eq_true rfl) ?_
    simp (disch := omega) only [c_laws_FnExactSatisfiesAll, go_sem, go_cond, zA, zB, zC, zD, zE, zF, zG, zH, ↓reduceIte, zI, reduceCtorEq, zJ, zK, s0, m_laws_szInterpretation]
  have s1 := szTS_Clause cs hfcs l0 (by omega) (by omega)
  have q1 := szR_spec l0 (cs.length + Cl.sumB cs)
  obtain ⟨l1, hl1⟩ : ∃ l, l = szR l0 ((cs.length + Cl.sumB cs) : Nat) := ⟨_, rfl⟩
  rw [← hl1] at s1 q1
  rcases Int.lt_or_le l1 0 with h0 | h0_1
  · refine E_walk k_laws_FnExactSatisfiesAll m_laws_FnExactSatisfiesAll (of_decide_eq_true rfl) ?_
    simp (disch := omega) only [c_laws_FnExactSatisfiesAll, go_sem, go_cond, zA, zB, zC, zD, zE, zF, zG, zH, ↓reduceIte, zI, reduceCtorEq, zJ, zK, s0, s1, m_laws_szClauseS, m_laws_szInterpretation]
  have hb_m : m.bulk ≤ 1048576 := by omega
  have hb_cs : (cs.length + Cl.sumB cs) ≤ 1048576 := by omega
  have t_m := toT_Interpretation m hb_m
  have t_cs := toTS_Clause cs hb_cs
  have hmt := Ip.bulk_tame m hb_m
  have hct := Cl.tame_list hb_cs
  have a1 := l10SatisfiesAll_E m hmt cs (by omega) hct
  have a2 := satisfiesAll_E m hmt cs (by omega) hct
  unfold optB2 at a1 a2
  obtain ⟨r, hr_r⟩ : ∃ r, r = (saT m cs).getD false := ⟨_, rfl⟩
  rw [← hr_r] at a1 a2
  obtain ⟨o, hr_o⟩ : ∃ r, r = (saT m cs).isSome := ⟨_, rfl⟩
  rw [← hr_o] at a1 a2
  have eq_m := eqT_Interpretation m (by omega)
  have eq_cs := eqTS_Clause cs (by omega)
  refine E_walk k_laws_FnExactSatisfiesAll m_laws_FnExactSatisfiesAll (of_decide_eq_true rfl) ?_
  simp (disch := omega) only [c_laws_FnExactSatisfiesAll, go_sem, zA, zB, zC, zD, zE, zF, zG, zH, ↓reduceIte, zI, reduceCtorEq, zJ, zK, s0, s1, t_m, t_cs, a1, a2, eq_m, eq_cs, dec_refl, m_laws_szInterpretation, m_laws_szClauseS, m_laws_toInterpretation, m_laws_toClauseS, m_laws_eqInterpretation, m_laws_eqClauseS, m_spec_SatisfiesAll, m_impl_SatisfiesAll, Ip.osv, Ip.obs, Tl.osv, Tl.obs, Cl.osv, Cl.obs, Lt.osv, Lt.obs, Tm.osv, Tm.obs, Tl.erss, Tl.noss, Cl.erss, Cl.noss]
  repeat ((first | (refine go_condT ?_ ?_; (focus (simp (disch := omega) only [go_sem, zA, zB, zC, zD, zE, zF, zG, zH, ↓reduceIte, zI, reduceCtorEq, zJ, zK, s0, s1, t_m, t_cs, a1, a2, eq_m, eq_cs, dec_refl, m_laws_szInterpretation, m_laws_szClauseS, m_laws_toInterpretation, m_laws_toClauseS, m_laws_eqInterpretation, m_laws_eqClauseS, m_spec_SatisfiesAll, m_impl_SatisfiesAll, Ip.osv, Ip.obs, Tl.osv, Tl.obs, Cl.osv, Cl.obs, Lt.osv, Lt.obs, Tm.osv, Tm.obs, Tl.erss, Tl.noss, Cl.erss, Cl.noss]; done))) | (refine go_condF ?_ ?_; (focus (simp (disch := omega) only [go_sem, zA, zB, zC, zD, zE, zF, zG, zH, ↓reduceIte, zI, reduceCtorEq, zJ, zK, s0, s1, t_m, t_cs, a1, a2, eq_m, eq_cs, dec_refl, m_laws_szInterpretation, m_laws_szClauseS, m_laws_toInterpretation, m_laws_toClauseS, m_laws_eqInterpretation, m_laws_eqClauseS, m_spec_SatisfiesAll, m_impl_SatisfiesAll, Ip.osv, Ip.obs, Tl.osv, Tl.obs, Cl.osv, Cl.obs, Lt.osv, Lt.obs, Tm.osv, Tm.obs, Tl.erss, Tl.noss, Cl.erss, Cl.noss]; done)))); (try simp (disch := omega) only [go_sem, zA, zB, zC, zD, zE, zF, zG, zH, ↓reduceIte, zI, reduceCtorEq, zJ, zK, s0, s1, t_m, t_cs, a1, a2, eq_m, eq_cs, dec_refl, m_laws_szInterpretation, m_laws_szClauseS, m_laws_toInterpretation, m_laws_toClauseS, m_laws_eqInterpretation, m_laws_eqClauseS, m_spec_SatisfiesAll, m_impl_SatisfiesAll, Ip.osv, Ip.obs, Tl.osv, Tl.obs, Cl.osv, Cl.obs, Lt.osv, Lt.obs, Tm.osv, Tm.obs, Tl.erss, Tl.noss, Cl.erss, Cl.noss]))
end Go.Proofs.YtihclcmgbkkhfaaGreat
set_option maxRecDepth 100000
set_option linter.unusedSimpArgs false
set_option linter.unusedVariables false
namespace Go.Proofs.YtihclcmgbkkhfaaGreat
open Go.RowKit Go.ChangeShapes Go.WideShapes Go.ChangeAt Go.Deep
section
variable {H : Type} {enc : TypeId × Value → H} {P : Program} {w : World} {base : Nat} {spare : Nat → Bool} {held : Bool}
theorem addr_add_plain {b o k : Nat} : (⟨b, o, none⟩ : Addr).add k = ⟨b, o + k, none⟩ := by
  unfold Addr.add; split
  · subst_vars; rfl
  · rfl
theorem cell_lt {a : Addr} {v : Value} (h : w.cell? a = some v) : a.block < w.heap.size := by
  unfold World.cell? at h
  cases hb : w.heap[a.block]? with
  | none => rw [hb] at h; cases h
  | some o => exact (Array.getElem?_eq_some_iff.1 hb).1
end
section
variable {H : Type} {enc : TypeId × Value → H} {w : World} {base : Nat} {spare : Nat → Bool} {held : Bool}
end
end Go.Proofs.YtihclcmgbkkhfaaGreat
set_option maxRecDepth 100000
set_option linter.unusedSimpArgs false
set_option linter.unusedVariables false
namespace Go.Proofs.YtihclcmgbkkhfaaGreat
open Go.RowKit Go.ChangeShapes Go.WideShapes Go.ChangeAt Go.Deep
section
variable {H : Type} {enc : TypeId × Value → H} {P : Program} {w : World} {base : Nat} {spare : Nat → Bool} {held : Bool}
theorem open_sl' {t e : TypeId} {fuel : Nat} {v : Value} {x : DataW H × List MemPlace} (sz : Nat) (hsz : P.cellsOf e = sz) (h0 : 0 < sz) (ht : P.underlying t = some (.slice e)) (h : DataW.trod enc P w base spare held fuel t [v] = some x) :
    ∃ (a : Option Addr) (len cap : Nat) (f : Nat → Nat → Value), v = .slice a len cap ∧ len ≤ cap ∧ cap ≤ 9223372036854775807 ∧ SlA w 0 sz len f a ∧
      ∀ i, i < len → ∃ n x', n < fuel ∧ DataW.trod enc P w base spare held n e ((List.range sz).map (f i)) = some x' := by
  rcases DataW.trod_slice ht h with ⟨hcs, _⟩ | ⟨a, len, cap, elems, rest, n, hf, hcs, hx, hb, hl, hm, hlen, hel, _, _⟩
  · simp only [List.cons.injEq, and_true] at hcs
    exact ⟨none, 0, 0, fun _ _ => undef, hcs, Nat.le_refl _, by omega, .inl rfl, fun i hi => absurd hi (by omega)⟩
  · have hi : ∀ i, i < len → ∃ cs' x', w.cells? base (a.add (i * sz)) sz = some cs' ∧ DataW.trod enc P w base spare held n e cs' = some x' := by
      intro i hi
      have h1 := hel i hi
      rw [hsz, List.getElem?_eq_getElem (by omega)] at h1
      obtain ⟨cs', h2, h3⟩ := Option.bind_eq_some_iff.1 h1
      exact ⟨cs', _, h2, h3⟩
    have hcell : ∀ i j, i < len → j < sz → ∃ v, w.cell? (a.add (i * sz + j)) = some v := by
      intro i j hil hj
      obtain ⟨cs', x', hc, _⟩ := hi i hil
      obtain ⟨_, hcl, hat⟩ := World.cells?_some hc
      have h1 := hat j hj
      rw [Go.Deep.add_add, List.getElem?_eq_getElem (by omega)] at h1
      exact ⟨_, h1⟩
    simp only [List.cons.injEq, and_true] at hcs
    refine ⟨some a, len, cap, fun i j => (w.cell? (a.add (i * sz + j))).getD undef, hcs, hl, hm, ?_, ?_⟩
    · rcases Nat.eq_zero_or_pos len with h | h
      · exact .inl h
      · obtain ⟨v, hv⟩ := hcell 0 0 h h0
        rw [Nat.zero_mul, Nat.zero_add] at hv
        have hsp : a.spot = none := by simpa [Addr.add] using World.cell?_spot hv
        have hlt := cell_lt hv
        obtain ⟨b, off, spot⟩ := a
        simp only at hsp
        subst hsp
        refine .inr ⟨b, off, rfl, Nat.zero_le _, by simpa [Addr.add] using hlt, fun i j hil hj => ?_⟩
        obtain ⟨v', hv'⟩ := hcell i j hil hj
        rw [addr_add_plain] at hv'
        show _ = some ((w.cell? ((⟨b, off, none⟩ : Addr).add (i * sz + j))).getD undef)
        rw [addr_add_plain, Nat.add_assoc, hv']
        rfl
    · intro i hil
      obtain ⟨cs', x', hc, ht'⟩ := hi i hil
      obtain ⟨_, hcl, hat⟩ := World.cells?_some hc
      refine ⟨n, x', by omega, ?_⟩
      have hcs' : (List.range sz).map (fun j => (w.cell? (a.add (i * sz + j))).getD undef) = cs' := by
        apply List.ext_getElem?
        intro j
        by_cases hj : j < sz
        · rw [List.getElem?_map, List.getElem?_range hj]
          have h1 := hat j hj
          rw [Go.Deep.add_add] at h1
          rw [List.getElem?_eq_getElem (by omega : j < cs'.length)] at h1 ⊢
          simp [h1]
        · rw [List.getElem?_eq_none (by simp; omega), List.getElem?_eq_none (by omega)]
      rw [hcs']
      exact ht'
theorem open_st' {t : TypeId} {fs : Array Field} {fuel : Nat} {cs : List Value} {x : DataW H × List MemPlace} (ht : P.underlying t = some (.struct fs)) (h : DataW.trod enc P w base spare held fuel t cs = some x) :
    ∃ n, n < fuel ∧ cs.length = P.cellsOf t ∧ ∀ (i : Nat) (f : Field), fs[i]? = some f → ∃ y, DataW.trod enc P w base spare held n f.type ((cs.drop f.offset).take (P.cellsOf f.type)) = some y := by
  obtain ⟨xs, n, hn, hx, hlen, hxl, hf⟩ := DataW.trod_struct ht h
  refine ⟨n, by omega, hlen, fun i f hi => ?_⟩
  have hil : i < fs.size := (Array.getElem?_eq_some_iff.1 hi).1
  have h1 := hf i f hi
  rw [List.getElem?_eq_getElem (by omega : i < xs.length)] at h1
  exact ⟨_, h1⟩
end
inductive Lvs (w : World) : List D → List Value → Prop
  | nil : Lvs w [] []
  | cons {d : D} {v : Value} {ds : List D} {vs : List Value} (h : DAt w d v) (hs : Lvs w ds vs) : Lvs w (d :: ds) (v :: vs)
theorem Lvs.len {w : World} {ds : List D} {vs : List Value} (h : Lvs w ds vs) : ds.length = vs.length := by
  induction h with
  | nil => rfl
  | cons h hs ih => simp [ih]
theorem Lvs.get {w : World} {ds : List D} {vs : List Value} (h : Lvs w ds vs) : ∀ j (h1 : j < ds.length) (h2 : j < vs.length), DAt w ds[j] vs[j] := by
  induction h with
  | nil => intro j h1; simp at h1
  | cons h hs ih =>
    intro j h1 h2
    cases j with
    | zero => exact h
    | succ j => exact ih j (by simpa using h1) (by simpa using h2)
theorem open_arr {α : Type} [Inhabited α] (dd : α → List D) {w : World} {m len cap : Nat} {f : Nat → Nat → Value} {a : Option Addr} (hl : len ≤ cap) (hm : cap ≤ 9223372036854775807) (hS : SlA w 0 m len f a)
    (hel : ∀ i, i < len → ∃ X : α, Lvs w (dd X) ((List.range m).map (f i))) : ∃ xs : List α, DAt w (.arr (xs.map dd)) (.slice a len cap) := by
  obtain ⟨g, hg⟩ : ∃ g : Nat → α, ∀ i, i < len → Lvs w (dd (g i)) ((List.range m).map (f i)) :=
    ⟨fun i => if h : i < len then (hel i h).choose else default, fun i hi => by simp only [hi, dif_pos]; exact (hel i hi).choose_spec⟩
  refine ⟨(List.range len).map g, ?_⟩
  have hlen : (((List.range len).map g).map dd).length = len := by simp
  have := DAt.arr_mk (w := w) (es := ((List.range len).map g).map dd) (sz := m) (cap := cap) (a := a) (f := f) (by rw [hlen]; exact hl) hm (by rw [hlen]; exact hS) (fun i hi => by
    rw [hlen] at hi
    have := (hg i hi).len
    simpa using this) (fun i j hi hj => by
    rw [hlen] at hi
    have h1 := hg i hi
    have h2 := h1.len
    simp only [List.length_map, List.length_range] at h2
    simp only [List.getElem_map, List.getElem_range] at hj ⊢
    have := h1.get j hj (by simp; omega)
    simpa using this)
  rw [hlen] at this
  exact this
instance : Inhabited Tm := ⟨Tm.zero⟩
instance : Inhabited Fm := ⟨Fm.zero⟩
section
variable {H : Type} {enc : TypeId × Value → H} {w : World} {base : Nat} {spare : Nat → Bool} {held : Bool}
end
end Go.Proofs.YtihclcmgbkkhfaaGreat
set_option maxRecDepth 100000
set_option linter.unusedSimpArgs false
set_option linter.unusedVariables false
namespace Go.Proofs.YtihclcmgbkkhfaaGreat
open Go.RowKit
theorem DRep.lt_ {own : Bool} {w : World} {S : Nat → Prop} {d : D} {v : Value} (h : DRep own w S d v) : DRep own w (fun b => S b ∧ b < w.heap.size) d v := by
  induction h with
  | int S n => exact .int _ n
  | bool S b => exact .bool _ b
  | str S s h => exact .str _ s h
  | arr S sz es a cap f Sub h1 h2 h3 h4 h5 h6 h7 ih =>
    refine .arr _ sz es a cap f (fun i j x => Sub i j x ∧ x < w.heap.size) h1 h2 ?_ h4 (fun i j x h => ⟨h5 i j x h.1, h.2⟩) (fun ho i j i' j' x h h' => h6 ho i j i' j' x h.1 h'.1) ih
    rcases h3 with h3 | ⟨b, off, ha, hS, hl, hc, ho⟩
    · exact .inl h3
    · exact .inr ⟨b, off, ha, ⟨hS, hl⟩, hl, hc, fun h => ⟨fun i j hx => (ho h).1 i j hx.1, (ho h).2⟩⟩
theorem DAt.rep {w : World} {es : List (List D)} {v : Value} (h : DAt w (.arr es) v) : RepV w (fun b => b < w.heap.size) (fun _ => none) (.arr es) v := by
  simp only [RepV]
  exact (DRep.lt_ h).up fun b hb => hb.2
theorem Fun.yes {f : FuncId} {args : List SV} (h : Fun Tryz.prog f args [] (.bool true) []) {w : World} {vs : List Value} (hvs : RepVs w (fun b => b < w.heap.size) (fun _ => none) args vs) : Calls Tryz.prog f vs.toArray w (Ret w (.bool true)) := by
  have nl : ∀ g, ¬ (geto [] g).live := fun g hg => by simp [geto, Ob.live] at hg
  refine (h w (fun b => b < w.heap.size) (fun _ => none) (fun _ _ => False) vs ⟨fun b hb => hb, fun g hg => absurd hg (nl g), fun g b hg => absurd hg (nl g), fun g b hg => absurd hg (nl g), fun g g' b hg => absurd hg (nl g), fun g _ => rfl⟩ hvs).mono ?_
  rintro e w' ⟨v, I', V', B', rfl, hr, hp⟩
  simp only [RepV] at hr
  subst hr
  exact ⟨rfl, hp.fr.os, hp.fr.tape, hp.fr.output, hp.fr.size, fun b hb => hp.fr.block b hb fun ⟨g, hg, _⟩ => absurd hg (nl g)⟩
theorem lvs_cons {w : World} {d : D} {ds : List D} {v : Value} {vs : List Value} (h : Lvs w (d :: ds) (v :: vs)) : DAt w d v ∧ Lvs w ds vs := by
  cases h with
  | cons h1 h2 => exact ⟨h1, h2⟩
theorem DAt.rep_sv {w : World} {d : D} {v : Value} (h : DAt w d v) : RepV w (fun b => b < w.heap.size) (fun _ => none) d.sv v :=
  D.rep_sv ((DRep.lt_ h).up fun b hb => hb.2)
theorem Lvs.reps {w : World} {ds : List D} {vs : List Value} (h : Lvs w ds vs) : RepVs w (fun b => b < w.heap.size) (fun _ => none) (ds.map D.sv) vs := by
  induction h with
  | nil => simp [RepVs]
  | cons h hs ih => simp only [List.map_cons, RepVs]; exact ⟨_, _, rfl, h.rep_sv, ih⟩
theorem Lvs.agg {w : World} {ds : List D} {vs : List Value} (h : Lvs w ds vs) : RepV w (fun b => b < w.heap.size) (fun _ => none) (.agg (ds.map D.sv)) (.agg vs.toArray) := by
  simp only [RepV]; exact ⟨vs, rfl, h.reps⟩
theorem Lvs.fits {w : World} {ds : List D} {vs : List Value} (h : Lvs w ds vs) : D.fits ds := by
  induction h with
  | nil => trivial
  | cons h hs ih => exact ⟨DRep.fit h, ih⟩
theorem DAt.fit {w : World} {d : D} {v : Value} (h : DAt w d v) : D.fit d := DRep.fit h
theorem args_nil {w : World} {I : Nat → Prop} {V : Nat → Option Value} : RepVs w I V [] [] := by simp [RepVs]
theorem args_more {w : World} {I : Nat → Prop} {V : Nat → Option Value} {x : SV} {xs : List SV} {v : Value} {vs : List Value} (h : RepV w I V x v) (hs : RepVs w I V xs vs) : RepVs w I V (x :: xs) (v :: vs) := by
  simp only [RepVs]; exact ⟨v, vs, rfl, h, hs⟩
instance : Inhabited Lt := ⟨Lt.zero⟩
instance : Inhabited Ag := ⟨Ag.zero⟩
instance : Inhabited Tl := ⟨Tl.zero⟩
instance : Inhabited Cl := ⟨Cl.zero⟩
section
variable {H : Type} {enc : TypeId × Value → H} {w : World} {base : Nat} {spare : Nat → Bool} {held : Bool}
theorem opnS_int {fuel : Nat} {v : Value} {x : DataW H × List MemPlace} (h : DataW.trod enc Tryz.prog w base spare held fuel 129 [v] = some x) : ∃ xs : List Int, DAt w (.arr (xs.map fun s => [D.int s])) v := by
  obtain ⟨a, len, cap, f, rfl, hl, hm, hS, hr⟩ := open_sl' (P := Tryz.prog) 1 (by kernel_rfl) (by omega) Tryz.underlying129 h
  exact open_arr (fun s => [D.int s]) hl hm hS fun i hi => by
    obtain ⟨n, x', hn, h1⟩ := hr i hi
    obtain ⟨z, q, _, _⟩ := DataW.trod_int Tryz.underlying3 h1
    rw [q]
    exact ⟨z, .cons (.int _ z) .nil⟩
theorem opn_Term_of {fuel : Nat} (ih : ∀ n, n < fuel → ∀ v x, DataW.trod enc Tryz.prog w base spare held n 22 [v] = some x → ∃ xs : List Tm, DAt w (.arr (xs.map Tm.d)) v) {cs : List Value} {x : DataW H × List MemPlace} (h : DataW.trod enc Tryz.prog w base spare held fuel 24 cs = some x) : ∃ X : Tm, Lvs w X.d cs := by
  obtain ⟨n, hn, hlen, hf⟩ := open_st' Tryz.underlying24 h
  rw [show Tryz.prog.cellsOf 24 = 2 by kernel_rfl] at hlen
  match cs, hlen with
  | [c0, c1], _ =>
    obtain ⟨y0, k0⟩ := hf 0 _ rfl
    have e0 : (([c0, c1].drop 0).take (Tryz.prog.cellsOf 9)) = [c0] := by rw [show Tryz.prog.cellsOf 9 = 1 by kernel_rfl]; rfl
    obtain ⟨z0, q0, _, s0⟩ := DataW.trod_string Tryz.underlying9 k0
    have q0' : c0 = .string z0 := by
      have : [c0] = [.string z0] := by rw [← e0]; exact q0
      simpa using this
    obtain ⟨y1, k1⟩ := hf 1 _ rfl
    have e1 : (([c0, c1].drop 1).take (Tryz.prog.cellsOf 22)) = [c1] := by rw [show Tryz.prog.cellsOf 22 = 1 by kernel_rfl]; rfl
    have k1' : DataW.trod enc Tryz.prog w base spare held n 22 [c1] = some y1 := by rw [← e1]; exact k1
    obtain ⟨z1, g1⟩ := ih n hn c1 y1 k1'
    subst q0'
    exact ⟨.mk z0 z1, by rw [Tm.d_eq]; exact (.cons (.str _ z0 s0) (.cons g1 .nil))⟩
theorem opnS_Term_all : ∀ (fuel : Nat) (v : Value) (x : DataW H × List MemPlace), DataW.trod enc Tryz.prog w base spare held fuel 22 [v] = some x → ∃ xs : List Tm, DAt w (.arr (xs.map Tm.d)) v := by
  intro fuel
  induction fuel using Nat.strongRecOn with
  | _ fuel ih =>
    intro v x h
    obtain ⟨a, len, cap, f, rfl, hl, hm, hS, hr⟩ := open_sl' (P := Tryz.prog) 2 (by kernel_rfl) (by omega) Tryz.underlying22 h
    exact open_arr Tm.d hl hm hS fun i hi => by
      obtain ⟨n, x', hn, h1⟩ := hr i hi
      exact opn_Term_of (fun n' hn' => ih n' (by omega)) h1
theorem opn_Term {fuel : Nat} {cs : List Value} {x : DataW H × List MemPlace} (h : DataW.trod enc Tryz.prog w base spare held fuel 24 cs = some x) : ∃ X : Tm, Lvs w X.d cs :=
  opn_Term_of (fun n _ => opnS_Term_all n) h
theorem opn_Literal {fuel : Nat} {cs : List Value} {x : DataW H × List MemPlace} (h : DataW.trod enc Tryz.prog w base spare held fuel 154 cs = some x) : ∃ X : Lt, Lvs w X.d cs := by
  obtain ⟨n, hn, hlen, hf⟩ := open_st' Tryz.underlying154 h
  rw [show Tryz.prog.cellsOf 154 = 3 by kernel_rfl] at hlen
  match cs, hlen with
  | [c0, c1, c2], _ =>
    obtain ⟨y0, k0⟩ := hf 0 _ rfl
    have e0 : (([c0, c1, c2].drop 0).take (Tryz.prog.cellsOf 4)) = [c0] := by rw [show Tryz.prog.cellsOf 4 = 1 by kernel_rfl]; rfl
    obtain ⟨z0, q0, _⟩ := DataW.trod_bool Tryz.underlying4 k0
    have q0' : c0 = .bool z0 := by
      have : [c0] = [.bool z0] := by rw [← e0]; exact q0
      simpa using this
    obtain ⟨y1, k1⟩ := hf 1 _ rfl
    have e1 : (([c0, c1, c2].drop 1).take (Tryz.prog.cellsOf 24)) = [c1, c2] := by rw [show Tryz.prog.cellsOf 24 = 2 by kernel_rfl]; rfl
    have k1' : DataW.trod enc Tryz.prog w base spare held n 24 [c1, c2] = some y1 := by rw [← e1]; exact k1
    obtain ⟨z1, g1⟩ := opn_Term k1'
    rw [Tm.d_eq] at g1
    obtain ⟨g1_0, g1⟩ := lvs_cons g1
    obtain ⟨g1_1, g1⟩ := lvs_cons g1
    subst q0'
    exact ⟨⟨z0, z1⟩, by rw [Lt.d_eq]; exact (.cons (.bool _ z0) (.cons g1_0 (.cons g1_1 .nil)))⟩
theorem opnS_Literal {fuel : Nat} {v : Value} {x : DataW H × List MemPlace} (h : DataW.trod enc Tryz.prog w base spare held fuel 65 [v] = some x) : ∃ xs : List Lt, DAt w (.arr (xs.map Lt.d)) v := by
  obtain ⟨a, len, cap, f, rfl, hl, hm, hS, hr⟩ := open_sl' (P := Tryz.prog) 3 (by kernel_rfl) (by omega) Tryz.underlying65 h
  exact open_arr Lt.d hl hm hS fun i hi => by
    obtain ⟨n, x', hn, h1⟩ := hr i hi
    exact opn_Literal h1
theorem opn_Clause {fuel : Nat} {cs : List Value} {x : DataW H × List MemPlace} (h : DataW.trod enc Tryz.prog w base spare held fuel 67 cs = some x) : ∃ X : Cl, Lvs w X.d cs := by
  obtain ⟨n, hn, hlen, hf⟩ := open_st' Tryz.underlying67 h
  rw [show Tryz.prog.cellsOf 67 = 1 by kernel_rfl] at hlen
  match cs, hlen with
  | [c0], _ =>
    obtain ⟨y0, k0⟩ := hf 0 _ rfl
    have e0 : (([c0].drop 0).take (Tryz.prog.cellsOf 65)) = [c0] := by rw [show Tryz.prog.cellsOf 65 = 1 by kernel_rfl]; rfl
    have k0' : DataW.trod enc Tryz.prog w base spare held n 65 [c0] = some y0 := by rw [← e0]; exact k0
    obtain ⟨z0, g0⟩ := opnS_Literal k0'
    exact ⟨⟨z0⟩, by rw [Cl.d_eq]; exact (.cons g0 .nil)⟩
theorem opnS_Clause {fuel : Nat} {v : Value} {x : DataW H × List MemPlace} (h : DataW.trod enc Tryz.prog w base spare held fuel 58 [v] = some x) : ∃ xs : List Cl, DAt w (.arr (xs.map Cl.d)) v := by
  obtain ⟨a, len, cap, f, rfl, hl, hm, hS, hr⟩ := open_sl' (P := Tryz.prog) 1 (by kernel_rfl) (by omega) Tryz.underlying58 h
  exact open_arr Cl.d hl hm hS fun i hi => by
    obtain ⟨n, x', hn, h1⟩ := hr i hi
    exact opn_Clause h1
theorem opn_Table {fuel : Nat} {cs : List Value} {x : DataW H × List MemPlace} (h : DataW.trod enc Tryz.prog w base spare held fuel 131 cs = some x) : ∃ X : Tl, Lvs w X.d cs := by
  obtain ⟨n, hn, hlen, hf⟩ := open_st' Tryz.underlying131 h
  rw [show Tryz.prog.cellsOf 131 = 4 by kernel_rfl] at hlen
  match cs, hlen with
  | [c0, c1, c2, c3], _ =>
    obtain ⟨y0, k0⟩ := hf 0 _ rfl
    have e0 : (([c0, c1, c2, c3].drop 0).take (Tryz.prog.cellsOf 9)) = [c0] := by rw [show Tryz.prog.cellsOf 9 = 1 by kernel_rfl]; rfl
    obtain ⟨z0, q0, _, s0⟩ := DataW.trod_string Tryz.underlying9 k0
    have q0' : c0 = .string z0 := by
      have : [c0] = [.string z0] := by rw [← e0]; exact q0
      simpa using this
    obtain ⟨y1, k1⟩ := hf 1 _ rfl
    have e1 : (([c0, c1, c2, c3].drop 1).take (Tryz.prog.cellsOf 3)) = [c1] := by rw [show Tryz.prog.cellsOf 3 = 1 by kernel_rfl]; rfl
    obtain ⟨z1, q1, _, _⟩ := DataW.trod_int Tryz.underlying3 k1
    have q1' : c1 = .int .i64 z1 := by
      have : [c1] = [.int .i64 z1] := by rw [← e1]; exact q1
      simpa using this
    obtain ⟨y2, k2⟩ := hf 2 _ rfl
    have e2 : (([c0, c1, c2, c3].drop 2).take (Tryz.prog.cellsOf 4)) = [c2] := by rw [show Tryz.prog.cellsOf 4 = 1 by kernel_rfl]; rfl
    obtain ⟨z2, q2, _⟩ := DataW.trod_bool Tryz.underlying4 k2
    have q2' : c2 = .bool z2 := by
      have : [c2] = [.bool z2] := by rw [← e2]; exact q2
      simpa using this
    obtain ⟨y3, k3⟩ := hf 3 _ rfl
    have e3 : (([c0, c1, c2, c3].drop 3).take (Tryz.prog.cellsOf 129)) = [c3] := by rw [show Tryz.prog.cellsOf 129 = 1 by kernel_rfl]; rfl
    have k3' : DataW.trod enc Tryz.prog w base spare held n 129 [c3] = some y3 := by rw [← e3]; exact k3
    obtain ⟨z3, g3⟩ := opnS_int k3'
    subst q0' q1' q2'
    exact ⟨⟨z0, z1, z2, z3⟩, by rw [Tl.d_eq]; exact (.cons (.str _ z0 s0) (.cons (.int _ z1) (.cons (.bool _ z2) (.cons g3 .nil))))⟩
theorem opnS_Table {fuel : Nat} {v : Value} {x : DataW H × List MemPlace} (h : DataW.trod enc Tryz.prog w base spare held fuel 41 [v] = some x) : ∃ xs : List Tl, DAt w (.arr (xs.map Tl.d)) v := by
  obtain ⟨a, len, cap, f, rfl, hl, hm, hS, hr⟩ := open_sl' (P := Tryz.prog) 4 (by kernel_rfl) (by omega) Tryz.underlying41 h
  exact open_arr Tl.d hl hm hS fun i hi => by
    obtain ⟨n, x', hn, h1⟩ := hr i hi
    exact opn_Table h1
theorem opn_Interpretation {fuel : Nat} {cs : List Value} {x : DataW H × List MemPlace} (h : DataW.trod enc Tryz.prog w base spare held fuel 43 cs = some x) : ∃ X : Ip, Lvs w X.d cs := by
  obtain ⟨n, hn, hlen, hf⟩ := open_st' Tryz.underlying43 h
  rw [show Tryz.prog.cellsOf 43 = 2 by kernel_rfl] at hlen
  match cs, hlen with
  | [c0, c1], _ =>
    obtain ⟨y0, k0⟩ := hf 0 _ rfl
    have e0 : (([c0, c1].drop 0).take (Tryz.prog.cellsOf 3)) = [c0] := by rw [show Tryz.prog.cellsOf 3 = 1 by kernel_rfl]; rfl
    obtain ⟨z0, q0, _, _⟩ := DataW.trod_int Tryz.underlying3 k0
    have q0' : c0 = .int .i64 z0 := by
      have : [c0] = [.int .i64 z0] := by rw [← e0]; exact q0
      simpa using this
    obtain ⟨y1, k1⟩ := hf 1 _ rfl
    have e1 : (([c0, c1].drop 1).take (Tryz.prog.cellsOf 41)) = [c1] := by rw [show Tryz.prog.cellsOf 41 = 1 by kernel_rfl]; rfl
    have k1' : DataW.trod enc Tryz.prog w base spare held n 41 [c1] = some y1 := by rw [← e1]; exact k1
    obtain ⟨z1, g1⟩ := opnS_Table k1'
    subst q0'
    exact ⟨⟨z0, z1⟩, by rw [Ip.d_eq]; exact (.cons (.int _ z0) (.cons g1 .nil))⟩
end
end Go.Proofs.YtihclcmgbkkhfaaGreat
