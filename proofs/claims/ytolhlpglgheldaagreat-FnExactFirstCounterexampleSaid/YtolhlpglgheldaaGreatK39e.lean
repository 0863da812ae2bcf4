/-
  This text holds, one behind the other: This text tells what the first counterexample of a clause answers in the program. No condition.
  This text tells what the reference answers when it evaluates formulas. No condition.
  This text tells what the first counterexample of a clause answers in the reference. No condition.
  This text tells what SatisfiesAll answers in both packages. No condition.
  This text tells what the laws' measuring functions answer. No condition.
  This text tells what the laws' copying functions answer. No condition.
  This text tells what the laws' comparing functions answer. No condition.
  This text tells how much an interpretation of a small bulk holds. No condition.
  This text tells what the laws' marks answer. No condition.
  This text tells what the laws read of the marks. No condition.
  This text tells what the laws' marks of a record answer. No condition.
  This text tells what the law of FirstCounterexample answers. No condition.
  This text opens arguments: slices of integers, of structs, of tables: what is read as data lies in memory as our words say. No condition.
  This text opens arguments: what is read as data, terms and formulas, lies in memory as our words say. No condition.
  This text turns a function's answer into a walk of the kit's form, and opens arguments that are clauses. No condition.
-/
import Derived.Test.YtolhlpglgheldaaGreatK39c
import Derived.Test.YtolhlpglgheldaaGreatK39d
import Derived.ProofKit
import Derived.Deep.Slices
import Derived.Deep.Fields
import Derived.ChangeSame
import Derived.OpenShut
import Derived.ShutString
import Derived.ChangeOld
open Nat renaming reduceAdd → zA, reduceSub → zB, reduceLT → zC, reduceLeDiff → zD, reduceEqDiff → zE, reduceBEq → zF, reduceBneDiff → zG, reduceMul → zH
open Int renaming reduceToNat → zI, reduceNeg → zJ, reduceAdd → zK
set_option maxRecDepth 100000
set_option linter.unusedSimpArgs false
set_option linter.unusedVariables false
namespace Go.Proofs.YtolhlpglgheldaaGreat
open Go.RowKit
def c_impl_Interpretation_satisfied : SC := (.seq (.reg [⟨some 3, none, .boxv 35 2 (.t 0)⟩, ⟨some 4, none, .boxv 39 1 (.t 1)⟩, ⟨some 6, none, .mv (.c (.bool false))⟩, ⟨some 7, none, .mv (.c (.bool false))⟩]) (.seq (.reg [⟨some 8, none, .mv (.c (.bool false))⟩]) (.seq (.seq (.reg [⟨some 13, none, .faddr 0 (.t 4)⟩, ⟨some 14, none, .load false 1 (.t 13)⟩, ⟨some 15, none, .len false (.t 14)⟩, ⟨some 16, none, .mv (.c (.int .i64 0))⟩]) (.block 0 (.loop [0, 0, 1, 1, 0, 0, 0, 0, 1, 0, 0, 0, 0, 0, 1, 1, 1, 0, 0, 0, 0, 0, 0, 0, 0, 0, 0, 0, 0, 0, 0, 0, 0, 0, 0, 0, 0, 0, 0] (.seq (.reg [⟨some 17, none, .bin .lss false (.t 16) (.t 15)⟩]) (.seq (.cond (.t 17) .skip (.exit 0)) (.seq (.block 1 (.seq (.reg [⟨some 18, none, .iaddr 3 (.t 14) (.t 16)⟩, ⟨some 19, none, .load true 3 (.t 18)⟩, ⟨(some 10), none, (.alloc 107 [(.bool false), (.str ⟨#[]⟩), .nil])⟩, ⟨none, none, (.store 3 (.t 10) (.t 19))⟩]) (.seq (.reg [⟨some 21, none, .load true 2 (.t 3)⟩, ⟨some 22, none, .faddr 1 (.t 10)⟩, ⟨some 23, none, .load true 2 (.t 22)⟩, ⟨some 24, none, .mv (.t 2)⟩, ⟨some 25, none, .call 111 [(.t 21), (.t 23), (.t 24)]⟩, ⟨some 20, none, .mv (.t 25)⟩, ⟨some 26, none, .ext (.t 20) 0⟩, ⟨some 27, none, .ext (.t 20) 1⟩, ⟨some 11, none, .mv (.t 26)⟩, ⟨some 12, none, .mv (.t 27)⟩]) (.seq (.seq (.reg [⟨some 28, none, .mv (.t 12)⟩, ⟨some 29, none, .un .not (.t 28)⟩]) (.cond (.t 29) (.seq (.reg [⟨some 6, none, .mv (.c (.bool false))⟩, ⟨some 7, none, .mv (.c (.bool false))⟩]) .ret) .skip)) (.reg [⟨some 30, none, .mv (.t 8)⟩, ⟨some 31, none, .mv (.t 30)⟩, ⟨(some 32), (some (31, false)), (.mv (.t 11))⟩, ⟨(some 33), (some (31, false)), (.faddr 0 (.t 10))⟩, ⟨(some 34), (some (31, false)), (.load false 1 (.t 33))⟩, ⟨(some 35), (some (31, false)), (.bin .eql true (.t 32) (.t 34))⟩, ⟨some 36, none, .pick (.t 31) (.c (.bool true)) (.t 35)⟩, ⟨some 8, none, .mv (.t 36)⟩]))))) (.reg [⟨some 37, none, .bin .add false (.t 16) (.c (.int .i64 1))⟩, ⟨some 16, none, .mv (.t 37)⟩]))))))) (.seq (.reg [⟨some 38, none, .mv (.t 8)⟩, ⟨some 6, none, .mv (.t 38)⟩, ⟨some 7, none, .mv (.c (.bool true))⟩]) .ret))))
theorem k_impl_Interpretation_satisfied : codeOf Tryz.prog 73 = some ⟨39, c_impl_Interpretation_satisfied, [(.tmp 6), (.tmp 7)]⟩ := by kernel_rfl
theorem m_impl_Interpretation_satisfied : modes 73 = ⟨[], .asis, none, false⟩ := by unfold modes; rfl
def c_impl_Interpretation_counterexample : SC := (.seq (.reg [⟨some 2, none, .boxv 35 2 (.t 0)⟩, ⟨some 3, none, .boxv 39 1 (.t 1)⟩, ⟨some 4, none, .mv (.c .nil)⟩, ⟨some 5, none, .mv (.c (.bool false))⟩, ⟨some 6, none, .mv (.c (.bool false))⟩]) (.seq (.reg [⟨some 15, none, .load true 1 (.t 3)⟩, ⟨some 16, none, .call 72 [(.t 15)]⟩, ⟨some 7, none, .mv (.t 16)⟩]) (.seq (.seq (.reg [⟨some 17, none, .faddr 0 (.t 2)⟩, ⟨some 18, none, .load false 1 (.t 17)⟩, ⟨some 19, none, .mv (.t 7)⟩, ⟨some 20, none, .len false (.t 19)⟩, ⟨some 21, none, .call 65 [(.t 18), (.t 20)]⟩, ⟨some 22, none, .mv (.c (.int .i64 0))⟩]) (.block 0 (.loop [0, 0, 1, 1, 0, 0, 0, 1, 0, 0, 0, 0, 0, 0, 0, 0, 0, 0, 0, 0, 0, 1, 1, 0, 0, 0, 0, 0, 0, 0, 0, 0, 0, 0, 0, 0, 0, 0, 0, 0, 0, 0, 0, 0, 0, 0, 0, 0, 0, 0, 0, 0, 0, 0, 0, 0, 0, 0, 0, 0, 0, 0, 0, 0, 0, 0, 0, 0, 0, 0, 0, 0, 0, 0, 0] (.seq (.reg [⟨some 23, none, .bin .lss false (.t 22) (.t 21)⟩]) (.seq (.cond (.t 23) .skip (.exit 0)) (.seq (.block 1 (.seq (.reg [⟨some 24, none, .mv (.t 22)⟩, ⟨some 8, none, .mv (.t 24)⟩]) (.seq (.reg [⟨some 25, none, .mv (.t 7)⟩, ⟨some 26, none, .len false (.t 25)⟩, ⟨(some 27), none, (.mkslice 72 2 24 [(.str ⟨#[]⟩), (.int .i64 0)] (.t 26))⟩, ⟨some 9, none, .mv (.t 27)⟩]) (.seq (.reg [⟨some 28, none, .mkmap true none⟩, ⟨some 10, none, .mv (.t 28)⟩]) (.seq (.reg [⟨some 29, none, .mv (.t 8)⟩, ⟨some 11, none, .mv (.t 29)⟩]) (.seq (.seq (.reg [⟨some 30, none, .mv (.t 7)⟩, ⟨some 31, none, .len false (.t 30)⟩, ⟨some 32, none, .bin .sub false (.t 31) (.c (.int .i64 1))⟩, ⟨some 12, none, .mv (.t 32)⟩]) (.block 2 (.loop [0, 0, 1, 1, 0, 0, 0, 1, 0, 1, 1, 1, 1, 0, 0, 0, 0, 0, 0, 0, 0, 1, 1, 0, 0, 0, 0, 0, 0, 0, 0, 0, 0, 0, 0, 0, 0, 0, 0, 0, 0, 0, 0, 0, 0, 0, 0, 0, 0, 0, 0, 0, 0, 0, 0, 0, 0, 0, 0, 0, 0, 0, 0, 0, 0, 0, 0, 0, 0, 0, 0, 0, 0, 0, 0] (.seq (.seq (.reg [⟨some 33, none, .mv (.t 12)⟩, ⟨some 34, none, .bin .geq false (.t 33) (.c (.int .i64 0))⟩]) (.cond (.t 34) .skip (.exit 2))) (.seq (.block 3 (.seq (.dreg [[], [], [], [], [2, 3], [4, 2, 3], [], [], [7], [6, 8, 7], [5, 4, 2, 3, 9, 6, 8, 7], [0, 1, 2, 3, 4, 5, 6, 7, 8, 9, 10], [11, 0, 1, 2, 3, 4, 5, 6, 7, 8, 9, 10]] [⟨some 37, none, .mv (.t 9)⟩, ⟨some 38, none, .mv (.t 12)⟩, ⟨some 39, none, .mv (.t 7)⟩, ⟨some 40, none, .mv (.t 12)⟩, ⟨some 41, none, .iaddr 1 (.t 39) (.t 40)⟩, ⟨some 42, none, .load false 1 (.t 41)⟩, ⟨some 43, none, .mv (.t 11)⟩, ⟨some 44, none, .faddr 0 (.t 2)⟩, ⟨some 45, none, .load false 1 (.t 44)⟩, ⟨some 46, none, .bin .rem false (.t 43) (.t 45)⟩, ⟨(some 47), none, (.build [(.str ⟨#[]⟩), (.int .i64 0)] [(0, (1, (.t 42))), (1, (1, (.t 46)))])⟩, ⟨some 48, none, .iaddr 2 (.t 37) (.t 38)⟩, ⟨none, none, (.store 2 (.t 48) (.t 47))⟩]) (.seq (.dreg [[], [], [], [1, 2], [3, 1, 2], [], [], [6], [5, 7, 6], [0, 4, 3, 1, 2, 8, 5, 7, 6]] [⟨some 49, none, .mv (.t 10)⟩, ⟨some 50, none, .mv (.t 7)⟩, ⟨some 51, none, .mv (.t 12)⟩, ⟨some 52, none, .iaddr 1 (.t 50) (.t 51)⟩, ⟨some 53, none, .load false 1 (.t 52)⟩, ⟨some 54, none, .mv (.t 11)⟩, ⟨some 55, none, .faddr 0 (.t 2)⟩, ⟨some 56, none, .load false 1 (.t 55)⟩, ⟨some 57, none, .bin .rem false (.t 54) (.t 56)⟩, ⟨none, none, (.mset true (.t 49) (.t 53) (.t 57))⟩]) (.reg [⟨some 58, none, .mv (.t 11)⟩, ⟨some 59, none, .faddr 0 (.t 2)⟩, ⟨some 60, none, .load false 1 (.t 59)⟩, ⟨some 61, none, .bin .quo false (.t 58) (.t 60)⟩, ⟨some 11, none, .mv (.t 61)⟩])))) (.reg [⟨some 35, none, .mv (.t 12)⟩, ⟨some 36, none, .bin .sub false (.t 35) (.c (.int .i64 1))⟩, ⟨some 12, none, .mv (.t 36)⟩])))))) (.seq (.reg [⟨some 63, none, .load true 2 (.t 2)⟩, ⟨some 64, none, .load true 1 (.t 3)⟩, ⟨some 65, none, .mv (.t 10)⟩, ⟨some 66, none, .call 73 [(.t 63), (.t 64), (.t 65)]⟩, ⟨some 62, none, .mv (.t 66)⟩, ⟨some 67, none, .ext (.t 62) 0⟩, ⟨some 68, none, .ext (.t 62) 1⟩, ⟨some 13, none, .mv (.t 67)⟩, ⟨some 14, none, .mv (.t 68)⟩]) (.seq (.seq (.reg [⟨some 69, none, .mv (.t 14)⟩, ⟨some 70, none, .un .not (.t 69)⟩]) (.cond (.t 70) (.seq (.reg [⟨some 4, none, .mv (.c .nil)⟩, ⟨some 5, none, .mv (.c (.bool false))⟩, ⟨some 6, none, .mv (.c (.bool false))⟩]) .ret) .skip)) (.seq (.reg [⟨some 71, none, .mv (.t 13)⟩, ⟨some 72, none, .un .not (.t 71)⟩]) (.cond (.t 72) (.seq (.reg [⟨some 73, none, .mv (.t 9)⟩, ⟨some 4, none, .mv (.t 73)⟩, ⟨some 5, none, .mv (.c (.bool true))⟩, ⟨some 6, none, .mv (.c (.bool true))⟩]) .ret) .skip)))))))))) (.reg [⟨some 74, none, .bin .add false (.t 22) (.c (.int .i64 1))⟩, ⟨some 22, none, .mv (.t 74)⟩]))))))) (.seq (.reg [⟨some 4, none, .mv (.c .nil)⟩, ⟨some 5, none, .mv (.c (.bool false))⟩, ⟨some 6, none, .mv (.c (.bool true))⟩]) .ret))))
theorem k_impl_Interpretation_counterexample : codeOf Tryz.prog 35 = some ⟨75, c_impl_Interpretation_counterexample, [(.tmp 4), (.tmp 5), (.tmp 6)]⟩ := by kernel_rfl
theorem m_impl_Interpretation_counterexample : modes 35 = ⟨[], .own [some (72, 2), none, none], none, false⟩ := by unfold modes; rfl
def c_impl_FirstCounterexample : SC := (.seq (.reg [⟨some 2, none, .boxv 35 2 (.t 0)⟩, ⟨some 3, none, .boxv 39 1 (.t 1)⟩, ⟨some 4, none, .mv (.c .nil)⟩, ⟨some 5, none, .mv (.c (.bool false))⟩, ⟨some 6, none, .mv (.c (.bool false))⟩]) (.seq (.seq (.reg [⟨some 7, none, .load true 2 (.t 2)⟩, ⟨some 8, none, .call 32 [(.t 7)]⟩, ⟨some 9, none, .un .not (.t 8)⟩, ⟨some 10, none, .mv (.t 9)⟩, ⟨(some 11), (some (10, false)), (.load true 1 (.t 3))⟩, ⟨(some 12), (some (10, false)), (.call 33 [(.t 11)])⟩, ⟨(some 13), (some (10, false)), (.un .not (.t 12))⟩, ⟨some 14, none, .pick (.t 10) (.c (.bool true)) (.t 13)⟩, ⟨some 15, none, .mv (.t 14)⟩, ⟨(some 16), (some (15, false)), (.load true 1 (.t 3))⟩, ⟨(some 17), (some (15, false)), (.call 34 [(.t 16)])⟩, ⟨(some 18), (some (15, false)), (.un .not (.t 17))⟩, ⟨some 19, none, .pick (.t 15) (.c (.bool true)) (.t 18)⟩]) (.cond (.t 19) (.seq (.reg [⟨some 4, none, .mv (.c .nil)⟩, ⟨some 5, none, .mv (.c (.bool false))⟩, ⟨some 6, none, .mv (.c (.bool false))⟩]) .ret) .skip)) (.seq (.reg [⟨some 20, none, .load true 2 (.t 2)⟩, ⟨some 21, none, .load true 1 (.t 3)⟩, ⟨some 22, none, .call 35 [(.t 20), (.t 21)]⟩, ⟨some 23, none, .ext (.t 22) 0⟩, ⟨some 24, none, .ext (.t 22) 1⟩, ⟨some 25, none, .ext (.t 22) 2⟩, ⟨some 4, none, .mv (.t 23)⟩, ⟨some 5, none, .mv (.t 24)⟩, ⟨some 6, none, .mv (.t 25)⟩]) .ret)))
theorem k_impl_FirstCounterexample : codeOf Tryz.prog 10 = some ⟨26, c_impl_FirstCounterexample, [(.tmp 4), (.tmp 5), (.tmp 6)]⟩ := by kernel_rfl
theorem m_impl_FirstCounterexample : modes 10 = ⟨[], .own [some (72, 2), none, none], none, false⟩ := by unfold modes; rfl
abbrev optB2 (o : Option Bool) : SV := .tup [.bool (o.getD false), .bool o.isSome]
set_option maxHeartbeats 4000000 in
theorem satisfied_E (m : Ip) (hm : m.ok = true) (ht : m.tame) (c : Cl) (hc : c.ok = true) (e : Env) (he : InE m.size e) : E 73 [m.sv, c.sv, .mp true (envM e)] [] = some (optB2 (satA m e c.lits false), []) := by
  have hl := Cl.ok_len hc
  refine E_walk k_impl_Interpretation_satisfied m_impl_Interpretation_satisfied (of_decide_eq_true rfl) ?_
  simp (disch := omega) only [c_impl_Interpretation_satisfied, go_sem, go_cond, zA, zB, zC, zD, zE, zF, zG, zH, ↓reduceIte, zI, reduceCtorEq, zJ, zK]
  refine go_loop (α := Int × (Bool)) (fun a => ⟨slots 39 0 [(2, .mp true (envM e)), (3, .ptr 0 0), (8, .bool (a.2)), (14, .arr (c.lits.map Lt.d)), (15, .int .i64 c.lits.length), (16, .int .i64 (a.1))], [.box 35 [.int .i64 m.size, .arr (m.tables.map Tl.d)]]⟩) (fun a => ∃ k : Nat, a.1 = k ∧ k ≤ (c.lits).length ∧ satA m e (c.lits.drop k) (a.2) = satA m e c.lits false) (fun a => (c.lits).length - (a.1).toNat) (0, false) ⟨0, rfl, Nat.zero_le _, by rw [List.drop_zero]⟩ (by simp (disch := omega) only [go_sem, go_cond, zA, zB, zC, zD, zE, zF, zG, zH, ↓reduceIte, zI, reduceCtorEq, zJ, zK]) ?_
  rintro ⟨i, b⟩ ⟨k, hi, hk, hR⟩
  dsimp only at hi hR
  have hni : i.toNat = k := by omega
  have hni1 : (i + 1).toNat = k + 1 := by omega
  rcases Nat.lt_or_ge k (c.lits).length with hlt | hge
  · have hg := get_at Lt.d hlt
    rw [Lt.d_eq] at hg
    have has : c.lits[k].atom.sv = .agg [.str c.lits[k].atom.name, .arr (c.lits[k].atom.args.map Tm.d)] := rfl
    rw [List.drop_eq_getElem_cons hlt, satA] at hR
    obtain ⟨q, hct, hq⟩ := truth_E m hm ht e he c.lits[k].atom (Cl.ok_atom hc hlt)
    cases hv : c.lits[k].atom.tru m e with
    | none =>
      rw [hv] at hct hR
      simp only at hR
      rw [← hR]
      simp (disch := omega) only [go_sem, go_cond, zA, zB, zC, zD, zE, zF, zG, zH, ↓reduceIte, zI, reduceCtorEq, zJ, zK, hni, hg, has, hct, m_impl_Interpretation_truth, Option.getD_none, Option.isSome_none, Option.getD_some, Option.isSome_some]
      try first | rfl | exact ⟨rfl, rfl⟩
    | some n =>
      rw [hv] at hct hR
      simp only at hR
      have hq := hq n hv
      rw [← hq] at hR
      cases b with
      | true =>
        rw [Bool.true_or] at hR
        simp (disch := omega) only [go_sem, go_cond, zA, zB, zC, zD, zE, zF, zG, zH, ↓reduceIte, zI, reduceCtorEq, zJ, zK, hni, hg, has, hct, m_impl_Interpretation_truth, Option.getD_none, Option.isSome_none, Option.getD_some, Option.isSome_some]
        exact ⟨(i + 1, true), ⟨k + 1, by dsimp only; omega, hlt, hR⟩, by dsimp only; omega, by first | trivial | rfl | exact ⟨rfl, rfl⟩⟩
      | false =>
        rw [Bool.false_or] at hR
        simp (disch := omega) only [go_sem, go_cond, zA, zB, zC, zD, zE, zF, zG, zH, ↓reduceIte, zI, reduceCtorEq, zJ, zK, hni, hg, has, hct, m_impl_Interpretation_truth, Option.getD_none, Option.isSome_none, Option.getD_some, Option.isSome_some]
        exact ⟨(i + 1, q == c.lits[k].pos), ⟨k + 1, by dsimp only; omega, hlt, hR⟩, by dsimp only; omega, by first | trivial | rfl | exact ⟨rfl, rfl⟩⟩
  · rw [List.drop_eq_nil_of_le hge, satA] at hR
    rw [← hR]
    simp (disch := omega) only [go_sem, go_cond, zA, zB, zC, zD, zE, zF, zG, zH, ↓reduceIte, zI, reduceCtorEq, zJ, zK, hni, Option.getD_some, Option.isSome_some]
    try first | rfl | exact ⟨rfl, rfl⟩
set_option maxHeartbeats 16000000 in
theorem counterexample_E (m : Ip) (hm : m.ok = true) (ht : m.tame) (c : Cl) (hc : c.ok = true) (hn6 : c.narrow = true) : E 35 [m.sv, c.sv] [] = some (.tup [.ref 0, .bool (cexF (cexAll m c)), .bool (cexAll m c).isSome], [.row 72 2 ((cexL (cexAll m c)).map Ag.o)]) := by
  obtain ⟨⟨s1, s3⟩, _, _⟩ := Ip.ok_parts hm
  have hv := clauseVariables_E c hc
  have hcv : insA [] (Lt.vsL c.lits) = c.vars := rfl
  rw [hcv] at hv
  have h6 : c.vars.length ≤ 6 := by
    have h := dec_iff.1 hn6
    rw [hcv] at h
    omega
  have hp := power_E m.size c.vars.length s1 s3 (by omega) (by omega)
  have hcs : (c.vars.length : Int).toNat = c.vars.length := by omega
  rw [hcs] at hp
  have hP := pw_nar s1 s3 h6
  obtain ⟨P, hPe⟩ : ∃ P, P = pw m.size c.vars.length := ⟨_, rfl⟩
  have hall : cexAll m c = cexN m c P.toNat 0 := by rw [hPe]; rfl
  rw [hall]
  rw [← hPe] at hp hP
  refine E_walk k_impl_Interpretation_counterexample m_impl_Interpretation_counterexample (of_decide_eq_true rfl) ?_
  simp (disch := omega) only [c_impl_Interpretation_counterexample, go_sem, go_cond, zA, zB, zC, zD, zE, zF, zG, zH, ↓reduceIte, zI, reduceCtorEq, zJ, zK, hv, hp, m_impl_clauseVariables, m_impl_power]
  refine go_loop (α := Int) (fun n => ⟨slots 75 0 [(2, .ptr 0 0), (3, .ptr 1 0), (7, .ref 2), (21, .int .i64 P), (22, .int .i64 n)], [.box 35 [.int .i64 m.size, .arr (m.tables.map Tl.d)], .box 39 [.arr (c.lits.map Lt.d)], .row 9 1 (c.vars.map fun s => [OT.str s])]⟩) (fun n => ∃ k : Nat, n = k ∧ k ≤ P.toNat ∧ cexN m c (P.toNat - k) n = cexN m c P.toNat 0) (fun n => P.toNat - n.toNat) 0 ⟨0, rfl, Nat.zero_le _, rfl⟩ (by simp (disch := omega) only [go_sem, go_cond, zA, zB, zC, zD, zE, zF, zG, zH, ↓reduceIte, zI, reduceCtorEq, zJ, zK]) ?_
  rintro n ⟨k, hn, hk, hR⟩
  rcases Int.lt_or_le n P with hlt | hge
  · have hkP : k < P.toNat := by omega
    have hL : ((c.vars.length : Int) - 1 + 1).toNat = c.vars.length := by omega
    have hz0 : (c.vars.drop c.vars.length) = [] := List.drop_length
    have hdg : digA m.size [] n = ([], n) := rfl
    have hnone : envM (asg []) = nomap := envM_none
    have hnew := padA_new c.vars.length
    simp (disch := omega) only [go_sem, go_cond, zA, zB, zC, zD, zE, zF, zG, zH, ↓reduceIte, zI, reduceCtorEq, zJ, zK]
    refine go_loop (α := Int × Int) (fun a => ⟨slots 75 0 [(2, .ptr 0 0), (3, .ptr 1 0), (7, .ref 2), (9, .ref 3), (10, .ref 4), (11, .int .i64 a.2), (12, .int .i64 a.1), (21, .int .i64 P), (22, .int .i64 n)], [.box 35 [.int .i64 m.size, .arr (m.tables.map Tl.d)], .box 39 [.arr (c.lits.map Lt.d)], .row 9 1 (c.vars.map fun s => [OT.str s]), .row 72 2 (padA (a.1 + 1).toNat ((digA m.size (c.vars.drop (a.1 + 1).toNat) n).1.map Ag.o)), .mp true (envM (asg (digA m.size (c.vars.drop (a.1 + 1).toNat) n).1))]⟩) (fun a => ∃ j : Nat, a.1 = (j : Int) - 1 ∧ j ≤ c.vars.length ∧ a.2 = (digA m.size (c.vars.drop j) n).2) (fun a => (a.1 + 1).toNat) ((c.vars.length : Int) - 1, n) ⟨c.vars.length, rfl, Nat.le_refl _, by rw [hz0, hdg]⟩ (by simp (disch := omega) only [go_sem, go_cond, zA, zB, zC, zD, zE, zF, zG, zH, ↓reduceIte, zI, reduceCtorEq, zJ, zK, hL, hz0, hdg, hnone, hnew, List.map_nil, Int.toNat_natCast]) ?_
    rintro ⟨i, rest⟩ ⟨j0, hi, hj, hr⟩
    dsimp only at hi hr
    obtain ⟨r0, r1⟩ := digA_rest s1 (show 0 ≤ n by omega) (c.vars.drop j0)
    rw [← hr] at r0 r1
    rcases Nat.eq_zero_or_pos j0 with h0 | h0
    · subst h0
      obtain rfl : i = -1 := by omega
      have e1 : ((-1 : Int) + 1).toNat = 0 := rfl
      have hsa := satisfied_E m hm ht c hc (asg (digA m.size c.vars n).1) (asg_in fun x hx => digA_in s1 (by omega) _ x hx)
      cases hs : satA m (asg (digA m.size c.vars n).1) c.lits false with
      | none =>
        rw [hs] at hsa
        rw [cexN_no hkP hs] at hR
        rw [← hR]
        simp (disch := omega) only [go_sem, go_cond, zA, zB, zC, zD, zE, zF, zG, zH, ↓reduceIte, zI, reduceCtorEq, zJ, zK, e1, hsa, List.drop_zero, padA_zero, m_impl_Interpretation_satisfied, Option.getD_none, Option.isSome_none, Option.getD_some, Option.isSome_some, cexL, cexF]
        try first | rfl | exact ⟨rfl, rfl⟩
      | some b =>
        rw [hs] at hsa
        cases b with
        | false =>
          rw [cexN_hit hkP hs] at hR
          rw [← hR]
          simp (disch := omega) only [go_sem, go_cond, zA, zB, zC, zD, zE, zF, zG, zH, ↓reduceIte, zI, reduceCtorEq, zJ, zK, e1, hsa, List.drop_zero, padA_zero, m_impl_Interpretation_satisfied, Option.getD_none, Option.isSome_none, Option.getD_some, Option.isSome_some, cexL, cexF]
          try first | rfl | exact ⟨rfl, rfl⟩
        | true =>
          rw [cexN_go hkP hs] at hR
          simp (disch := omega) only [go_sem, go_cond, zA, zB, zC, zD, zE, zF, zG, zH, ↓reduceIte, zI, reduceCtorEq, zJ, zK, e1, hsa, List.drop_zero, padA_zero, m_impl_Interpretation_satisfied, Option.getD_none, Option.isSome_none, Option.getD_some, Option.isSome_some, cexL, cexF]
          exact ⟨n + 1, ⟨k + 1, by omega, by omega, hR⟩, by omega, by first | trivial | rfl | exact ⟨rfl, rfl⟩⟩
    · obtain ⟨j, rfl⟩ : ∃ j, j0 = j + 1 := ⟨j0 - 1, by omega⟩
      have hjl : j < c.vars.length := by omega
      have hni : i.toNat = j := by omega
      have hk1 : (i + 1).toNat = j + 1 := by omega
      have hk2 : (i - 1 + 1).toNat = j := by omega
      have hgn : (c.vars.map fun s => [OT.str s])[j]? = some [OT.str c.vars[j]] := by rw [List.getElem?_map, List.getElem?_eq_getElem hjl]; rfl
      have hdj : digA m.size (c.vars.drop j) n = (⟨c.vars[j], rest.tmod m.size⟩ :: (digA m.size (c.vars.drop (j + 1)) n).1, rest.tdiv m.size) := by rw [List.drop_eq_getElem_cons hjl, digA, ← hr]
      have hd1 : (digA m.size (c.vars.drop j) n).1 = ⟨c.vars[j], rest.tmod m.size⟩ :: (digA m.size (c.vars.drop (j + 1)) n).1 := by rw [hdj]
      have hd2 : (digA m.size (c.vars.drop j) n).2 = rest.tdiv m.size := by rw [hdj]
      have hdl := digA_len m.size n (c.vars.drop (j + 1))
      rw [List.length_drop] at hdl
      have hrl := padA_len (j + 1) ((digA m.size (c.vars.drop (j + 1)) n).1.map Ag.o)
      rw [List.length_map, hdl] at hrl
      have hset : (padA (j + 1) ((digA m.size (c.vars.drop (j + 1)) n).1.map Ag.o)).set j [OT.str c.vars[j], OT.int (rest.tmod m.size)] = padA j ((digA m.size (c.vars.drop j) n).1.map Ag.o) := by rw [padA_set, hd1]; rfl
      have hgo := padA_get ((digA m.size (c.vars.drop (j + 1)) n).1.map Ag.o) j
      have hmp : mput (envM (asg (digA m.size (c.vars.drop (j + 1)) n).1)) (.str c.vars[j]) (false, [.int (rest.tmod m.size)]) = envM (asg (digA m.size (c.vars.drop j) n).1) := by rw [envM_put, hd1, asg_cons]
      have hmd := tmod_in r0 s1
      have hdv := tdiv_le r0 s1
      simp (disch := omega) only [go_sem, go_cond, zA, zB, zC, zD, zE, zF, zG, zH, ↓reduceIte, zI, reduceCtorEq, zJ, zK, hni, hk1, hgn, hgo, hrl, hset, hmp, List.length_set]
      refine ⟨(i - 1, rest.tdiv m.size), ⟨j, by dsimp only; omega, by omega, hd2.symm⟩, by dsimp only; omega, ?_⟩
      first | trivial | rfl | simp (disch := omega) only [go_sem, go_cond, zA, zB, zC, zD, zE, zF, zG, zH, ↓reduceIte, zI, reduceCtorEq, zJ, zK, hk2]
  · obtain rfl : k = P.toNat := by omega
    rw [Nat.sub_self, cexN] at hR
    rw [← hR]
    simp (disch := omega) only [go_sem, go_cond, zA, zB, zC, zD, zE, zF, zG, zH, ↓reduceIte, zI, reduceCtorEq, zJ, zK, cexL, cexF, Option.isSome_some]
    try first | rfl | exact ⟨rfl, rfl⟩
set_option maxHeartbeats 8000000 in
theorem l10True_E (m : Ip) (hm : m.ok = true) (ht : m.tame) (as_ : List Ag) (hal : as_.length ≤ 1099511627776) (he : InE m.size (asg as_)) (x : Tm) (hx : x.atom = true) : E 58 [m.sv, .arr (as_.map Ag.d), x.sv, .bool true] [] = some (optT (x.tru m (asg as_)), []) := by
  have hnn := Tm.atom_nodes hx
  have hnq := Tm.nodes_eq x
  have hxl : x.args.length ≤ 29 := by have := Tm.length_le x.args; omega
  have ih : ∀ y ∈ x.args, LvC m as_ y := fun y hy => l10Value_E m hm ht.1 (fun t h => ht.2 t h) as_ hal he y (by have := Tm.nodes_mem hy; omega)
  have hml := ht.1
  have hvl := ht.2
  have hnv : varB x.name = false := by
    cases hv : varB x.name with
    | false => rfl
    | true =>
      have ha := hx
      unfold Tm.atom at ha
      cases hq : x.eqn with
      | true => exact absurd hv (by rw [Tm.eqn_var hq]; decide)
      | false =>
        rw [hq, if_neg (by simp), Bool.and_eq_true] at ha
        rw [var_noSym hv] at ha; cases ha.1
  have h1 := l2Var_E x.name
  rw [hnv] at h1
  obtain ⟨⟨s1, s3⟩, hT, _⟩ := Ip.ok_parts hm
  have hf := l10Find_E m.tables hml x.name x.args.length
  refine E_walk k_spec_l10Value m_spec_l10Value (of_decide_eq_true rfl) ?_
  simp (disch := omega) only [c_spec_l10Value, go_sem, go_cond, zA, zB, zC, zD, zE, zF, zG, zH, ↓reduceIte, zI, reduceCtorEq, zJ, zK, h1, m_spec_l2Var]
  refine go_loop (α := Int × (Int)) (fun a => ⟨slots 108 0 [(1, .arr (as_.map Ag.d)), (3, .bool true), (4, .ptr 0 0), (6, .ptr 1 0), (11, .int .i64 (a.2)), (12, .int .i64 (a.1))], [.box 35 [.int .i64 m.size, .arr (m.tables.map Tl.d)], .box 105 [.str x.name, .arr (x.args.map Tm.d)]]⟩) (fun a => ∃ k : Nat, a.1 = k ∧ k ≤ (x.args).length ∧ 0 ≤ (a.2) ∧ (a.2) < pw m.size k ∧ Tm.valS m (asg as_) (x.args.drop k) (a.2) = Tm.valS m (asg as_) x.args 0) (fun a => (x.args).length - (a.1).toNat) (0, 0) ⟨0, rfl, Nat.zero_le _, ⟨Int.le_refl 0, by rw [pw]; omega, by rw [List.drop_zero]⟩⟩ (by simp (disch := omega) only [go_sem, go_cond, zA, zB, zC, zD, zE, zF, zG, zH, ↓reduceIte, zI, reduceCtorEq, zJ, zK]) ?_
  rintro ⟨i, at_⟩ ⟨k, hi, hk, hR⟩
  dsimp only at hi hR
  have hni : i.toNat = k := by omega
  have hni1 : (i + 1).toNat = k + 1 := by omega
  rcases Nat.lt_or_ge k (x.args).length with hlt | hge
  · have hg := get_at Tm.d hlt
    rw [Tm.d_eq] at hg
    obtain ⟨r0, r1, r2⟩ := hR
    have hc := ih x.args[k] (List.getElem_mem hlt)
    rw [List.drop_eq_getElem_cons hlt, Tm.valS] at r2
    have hps := pw_mid s1 s3 (k := k + 1) (by omega)
    cases hv : x.args[k].val m (asg as_) with
    | none =>
      rw [hv] at r2
      unfold LvC at hc
      rw [hv] at hc
      have hrn : x.tru m (asg as_) = none := by
        unfold Tm.tru
        rw [← r2]
        cases x.eqn with
        | true => rfl
        | false =>
          simp only [Bool.false_eq_true, if_false]
          unfold readT
          split <;> first | rfl | (rename_i h; cases h)
      rw [hrn]
      simp (disch := omega) only [go_sem, go_cond, zA, zB, zC, zD, zE, zF, zG, zH, ↓reduceIte, zI, reduceCtorEq, zJ, zK, hni, hg, hc, Option.getD_none, Option.isSome_none, Option.getD_some, Option.isSome_some, m_spec_l10Value]
      try first | rfl | exact ⟨rfl, rfl⟩
    | some v =>
      rw [hv] at r2
      unfold LvC at hc
      rw [hv] at hc
      obtain ⟨v0, v1⟩ := Tm.val_in hm he _ v hv
      obtain ⟨q0, q1, q2, q3⟩ := at_next s1 r0 r1 v0 v1
      rw [pw] at hps
      simp (disch := omega) only [go_sem, go_cond, zA, zB, zC, zD, zE, zF, zG, zH, ↓reduceIte, zI, reduceCtorEq, zJ, zK, hni, hg, hc, Option.getD_none, Option.isSome_none, Option.getD_some, Option.isSome_some, m_spec_l10Value]
      refine ⟨(i + 1, at_ * m.size + v), ⟨k + 1, by dsimp only; omega, hlt, q0, (by rw [pw]; exact q1), r2⟩, by dsimp only; omega, ?_⟩
      first | trivial | rfl | exact ⟨rfl, rfl⟩
  · obtain rfl : k = x.args.length := by omega
    obtain ⟨r0, r1, r2⟩ := hR
    rw [List.drop_eq_nil_of_le hge, Tm.valS] at r2
    have hps := pw_mid s1 s3 (k := x.args.length) (by omega)
    have hdv0 : 0 ≤ at_.tdiv m.size := by rw [Int.tdiv_eq_ediv_of_nonneg r0]; exact Int.ediv_nonneg r0 (by omega)
    have hdv1 : at_.tdiv m.size ≤ at_ := by rw [Int.tdiv_eq_ediv_of_nonneg r0]; exact Int.ediv_le_self _ r0
    cases hq : x.eqn with
    | true =>
      have hrn : x.tru m (asg as_) = some (bif dec (at_.tmod m.size = at_.tdiv m.size) then 1 else 0) := by unfold Tm.tru; rw [hq, if_pos rfl, ← r2]
      rw [hrn]
      unfold Tm.eqn at hq
      cases hd : dec (at_.tmod m.size = at_.tdiv m.size) with
      | true =>
        simp (disch := omega) only [go_sem, go_cond, zA, zB, zC, zD, zE, zF, zG, zH, ↓reduceIte, zI, reduceCtorEq, zJ, zK, hni, hq, hd, Option.getD_some, Option.isSome_some]
        try first | rfl | exact ⟨rfl, rfl⟩
      | false =>
        simp (disch := omega) only [go_sem, go_cond, zA, zB, zC, zD, zE, zF, zG, zH, ↓reduceIte, zI, reduceCtorEq, zJ, zK, hni, hq, hd, Option.getD_some, Option.isSome_some]
        try first | rfl | exact ⟨rfl, rfl⟩
    | false =>
      have hrn0 : x.tru m (asg as_) = readT m.tables x.name x.args.length true (some at_) := by unfold Tm.tru; rw [hq, if_neg (by simp), ← r2]
      rw [hrn0]
      unfold Tm.eqn at hq
      have hTF := tabF_first (n := x.name) (z := x.args.length) (p := true) (tabs_pair hT)
      rcases idxP_find (fun t : Tl => dec (t.name = x.name) && dec (t.arity = (x.args.length : Int))) m.tables 0 with ⟨h2, h3⟩ | ⟨j, t, hj, h2, h3, h4⟩
      · rw [h2] at hTF
        rw [h3] at hf
        have hrn : readT m.tables x.name x.args.length true (some at_) = none := by unfold readT; rw [hTF]
        rw [hrn]
        simp (disch := omega) only [go_sem, go_cond, zA, zB, zC, zD, zE, zF, zG, zH, ↓reduceIte, zI, reduceCtorEq, zJ, zK, hni, hq, hf, m_spec_l10Find]
        try first | rfl | exact ⟨rfl, rfl⟩
      · rw [h2] at hTF
        rw [h3, Int.zero_add] at hf
        have hg := get_at Tl.d hj
        rw [h4, Tl.d_eq] at hg
        obtain ⟨jj, hjj⟩ : ∃ jj : Int, jj = (j : Int) := ⟨_, rfl⟩
        rw [← hjj] at hf
        have hnj : jj.toNat = j := by omega
        simp only at hTF
        have hbt : (false == true) = false := rfl
        have hbf : (true == true) = true := rfl
        cases hpr : t.pred with
        | false =>
          rw [hpr] at hTF
          have hrn : readT m.tables x.name x.args.length true (some at_) = none := by unfold readT; rw [hTF]; rfl
          rw [hrn]
          simp (disch := omega) only [go_sem, go_cond, zA, zB, zC, zD, zE, zF, zG, zH, ↓reduceIte, zI, reduceCtorEq, zJ, zK, hni, hq, hf, hnj, hg, hpr, hbt, m_spec_l10Find]
          try first | rfl | exact ⟨rfl, rfl⟩
        | true =>
          rw [hpr] at hTF
          have hTF : tabF m.tables x.name x.args.length true = some t := hTF
          have hrn : readT m.tables x.name x.args.length true (some at_) = some (t.vals.getD at_.toNat 0) := by unfold readT; rw [hTF]
          obtain ⟨g1, g2, _, _⟩ := read_in hm hTF r0 r1
          have hgv := get_at (fun n => [D.int n]) g1
          have hvt := hvl t (tabF_some hTF).1
          rw [hrn, g2]
          simp (disch := omega) only [go_sem, go_cond, zA, zB, zC, zD, zE, zF, zG, zH, ↓reduceIte, zI, reduceCtorEq, zJ, zK, hni, hq, hf, hnj, hg, hgv, hpr, hbf, Option.getD_some, Option.isSome_some, m_spec_l10Find]
          try first | rfl | exact ⟨rfl, rfl⟩
def c_spec_l10Counter : SC := (.seq (.reg [⟨some 2, none, .boxv 35 2 (.t 0)⟩, ⟨some 3, none, .boxv 39 1 (.t 1)⟩, ⟨some 4, none, .mv (.c .nil)⟩, ⟨some 5, none, .mv (.c (.int .i64 0))⟩]) (.seq (.reg [⟨some 15, none, .load true 1 (.t 3)⟩, ⟨some 16, none, .call 57 [(.t 15)]⟩, ⟨some 6, none, .mv (.t 16)⟩]) (.seq (.seq (.reg [⟨some 7, none, .mv (.c (.int .i64 0))⟩]) (.block 0 (.loop [0, 0, 1, 1, 0, 0, 1, 1, 0, 0, 0, 0, 0, 0, 0, 0, 0, 0, 0, 0, 0, 0, 0, 0, 0, 0, 0, 0, 0, 0, 0, 0, 0, 0, 0, 0, 0, 0, 0, 0, 0, 0, 0, 0, 0, 0, 0, 0, 0, 0, 0, 0, 0, 0, 0, 0, 0, 0, 0, 0, 0, 0, 0, 0, 0, 0, 0, 0, 0, 0, 0, 0, 0, 0, 0, 0, 0, 0, 0, 0, 0, 0, 0, 0, 0, 0, 0, 0, 0] (.seq (.seq (.reg [⟨some 17, none, .mv (.t 7)⟩, ⟨some 18, none, .faddr 0 (.t 2)⟩, ⟨some 19, none, .load false 1 (.t 18)⟩, ⟨some 20, none, .mv (.t 6)⟩, ⟨some 21, none, .len false (.t 20)⟩, ⟨some 22, none, .call 56 [(.t 19), (.t 21)]⟩, ⟨some 23, none, .bin .lss false (.t 17) (.t 22)⟩]) (.cond (.t 23) .skip (.exit 0))) (.seq (.block 1 (.seq (.reg [⟨(some 26), none, (.mkrow 72 2 [(.str ⟨#[]⟩), (.int .i64 0)] 0 [])⟩, ⟨some 8, none, .mv (.t 26)⟩]) (.seq (.reg [⟨some 27, none, .mv (.t 7)⟩, ⟨some 9, none, .mv (.t 27)⟩]) (.seq (.seq (.reg [⟨some 28, none, .mv (.t 6)⟩, ⟨some 29, none, .len false (.t 28)⟩, ⟨some 30, none, .bin .sub false (.t 29) (.c (.int .i64 1))⟩, ⟨some 10, none, .mv (.t 30)⟩]) (.block 2 (.loop [0, 0, 1, 1, 0, 0, 1, 1, 1, 1, 1, 0, 0, 0, 0, 0, 0, 0, 0, 0, 0, 0, 0, 0, 0, 0, 0, 0, 0, 0, 0, 0, 0, 0, 0, 0, 0, 0, 0, 0, 0, 0, 0, 0, 0, 0, 0, 0, 0, 0, 0, 0, 0, 0, 0, 0, 0, 0, 0, 0, 0, 0, 0, 0, 0, 0, 0, 0, 0, 0, 0, 0, 0, 0, 0, 0, 0, 0, 0, 0, 0, 0, 0, 0, 0, 0, 0, 0, 0] (.seq (.seq (.reg [⟨some 31, none, .mv (.t 10)⟩, ⟨some 32, none, .bin .geq false (.t 31) (.c (.int .i64 0))⟩]) (.cond (.t 32) .skip (.exit 2))) (.seq (.block 3 (.seq (.dreg [[], [], [0, 1], [2, 0, 1], [], [], [5], [4, 6, 5], [3, 2, 0, 1, 7, 4, 6, 5], [8, 3, 2, 0, 1, 7, 4, 6, 5], [], [9, 8, 3, 2, 0, 1, 7, 4, 6, 5, 10], [11, 9, 8, 3, 2, 0, 1, 7, 4, 6, 5, 10]] [⟨some 35, none, .mv (.t 6)⟩, ⟨some 36, none, .mv (.t 10)⟩, ⟨some 37, none, .iaddr 1 (.t 35) (.t 36)⟩, ⟨some 38, none, .load false 1 (.t 37)⟩, ⟨some 39, none, .mv (.t 9)⟩, ⟨some 40, none, .faddr 0 (.t 2)⟩, ⟨some 41, none, .load false 1 (.t 40)⟩, ⟨some 42, none, .bin .rem false (.t 39) (.t 41)⟩, ⟨(some 43), none, (.build [(.str ⟨#[]⟩), (.int .i64 0)] [(0, (1, (.t 38))), (1, (1, (.t 42)))])⟩, ⟨(some 44), none, (.mkrow 72 2 [(.str ⟨#[]⟩), (.int .i64 0)] 1 [(0, (.t 43))])⟩, ⟨some 45, none, .mv (.t 8)⟩, ⟨(some 46), none, (.append 72 2 24 [(.str ⟨#[]⟩), (.int .i64 0)] (.t 44) (.t 45))⟩, ⟨some 8, none, .mv (.t 46)⟩]) (.reg [⟨some 47, none, .mv (.t 9)⟩, ⟨some 48, none, .faddr 0 (.t 2)⟩, ⟨some 49, none, .load false 1 (.t 48)⟩, ⟨some 50, none, .bin .quo false (.t 47) (.t 49)⟩, ⟨some 9, none, .mv (.t 50)⟩]))) (.reg [⟨some 33, none, .mv (.t 10)⟩, ⟨some 34, none, .bin .sub false (.t 33) (.c (.int .i64 1))⟩, ⟨some 10, none, .mv (.t 34)⟩])))))) (.seq (.reg [⟨some 11, none, .mv (.c (.bool false))⟩]) (.seq (.seq (.reg [⟨some 12, none, .mv (.c (.int .i64 0))⟩]) (.block 4 (.loop [0, 0, 1, 1, 0, 0, 1, 1, 1, 0, 0, 1, 1, 0, 0, 0, 0, 0, 0, 0, 0, 0, 0, 0, 0, 0, 0, 0, 0, 0, 0, 0, 0, 0, 0, 0, 0, 0, 0, 0, 0, 0, 0, 0, 0, 0, 0, 0, 0, 0, 0, 0, 0, 0, 0, 0, 0, 0, 0, 0, 0, 0, 0, 0, 0, 0, 0, 0, 0, 0, 0, 0, 0, 0, 0, 0, 0, 0, 0, 0, 0, 0, 0, 0, 0, 0, 0, 0, 0] (.seq (.seq (.reg [⟨some 51, none, .mv (.t 12)⟩, ⟨some 52, none, .faddr 0 (.t 3)⟩, ⟨some 53, none, .load false 1 (.t 52)⟩, ⟨some 54, none, .len false (.t 53)⟩, ⟨some 55, none, .bin .lss false (.t 51) (.t 54)⟩]) (.cond (.t 55) .skip (.exit 4))) (.seq (.block 5 (.seq (.dreg [[], [], [], [2], [], [3, 2, 4], [5, 3, 2, 4], [6, 5, 3, 2, 4], [0, 1, 7, 6, 5, 3, 2, 4], [8, 0, 1, 7, 6, 5, 3, 2, 4], [9, 8, 0, 1, 7, 6, 5, 3, 2, 4], [9, 8, 0, 1, 7, 6, 5, 3, 2, 4], [10, 9, 8, 0, 1, 7, 6, 5, 3, 2, 4], [11, 9, 8, 0, 1, 7, 6, 5, 3, 2, 4, 12, 10]] [⟨some 59, none, .load true 2 (.t 2)⟩, ⟨some 60, none, .mv (.t 8)⟩, ⟨some 61, none, .faddr 0 (.t 3)⟩, ⟨some 62, none, .load false 1 (.t 61)⟩, ⟨some 63, none, .mv (.t 12)⟩, ⟨some 64, none, .iaddr 3 (.t 62) (.t 63)⟩, ⟨some 65, none, .faddr 1 (.t 64)⟩, ⟨some 66, none, .load true 2 (.t 65)⟩, ⟨some 67, none, .call 58 [(.t 59), (.t 60), (.t 66), (.c (.bool true))]⟩, ⟨some 58, none, .mv (.t 67)⟩, ⟨some 68, none, .ext (.t 58) 0⟩, ⟨some 69, none, .ext (.t 58) 1⟩, ⟨some 13, none, .mv (.t 68)⟩, ⟨some 14, none, .mv (.t 69)⟩]) (.seq (.seq (.reg [⟨some 70, none, .mv (.t 14)⟩, ⟨some 71, none, .un .not (.t 70)⟩]) (.cond (.t 71) (.seq (.reg [⟨(some 72), none, (.mkrow 72 2 [(.str ⟨#[]⟩), (.int .i64 0)] 0 [])⟩, ⟨some 4, none, .mv (.t 72)⟩, ⟨some 5, none, .mv (.c (.int .i64 (-(0 + 1))))⟩]) .ret) .skip)) (.reg [⟨some 73, none, .mv (.t 11)⟩, ⟨some 74, none, .mv (.t 73)⟩, ⟨(some 75), (some (74, false)), (.mv (.t 13))⟩, ⟨(some 76), (some (74, false)), (.bin .eql false (.t 75) (.c (.int .i64 1)))⟩, ⟨(some 77), (some (74, false)), (.faddr 0 (.t 3))⟩, ⟨(some 78), (some (74, false)), (.load false 1 (.t 77))⟩, ⟨(some 79), (some (74, false)), (.mv (.t 12))⟩, ⟨(some 80), (some (74, false)), (.iaddr 3 (.t 78) (.t 79))⟩, ⟨(some 81), (some (74, false)), (.faddr 0 (.t 80))⟩, ⟨(some 82), (some (74, false)), (.load false 1 (.t 81))⟩, ⟨(some 83), (some (74, false)), (.bin .eql true (.t 76) (.t 82))⟩, ⟨some 84, none, .pick (.t 74) (.c (.bool true)) (.t 83)⟩, ⟨some 11, none, .mv (.t 84)⟩])))) (.reg [⟨some 56, none, .mv (.t 12)⟩, ⟨some 57, none, .bin .add false (.t 56) (.c (.int .i64 1))⟩, ⟨some 12, none, .mv (.t 57)⟩])))))) (.seq (.reg [⟨some 85, none, .mv (.t 11)⟩, ⟨some 86, none, .un .not (.t 85)⟩]) (.cond (.t 86) (.seq (.reg [⟨some 87, none, .mv (.t 8)⟩, ⟨some 4, none, .mv (.t 87)⟩, ⟨some 5, none, .mv (.c (.int .i64 1))⟩]) .ret) .skip)))))))) (.reg [⟨some 24, none, .mv (.t 7)⟩, ⟨some 25, none, .bin .add false (.t 24) (.c (.int .i64 1))⟩, ⟨some 7, none, .mv (.t 25)⟩])))))) (.seq (.reg [⟨(some 88), none, (.mkrow 72 2 [(.str ⟨#[]⟩), (.int .i64 0)] 0 [])⟩, ⟨some 4, none, .mv (.t 88)⟩, ⟨some 5, none, .mv (.c (.int .i64 0))⟩]) .ret))))
theorem k_spec_l10Counter : codeOf Tryz.prog 29 = some ⟨89, c_spec_l10Counter, [(.tmp 4), (.tmp 5)]⟩ := by kernel_rfl
theorem m_spec_l10Counter : modes 29 = ⟨[], .frz, none, false⟩ := by unfold modes; rfl
set_option maxHeartbeats 16000000 in
theorem l10Counter_E (m : Ip) (hm : m.ok = true) (ht : m.tame) (c : Cl) (hc : c.ok = true) (hn6 : c.narrow = true) : E 29 [m.sv, c.sv] [] = some (.tup [.arr ((cexL (cexAll m c)).map Ag.d), .int .i64 (cexZ (cexAll m c))], []) := by
  obtain ⟨⟨s1, s3⟩, _, _⟩ := Ip.ok_parts hm
  have hv := l10Names_E c hc
  have hcl8 := Cl.ok_len hc
  have hcv : insA [] (Lt.vsL c.lits) = c.vars := rfl
  rw [hcv] at hv
  have h6 : c.vars.length ≤ 6 := by
    have h := dec_iff.1 hn6
    rw [hcv] at h
    omega
  have hp := l10Power_E m.size c.vars.length s1 s3 (by omega) (by omega)
  have hcs : (c.vars.length : Int).toNat = c.vars.length := by omega
  rw [hcs] at hp
  have hP := pw_nar s1 s3 h6
  obtain ⟨P, hPe⟩ : ∃ P, P = pw m.size c.vars.length := ⟨_, rfl⟩
  have hall : cexAll m c = cexN m c P.toNat 0 := by rw [hPe]; rfl
  rw [hall]
  rw [← hPe] at hp hP
  refine E_walk k_spec_l10Counter m_spec_l10Counter (of_decide_eq_true rfl) ?_
  simp (disch := omega) only [c_spec_l10Counter, go_sem, go_cond, zA, zB, zC, zD, zE, zF, zG, zH, ↓reduceIte, zI, reduceCtorEq, zJ, zK, hv, m_spec_l10Names]
  refine go_loop (α := Int) (fun n => ⟨slots 89 0 [(2, .ptr 0 0), (3, .ptr 1 0), (6, .arr (c.vars.map fun s => [D.str s])), (7, .int .i64 n)], [.box 35 [.int .i64 m.size, .arr (m.tables.map Tl.d)], .box 39 [.arr (c.lits.map Lt.d)]]⟩) (fun n => ∃ k : Nat, n = k ∧ k ≤ P.toNat ∧ cexN m c (P.toNat - k) n = cexN m c P.toNat 0) (fun n => P.toNat - n.toNat) 0 ⟨0, rfl, Nat.zero_le _, rfl⟩ (by simp (disch := omega) only [go_sem, go_cond, zA, zB, zC, zD, zE, zF, zG, zH, ↓reduceIte, zI, reduceCtorEq, zJ, zK]) ?_
  rintro n ⟨k, hn, hk, hR⟩
  rcases Int.lt_or_le n P with hlt | hge
  · have hkP : k < P.toNat := by omega
    have hL : ((c.vars.length : Int) - 1 + 1).toNat = c.vars.length := by omega
    have hz0 : (c.vars.drop c.vars.length) = [] := List.drop_length
    have hdg : digA m.size [] n = ([], n) := rfl
    simp (disch := omega) only [go_sem, go_cond, zA, zB, zC, zD, zE, zF, zG, zH, ↓reduceIte, zI, reduceCtorEq, zJ, zK, hp, m_spec_l10Power]
    refine go_loop (α := Int × Int) (fun a => ⟨slots 89 0 [(2, .ptr 0 0), (3, .ptr 1 0), (6, .arr (c.vars.map fun s => [D.str s])), (7, .int .i64 n), (8, .ref 2), (9, .int .i64 a.2), (10, .int .i64 a.1)], [.box 35 [.int .i64 m.size, .arr (m.tables.map Tl.d)], .box 39 [.arr (c.lits.map Lt.d)], .row 72 2 ((digA m.size (c.vars.drop (a.1 + 1).toNat) n).1.map Ag.o)]⟩) (fun a => ∃ j : Nat, a.1 = (j : Int) - 1 ∧ j ≤ c.vars.length ∧ a.2 = (digA m.size (c.vars.drop j) n).2) (fun a => (a.1 + 1).toNat) ((c.vars.length : Int) - 1, n) ⟨c.vars.length, rfl, Nat.le_refl _, by rw [hz0, hdg]⟩ (by simp (disch := omega) only [go_sem, go_cond, zA, zB, zC, zD, zE, zF, zG, zH, ↓reduceIte, zI, reduceCtorEq, zJ, zK, hL, hz0, hdg, List.map_nil, Int.toNat_natCast]) ?_
    rintro ⟨i, rest⟩ ⟨j0, hi, hj, hr⟩
    dsimp only at hi hr
    obtain ⟨r0, r1⟩ := digA_rest s1 (show 0 ≤ n by omega) (c.vars.drop j0)
    rw [← hr] at r0 r1
    rcases Nat.eq_zero_or_pos j0 with h0 | h0
    · subst h0
      obtain rfl : i = -1 := by omega
      have e1 : ((-1 : Int) + 1).toNat = 0 := rfl
      have hin : InE m.size (asg (digA m.size c.vars n).1) := asg_in fun x hx => digA_in s1 (by omega) _ x hx
      have hdl := digA_len m.size n c.vars
      obtain ⟨as_, has_⟩ : ∃ as_, as_ = (digA m.size c.vars n).1 := ⟨_, rfl⟩
      have hdz2 : (digA m.size c.vars n).1 = as_ := has_.symm
      have hdz : (digA m.size (c.vars.drop 0) n).1 = as_ := by rw [has_]; rfl
      have go' := cexN_go (m := m) (c := c) (n := n) hkP
      have hit' := cexN_hit (m := m) (c := c) (n := n) hkP
      have no' := cexN_no (m := m) (c := c) (n := n) hkP
      rw [← has_] at hin hdl go' hit' no'
      simp (disch := omega) only [go_sem, go_cond, zA, zB, zC, zD, zE, zF, zG, zH, ↓reduceIte, zI, reduceCtorEq, zJ, zK, e1, hdz, hdz2]
      refine go_loop (α := Int × Bool) (fun a => ⟨slots 89 0 [(2, .ptr 0 0), (3, .ptr 1 0), (6, .arr (c.vars.map fun s => [D.str s])), (7, .int .i64 n), (8, .ref 2), (11, .bool a.2), (12, .int .i64 a.1)], [.box 35 [.int .i64 m.size, .arr (m.tables.map Tl.d)], .box 39 [.arr (c.lits.map Lt.d)], .row 72 2 (as_.map Ag.o)]⟩) (fun a => ∃ q : Nat, a.1 = q ∧ q ≤ c.lits.length ∧ satA m (asg as_) (c.lits.drop q) a.2 = satA m (asg as_) c.lits false) (fun a => c.lits.length - a.1.toNat) (0, false) ⟨0, rfl, Nat.zero_le _, by rw [List.drop_zero]⟩ (by simp (disch := omega) only [go_sem, go_cond, zA, zB, zC, zD, zE, zF, zG, zH, ↓reduceIte, zI, reduceCtorEq, zJ, zK, e1, hdz, hdz2, Int.toNat_zero]) ?_
      rintro ⟨z, b⟩ ⟨q, hz, hq, hS⟩
      dsimp only at hz hS
      have hnz : z.toNat = q := by omega
      rcases Nat.lt_or_ge q c.lits.length with hlt2 | hge2
      · have hg := get_at Lt.d hlt2
        rw [Lt.d_eq] at hg
        have has : c.lits[q].atom.sv = .agg [.str c.lits[q].atom.name, .arr (c.lits[q].atom.args.map Tm.d)] := rfl
        have hct := l10True_E m hm ht as_ (by omega) hin c.lits[q].atom (Cl.ok_atom hc hlt2)
        rw [List.drop_eq_getElem_cons hlt2, satA] at hS
        cases hv2 : c.lits[q].atom.tru m (asg as_) with
        | none =>
          rw [hv2] at hct hS
          simp only at hS
          rw [no' hS.symm] at hR
          rw [← hR]
          simp (disch := omega) only [go_sem, go_cond, zA, zB, zC, zD, zE, zF, zG, zH, ↓reduceIte, zI, reduceCtorEq, zJ, zK, hnz, hg, has, hct, hdl, Ag.erss, Ag.noss, m_spec_l10Value, Option.getD_none, Option.isSome_none, Option.getD_some, Option.isSome_some, cexL, cexZ, List.map_nil, OT.erss, OT.noShss]
          try first | rfl | exact ⟨rfl, rfl⟩
        | some v =>
          rw [hv2] at hct hS
          simp only at hS
          cases b with
          | true =>
            rw [Bool.true_or] at hS
            simp (disch := omega) only [go_sem, go_cond, zA, zB, zC, zD, zE, zF, zG, zH, ↓reduceIte, zI, reduceCtorEq, zJ, zK, hnz, hg, has, hct, hdl, Ag.erss, Ag.noss, m_spec_l10Value, Option.getD_none, Option.isSome_none, Option.getD_some, Option.isSome_some, cexL, cexZ, List.map_nil, OT.erss, OT.noShss]
            exact ⟨(z + 1, true), ⟨q + 1, by dsimp only; omega, hlt2, hS⟩, by dsimp only; omega, by first | trivial | rfl | exact ⟨rfl, rfl⟩⟩
          | false =>
            rw [Bool.false_or] at hS
            simp (disch := omega) only [go_sem, go_cond, zA, zB, zC, zD, zE, zF, zG, zH, ↓reduceIte, zI, reduceCtorEq, zJ, zK, hnz, hg, has, hct, hdl, Ag.erss, Ag.noss, m_spec_l10Value, Option.getD_none, Option.isSome_none, Option.getD_some, Option.isSome_some, cexL, cexZ, List.map_nil, OT.erss, OT.noShss]
            exact ⟨(z + 1, dec (v = 1) == c.lits[q].pos), ⟨q + 1, by dsimp only; omega, hlt2, hS⟩, by dsimp only; omega, by first | trivial | rfl | exact ⟨rfl, rfl⟩⟩
      · rw [List.drop_eq_nil_of_le hge2, satA] at hS
        cases b with
        | false =>
          rw [hit' hS.symm] at hR
          rw [← hR]
          simp (disch := omega) only [go_sem, go_cond, zA, zB, zC, zD, zE, zF, zG, zH, ↓reduceIte, zI, reduceCtorEq, zJ, zK, hnz, Ag.erss, Ag.noss, cexL, cexZ]
          try first | rfl | exact ⟨rfl, rfl⟩
        | true =>
          rw [go' hS.symm] at hR
          simp (disch := omega) only [go_sem, go_cond, zA, zB, zC, zD, zE, zF, zG, zH, ↓reduceIte, zI, reduceCtorEq, zJ, zK, hnz, Ag.erss, Ag.noss, cexL, cexZ]
          exact ⟨n + 1, ⟨k + 1, by omega, by omega, hR⟩, by omega, by first | trivial | rfl | exact ⟨rfl, rfl⟩⟩
    · obtain ⟨j, rfl⟩ : ∃ j, j0 = j + 1 := ⟨j0 - 1, by omega⟩
      have hjl : j < c.vars.length := by omega
      have hni : i.toNat = j := by omega
      have hk1 : (i + 1).toNat = j + 1 := by omega
      have hk2 : (i - 1 + 1).toNat = j := by omega
      have hgn := get_at (fun s => [D.str s]) hjl
      have hdj : digA m.size (c.vars.drop j) n = (⟨c.vars[j], rest.tmod m.size⟩ :: (digA m.size (c.vars.drop (j + 1)) n).1, rest.tdiv m.size) := by rw [List.drop_eq_getElem_cons hjl, digA, ← hr]
      have hd1 : (digA m.size (c.vars.drop j) n).1 = ⟨c.vars[j], rest.tmod m.size⟩ :: (digA m.size (c.vars.drop (j + 1)) n).1 := by rw [hdj]
      have hd2 : (digA m.size (c.vars.drop j) n).2 = rest.tdiv m.size := by rw [hdj]
      have hdl := digA_len m.size n (c.vars.drop (j + 1))
      rw [List.length_drop] at hdl
      have hrl : ((digA m.size (c.vars.drop (j + 1)) n).1.map Ag.o).length = c.vars.length - (j + 1) := by rw [List.length_map, hdl]
      have hset : [OT.str c.vars[j], OT.int (rest.tmod m.size)] :: ((digA m.size (c.vars.drop (j + 1)) n).1.map Ag.o) = (digA m.size (c.vars.drop j) n).1.map Ag.o := by rw [hd1]; rfl
      have hmd := tmod_in r0 s1
      have hdv := tdiv_le r0 s1
      have hal : ((digA m.size (c.vars.drop (j + 1)) n).1.map Ag.o).all (fun l => l.length == 2) = true := by rw [List.all_map, List.all_eq_true]; intro x _; rfl
      simp (disch := omega) only [go_sem, go_cond, zA, zB, zC, zD, zE, zF, zG, zH, ↓reduceIte, zI, reduceCtorEq, zJ, zK, hni, hk1, hgn, hrl, hset, hal]
      refine ⟨(i - 1, rest.tdiv m.size), ⟨j, by dsimp only; omega, by omega, hd2.symm⟩, by dsimp only; omega, ?_⟩
      first | trivial | rfl | simp (disch := omega) only [go_sem, go_cond, zA, zB, zC, zD, zE, zF, zG, zH, ↓reduceIte, zI, reduceCtorEq, zJ, zK, hk2]
  · obtain rfl : k = P.toNat := by omega
    rw [Nat.sub_self, cexN] at hR
    rw [← hR]
    simp (disch := omega) only [go_sem, go_cond, zA, zB, zC, zD, zE, zF, zG, zH, ↓reduceIte, zI, reduceCtorEq, zJ, zK, hp, m_spec_l10Power, cexL, cexZ, List.map_nil, OT.erss, OT.noShss]
    try first | rfl | exact ⟨rfl, rfl⟩
noncomputable def cexT (m : Ip) (c : Cl) : Option (Option (List Ag)) := bif m.ok && (c.ok && c.narrow) then cexAll m c else none
set_option maxHeartbeats 4000000 in
theorem firstCounterexample_E (m : Ip) (ht : m.tame) (c : Cl) (hct : c.tame) : E 10 [m.sv, c.sv] [] = some (.tup [.ref 0, .bool (cexF (cexT m c)), .bool (cexT m c).isSome], [.row 72 2 ((cexL (cexT m c)).map Ag.o)]) := by
  have h1 := isValidInterpretation_E m ht
  have h2 := isValidClause_E c hct
  unfold cexT
  cases hm : m.ok with
  | false =>
    rw [hm] at h1
    refine E_walk k_impl_FirstCounterexample m_impl_FirstCounterexample (of_decide_eq_true rfl) ?_
    simp (disch := omega) only [c_impl_FirstCounterexample, go_sem, go_cond, zA, zB, zC, zD, zE, zF, zG, zH, ↓reduceIte, zI, reduceCtorEq, zJ, zK, h1, h2, m_impl_IsValidInterpretation, m_impl_IsValidClause, cexL, cexF, Option.isSome_none]
    try first | rfl | exact ⟨rfl, rfl⟩
  | true =>
    rw [hm] at h1
    cases hc : c.ok with
    | false =>
      rw [hc] at h2
      refine E_walk k_impl_FirstCounterexample m_impl_FirstCounterexample (of_decide_eq_true rfl) ?_
      simp (disch := omega) only [c_impl_FirstCounterexample, go_sem, go_cond, zA, zB, zC, zD, zE, zF, zG, zH, ↓reduceIte, zI, reduceCtorEq, zJ, zK, h1, h2, m_impl_IsValidInterpretation, m_impl_IsValidClause, cexL, cexF, Option.isSome_none]
      try first | rfl | exact ⟨rfl, rfl⟩
    | true =>
      rw [hc] at h2
      have h3 := isNarrow_E c hc
      cases hn : c.narrow with
      | false =>
        rw [hn] at h3
        refine E_walk k_impl_FirstCounterexample m_impl_FirstCounterexample (of_decide_eq_true rfl) ?_
        simp (disch := omega) only [c_impl_FirstCounterexample, go_sem, go_cond, zA, zB, zC, zD, zE, zF, zG, zH, ↓reduceIte, zI, reduceCtorEq, zJ, zK, h1, h2, m_impl_IsValidInterpretation, m_impl_IsValidClause, cexL, cexF, Option.isSome_none, h3, m_impl_isNarrow]
        try first | rfl | exact ⟨rfl, rfl⟩
      | true =>
        rw [hn] at h3
        have h4 := counterexample_E m hm ht c hc hn
        simp only [Bool.and_self, cond_true]
        generalize cexAll m c = o at *
        refine E_walk k_impl_FirstCounterexample m_impl_FirstCounterexample (of_decide_eq_true rfl) ?_
        simp (disch := omega) only [c_impl_FirstCounterexample, go_sem, go_cond, zA, zB, zC, zD, zE, zF, zG, zH, ↓reduceIte, zI, reduceCtorEq, zJ, zK, h1, h2, h3, h4, m_impl_IsValidInterpretation, m_impl_IsValidClause, m_impl_isNarrow, m_impl_Interpretation_counterexample]
        try first | rfl | exact ⟨rfl, rfl⟩
def c_laws_szIntS : SC := (.seq (.reg [⟨some 4, none, .mv (.c (.int .i64 0))⟩]) (.seq (.reg [⟨some 5, none, .mv (.t 1)⟩, ⟨some 6, none, .mv (.t 0)⟩, ⟨some 7, none, .len false (.t 6)⟩, ⟨some 8, none, .bin .sub false (.t 5) (.t 7)⟩, ⟨some 1, none, .mv (.t 8)⟩]) (.seq (.seq (.reg [⟨some 9, none, .mv (.t 1)⟩, ⟨some 10, none, .bin .lss false (.t 9) (.c (.int .i64 0))⟩]) (.cond (.t 10) (.seq (.reg [⟨some 4, none, .mv (.c (.int .i64 (-(0 + 1))))⟩]) .ret) .skip)) (.seq (.reg [⟨some 11, none, .mv (.t 1)⟩, ⟨some 4, none, .mv (.t 11)⟩]) .ret))))
theorem k_laws_szIntS : codeOf Tryz.prog 93 = some ⟨12, c_laws_szIntS, [(.tmp 4)]⟩ := by kernel_rfl
theorem m_laws_szIntS : modes 93 = ⟨[], .asis, none, false⟩ := by unfold modes; rfl
abbrev SzTS_int (xs : List Int) : Prop := D.fit (.arr (xs.map (fun s => [D.int s]))) → ∀ left : Int, 0 ≤ left → left ≤ 1048576 → E 93 [.arr (xs.map (fun s => [D.int s])), .int .i64 left] [] = some (.int .i64 (szR left (xs.length : Nat)), [])
theorem szTS_int (xs : List Int) : SzTS_int xs := by
  intro hfit left h0 h1
  simp only [D.fit, List.length_map] at hfit
  have q0 := szR_spec left xs.length
  refine E_walk k_laws_szIntS m_laws_szIntS (of_decide_eq_true rfl) ?_
  simp (disch := omega) only [c_laws_szIntS, go_sem, go_cond, zA, zB, zC, zD, zE, zF, zG, zH, ↓reduceIte, zI, reduceCtorEq, zJ, zK]
  repeat' (refine boolP_split (fun hq => ?_) (fun hq => ?_) <;> (first | replace hq := dec_iff.1 hq | replace hq := dec_not.1 hq) <;> (try simp (disch := omega) only [go_sem, go_cond, zA, zB, zC, zD, zE, zF, zG, zH, ↓reduceIte, zI, reduceCtorEq, zJ, zK]))
  all_goals omega
def c_laws_szTerm : SC := (.seq (.reg [⟨some 2, none, .boxv 92 2 (.t 0)⟩, ⟨some 4, none, .mv (.c (.int .i64 0))⟩]) (.seq (.reg [⟨some 5, none, .mv (.t 1)⟩, ⟨some 6, none, .faddr 0 (.t 2)⟩, ⟨some 7, none, .load false 1 (.t 6)⟩, ⟨some 8, none, .len true (.t 7)⟩, ⟨some 9, none, .bin .sub false (.t 5) (.t 8)⟩, ⟨some 1, none, .mv (.t 9)⟩]) (.seq (.seq (.reg [⟨some 10, none, .mv (.t 1)⟩, ⟨some 11, none, .bin .lss false (.t 10) (.c (.int .i64 0))⟩]) (.cond (.t 11) (.seq (.reg [⟨some 4, none, .mv (.c (.int .i64 (-(0 + 1))))⟩]) .ret) .skip)) (.seq (.reg [⟨some 12, none, .faddr 1 (.t 2)⟩, ⟨some 13, none, .load false 1 (.t 12)⟩, ⟨some 14, none, .mv (.t 1)⟩, ⟨some 15, none, .call 130 [(.t 13), (.t 14)]⟩, ⟨some 1, none, .mv (.t 15)⟩]) (.seq (.seq (.reg [⟨some 16, none, .mv (.t 1)⟩, ⟨some 17, none, .bin .lss false (.t 16) (.c (.int .i64 0))⟩]) (.cond (.t 17) (.seq (.reg [⟨some 4, none, .mv (.c (.int .i64 (-(0 + 1))))⟩]) .ret) .skip)) (.seq (.reg [⟨some 18, none, .mv (.t 1)⟩, ⟨some 4, none, .mv (.t 18)⟩]) .ret))))))
theorem k_laws_szTerm : codeOf Tryz.prog 94 = some ⟨19, c_laws_szTerm, [(.tmp 4)]⟩ := by kernel_rfl
theorem m_laws_szTerm : modes 94 = ⟨[], .asis, none, false⟩ := by unfold modes; rfl
def c_laws_szTermS : SC := (.seq (.reg [⟨some 4, none, .mv (.c (.int .i64 0))⟩]) (.seq (.reg [⟨some 6, none, .mv (.t 1)⟩, ⟨some 7, none, .mv (.t 0)⟩, ⟨some 8, none, .len false (.t 7)⟩, ⟨some 9, none, .bin .sub false (.t 6) (.t 8)⟩, ⟨some 1, none, .mv (.t 9)⟩]) (.seq (.seq (.reg [⟨some 10, none, .mv (.t 1)⟩, ⟨some 11, none, .bin .lss false (.t 10) (.c (.int .i64 0))⟩]) (.cond (.t 11) (.seq (.reg [⟨some 4, none, .mv (.c (.int .i64 (-(0 + 1))))⟩]) .ret) .skip)) (.seq (.seq (.reg [⟨some 5, none, .mv (.c (.int .i64 0))⟩]) (.block 0 (.loop [1, 1, 0, 0, 0, 1, 0, 0, 0, 0, 0, 0, 0, 0, 0, 0, 0, 0, 0, 0, 0, 0, 0, 0, 0, 0, 0] (.seq (.seq (.reg [⟨some 12, none, .mv (.t 5)⟩, ⟨some 13, none, .mv (.t 0)⟩, ⟨some 14, none, .len false (.t 13)⟩, ⟨some 15, none, .bin .lss false (.t 12) (.t 14)⟩]) (.cond (.t 15) .skip (.exit 0))) (.seq (.block 1 (.seq (.reg [⟨some 18, none, .mv (.t 0)⟩, ⟨some 19, none, .mv (.t 5)⟩, ⟨some 20, none, .iaddr 2 (.t 18) (.t 19)⟩, ⟨some 21, none, .load true 2 (.t 20)⟩, ⟨some 22, none, .mv (.t 1)⟩, ⟨some 23, none, .call 94 [(.t 21), (.t 22)]⟩, ⟨some 1, none, .mv (.t 23)⟩]) (.seq (.reg [⟨some 24, none, .mv (.t 1)⟩, ⟨some 25, none, .bin .lss false (.t 24) (.c (.int .i64 0))⟩]) (.cond (.t 25) (.seq (.reg [⟨some 4, none, .mv (.c (.int .i64 (-(0 + 1))))⟩]) .ret) .skip)))) (.reg [⟨some 16, none, .mv (.t 5)⟩, ⟨some 17, none, .bin .add false (.t 16) (.c (.int .i64 1))⟩, ⟨some 5, none, .mv (.t 17)⟩])))))) (.seq (.reg [⟨some 26, none, .mv (.t 1)⟩, ⟨some 4, none, .mv (.t 26)⟩]) .ret)))))
theorem k_laws_szTermS : codeOf Tryz.prog 130 = some ⟨27, c_laws_szTermS, [(.tmp 4)]⟩ := by kernel_rfl
theorem m_laws_szTermS : modes 130 = ⟨[], .asis, none, false⟩ := by unfold modes; rfl
abbrev SzT_Term (x : Tm) : Prop := D.fits x.d → ∀ left : Int, 0 ≤ left → left ≤ 1048576 → E 94 [x.sv, .int .i64 left] [] = some (.int .i64 (szR left x.bulk), [])
abbrev SzTS_Term (xs : List Tm) : Prop := D.fit (.arr (xs.map Tm.d)) → ∀ left : Int, 0 ≤ left → left ≤ 1048576 → E 130 [.arr (xs.map Tm.d), .int .i64 left] [] = some (.int .i64 (szR left (xs.length + Tm.sumB xs : Nat)), [])
set_option maxHeartbeats 1000000 in
theorem szTS_Term_of (xs : List Tm) (h : ∀ x ∈ xs, SzT_Term x) : SzTS_Term xs := by
  intro hfit left h0 h1
  simp only [D.fit, List.length_map] at hfit
  have q0 := szR_spec left (xs.length + Tm.sumB xs)
  refine E_walk k_laws_szTermS m_laws_szTermS (of_decide_eq_true rfl) ?_
  simp (disch := omega) only [c_laws_szTermS, go_sem, go_cond, zA, zB, zC, zD, zE, zF, zG, zH, ↓reduceIte, zI, reduceCtorEq, zJ, zK]
  repeat' (refine boolP_split (fun hq => ?_) (fun hq => ?_) <;> (first | replace hq := dec_iff.1 hq | replace hq := dec_not.1 hq) <;> (try simp (disch := omega) only [go_sem, go_cond, zA, zB, zC, zD, zE, zF, zG, zH, ↓reduceIte, zI, reduceCtorEq, zJ, zK]))
  · omega
  refine go_loop (α := Int × Int) (fun a => ⟨slots 27 0 [(0, .arr (xs.map Tm.d)), (1, .int .i64 a.2), (5, .int .i64 a.1)], []⟩) (fun a => ∃ k : Nat, a.1 = k ∧ k ≤ xs.length ∧ 0 ≤ a.2 ∧ a.2 ≤ 1048576 ∧ szR a.2 (Tm.sumB (xs.drop k)) = szR left (xs.length + Tm.sumB xs : Nat)) (fun a => xs.length - a.1.toNat) (0, left - xs.length) ⟨0, rfl, Nat.zero_le _, by omega, by omega, ?_⟩ (by simp (disch := omega) only [go_sem, go_cond, zA, zB, zC, zD, zE, zF, zG, zH, ↓reduceIte, zI, reduceCtorEq, zJ, zK]) ?_
  · have q1 := szR_spec (left - xs.length) (Tm.sumB xs)
    rw [List.drop_zero]
    dsimp only
    omega
  · rintro ⟨i, l⟩ ⟨k, hi, hk, hl0, hl1, hs⟩
    dsimp only at hi hl0 hl1 hs
    rcases Nat.lt_or_ge k xs.length with hlt | hge
    · have hg := get_at Tm.d hlt
      rw [Tm.d_eq] at hg
      have hd : Tm.sumB (xs.drop k) = xs[k].bulk + Tm.sumB (xs.drop (k + 1)) := by rw [List.drop_eq_getElem_cons hlt, Tm.sumB]
      rw [hd] at hs
      have hc := h xs[k] (List.getElem_mem hlt) (D.fitss_mem hfit.2 _ (List.getElem_mem hlt)) l hl0 hl1
      have q1 := szR_spec l xs[k].bulk
      have q2 := szR_spec l (xs[k].bulk + Tm.sumB (xs.drop (k + 1)))
      have q3 := szR_spec (l - xs[k].bulk) (Tm.sumB (xs.drop (k + 1)))
      have hn : i.toNat = k := by omega
      simp (disch := omega) only [go_sem, go_cond, zA, zB, zC, zD, zE, zF, zG, zH, ↓reduceIte, zI, reduceCtorEq, zJ, zK, hn, hg, hc, m_laws_szTerm]
      repeat' (refine boolP_split (fun hq => ?_) (fun hq => ?_) <;> (first | replace hq := dec_iff.1 hq | replace hq := dec_not.1 hq) <;> (try simp (disch := omega) only [go_sem, go_cond, zA, zB, zC, zD, zE, zF, zG, zH, ↓reduceIte, zI, reduceCtorEq, zJ, zK]))
      · omega
      · refine ⟨(i + 1, l - xs[k].bulk), ⟨k + 1, by dsimp only; omega, hlt, by dsimp only; omega, by dsimp only; omega, by dsimp only; omega⟩, by dsimp only; omega, ?_⟩
        have e : szR l xs[k].bulk = l - xs[k].bulk := by omega
        simp only [e, and_self]
    · have hd : xs.drop k = [] := List.drop_eq_nil_of_le hge
      rw [hd] at hs
      have q1 := szR_spec l (Tm.sumB [])
      simp only [Tm.sumB] at hs q1
      simp (disch := omega) only [go_sem, go_cond, zA, zB, zC, zD, zE, zF, zG, zH, ↓reduceIte, zI, reduceCtorEq, zJ, zK]
      omega
set_option maxHeartbeats 1000000 in
theorem szT_Term_of (x : Tm) (h_args : SzTS_Term x.args) : SzT_Term x := by
  intro hfit left h0 h1
  rw [Tm.d_eq] at hfit
  simp only [D.fits, D.fit] at hfit
  replace h_args := h_args (by simp only [D.fit, List.length_map]; simp only [List.length_map] at hfit; simp only [hfit, and_self])
  have q := szR_spec left x.bulk
  have qb := Tm.bulk_eq x
  have q0 := szR_spec (left - (x.name.size : Int)) ((x.args.length + Tm.sumB x.args))
  refine E_walk k_laws_szTerm m_laws_szTerm (of_decide_eq_true rfl) ?_
  simp (disch := omega) only [c_laws_szTerm, go_sem, go_cond, zA, zB, zC, zD, zE, zF, zG, zH, ↓reduceIte, zI, reduceCtorEq, zJ, zK, h_args, m_laws_szTermS]
  repeat' (refine boolP_split (fun hq => ?_) (fun hq => ?_) <;> (first | replace hq := dec_iff.1 hq | replace hq := dec_not.1 hq) <;> (try simp (disch := omega) only [go_sem, go_cond, zA, zB, zC, zD, zE, zF, zG, zH, ↓reduceIte, zI, reduceCtorEq, zJ, zK, h_args, m_laws_szTermS]))
  all_goals omega
theorem szT_Term (x : Tm) : SzT_Term x := szT_Term_of x (szTS_Term_of x.args fun y hy => szT_Term y)
termination_by SizeOf.sizeOf x
decreasing_by exact Tm.lt_of_mem hy
def c_laws_szLiteral : SC := (.seq (.reg [⟨some 2, none, .boxv 94 3 (.t 0)⟩, ⟨some 4, none, .mv (.c (.int .i64 0))⟩]) (.seq (.reg [⟨some 5, none, .faddr 1 (.t 2)⟩, ⟨some 6, none, .load true 2 (.t 5)⟩, ⟨some 7, none, .mv (.t 1)⟩, ⟨some 8, none, .call 94 [(.t 6), (.t 7)]⟩, ⟨some 1, none, .mv (.t 8)⟩]) (.seq (.seq (.reg [⟨some 9, none, .mv (.t 1)⟩, ⟨some 10, none, .bin .lss false (.t 9) (.c (.int .i64 0))⟩]) (.cond (.t 10) (.seq (.reg [⟨some 4, none, .mv (.c (.int .i64 (-(0 + 1))))⟩]) .ret) .skip)) (.seq (.reg [⟨some 11, none, .mv (.t 1)⟩, ⟨some 4, none, .mv (.t 11)⟩]) .ret))))
theorem k_laws_szLiteral : codeOf Tryz.prog 53 = some ⟨12, c_laws_szLiteral, [(.tmp 4)]⟩ := by kernel_rfl
theorem m_laws_szLiteral : modes 53 = ⟨[], .asis, none, false⟩ := by unfold modes; rfl
def c_laws_szLiteralS : SC := (.seq (.reg [⟨some 4, none, .mv (.c (.int .i64 0))⟩]) (.seq (.reg [⟨some 6, none, .mv (.t 1)⟩, ⟨some 7, none, .mv (.t 0)⟩, ⟨some 8, none, .len false (.t 7)⟩, ⟨some 9, none, .bin .sub false (.t 6) (.t 8)⟩, ⟨some 1, none, .mv (.t 9)⟩]) (.seq (.seq (.reg [⟨some 10, none, .mv (.t 1)⟩, ⟨some 11, none, .bin .lss false (.t 10) (.c (.int .i64 0))⟩]) (.cond (.t 11) (.seq (.reg [⟨some 4, none, .mv (.c (.int .i64 (-(0 + 1))))⟩]) .ret) .skip)) (.seq (.seq (.reg [⟨some 5, none, .mv (.c (.int .i64 0))⟩]) (.block 0 (.loop [1, 1, 0, 0, 0, 1, 0, 0, 0, 0, 0, 0, 0, 0, 0, 0, 0, 0, 0, 0, 0, 0, 0, 0, 0, 0, 0] (.seq (.seq (.reg [⟨some 12, none, .mv (.t 5)⟩, ⟨some 13, none, .mv (.t 0)⟩, ⟨some 14, none, .len false (.t 13)⟩, ⟨some 15, none, .bin .lss false (.t 12) (.t 14)⟩]) (.cond (.t 15) .skip (.exit 0))) (.seq (.block 1 (.seq (.reg [⟨some 18, none, .mv (.t 0)⟩, ⟨some 19, none, .mv (.t 5)⟩, ⟨some 20, none, .iaddr 3 (.t 18) (.t 19)⟩, ⟨some 21, none, .load true 3 (.t 20)⟩, ⟨some 22, none, .mv (.t 1)⟩, ⟨some 23, none, .call 53 [(.t 21), (.t 22)]⟩, ⟨some 1, none, .mv (.t 23)⟩]) (.seq (.reg [⟨some 24, none, .mv (.t 1)⟩, ⟨some 25, none, .bin .lss false (.t 24) (.c (.int .i64 0))⟩]) (.cond (.t 25) (.seq (.reg [⟨some 4, none, .mv (.c (.int .i64 (-(0 + 1))))⟩]) .ret) .skip)))) (.reg [⟨some 16, none, .mv (.t 5)⟩, ⟨some 17, none, .bin .add false (.t 16) (.c (.int .i64 1))⟩, ⟨some 5, none, .mv (.t 17)⟩])))))) (.seq (.reg [⟨some 26, none, .mv (.t 1)⟩, ⟨some 4, none, .mv (.t 26)⟩]) .ret)))))
theorem k_laws_szLiteralS : codeOf Tryz.prog 26 = some ⟨27, c_laws_szLiteralS, [(.tmp 4)]⟩ := by kernel_rfl
theorem m_laws_szLiteralS : modes 26 = ⟨[], .asis, none, false⟩ := by unfold modes; rfl
abbrev SzT_Literal (x : Lt) : Prop := D.fits x.d → ∀ left : Int, 0 ≤ left → left ≤ 1048576 → E 53 [x.sv, .int .i64 left] [] = some (.int .i64 (szR left x.bulk), [])
abbrev SzTS_Literal (xs : List Lt) : Prop := D.fit (.arr (xs.map Lt.d)) → ∀ left : Int, 0 ≤ left → left ≤ 1048576 → E 26 [.arr (xs.map Lt.d), .int .i64 left] [] = some (.int .i64 (szR left (xs.length + Lt.sumB xs : Nat)), [])
set_option maxHeartbeats 1000000 in
theorem szTS_Literal_of (xs : List Lt) (h : ∀ x ∈ xs, SzT_Literal x) : SzTS_Literal xs := by
  intro hfit left h0 h1
  simp only [D.fit, List.length_map] at hfit
  have q0 := szR_spec left (xs.length + Lt.sumB xs)
  refine E_walk k_laws_szLiteralS m_laws_szLiteralS (of_decide_eq_true rfl) ?_
  simp (disch := omega) only [c_laws_szLiteralS, go_sem, go_cond, zA, zB, zC, zD, zE, zF, zG, zH, ↓reduceIte, zI, reduceCtorEq, zJ, zK]
  repeat' (refine boolP_split (fun hq => ?_) (fun hq => ?_) <;> (first | replace hq := dec_iff.1 hq | replace hq := dec_not.1 hq) <;> (try simp (disch := omega) only [go_sem, go_cond, zA, zB, zC, zD, zE, zF, zG, zH, ↓reduceIte, zI, reduceCtorEq, zJ, zK]))
  · omega
  refine go_loop (α := Int × Int) (fun a => ⟨slots 27 0 [(0, .arr (xs.map Lt.d)), (1, .int .i64 a.2), (5, .int .i64 a.1)], []⟩) (fun a => ∃ k : Nat, a.1 = k ∧ k ≤ xs.length ∧ 0 ≤ a.2 ∧ a.2 ≤ 1048576 ∧ szR a.2 (Lt.sumB (xs.drop k)) = szR left (xs.length + Lt.sumB xs : Nat)) (fun a => xs.length - a.1.toNat) (0, left - xs.length) ⟨0, rfl, Nat.zero_le _, by omega, by omega, ?_⟩ (by simp (disch := omega) only [go_sem, go_cond, zA, zB, zC, zD, zE, zF, zG, zH, ↓reduceIte, zI, reduceCtorEq, zJ, zK]) ?_
  · have q1 := szR_spec (left - xs.length) (Lt.sumB xs)
    rw [List.drop_zero]
    dsimp only
    omega
  · rintro ⟨i, l⟩ ⟨k, hi, hk, hl0, hl1, hs⟩
    dsimp only at hi hl0 hl1 hs
    rcases Nat.lt_or_ge k xs.length with hlt | hge
    · have hg := get_at Lt.d hlt
      rw [Lt.d_eq] at hg
      have hd : Lt.sumB (xs.drop k) = xs[k].bulk + Lt.sumB (xs.drop (k + 1)) := by rw [List.drop_eq_getElem_cons hlt, Lt.sumB]
      rw [hd] at hs
      have hc := h xs[k] (List.getElem_mem hlt) (D.fitss_mem hfit.2 _ (List.getElem_mem hlt)) l hl0 hl1
      have q1 := szR_spec l xs[k].bulk
      have q2 := szR_spec l (xs[k].bulk + Lt.sumB (xs.drop (k + 1)))
      have q3 := szR_spec (l - xs[k].bulk) (Lt.sumB (xs.drop (k + 1)))
      have hn : i.toNat = k := by omega
      simp (disch := omega) only [go_sem, go_cond, zA, zB, zC, zD, zE, zF, zG, zH, ↓reduceIte, zI, reduceCtorEq, zJ, zK, hn, hg, hc, m_laws_szLiteral]
      repeat' (refine boolP_split (fun hq => ?_) (fun hq => ?_) <;> (first | replace hq := dec_iff.1 hq | replace hq := dec_not.1 hq) <;> (try simp (disch := omega) only [go_sem, go_cond, zA, zB, zC, zD, zE, zF, zG, zH, ↓reduceIte, zI, reduceCtorEq, zJ, zK]))
      · omega
      · refine ⟨(i + 1, l - xs[k].bulk), ⟨k + 1, by dsimp only; omega, hlt, by dsimp only; omega, by dsimp only; omega, by dsimp only; omega⟩, by dsimp only; omega, ?_⟩
        have e : szR l xs[k].bulk = l - xs[k].bulk := by omega
        simp only [e, and_self]
    · have hd : xs.drop k = [] := List.drop_eq_nil_of_le hge
      rw [hd] at hs
      have q1 := szR_spec l (Lt.sumB [])
      simp only [Lt.sumB] at hs q1
      simp (disch := omega) only [go_sem, go_cond, zA, zB, zC, zD, zE, zF, zG, zH, ↓reduceIte, zI, reduceCtorEq, zJ, zK]
      omega
set_option maxHeartbeats 1000000 in
theorem szT_Literal_of (x : Lt) (h_atom : SzT_Term x.atom) : SzT_Literal x := by
  intro hfit left h0 h1
  rw [Lt.d_eq] at hfit
  simp only [D.fits, D.fit] at hfit
  replace h_atom := h_atom (by rw [Tm.d_eq]; simp only [D.fits, D.fit, hfit, and_self])
  have q := szR_spec left x.bulk
  have qb := Lt.bulk_eq x
  have q0 := szR_spec left (x.atom.bulk)
  refine E_walk k_laws_szLiteral m_laws_szLiteral (of_decide_eq_true rfl) ?_
  simp (disch := omega) only [c_laws_szLiteral, go_sem, go_cond, zA, zB, zC, zD, zE, zF, zG, zH, ↓reduceIte, zI, reduceCtorEq, zJ, zK, h_atom, m_laws_szTerm]
  repeat' (refine boolP_split (fun hq => ?_) (fun hq => ?_) <;> (first | replace hq := dec_iff.1 hq | replace hq := dec_not.1 hq) <;> (try simp (disch := omega) only [go_sem, go_cond, zA, zB, zC, zD, zE, zF, zG, zH, ↓reduceIte, zI, reduceCtorEq, zJ, zK, h_atom, m_laws_szTerm]))
  all_goals omega
theorem szT_Literal (x : Lt) : SzT_Literal x := szT_Literal_of x (szT_Term x.atom)
def c_laws_szClause : SC := (.seq (.reg [⟨some 2, none, .boxv 27 1 (.t 0)⟩, ⟨some 4, none, .mv (.c (.int .i64 0))⟩]) (.seq (.reg [⟨some 5, none, .faddr 0 (.t 2)⟩, ⟨some 6, none, .load false 1 (.t 5)⟩, ⟨some 7, none, .mv (.t 1)⟩, ⟨some 8, none, .call 26 [(.t 6), (.t 7)]⟩, ⟨some 1, none, .mv (.t 8)⟩]) (.seq (.seq (.reg [⟨some 9, none, .mv (.t 1)⟩, ⟨some 10, none, .bin .lss false (.t 9) (.c (.int .i64 0))⟩]) (.cond (.t 10) (.seq (.reg [⟨some 4, none, .mv (.c (.int .i64 (-(0 + 1))))⟩]) .ret) .skip)) (.seq (.reg [⟨some 11, none, .mv (.t 1)⟩, ⟨some 4, none, .mv (.t 11)⟩]) .ret))))
theorem k_laws_szClause : codeOf Tryz.prog 6 = some ⟨12, c_laws_szClause, [(.tmp 4)]⟩ := by kernel_rfl
theorem m_laws_szClause : modes 6 = ⟨[], .asis, none, false⟩ := by unfold modes; rfl
abbrev SzT_Clause (x : Cl) : Prop := D.fits x.d → ∀ left : Int, 0 ≤ left → left ≤ 1048576 → E 6 [x.sv, .int .i64 left] [] = some (.int .i64 (szR left x.bulk), [])
set_option maxHeartbeats 1000000 in
theorem szT_Clause_of (x : Cl) (h_lits : SzTS_Literal x.lits) : SzT_Clause x := by
  intro hfit left h0 h1
  rw [Cl.d_eq] at hfit
  simp only [D.fits, D.fit] at hfit
  replace h_lits := h_lits (by simp only [D.fit, List.length_map]; simp only [List.length_map] at hfit; simp only [hfit, and_self])
  have q := szR_spec left x.bulk
  have qb := Cl.bulk_eq x
  have q0 := szR_spec left ((x.lits.length + Lt.sumB x.lits))
  refine E_walk k_laws_szClause m_laws_szClause (of_decide_eq_true rfl) ?_
  simp (disch := omega) only [c_laws_szClause, go_sem, go_cond, zA, zB, zC, zD, zE, zF, zG, zH, ↓reduceIte, zI, reduceCtorEq, zJ, zK, h_lits, m_laws_szLiteralS]
  repeat' (refine boolP_split (fun hq => ?_) (fun hq => ?_) <;> (first | replace hq := dec_iff.1 hq | replace hq := dec_not.1 hq) <;> (try simp (disch := omega) only [go_sem, go_cond, zA, zB, zC, zD, zE, zF, zG, zH, ↓reduceIte, zI, reduceCtorEq, zJ, zK, h_lits, m_laws_szLiteralS]))
  all_goals omega
theorem szT_Clause (x : Cl) : SzT_Clause x := szT_Clause_of x (szTS_Literal_of x.lits fun y hy => szT_Literal y)
def c_laws_szTable : SC := (.seq (.reg [⟨some 2, none, .boxv 88 4 (.t 0)⟩, ⟨some 4, none, .mv (.c (.int .i64 0))⟩]) (.seq (.reg [⟨some 5, none, .mv (.t 1)⟩, ⟨some 6, none, .faddr 0 (.t 2)⟩, ⟨some 7, none, .load false 1 (.t 6)⟩, ⟨some 8, none, .len true (.t 7)⟩, ⟨some 9, none, .bin .sub false (.t 5) (.t 8)⟩, ⟨some 1, none, .mv (.t 9)⟩]) (.seq (.seq (.reg [⟨some 10, none, .mv (.t 1)⟩, ⟨some 11, none, .bin .lss false (.t 10) (.c (.int .i64 0))⟩]) (.cond (.t 11) (.seq (.reg [⟨some 4, none, .mv (.c (.int .i64 (-(0 + 1))))⟩]) .ret) .skip)) (.seq (.reg [⟨some 12, none, .faddr 3 (.t 2)⟩, ⟨some 13, none, .load false 1 (.t 12)⟩, ⟨some 14, none, .mv (.t 1)⟩, ⟨some 15, none, .call 93 [(.t 13), (.t 14)]⟩, ⟨some 1, none, .mv (.t 15)⟩]) (.seq (.seq (.reg [⟨some 16, none, .mv (.t 1)⟩, ⟨some 17, none, .bin .lss false (.t 16) (.c (.int .i64 0))⟩]) (.cond (.t 17) (.seq (.reg [⟨some 4, none, .mv (.c (.int .i64 (-(0 + 1))))⟩]) .ret) .skip)) (.seq (.reg [⟨some 18, none, .mv (.t 1)⟩, ⟨some 4, none, .mv (.t 18)⟩]) .ret))))))
theorem k_laws_szTable : codeOf Tryz.prog 52 = some ⟨19, c_laws_szTable, [(.tmp 4)]⟩ := by kernel_rfl
theorem m_laws_szTable : modes 52 = ⟨[], .asis, none, false⟩ := by unfold modes; rfl
def c_laws_szTableS : SC := (.seq (.reg [⟨some 4, none, .mv (.c (.int .i64 0))⟩]) (.seq (.reg [⟨some 6, none, .mv (.t 1)⟩, ⟨some 7, none, .mv (.t 0)⟩, ⟨some 8, none, .len false (.t 7)⟩, ⟨some 9, none, .bin .sub false (.t 6) (.t 8)⟩, ⟨some 1, none, .mv (.t 9)⟩]) (.seq (.seq (.reg [⟨some 10, none, .mv (.t 1)⟩, ⟨some 11, none, .bin .lss false (.t 10) (.c (.int .i64 0))⟩]) (.cond (.t 11) (.seq (.reg [⟨some 4, none, .mv (.c (.int .i64 (-(0 + 1))))⟩]) .ret) .skip)) (.seq (.seq (.reg [⟨some 5, none, .mv (.c (.int .i64 0))⟩]) (.block 0 (.loop [1, 1, 0, 0, 0, 1, 0, 0, 0, 0, 0, 0, 0, 0, 0, 0, 0, 0, 0, 0, 0, 0, 0, 0, 0, 0, 0] (.seq (.seq (.reg [⟨some 12, none, .mv (.t 5)⟩, ⟨some 13, none, .mv (.t 0)⟩, ⟨some 14, none, .len false (.t 13)⟩, ⟨some 15, none, .bin .lss false (.t 12) (.t 14)⟩]) (.cond (.t 15) .skip (.exit 0))) (.seq (.block 1 (.seq (.reg [⟨some 18, none, .mv (.t 0)⟩, ⟨some 19, none, .mv (.t 5)⟩, ⟨some 20, none, .iaddr 4 (.t 18) (.t 19)⟩, ⟨some 21, none, .load true 4 (.t 20)⟩, ⟨some 22, none, .mv (.t 1)⟩, ⟨some 23, none, .call 52 [(.t 21), (.t 22)]⟩, ⟨some 1, none, .mv (.t 23)⟩]) (.seq (.reg [⟨some 24, none, .mv (.t 1)⟩, ⟨some 25, none, .bin .lss false (.t 24) (.c (.int .i64 0))⟩]) (.cond (.t 25) (.seq (.reg [⟨some 4, none, .mv (.c (.int .i64 (-(0 + 1))))⟩]) .ret) .skip)))) (.reg [⟨some 16, none, .mv (.t 5)⟩, ⟨some 17, none, .bin .add false (.t 16) (.c (.int .i64 1))⟩, ⟨some 5, none, .mv (.t 17)⟩])))))) (.seq (.reg [⟨some 26, none, .mv (.t 1)⟩, ⟨some 4, none, .mv (.t 26)⟩]) .ret)))))
theorem k_laws_szTableS : codeOf Tryz.prog 25 = some ⟨27, c_laws_szTableS, [(.tmp 4)]⟩ := by kernel_rfl
theorem m_laws_szTableS : modes 25 = ⟨[], .asis, none, false⟩ := by unfold modes; rfl
abbrev SzT_Table (x : Tl) : Prop := D.fits x.d → ∀ left : Int, 0 ≤ left → left ≤ 1048576 → E 52 [x.sv, .int .i64 left] [] = some (.int .i64 (szR left x.bulk), [])
abbrev SzTS_Table (xs : List Tl) : Prop := D.fit (.arr (xs.map Tl.d)) → ∀ left : Int, 0 ≤ left → left ≤ 1048576 → E 25 [.arr (xs.map Tl.d), .int .i64 left] [] = some (.int .i64 (szR left (xs.length + Tl.sumB xs : Nat)), [])
set_option maxHeartbeats 1000000 in
theorem szTS_Table_of (xs : List Tl) (h : ∀ x ∈ xs, SzT_Table x) : SzTS_Table xs := by
  intro hfit left h0 h1
  simp only [D.fit, List.length_map] at hfit
  have q0 := szR_spec left (xs.length + Tl.sumB xs)
  refine E_walk k_laws_szTableS m_laws_szTableS (of_decide_eq_true rfl) ?_
  simp (disch := omega) only [c_laws_szTableS, go_sem, go_cond, zA, zB, zC, zD, zE, zF, zG, zH, ↓reduceIte, zI, reduceCtorEq, zJ, zK]
  repeat' (refine boolP_split (fun hq => ?_) (fun hq => ?_) <;> (first | replace hq := dec_iff.1 hq | replace hq := dec_not.1 hq) <;> (try simp (disch := omega) only [go_sem, go_cond, zA, zB, zC, zD, zE, zF, zG, zH, ↓reduceIte, zI, reduceCtorEq, zJ, zK]))
  · omega
  refine go_loop (α := Int × Int) (fun a => ⟨slots 27 0 [(0, .arr (xs.map Tl.d)), (1, .int .i64 a.2), (5, .int .i64 a.1)], []⟩) (fun a => ∃ k : Nat, a.1 = k ∧ k ≤ xs.length ∧ 0 ≤ a.2 ∧ a.2 ≤ 1048576 ∧ szR a.2 (Tl.sumB (xs.drop k)) = szR left (xs.length + Tl.sumB xs : Nat)) (fun a => xs.length - a.1.toNat) (0, left - xs.length) ⟨0, rfl, Nat.zero_le _, by omega, by omega, ?_⟩ (by simp (disch := omega) only [go_sem, go_cond, zA, zB, zC, zD, zE, zF, zG, zH, ↓reduceIte, zI, reduceCtorEq, zJ, zK]) ?_
  · have q1 := szR_spec (left - xs.length) (Tl.sumB xs)
    rw [List.drop_zero]
    dsimp only
    omega
  · rintro ⟨i, l⟩ ⟨k, hi, hk, hl0, hl1, hs⟩
    dsimp only at hi hl0 hl1 hs
    rcases Nat.lt_or_ge k xs.length with hlt | hge
    · have hg := get_at Tl.d hlt
      rw [Tl.d_eq] at hg
      have hd : Tl.sumB (xs.drop k) = xs[k].bulk + Tl.sumB (xs.drop (k + 1)) := by rw [List.drop_eq_getElem_cons hlt, Tl.sumB]
      rw [hd] at hs
      have hc := h xs[k] (List.getElem_mem hlt) (D.fitss_mem hfit.2 _ (List.getElem_mem hlt)) l hl0 hl1
      have q1 := szR_spec l xs[k].bulk
      have q2 := szR_spec l (xs[k].bulk + Tl.sumB (xs.drop (k + 1)))
      have q3 := szR_spec (l - xs[k].bulk) (Tl.sumB (xs.drop (k + 1)))
      have hn : i.toNat = k := by omega
      simp (disch := omega) only [go_sem, go_cond, zA, zB, zC, zD, zE, zF, zG, zH, ↓reduceIte, zI, reduceCtorEq, zJ, zK, hn, hg, hc, m_laws_szTable]
      repeat' (refine boolP_split (fun hq => ?_) (fun hq => ?_) <;> (first | replace hq := dec_iff.1 hq | replace hq := dec_not.1 hq) <;> (try simp (disch := omega) only [go_sem, go_cond, zA, zB, zC, zD, zE, zF, zG, zH, ↓reduceIte, zI, reduceCtorEq, zJ, zK]))
      · omega
      · refine ⟨(i + 1, l - xs[k].bulk), ⟨k + 1, by dsimp only; omega, hlt, by dsimp only; omega, by dsimp only; omega, by dsimp only; omega⟩, by dsimp only; omega, ?_⟩
        have e : szR l xs[k].bulk = l - xs[k].bulk := by omega
        simp only [e, and_self]
    · have hd : xs.drop k = [] := List.drop_eq_nil_of_le hge
      rw [hd] at hs
      have q1 := szR_spec l (Tl.sumB [])
      simp only [Tl.sumB] at hs q1
      simp (disch := omega) only [go_sem, go_cond, zA, zB, zC, zD, zE, zF, zG, zH, ↓reduceIte, zI, reduceCtorEq, zJ, zK]
      omega
set_option maxHeartbeats 1000000 in
theorem szT_Table_of (x : Tl) (h_vals : SzTS_int x.vals) : SzT_Table x := by
  intro hfit left h0 h1
  rw [Tl.d_eq] at hfit
  simp only [D.fits, D.fit] at hfit
  replace h_vals := h_vals (by simp only [D.fit, List.length_map]; simp only [List.length_map] at hfit; simp only [hfit, and_self])
  have q := szR_spec left x.bulk
  have qb := Tl.bulk_eq x
  have q0 := szR_spec (left - (x.name.size : Int)) (x.vals.length)
  refine E_walk k_laws_szTable m_laws_szTable (of_decide_eq_true rfl) ?_
  simp (disch := omega) only [c_laws_szTable, go_sem, go_cond, zA, zB, zC, zD, zE, zF, zG, zH, ↓reduceIte, zI, reduceCtorEq, zJ, zK, h_vals, m_laws_szIntS]
  repeat' (refine boolP_split (fun hq => ?_) (fun hq => ?_) <;> (first | replace hq := dec_iff.1 hq | replace hq := dec_not.1 hq) <;> (try simp (disch := omega) only [go_sem, go_cond, zA, zB, zC, zD, zE, zF, zG, zH, ↓reduceIte, zI, reduceCtorEq, zJ, zK, h_vals, m_laws_szIntS]))
  all_goals omega
theorem szT_Table (x : Tl) : SzT_Table x := szT_Table_of x (szTS_int x.vals)
def c_laws_szInterpretation : SC := (.seq (.reg [⟨some 2, none, .boxv 24 2 (.t 0)⟩, ⟨some 4, none, .mv (.c (.int .i64 0))⟩]) (.seq (.reg [⟨some 5, none, .faddr 1 (.t 2)⟩, ⟨some 6, none, .load false 1 (.t 5)⟩, ⟨some 7, none, .mv (.t 1)⟩, ⟨some 8, none, .call 25 [(.t 6), (.t 7)]⟩, ⟨some 1, none, .mv (.t 8)⟩]) (.seq (.seq (.reg [⟨some 9, none, .mv (.t 1)⟩, ⟨some 10, none, .bin .lss false (.t 9) (.c (.int .i64 0))⟩]) (.cond (.t 10) (.seq (.reg [⟨some 4, none, .mv (.c (.int .i64 (-(0 + 1))))⟩]) .ret) .skip)) (.seq (.reg [⟨some 11, none, .mv (.t 1)⟩, ⟨some 4, none, .mv (.t 11)⟩]) .ret))))
theorem k_laws_szInterpretation : codeOf Tryz.prog 5 = some ⟨12, c_laws_szInterpretation, [(.tmp 4)]⟩ := by kernel_rfl
theorem m_laws_szInterpretation : modes 5 = ⟨[], .asis, none, false⟩ := by unfold modes; rfl
abbrev SzT_Interpretation (x : Ip) : Prop := D.fits x.d → ∀ left : Int, 0 ≤ left → left ≤ 1048576 → E 5 [x.sv, .int .i64 left] [] = some (.int .i64 (szR left x.bulk), [])
set_option maxHeartbeats 1000000 in
theorem szT_Interpretation_of (x : Ip) (h_tables : SzTS_Table x.tables) : SzT_Interpretation x := by
  intro hfit left h0 h1
  rw [Ip.d_eq] at hfit
  simp only [D.fits, D.fit] at hfit
  replace h_tables := h_tables (by simp only [D.fit, List.length_map]; simp only [List.length_map] at hfit; simp only [hfit, and_self])
  have q := szR_spec left x.bulk
  have qb := Ip.bulk_eq x
  have q0 := szR_spec left ((x.tables.length + Tl.sumB x.tables))
  refine E_walk k_laws_szInterpretation m_laws_szInterpretation (of_decide_eq_true rfl) ?_
  simp (disch := omega) only [c_laws_szInterpretation, go_sem, go_cond, zA, zB, zC, zD, zE, zF, zG, zH, ↓reduceIte, zI, reduceCtorEq, zJ, zK, h_tables, m_laws_szTableS]
  repeat' (refine boolP_split (fun hq => ?_) (fun hq => ?_) <;> (first | replace hq := dec_iff.1 hq | replace hq := dec_not.1 hq) <;> (try simp (disch := omega) only [go_sem, go_cond, zA, zB, zC, zD, zE, zF, zG, zH, ↓reduceIte, zI, reduceCtorEq, zJ, zK, h_tables, m_laws_szTableS]))
  all_goals omega
theorem szT_Interpretation (x : Ip) : SzT_Interpretation x := szT_Interpretation_of x (szTS_Table_of x.tables fun y hy => szT_Table y)
def c_laws_toIntS : SC := (.seq (.reg [⟨some 2, none, .mv (.c .nil)⟩]) (.seq (.reg [⟨some 5, none, .mv (.t 0)⟩, ⟨some 6, none, .len false (.t 5)⟩, ⟨some 7, none, .mkslice 3 1 8 [(.int .i64 0)] (.t 6)⟩, ⟨some 3, none, .mv (.t 7)⟩]) (.seq (.seq (.reg [⟨some 4, none, .mv (.c (.int .i64 0))⟩]) (.block 0 (.loop [1, 0, 0, 1, 1, 0, 0, 0, 0, 0, 0, 0, 0, 0, 0, 0, 0, 0, 0, 0, 0, 0] (.seq (.seq (.reg [⟨some 8, none, .mv (.t 4)⟩, ⟨some 9, none, .mv (.t 0)⟩, ⟨some 10, none, .len false (.t 9)⟩, ⟨some 11, none, .bin .lss false (.t 8) (.t 10)⟩]) (.cond (.t 11) .skip (.exit 0))) (.seq (.block 1 (.reg [⟨some 14, none, .mv (.t 3)⟩, ⟨some 15, none, .mv (.t 4)⟩, ⟨some 16, none, .mv (.t 0)⟩, ⟨some 17, none, .mv (.t 4)⟩, ⟨some 18, none, .iaddr 1 (.t 16) (.t 17)⟩, ⟨some 19, none, .load false 1 (.t 18)⟩, ⟨some 20, none, .iaddr 1 (.t 14) (.t 15)⟩, ⟨none, none, (.store 1 (.t 20) (.t 19))⟩])) (.reg [⟨some 12, none, .mv (.t 4)⟩, ⟨some 13, none, .bin .add false (.t 12) (.c (.int .i64 1))⟩, ⟨some 4, none, .mv (.t 13)⟩])))))) (.seq (.reg [⟨some 21, none, .mv (.t 3)⟩, ⟨some 2, none, .mv (.t 21)⟩]) .ret))))
theorem k_laws_toIntS : codeOf Tryz.prog 98 = some ⟨22, c_laws_toIntS, [(.tmp 2)]⟩ := by kernel_rfl
theorem m_laws_toIntS : modes 98 = ⟨[], .asis, none, false⟩ := by unfold modes; rfl
abbrev ToTS_int (xs : List Int) : Prop := xs.length ≤ 1048576 → E 98 [.arr (xs.map (fun s => [D.int s]))] [] = some (.ref 0, [.row 3 1 (xs.map (fun s => [OT.int s]))])
set_option maxHeartbeats 1000000 in
theorem toTS_int (xs : List Int) : ToTS_int xs := by
  intro hb
  refine E_walk k_laws_toIntS m_laws_toIntS (of_decide_eq_true rfl) ?_
  simp (disch := omega) only [c_laws_toIntS, go_sem, go_cond, zA, zB, zC, zD, zE, zF, zG, zH, ↓reduceIte, zI, reduceCtorEq, zJ, zK]
  refine go_loop (α := Int) (fun i => ⟨slots 22 0 [(0, .arr (xs.map (fun s => [D.int s]))), (3, .ref 0), (4, .int .i64 i)], [.row 3 1 (fillR (fun s => [OT.int s]) [.int 0] xs i.toNat)]⟩) (fun i => ∃ k : Nat, i = k ∧ k ≤ xs.length) (fun i => xs.length - i.toNat) 0 ⟨0, rfl, Nat.zero_le _⟩ (by simp (disch := omega) only [go_sem, go_cond, zA, zB, zC, zD, zE, zF, zG, zH, ↓reduceIte, zI, reduceCtorEq, zJ, zK, fillR_zero, Int.toNat_zero]) ?_
  · rintro i ⟨k, rfl, hk⟩
    obtain ⟨i, hi⟩ : ∃ i : Int, i = (k : Int) := ⟨_, rfl⟩
    rw [← hi]
    have hn : i.toNat = k := by omega
    have hn1 : (i + 1).toNat = k + 1 := by omega
    rcases Nat.lt_or_ge k xs.length with hlt | hge
    · have hg := get_at (fun s => [D.int s]) hlt
      have hz := fillR_get (fun s => [OT.int s]) [.int 0] hlt
      have hs := fillR_set (fun s => [OT.int s]) [.int 0] hlt
      simp (disch := omega) only [go_sem, go_cond, zA, zB, zC, zD, zE, zF, zG, zH, ↓reduceIte, zI, reduceCtorEq, zJ, zK, hn, hg, hz, fillR_len]
      refine ⟨i + 1, ⟨k + 1, by omega, hlt⟩, by omega, ?_⟩
      simp (disch := omega) only [go_sem, go_cond, zA, zB, zC, zD, zE, zF, zG, zH, ↓reduceIte, zI, reduceCtorEq, zJ, zK, hn1, hs]
    · obtain rfl : k = xs.length := by omega
      simp (disch := omega) only [go_sem, go_cond, zA, zB, zC, zD, zE, zF, zG, zH, ↓reduceIte, zI, reduceCtorEq, zJ, zK, hn, fillR_end]
def c_laws_toTerm : SC := (.seq (.reg [⟨some 1, none, .boxv 92 2 (.t 0)⟩, ⟨(some 2), none, (.alloc 105 [(.str ⟨#[]⟩), .nil])⟩]) (.seq (.reg [⟨(some 3), none, (.alloc 105 [(.str ⟨#[]⟩), .nil])⟩]) (.seq (.reg [⟨some 4, none, .faddr 0 (.t 1)⟩, ⟨some 5, none, .load false 1 (.t 4)⟩, ⟨some 6, none, .faddr 0 (.t 3)⟩, ⟨none, none, (.store 1 (.t 6) (.t 5))⟩]) (.seq (.reg [⟨some 7, none, .faddr 1 (.t 1)⟩, ⟨some 8, none, .load false 1 (.t 7)⟩, ⟨some 9, none, .call 132 [(.t 8)]⟩, ⟨some 10, none, .faddr 1 (.t 3)⟩, ⟨none, none, (.store 1 (.t 10) (.t 9))⟩]) (.seq (.reg [⟨some 11, none, .load true 2 (.t 3)⟩, ⟨none, none, (.store 2 (.t 2) (.t 11))⟩]) .ret)))))
theorem k_laws_toTerm : codeOf Tryz.prog 99 = some ⟨12, c_laws_toTerm, [(.cell 2 true 2)]⟩ := by kernel_rfl
theorem m_laws_toTerm : modes 99 = ⟨[], .asis, none, false⟩ := by unfold modes; rfl
def c_laws_toTermS : SC := (.seq (.reg [⟨some 2, none, .mv (.c .nil)⟩]) (.seq (.reg [⟨some 5, none, .mv (.t 0)⟩, ⟨some 6, none, .len false (.t 5)⟩, ⟨(some 7), none, (.mkslice 105 2 40 [(.str ⟨#[]⟩), .nil] (.t 6))⟩, ⟨some 3, none, .mv (.t 7)⟩]) (.seq (.seq (.reg [⟨some 4, none, .mv (.c (.int .i64 0))⟩]) (.block 0 (.loop [1, 0, 0, 1, 1, 0, 0, 0, 0, 0, 0, 0, 0, 0, 0, 0, 0, 0, 0, 0, 0, 0, 0] (.seq (.seq (.reg [⟨some 8, none, .mv (.t 4)⟩, ⟨some 9, none, .mv (.t 0)⟩, ⟨some 10, none, .len false (.t 9)⟩, ⟨some 11, none, .bin .lss false (.t 8) (.t 10)⟩]) (.cond (.t 11) .skip (.exit 0))) (.seq (.block 1 (.reg [⟨some 14, none, .mv (.t 3)⟩, ⟨some 15, none, .mv (.t 4)⟩, ⟨some 16, none, .mv (.t 0)⟩, ⟨some 17, none, .mv (.t 4)⟩, ⟨some 18, none, .iaddr 2 (.t 16) (.t 17)⟩, ⟨some 19, none, .load true 2 (.t 18)⟩, ⟨some 20, none, .call 99 [(.t 19)]⟩, ⟨some 21, none, .iaddr 2 (.t 14) (.t 15)⟩, ⟨none, none, (.store 2 (.t 21) (.t 20))⟩])) (.reg [⟨some 12, none, .mv (.t 4)⟩, ⟨some 13, none, .bin .add false (.t 12) (.c (.int .i64 1))⟩, ⟨some 4, none, .mv (.t 13)⟩])))))) (.seq (.reg [⟨some 22, none, .mv (.t 3)⟩, ⟨some 2, none, .mv (.t 22)⟩]) .ret))))
theorem k_laws_toTermS : codeOf Tryz.prog 132 = some ⟨23, c_laws_toTermS, [(.tmp 2)]⟩ := by kernel_rfl
theorem m_laws_toTermS : modes 132 = ⟨[], .asis, none, false⟩ := by unfold modes; rfl
abbrev ToT_Term (x : Tm) : Prop := x.bulk ≤ 1048576 → E 99 [x.sv] [] = some (x.osv, x.obs)
abbrev ToTS_Term (xs : List Tm) : Prop := xs.length + Tm.sumB xs ≤ 1048576 → E 132 [.arr (xs.map Tm.d)] [] = some (.ref 0, [.row 105 2 (xs.map Tm.o)])
set_option maxHeartbeats 1000000 in
theorem toTS_Term_of (xs : List Tm) (h : ∀ x ∈ xs, ToT_Term x) : ToTS_Term xs := by
  intro hb
  refine E_walk k_laws_toTermS m_laws_toTermS (of_decide_eq_true rfl) ?_
  simp (disch := omega) only [c_laws_toTermS, go_sem, go_cond, zA, zB, zC, zD, zE, zF, zG, zH, ↓reduceIte, zI, reduceCtorEq, zJ, zK]
  refine go_loop (α := Int) (fun i => ⟨slots 23 0 [(0, .arr (xs.map Tm.d)), (3, .ref 0), (4, .int .i64 i)], [.row 105 2 (fillR Tm.o [.str ⟨#[]⟩, .ow []] xs i.toNat)]⟩) (fun i => ∃ k : Nat, i = k ∧ k ≤ xs.length) (fun i => xs.length - i.toNat) 0 ⟨0, rfl, Nat.zero_le _⟩ (by simp (disch := omega) only [go_sem, go_cond, zA, zB, zC, zD, zE, zF, zG, zH, ↓reduceIte, zI, reduceCtorEq, zJ, zK, fillR_zero, Int.toNat_zero]) ?_
  · rintro i ⟨k, rfl, hk⟩
    obtain ⟨i, hi⟩ : ∃ i : Int, i = (k : Int) := ⟨_, rfl⟩
    rw [← hi]
    have hn : i.toNat = k := by omega
    have hn1 : (i + 1).toNat = k + 1 := by omega
    rcases Nat.lt_or_ge k xs.length with hlt | hge
    · have hg := get_at Tm.d hlt
      rw [Tm.d_eq] at hg
      have hz := fillR_get Tm.o [.str ⟨#[]⟩, .ow []] hlt
      have hle := Tm.bulk_le xs k hlt
      have hc := h xs[k] (List.getElem_mem hlt) (by omega)
      have hs := fillR_set Tm.o [.str ⟨#[]⟩, .ow []] hlt
      rw [Tm.o_eq] at hs
      simp (disch := omega) only [go_sem, go_cond, zA, zB, zC, zD, zE, zF, zG, zH, ↓reduceIte, zI, reduceCtorEq, zJ, zK, hn, hg, hc, hz, fillR_len, m_laws_toTerm, Tm.osv, Tm.obs]
      refine ⟨i + 1, ⟨k + 1, by omega, hlt⟩, by omega, ?_⟩
      simp (disch := omega) only [go_sem, go_cond, zA, zB, zC, zD, zE, zF, zG, zH, ↓reduceIte, zI, reduceCtorEq, zJ, zK, hn1, hs]
    · obtain rfl : k = xs.length := by omega
      simp (disch := omega) only [go_sem, go_cond, zA, zB, zC, zD, zE, zF, zG, zH, ↓reduceIte, zI, reduceCtorEq, zJ, zK, hn, fillR_end]
set_option maxHeartbeats 1000000 in
theorem toT_Term_of (x : Tm) (h_args : ToTS_Term x.args) : ToT_Term x := by
  intro hb
  have qb := Tm.bulk_eq x
  replace h_args := h_args (by omega)
  refine E_walk k_laws_toTerm m_laws_toTerm (of_decide_eq_true rfl) ?_
  simp (disch := omega) only [c_laws_toTerm, go_sem, go_cond, zA, zB, zC, zD, zE, zF, zG, zH, ↓reduceIte, zI, reduceCtorEq, zJ, zK, h_args, m_laws_toTermS]
theorem toT_Term (x : Tm) : ToT_Term x := toT_Term_of x (toTS_Term_of x.args fun y hy => toT_Term y)
termination_by SizeOf.sizeOf x
decreasing_by exact Tm.lt_of_mem hy
def c_laws_toLiteral : SC := (.seq (.reg [⟨some 1, none, .boxv 94 3 (.t 0)⟩, ⟨(some 2), none, (.alloc 107 [(.bool false), (.str ⟨#[]⟩), .nil])⟩]) (.seq (.reg [⟨(some 3), none, (.alloc 107 [(.bool false), (.str ⟨#[]⟩), .nil])⟩]) (.seq (.reg [⟨some 4, none, .faddr 0 (.t 1)⟩, ⟨some 5, none, .load false 1 (.t 4)⟩, ⟨some 6, none, .faddr 0 (.t 3)⟩, ⟨none, none, (.store 1 (.t 6) (.t 5))⟩]) (.seq (.reg [⟨some 7, none, .faddr 1 (.t 1)⟩, ⟨some 8, none, .load true 2 (.t 7)⟩, ⟨some 9, none, .call 99 [(.t 8)]⟩, ⟨some 10, none, .faddr 1 (.t 3)⟩, ⟨none, none, (.store 2 (.t 10) (.t 9))⟩]) (.seq (.reg [⟨some 11, none, .load true 3 (.t 3)⟩, ⟨none, none, (.store 3 (.t 2) (.t 11))⟩]) .ret)))))
theorem k_laws_toLiteral : codeOf Tryz.prog 60 = some ⟨12, c_laws_toLiteral, [(.cell 2 true 3)]⟩ := by kernel_rfl
theorem m_laws_toLiteral : modes 60 = ⟨[], .asis, none, false⟩ := by unfold modes; rfl
def c_laws_toLiteralS : SC := (.seq (.reg [⟨some 2, none, .mv (.c .nil)⟩]) (.seq (.reg [⟨some 5, none, .mv (.t 0)⟩, ⟨some 6, none, .len false (.t 5)⟩, ⟨(some 7), none, (.mkslice 107 3 48 [(.bool false), (.str ⟨#[]⟩), .nil] (.t 6))⟩, ⟨some 3, none, .mv (.t 7)⟩]) (.seq (.seq (.reg [⟨some 4, none, .mv (.c (.int .i64 0))⟩]) (.block 0 (.loop [1, 0, 0, 1, 1, 0, 0, 0, 0, 0, 0, 0, 0, 0, 0, 0, 0, 0, 0, 0, 0, 0, 0] (.seq (.seq (.reg [⟨some 8, none, .mv (.t 4)⟩, ⟨some 9, none, .mv (.t 0)⟩, ⟨some 10, none, .len false (.t 9)⟩, ⟨some 11, none, .bin .lss false (.t 8) (.t 10)⟩]) (.cond (.t 11) .skip (.exit 0))) (.seq (.block 1 (.reg [⟨some 14, none, .mv (.t 3)⟩, ⟨some 15, none, .mv (.t 4)⟩, ⟨some 16, none, .mv (.t 0)⟩, ⟨some 17, none, .mv (.t 4)⟩, ⟨some 18, none, .iaddr 3 (.t 16) (.t 17)⟩, ⟨some 19, none, .load true 3 (.t 18)⟩, ⟨some 20, none, .call 60 [(.t 19)]⟩, ⟨some 21, none, .iaddr 3 (.t 14) (.t 15)⟩, ⟨none, none, (.store 3 (.t 21) (.t 20))⟩])) (.reg [⟨some 12, none, .mv (.t 4)⟩, ⟨some 13, none, .bin .add false (.t 12) (.c (.int .i64 1))⟩, ⟨some 4, none, .mv (.t 13)⟩])))))) (.seq (.reg [⟨some 22, none, .mv (.t 3)⟩, ⟨some 2, none, .mv (.t 22)⟩]) .ret))))
theorem k_laws_toLiteralS : codeOf Tryz.prog 31 = some ⟨23, c_laws_toLiteralS, [(.tmp 2)]⟩ := by kernel_rfl
theorem m_laws_toLiteralS : modes 31 = ⟨[], .asis, none, false⟩ := by unfold modes; rfl
abbrev ToT_Literal (x : Lt) : Prop := x.bulk ≤ 1048576 → E 60 [x.sv] [] = some (x.osv, x.obs)
abbrev ToTS_Literal (xs : List Lt) : Prop := xs.length + Lt.sumB xs ≤ 1048576 → E 31 [.arr (xs.map Lt.d)] [] = some (.ref 0, [.row 107 3 (xs.map Lt.o)])
set_option maxHeartbeats 1000000 in
theorem toTS_Literal_of (xs : List Lt) (h : ∀ x ∈ xs, ToT_Literal x) : ToTS_Literal xs := by
  intro hb
  refine E_walk k_laws_toLiteralS m_laws_toLiteralS (of_decide_eq_true rfl) ?_
  simp (disch := omega) only [c_laws_toLiteralS, go_sem, go_cond, zA, zB, zC, zD, zE, zF, zG, zH, ↓reduceIte, zI, reduceCtorEq, zJ, zK]
  refine go_loop (α := Int) (fun i => ⟨slots 23 0 [(0, .arr (xs.map Lt.d)), (3, .ref 0), (4, .int .i64 i)], [.row 107 3 (fillR Lt.o [.bool false, .str ⟨#[]⟩, .ow []] xs i.toNat)]⟩) (fun i => ∃ k : Nat, i = k ∧ k ≤ xs.length) (fun i => xs.length - i.toNat) 0 ⟨0, rfl, Nat.zero_le _⟩ (by simp (disch := omega) only [go_sem, go_cond, zA, zB, zC, zD, zE, zF, zG, zH, ↓reduceIte, zI, reduceCtorEq, zJ, zK, fillR_zero, Int.toNat_zero]) ?_
  · rintro i ⟨k, rfl, hk⟩
    obtain ⟨i, hi⟩ : ∃ i : Int, i = (k : Int) := ⟨_, rfl⟩
    rw [← hi]
    have hn : i.toNat = k := by omega
    have hn1 : (i + 1).toNat = k + 1 := by omega
    rcases Nat.lt_or_ge k xs.length with hlt | hge
    · have hg := get_at Lt.d hlt
      rw [Lt.d_eq] at hg
      have hz := fillR_get Lt.o [.bool false, .str ⟨#[]⟩, .ow []] hlt
      have hle := Lt.bulk_le xs k hlt
      have hc := h xs[k] (List.getElem_mem hlt) (by omega)
      have hs := fillR_set Lt.o [.bool false, .str ⟨#[]⟩, .ow []] hlt
      rw [Lt.o_eq] at hs
      simp (disch := omega) only [go_sem, go_cond, zA, zB, zC, zD, zE, zF, zG, zH, ↓reduceIte, zI, reduceCtorEq, zJ, zK, hn, hg, hc, hz, fillR_len, m_laws_toLiteral, Lt.osv, Lt.obs]
      refine ⟨i + 1, ⟨k + 1, by omega, hlt⟩, by omega, ?_⟩
      simp (disch := omega) only [go_sem, go_cond, zA, zB, zC, zD, zE, zF, zG, zH, ↓reduceIte, zI, reduceCtorEq, zJ, zK, hn1, hs]
    · obtain rfl : k = xs.length := by omega
      simp (disch := omega) only [go_sem, go_cond, zA, zB, zC, zD, zE, zF, zG, zH, ↓reduceIte, zI, reduceCtorEq, zJ, zK, hn, fillR_end]
set_option maxHeartbeats 1000000 in
theorem toT_Literal_of (x : Lt) (h_atom : ToT_Term x.atom) : ToT_Literal x := by
  intro hb
  have qb := Lt.bulk_eq x
  replace h_atom := h_atom (by omega)
  refine E_walk k_laws_toLiteral m_laws_toLiteral (of_decide_eq_true rfl) ?_
  simp (disch := omega) only [c_laws_toLiteral, go_sem, go_cond, zA, zB, zC, zD, zE, zF, zG, zH, ↓reduceIte, zI, reduceCtorEq, zJ, zK, h_atom, m_laws_toTerm]
theorem toT_Literal (x : Lt) : ToT_Literal x := toT_Literal_of x (toT_Term x.atom)
def c_laws_toClause : SC := (.seq (.reg [⟨some 1, none, .boxv 27 1 (.t 0)⟩, ⟨some 2, none, .alloc 39 [.nil]⟩]) (.seq (.reg [⟨some 3, none, .alloc 39 [.nil]⟩]) (.seq (.reg [⟨some 4, none, .faddr 0 (.t 1)⟩, ⟨some 5, none, .load false 1 (.t 4)⟩, ⟨some 6, none, .call 31 [(.t 5)]⟩, ⟨some 7, none, .faddr 0 (.t 3)⟩, ⟨none, none, (.store 1 (.t 7) (.t 6))⟩]) (.seq (.reg [⟨some 8, none, .load true 1 (.t 3)⟩, ⟨none, none, (.store 1 (.t 2) (.t 8))⟩]) .ret))))
theorem k_laws_toClause : codeOf Tryz.prog 9 = some ⟨9, c_laws_toClause, [(.cell 2 true 1)]⟩ := by kernel_rfl
theorem m_laws_toClause : modes 9 = ⟨[], .asis, none, false⟩ := by unfold modes; rfl
abbrev ToT_Clause (x : Cl) : Prop := x.bulk ≤ 1048576 → E 9 [x.sv] [] = some (x.osv, x.obs)
set_option maxHeartbeats 1000000 in
theorem toT_Clause_of (x : Cl) (h_lits : ToTS_Literal x.lits) : ToT_Clause x := by
  intro hb
  have qb := Cl.bulk_eq x
  replace h_lits := h_lits (by omega)
  refine E_walk k_laws_toClause m_laws_toClause (of_decide_eq_true rfl) ?_
  simp (disch := omega) only [c_laws_toClause, go_sem, go_cond, zA, zB, zC, zD, zE, zF, zG, zH, ↓reduceIte, zI, reduceCtorEq, zJ, zK, h_lits, m_laws_toLiteralS]
theorem toT_Clause (x : Cl) : ToT_Clause x := toT_Clause_of x (toTS_Literal_of x.lits fun y hy => toT_Literal y)
def c_laws_toTable : SC := (.seq (.reg [⟨some 1, none, .boxv 88 4 (.t 0)⟩, ⟨(some 2), none, (.alloc 97 [(.str ⟨#[]⟩), (.int .i64 0), (.bool false), .nil])⟩]) (.seq (.reg [⟨(some 3), none, (.alloc 97 [(.str ⟨#[]⟩), (.int .i64 0), (.bool false), .nil])⟩]) (.seq (.reg [⟨some 4, none, .faddr 0 (.t 1)⟩, ⟨some 5, none, .load false 1 (.t 4)⟩, ⟨some 6, none, .faddr 0 (.t 3)⟩, ⟨none, none, (.store 1 (.t 6) (.t 5))⟩]) (.seq (.reg [⟨some 7, none, .faddr 1 (.t 1)⟩, ⟨some 8, none, .load false 1 (.t 7)⟩, ⟨some 9, none, .faddr 1 (.t 3)⟩, ⟨none, none, (.store 1 (.t 9) (.t 8))⟩]) (.seq (.reg [⟨some 10, none, .faddr 2 (.t 1)⟩, ⟨some 11, none, .load false 1 (.t 10)⟩, ⟨some 12, none, .faddr 2 (.t 3)⟩, ⟨none, none, (.store 1 (.t 12) (.t 11))⟩]) (.seq (.reg [⟨some 13, none, .faddr 3 (.t 1)⟩, ⟨some 14, none, .load false 1 (.t 13)⟩, ⟨some 15, none, .call 98 [(.t 14)]⟩, ⟨some 16, none, .faddr 3 (.t 3)⟩, ⟨none, none, (.store 1 (.t 16) (.t 15))⟩]) (.seq (.reg [⟨some 17, none, .load true 4 (.t 3)⟩, ⟨none, none, (.store 4 (.t 2) (.t 17))⟩]) .ret)))))))
theorem k_laws_toTable : codeOf Tryz.prog 59 = some ⟨18, c_laws_toTable, [(.cell 2 true 4)]⟩ := by kernel_rfl
theorem m_laws_toTable : modes 59 = ⟨[], .asis, none, false⟩ := by unfold modes; rfl
def c_laws_toTableS : SC := (.seq (.reg [⟨some 2, none, .mv (.c .nil)⟩]) (.seq (.reg [⟨some 5, none, .mv (.t 0)⟩, ⟨some 6, none, .len false (.t 5)⟩, ⟨(some 7), none, (.mkslice 97 4 56 [(.str ⟨#[]⟩), (.int .i64 0), (.bool false), .nil] (.t 6))⟩, ⟨some 3, none, .mv (.t 7)⟩]) (.seq (.seq (.reg [⟨some 4, none, .mv (.c (.int .i64 0))⟩]) (.block 0 (.loop [1, 0, 0, 1, 1, 0, 0, 0, 0, 0, 0, 0, 0, 0, 0, 0, 0, 0, 0, 0, 0, 0, 0] (.seq (.seq (.reg [⟨some 8, none, .mv (.t 4)⟩, ⟨some 9, none, .mv (.t 0)⟩, ⟨some 10, none, .len false (.t 9)⟩, ⟨some 11, none, .bin .lss false (.t 8) (.t 10)⟩]) (.cond (.t 11) .skip (.exit 0))) (.seq (.block 1 (.reg [⟨some 14, none, .mv (.t 3)⟩, ⟨some 15, none, .mv (.t 4)⟩, ⟨some 16, none, .mv (.t 0)⟩, ⟨some 17, none, .mv (.t 4)⟩, ⟨some 18, none, .iaddr 4 (.t 16) (.t 17)⟩, ⟨some 19, none, .load true 4 (.t 18)⟩, ⟨some 20, none, .call 59 [(.t 19)]⟩, ⟨some 21, none, .iaddr 4 (.t 14) (.t 15)⟩, ⟨none, none, (.store 4 (.t 21) (.t 20))⟩])) (.reg [⟨some 12, none, .mv (.t 4)⟩, ⟨some 13, none, .bin .add false (.t 12) (.c (.int .i64 1))⟩, ⟨some 4, none, .mv (.t 13)⟩])))))) (.seq (.reg [⟨some 22, none, .mv (.t 3)⟩, ⟨some 2, none, .mv (.t 22)⟩]) .ret))))
theorem k_laws_toTableS : codeOf Tryz.prog 30 = some ⟨23, c_laws_toTableS, [(.tmp 2)]⟩ := by kernel_rfl
theorem m_laws_toTableS : modes 30 = ⟨[], .asis, none, false⟩ := by unfold modes; rfl
abbrev ToT_Table (x : Tl) : Prop := x.bulk ≤ 1048576 → E 59 [x.sv] [] = some (x.osv, x.obs)
abbrev ToTS_Table (xs : List Tl) : Prop := xs.length + Tl.sumB xs ≤ 1048576 → E 30 [.arr (xs.map Tl.d)] [] = some (.ref 0, [.row 97 4 (xs.map Tl.o)])
set_option maxHeartbeats 1000000 in
theorem toTS_Table_of (xs : List Tl) (h : ∀ x ∈ xs, ToT_Table x) : ToTS_Table xs := by
  intro hb
  refine E_walk k_laws_toTableS m_laws_toTableS (of_decide_eq_true rfl) ?_
  simp (disch := omega) only [c_laws_toTableS, go_sem, go_cond, zA, zB, zC, zD, zE, zF, zG, zH, ↓reduceIte, zI, reduceCtorEq, zJ, zK]
  refine go_loop (α := Int) (fun i => ⟨slots 23 0 [(0, .arr (xs.map Tl.d)), (3, .ref 0), (4, .int .i64 i)], [.row 97 4 (fillR Tl.o [.str ⟨#[]⟩, .int 0, .bool false, .ow []] xs i.toNat)]⟩) (fun i => ∃ k : Nat, i = k ∧ k ≤ xs.length) (fun i => xs.length - i.toNat) 0 ⟨0, rfl, Nat.zero_le _⟩ (by simp (disch := omega) only [go_sem, go_cond, zA, zB, zC, zD, zE, zF, zG, zH, ↓reduceIte, zI, reduceCtorEq, zJ, zK, fillR_zero, Int.toNat_zero]) ?_
  · rintro i ⟨k, rfl, hk⟩
    obtain ⟨i, hi⟩ : ∃ i : Int, i = (k : Int) := ⟨_, rfl⟩
    rw [← hi]
    have hn : i.toNat = k := by omega
    have hn1 : (i + 1).toNat = k + 1 := by omega
    rcases Nat.lt_or_ge k xs.length with hlt | hge
    · have hg := get_at Tl.d hlt
      rw [Tl.d_eq] at hg
      have hz := fillR_get Tl.o [.str ⟨#[]⟩, .int 0, .bool false, .ow []] hlt
      have hle := Tl.bulk_le xs k hlt
      have hc := h xs[k] (List.getElem_mem hlt) (by omega)
      have hs := fillR_set Tl.o [.str ⟨#[]⟩, .int 0, .bool false, .ow []] hlt
      rw [Tl.o_eq] at hs
      simp (disch := omega) only [go_sem, go_cond, zA, zB, zC, zD, zE, zF, zG, zH, ↓reduceIte, zI, reduceCtorEq, zJ, zK, hn, hg, hc, hz, fillR_len, m_laws_toTable, Tl.osv, Tl.obs]
      refine ⟨i + 1, ⟨k + 1, by omega, hlt⟩, by omega, ?_⟩
      simp (disch := omega) only [go_sem, go_cond, zA, zB, zC, zD, zE, zF, zG, zH, ↓reduceIte, zI, reduceCtorEq, zJ, zK, hn1, hs]
    · obtain rfl : k = xs.length := by omega
      simp (disch := omega) only [go_sem, go_cond, zA, zB, zC, zD, zE, zF, zG, zH, ↓reduceIte, zI, reduceCtorEq, zJ, zK, hn, fillR_end]
set_option maxHeartbeats 1000000 in
theorem toT_Table_of (x : Tl) (h_vals : ToTS_int x.vals) : ToT_Table x := by
  intro hb
  have qb := Tl.bulk_eq x
  replace h_vals := h_vals (by omega)
  refine E_walk k_laws_toTable m_laws_toTable (of_decide_eq_true rfl) ?_
  simp (disch := omega) only [c_laws_toTable, go_sem, go_cond, zA, zB, zC, zD, zE, zF, zG, zH, ↓reduceIte, zI, reduceCtorEq, zJ, zK, h_vals, m_laws_toIntS]
theorem toT_Table (x : Tl) : ToT_Table x := toT_Table_of x (toTS_int x.vals)
def c_laws_toInterpretation : SC := (.seq (.reg [⟨some 1, none, .boxv 24 2 (.t 0)⟩, ⟨some 2, none, .alloc 35 [(.int .i64 0), .nil]⟩]) (.seq (.reg [⟨some 3, none, .alloc 35 [(.int .i64 0), .nil]⟩]) (.seq (.reg [⟨some 4, none, .faddr 0 (.t 1)⟩, ⟨some 5, none, .load false 1 (.t 4)⟩, ⟨some 6, none, .faddr 0 (.t 3)⟩, ⟨none, none, (.store 1 (.t 6) (.t 5))⟩]) (.seq (.reg [⟨some 7, none, .faddr 1 (.t 1)⟩, ⟨some 8, none, .load false 1 (.t 7)⟩, ⟨some 9, none, .call 30 [(.t 8)]⟩, ⟨some 10, none, .faddr 1 (.t 3)⟩, ⟨none, none, (.store 1 (.t 10) (.t 9))⟩]) (.seq (.reg [⟨some 11, none, .load true 2 (.t 3)⟩, ⟨none, none, (.store 2 (.t 2) (.t 11))⟩]) .ret)))))
theorem k_laws_toInterpretation : codeOf Tryz.prog 8 = some ⟨12, c_laws_toInterpretation, [(.cell 2 true 2)]⟩ := by kernel_rfl
theorem m_laws_toInterpretation : modes 8 = ⟨[], .asis, none, false⟩ := by unfold modes; rfl
abbrev ToT_Interpretation (x : Ip) : Prop := x.bulk ≤ 1048576 → E 8 [x.sv] [] = some (x.osv, x.obs)
set_option maxHeartbeats 1000000 in
theorem toT_Interpretation_of (x : Ip) (h_tables : ToTS_Table x.tables) : ToT_Interpretation x := by
  intro hb
  have qb := Ip.bulk_eq x
  replace h_tables := h_tables (by omega)
  refine E_walk k_laws_toInterpretation m_laws_toInterpretation (of_decide_eq_true rfl) ?_
  simp (disch := omega) only [c_laws_toInterpretation, go_sem, go_cond, zA, zB, zC, zD, zE, zF, zG, zH, ↓reduceIte, zI, reduceCtorEq, zJ, zK, h_tables, m_laws_toTableS]
theorem toT_Interpretation (x : Ip) : ToT_Interpretation x := toT_Interpretation_of x (toTS_Table_of x.tables fun y hy => toT_Table y)
def c_laws_eqIntS : SC := (.seq (.reg [⟨some 4, none, .mv (.c (.bool false))⟩]) (.seq (.seq (.reg [⟨some 6, none, .mv (.t 0)⟩, ⟨some 7, none, .len false (.t 6)⟩, ⟨some 8, none, .mv (.t 1)⟩, ⟨some 9, none, .len false (.t 8)⟩, ⟨some 10, none, .bin .neq false (.t 7) (.t 9)⟩]) (.cond (.t 10) (.seq (.reg [⟨some 4, none, .mv (.c (.bool false))⟩]) .ret) .skip)) (.seq (.seq (.reg [⟨some 5, none, .mv (.c (.int .i64 0))⟩]) (.block 0 (.loop [1, 1, 0, 0, 0, 1, 0, 0, 0, 0, 0, 0, 0, 0, 0, 0, 0, 0, 0, 0, 0, 0, 0, 0, 0, 0] (.seq (.seq (.reg [⟨some 11, none, .mv (.t 5)⟩, ⟨some 12, none, .mv (.t 0)⟩, ⟨some 13, none, .len false (.t 12)⟩, ⟨some 14, none, .bin .lss false (.t 11) (.t 13)⟩]) (.cond (.t 14) .skip (.exit 0))) (.seq (.block 1 (.seq (.dreg [[], [], [0, 1], [2, 0, 1], [], [], [4, 5], [6, 4, 5], [3, 2, 0, 1, 7, 6, 4, 5]] [⟨some 17, none, .mv (.t 0)⟩, ⟨some 18, none, .mv (.t 5)⟩, ⟨some 19, none, .iaddr 1 (.t 17) (.t 18)⟩, ⟨some 20, none, .load false 1 (.t 19)⟩, ⟨some 21, none, .mv (.t 1)⟩, ⟨some 22, none, .mv (.t 5)⟩, ⟨some 23, none, .iaddr 1 (.t 21) (.t 22)⟩, ⟨some 24, none, .load false 1 (.t 23)⟩, ⟨some 25, none, .bin .neq false (.t 20) (.t 24)⟩]) (.cond (.t 25) (.seq (.reg [⟨some 4, none, .mv (.c (.bool false))⟩]) .ret) .skip))) (.reg [⟨some 15, none, .mv (.t 5)⟩, ⟨some 16, none, .bin .add false (.t 15) (.c (.int .i64 1))⟩, ⟨some 5, none, .mv (.t 16)⟩])))))) (.seq (.reg [⟨some 4, none, .mv (.c (.bool true))⟩]) .ret))))
theorem k_laws_eqIntS : codeOf Tryz.prog 112 = some ⟨26, c_laws_eqIntS, [(.tmp 4)]⟩ := by kernel_rfl
theorem m_laws_eqIntS : modes 112 = ⟨[], .asis, none, false⟩ := by unfold modes; rfl
abbrev EqTS_int (xs : List Int) : Prop := xs.length ≤ 1048576 → E 112 [.arr (xs.map (fun s => [D.int s])), .arr (xs.map (fun s => [D.int s]))] [] = some (.bool true, [])
set_option maxHeartbeats 1000000 in
theorem eqTS_int (xs : List Int) : EqTS_int xs := by
  intro hb
  refine E_walk k_laws_eqIntS m_laws_eqIntS (of_decide_eq_true rfl) ?_
  simp (disch := omega) only [c_laws_eqIntS, go_sem, go_cond, zA, zB, zC, zD, zE, zF, zG, zH, ↓reduceIte, zI, reduceCtorEq, zJ, zK]
  refine go_loop (α := Int) (fun i => ⟨slots 26 0 [(0, .arr (xs.map (fun s => [D.int s]))), (1, .arr (xs.map (fun s => [D.int s]))), (5, .int .i64 i)], []⟩) (fun i => ∃ k : Nat, i = k ∧ k ≤ xs.length) (fun i => xs.length - i.toNat) 0 ⟨0, rfl, Nat.zero_le _⟩ (by simp (disch := omega) only [go_sem, go_cond, zA, zB, zC, zD, zE, zF, zG, zH, ↓reduceIte, zI, reduceCtorEq, zJ, zK]) ?_
  · rintro i ⟨k, rfl, hk⟩
    obtain ⟨i, hi⟩ : ∃ i : Int, i = (k : Int) := ⟨_, rfl⟩
    rw [← hi]
    have hn : i.toNat = k := by omega
    rcases Nat.lt_or_ge k xs.length with hlt | hge
    · have hg := get_at (fun s => [D.int s]) hlt
      simp (disch := omega) only [go_sem, go_cond, zA, zB, zC, zD, zE, zF, zG, zH, ↓reduceIte, zI, reduceCtorEq, zJ, zK, hn, hg, dec_refl]
      refine ⟨i + 1, ⟨k + 1, by omega, hlt⟩, by omega, ?_⟩
      trivial
    · obtain rfl : k = xs.length := by omega
      simp (disch := omega) only [go_sem, go_cond, zA, zB, zC, zD, zE, zF, zG, zH, ↓reduceIte, zI, reduceCtorEq, zJ, zK, hn]
def c_laws_eqTerm : SC := (.seq (.reg [⟨some 2, none, .boxv 105 2 (.t 0)⟩, ⟨some 3, none, .boxv 105 2 (.t 1)⟩, ⟨some 4, none, .mv (.c (.bool false))⟩]) (.seq (.seq (.reg [⟨some 5, none, .faddr 0 (.t 2)⟩, ⟨some 6, none, .load false 1 (.t 5)⟩, ⟨some 7, none, .faddr 0 (.t 3)⟩, ⟨some 8, none, .load false 1 (.t 7)⟩, ⟨some 9, none, .bin .neq false (.t 6) (.t 8)⟩]) (.cond (.t 9) (.seq (.reg [⟨some 4, none, .mv (.c (.bool false))⟩]) .ret) .skip)) (.seq (.seq (.reg [⟨some 10, none, .faddr 1 (.t 2)⟩, ⟨some 11, none, .load false 1 (.t 10)⟩, ⟨some 12, none, .faddr 1 (.t 3)⟩, ⟨some 13, none, .load false 1 (.t 12)⟩, ⟨some 14, none, .call 144 [(.t 11), (.t 13)]⟩, ⟨some 15, none, .un .not (.t 14)⟩]) (.cond (.t 15) (.seq (.reg [⟨some 4, none, .mv (.c (.bool false))⟩]) .ret) .skip)) (.seq (.reg [⟨some 4, none, .mv (.c (.bool true))⟩]) .ret))))
theorem k_laws_eqTerm : codeOf Tryz.prog 113 = some ⟨16, c_laws_eqTerm, [(.tmp 4)]⟩ := by kernel_rfl
theorem m_laws_eqTerm : modes 113 = ⟨[], .asis, none, false⟩ := by unfold modes; rfl
def c_laws_eqTermS : SC := (.seq (.reg [⟨some 4, none, .mv (.c (.bool false))⟩]) (.seq (.seq (.reg [⟨some 6, none, .mv (.t 0)⟩, ⟨some 7, none, .len false (.t 6)⟩, ⟨some 8, none, .mv (.t 1)⟩, ⟨some 9, none, .len false (.t 8)⟩, ⟨some 10, none, .bin .neq false (.t 7) (.t 9)⟩]) (.cond (.t 10) (.seq (.reg [⟨some 4, none, .mv (.c (.bool false))⟩]) .ret) .skip)) (.seq (.seq (.reg [⟨some 5, none, .mv (.c (.int .i64 0))⟩]) (.block 0 (.loop [1, 1, 0, 0, 0, 1, 0, 0, 0, 0, 0, 0, 0, 0, 0, 0, 0, 0, 0, 0, 0, 0, 0, 0, 0, 0, 0] (.seq (.seq (.reg [⟨some 11, none, .mv (.t 5)⟩, ⟨some 12, none, .mv (.t 0)⟩, ⟨some 13, none, .len false (.t 12)⟩, ⟨some 14, none, .bin .lss false (.t 11) (.t 13)⟩]) (.cond (.t 14) .skip (.exit 0))) (.seq (.block 1 (.seq (.dreg [[], [], [0, 1], [2, 0, 1], [], [], [4, 5], [6, 4, 5], [3, 2, 0, 1, 7, 6, 4, 5], [8, 3, 2, 0, 1, 7, 6, 4, 5]] [⟨some 17, none, .mv (.t 0)⟩, ⟨some 18, none, .mv (.t 5)⟩, ⟨some 19, none, .iaddr 2 (.t 17) (.t 18)⟩, ⟨some 20, none, .load true 2 (.t 19)⟩, ⟨some 21, none, .mv (.t 1)⟩, ⟨some 22, none, .mv (.t 5)⟩, ⟨some 23, none, .iaddr 2 (.t 21) (.t 22)⟩, ⟨some 24, none, .load true 2 (.t 23)⟩, ⟨some 25, none, .call 113 [(.t 20), (.t 24)]⟩, ⟨some 26, none, .un .not (.t 25)⟩]) (.cond (.t 26) (.seq (.reg [⟨some 4, none, .mv (.c (.bool false))⟩]) .ret) .skip))) (.reg [⟨some 15, none, .mv (.t 5)⟩, ⟨some 16, none, .bin .add false (.t 15) (.c (.int .i64 1))⟩, ⟨some 5, none, .mv (.t 16)⟩])))))) (.seq (.reg [⟨some 4, none, .mv (.c (.bool true))⟩]) .ret))))
theorem k_laws_eqTermS : codeOf Tryz.prog 144 = some ⟨27, c_laws_eqTermS, [(.tmp 4)]⟩ := by kernel_rfl
theorem m_laws_eqTermS : modes 144 = ⟨[], .asis, none, false⟩ := by unfold modes; rfl
abbrev EqT_Term (x : Tm) : Prop := x.bulk ≤ 1048576 → E 113 [x.sv, x.sv] [] = some (.bool true, [])
abbrev EqTS_Term (xs : List Tm) : Prop := xs.length + Tm.sumB xs ≤ 1048576 → E 144 [.arr (xs.map Tm.d), .arr (xs.map Tm.d)] [] = some (.bool true, [])
set_option maxHeartbeats 1000000 in
theorem eqTS_Term_of (xs : List Tm) (h : ∀ x ∈ xs, EqT_Term x) : EqTS_Term xs := by
  intro hb
  refine E_walk k_laws_eqTermS m_laws_eqTermS (of_decide_eq_true rfl) ?_
  simp (disch := omega) only [c_laws_eqTermS, go_sem, go_cond, zA, zB, zC, zD, zE, zF, zG, zH, ↓reduceIte, zI, reduceCtorEq, zJ, zK]
  refine go_loop (α := Int) (fun i => ⟨slots 27 0 [(0, .arr (xs.map Tm.d)), (1, .arr (xs.map Tm.d)), (5, .int .i64 i)], []⟩) (fun i => ∃ k : Nat, i = k ∧ k ≤ xs.length) (fun i => xs.length - i.toNat) 0 ⟨0, rfl, Nat.zero_le _⟩ (by simp (disch := omega) only [go_sem, go_cond, zA, zB, zC, zD, zE, zF, zG, zH, ↓reduceIte, zI, reduceCtorEq, zJ, zK]) ?_
  · rintro i ⟨k, rfl, hk⟩
    obtain ⟨i, hi⟩ : ∃ i : Int, i = (k : Int) := ⟨_, rfl⟩
    rw [← hi]
    have hn : i.toNat = k := by omega
    rcases Nat.lt_or_ge k xs.length with hlt | hge
    · have hg := get_at Tm.d hlt
      rw [Tm.d_eq] at hg
      have hle := Tm.bulk_le xs k hlt
      have hc := h xs[k] (List.getElem_mem hlt) (by omega)
      simp (disch := omega) only [go_sem, go_cond, zA, zB, zC, zD, zE, zF, zG, zH, ↓reduceIte, zI, reduceCtorEq, zJ, zK, hn, hg, hc, m_laws_eqTerm]
      refine ⟨i + 1, ⟨k + 1, by omega, hlt⟩, by omega, ?_⟩
      trivial
    · obtain rfl : k = xs.length := by omega
      simp (disch := omega) only [go_sem, go_cond, zA, zB, zC, zD, zE, zF, zG, zH, ↓reduceIte, zI, reduceCtorEq, zJ, zK, hn]
set_option maxHeartbeats 1000000 in
theorem eqT_Term_of (x : Tm) (h_args : EqTS_Term x.args) : EqT_Term x := by
  intro hb
  have qb := Tm.bulk_eq x
  replace h_args := h_args (by omega)
  refine E_walk k_laws_eqTerm m_laws_eqTerm (of_decide_eq_true rfl) ?_
  simp (disch := omega) only [c_laws_eqTerm, go_sem, go_cond, zA, zB, zC, zD, zE, zF, zG, zH, ↓reduceIte, zI, reduceCtorEq, zJ, zK, h_args, m_laws_eqTermS, dec_refl]
theorem eqT_Term (x : Tm) : EqT_Term x := eqT_Term_of x (eqTS_Term_of x.args fun y hy => eqT_Term y)
termination_by SizeOf.sizeOf x
decreasing_by exact Tm.lt_of_mem hy
def c_laws_eqLiteral : SC := (.seq (.reg [⟨some 2, none, .boxv 107 3 (.t 0)⟩, ⟨some 3, none, .boxv 107 3 (.t 1)⟩, ⟨some 4, none, .mv (.c (.bool false))⟩]) (.seq (.seq (.reg [⟨some 5, none, .faddr 0 (.t 2)⟩, ⟨some 6, none, .load false 1 (.t 5)⟩, ⟨some 7, none, .faddr 0 (.t 3)⟩, ⟨some 8, none, .load false 1 (.t 7)⟩, ⟨some 9, none, .bin .neq true (.t 6) (.t 8)⟩]) (.cond (.t 9) (.seq (.reg [⟨some 4, none, .mv (.c (.bool false))⟩]) .ret) .skip)) (.seq (.seq (.reg [⟨some 10, none, .faddr 1 (.t 2)⟩, ⟨some 11, none, .load true 2 (.t 10)⟩, ⟨some 12, none, .faddr 1 (.t 3)⟩, ⟨some 13, none, .load true 2 (.t 12)⟩, ⟨some 14, none, .call 113 [(.t 11), (.t 13)]⟩, ⟨some 15, none, .un .not (.t 14)⟩]) (.cond (.t 15) (.seq (.reg [⟨some 4, none, .mv (.c (.bool false))⟩]) .ret) .skip)) (.seq (.reg [⟨some 4, none, .mv (.c (.bool true))⟩]) .ret))))
theorem k_laws_eqLiteral : codeOf Tryz.prog 75 = some ⟨16, c_laws_eqLiteral, [(.tmp 4)]⟩ := by kernel_rfl
theorem m_laws_eqLiteral : modes 75 = ⟨[], .asis, none, false⟩ := by unfold modes; rfl
def c_laws_eqLiteralS : SC := (.seq (.reg [⟨some 4, none, .mv (.c (.bool false))⟩]) (.seq (.seq (.reg [⟨some 6, none, .mv (.t 0)⟩, ⟨some 7, none, .len false (.t 6)⟩, ⟨some 8, none, .mv (.t 1)⟩, ⟨some 9, none, .len false (.t 8)⟩, ⟨some 10, none, .bin .neq false (.t 7) (.t 9)⟩]) (.cond (.t 10) (.seq (.reg [⟨some 4, none, .mv (.c (.bool false))⟩]) .ret) .skip)) (.seq (.seq (.reg [⟨some 5, none, .mv (.c (.int .i64 0))⟩]) (.block 0 (.loop [1, 1, 0, 0, 0, 1, 0, 0, 0, 0, 0, 0, 0, 0, 0, 0, 0, 0, 0, 0, 0, 0, 0, 0, 0, 0, 0] (.seq (.seq (.reg [⟨some 11, none, .mv (.t 5)⟩, ⟨some 12, none, .mv (.t 0)⟩, ⟨some 13, none, .len false (.t 12)⟩, ⟨some 14, none, .bin .lss false (.t 11) (.t 13)⟩]) (.cond (.t 14) .skip (.exit 0))) (.seq (.block 1 (.seq (.dreg [[], [], [0, 1], [2, 0, 1], [], [], [4, 5], [6, 4, 5], [3, 2, 0, 1, 7, 6, 4, 5], [8, 3, 2, 0, 1, 7, 6, 4, 5]] [⟨some 17, none, .mv (.t 0)⟩, ⟨some 18, none, .mv (.t 5)⟩, ⟨some 19, none, .iaddr 3 (.t 17) (.t 18)⟩, ⟨some 20, none, .load true 3 (.t 19)⟩, ⟨some 21, none, .mv (.t 1)⟩, ⟨some 22, none, .mv (.t 5)⟩, ⟨some 23, none, .iaddr 3 (.t 21) (.t 22)⟩, ⟨some 24, none, .load true 3 (.t 23)⟩, ⟨some 25, none, .call 75 [(.t 20), (.t 24)]⟩, ⟨some 26, none, .un .not (.t 25)⟩]) (.cond (.t 26) (.seq (.reg [⟨some 4, none, .mv (.c (.bool false))⟩]) .ret) .skip))) (.reg [⟨some 15, none, .mv (.t 5)⟩, ⟨some 16, none, .bin .add false (.t 15) (.c (.int .i64 1))⟩, ⟨some 5, none, .mv (.t 16)⟩])))))) (.seq (.reg [⟨some 4, none, .mv (.c (.bool true))⟩]) .ret))))
theorem k_laws_eqLiteralS : codeOf Tryz.prog 38 = some ⟨27, c_laws_eqLiteralS, [(.tmp 4)]⟩ := by kernel_rfl
theorem m_laws_eqLiteralS : modes 38 = ⟨[], .asis, none, false⟩ := by unfold modes; rfl
abbrev EqT_Literal (x : Lt) : Prop := x.bulk ≤ 1048576 → E 75 [x.sv, x.sv] [] = some (.bool true, [])
abbrev EqTS_Literal (xs : List Lt) : Prop := xs.length + Lt.sumB xs ≤ 1048576 → E 38 [.arr (xs.map Lt.d), .arr (xs.map Lt.d)] [] = some (.bool true, [])
set_option maxHeartbeats 1000000 in
theorem eqTS_Literal_of (xs : List Lt) (h : ∀ x ∈ xs, EqT_Literal x) : EqTS_Literal xs := by
  intro hb
  refine E_walk k_laws_eqLiteralS m_laws_eqLiteralS (of_decide_eq_true rfl) ?_
  simp (disch := omega) only [c_laws_eqLiteralS, go_sem, go_cond, zA, zB, zC, zD, zE, zF, zG, zH, ↓reduceIte, zI, reduceCtorEq, zJ, zK]
  refine go_loop (α := Int) (fun i => ⟨slots 27 0 [(0, .arr (xs.map Lt.d)), (1, .arr (xs.map Lt.d)), (5, .int .i64 i)], []⟩) (fun i => ∃ k : Nat, i = k ∧ k ≤ xs.length) (fun i => xs.length - i.toNat) 0 ⟨0, rfl, Nat.zero_le _⟩ (by simp (disch := omega) only [go_sem, go_cond, zA, zB, zC, zD, zE, zF, zG, zH, ↓reduceIte, zI, reduceCtorEq, zJ, zK]) ?_
  · rintro i ⟨k, rfl, hk⟩
    obtain ⟨i, hi⟩ : ∃ i : Int, i = (k : Int) := ⟨_, rfl⟩
    rw [← hi]
    have hn : i.toNat = k := by omega
    rcases Nat.lt_or_ge k xs.length with hlt | hge
    · have hg := get_at Lt.d hlt
      rw [Lt.d_eq] at hg
      have hle := Lt.bulk_le xs k hlt
      have hc := h xs[k] (List.getElem_mem hlt) (by omega)
      simp (disch := omega) only [go_sem, go_cond, zA, zB, zC, zD, zE, zF, zG, zH, ↓reduceIte, zI, reduceCtorEq, zJ, zK, hn, hg, hc, m_laws_eqLiteral]
      refine ⟨i + 1, ⟨k + 1, by omega, hlt⟩, by omega, ?_⟩
      trivial
    · obtain rfl : k = xs.length := by omega
      simp (disch := omega) only [go_sem, go_cond, zA, zB, zC, zD, zE, zF, zG, zH, ↓reduceIte, zI, reduceCtorEq, zJ, zK, hn]
set_option maxHeartbeats 1000000 in
theorem eqT_Literal_of (x : Lt) (h_atom : EqT_Term x.atom) : EqT_Literal x := by
  intro hb
  have qb := Lt.bulk_eq x
  replace h_atom := h_atom (by omega)
  refine E_walk k_laws_eqLiteral m_laws_eqLiteral (of_decide_eq_true rfl) ?_
  simp (disch := omega) only [c_laws_eqLiteral, go_sem, go_cond, zA, zB, zC, zD, zE, zF, zG, zH, ↓reduceIte, zI, reduceCtorEq, zJ, zK, h_atom, m_laws_eqTerm, dec_refl]
theorem eqT_Literal (x : Lt) : EqT_Literal x := eqT_Literal_of x (eqT_Term x.atom)
def c_laws_eqClause : SC := (.seq (.reg [⟨some 2, none, .boxv 39 1 (.t 0)⟩, ⟨some 3, none, .boxv 39 1 (.t 1)⟩, ⟨some 4, none, .mv (.c (.bool false))⟩]) (.seq (.seq (.reg [⟨some 5, none, .faddr 0 (.t 2)⟩, ⟨some 6, none, .load false 1 (.t 5)⟩, ⟨some 7, none, .faddr 0 (.t 3)⟩, ⟨some 8, none, .load false 1 (.t 7)⟩, ⟨some 9, none, .call 38 [(.t 6), (.t 8)]⟩, ⟨some 10, none, .un .not (.t 9)⟩]) (.cond (.t 10) (.seq (.reg [⟨some 4, none, .mv (.c (.bool false))⟩]) .ret) .skip)) (.seq (.reg [⟨some 4, none, .mv (.c (.bool true))⟩]) .ret)))
theorem k_laws_eqClause : codeOf Tryz.prog 13 = some ⟨11, c_laws_eqClause, [(.tmp 4)]⟩ := by kernel_rfl
theorem m_laws_eqClause : modes 13 = ⟨[], .asis, none, false⟩ := by unfold modes; rfl
abbrev EqT_Clause (x : Cl) : Prop := x.bulk ≤ 1048576 → E 13 [x.sv, x.sv] [] = some (.bool true, [])
set_option maxHeartbeats 1000000 in
theorem eqT_Clause_of (x : Cl) (h_lits : EqTS_Literal x.lits) : EqT_Clause x := by
  intro hb
  have qb := Cl.bulk_eq x
  replace h_lits := h_lits (by omega)
  refine E_walk k_laws_eqClause m_laws_eqClause (of_decide_eq_true rfl) ?_
  simp (disch := omega) only [c_laws_eqClause, go_sem, go_cond, zA, zB, zC, zD, zE, zF, zG, zH, ↓reduceIte, zI, reduceCtorEq, zJ, zK, h_lits, m_laws_eqLiteralS, dec_refl]
theorem eqT_Clause (x : Cl) : EqT_Clause x := eqT_Clause_of x (eqTS_Literal_of x.lits fun y hy => eqT_Literal y)
def c_laws_eqAssigned : SC := (.seq (.reg [⟨some 2, none, .boxv 72 2 (.t 0)⟩, ⟨some 3, none, .boxv 72 2 (.t 1)⟩, ⟨some 4, none, .mv (.c (.bool false))⟩]) (.seq (.seq (.reg [⟨some 5, none, .faddr 0 (.t 2)⟩, ⟨some 6, none, .load false 1 (.t 5)⟩, ⟨some 7, none, .faddr 0 (.t 3)⟩, ⟨some 8, none, .load false 1 (.t 7)⟩, ⟨some 9, none, .bin .neq false (.t 6) (.t 8)⟩]) (.cond (.t 9) (.seq (.reg [⟨some 4, none, .mv (.c (.bool false))⟩]) .ret) .skip)) (.seq (.seq (.reg [⟨some 10, none, .faddr 1 (.t 2)⟩, ⟨some 11, none, .load false 1 (.t 10)⟩, ⟨some 12, none, .faddr 1 (.t 3)⟩, ⟨some 13, none, .load false 1 (.t 12)⟩, ⟨some 14, none, .bin .neq false (.t 11) (.t 13)⟩]) (.cond (.t 14) (.seq (.reg [⟨some 4, none, .mv (.c (.bool false))⟩]) .ret) .skip)) (.seq (.reg [⟨some 4, none, .mv (.c (.bool true))⟩]) .ret))))
theorem k_laws_eqAssigned : codeOf Tryz.prog 36 = some ⟨15, c_laws_eqAssigned, [(.tmp 4)]⟩ := by kernel_rfl
theorem m_laws_eqAssigned : modes 36 = ⟨[], .asis, none, false⟩ := by unfold modes; rfl
def c_laws_eqAssignedS : SC := (.seq (.reg [⟨some 4, none, .mv (.c (.bool false))⟩]) (.seq (.seq (.reg [⟨some 6, none, .mv (.t 0)⟩, ⟨some 7, none, .len false (.t 6)⟩, ⟨some 8, none, .mv (.t 1)⟩, ⟨some 9, none, .len false (.t 8)⟩, ⟨some 10, none, .bin .neq false (.t 7) (.t 9)⟩]) (.cond (.t 10) (.seq (.reg [⟨some 4, none, .mv (.c (.bool false))⟩]) .ret) .skip)) (.seq (.seq (.reg [⟨some 5, none, .mv (.c (.int .i64 0))⟩]) (.block 0 (.loop [1, 1, 0, 0, 0, 1, 0, 0, 0, 0, 0, 0, 0, 0, 0, 0, 0, 0, 0, 0, 0, 0, 0, 0, 0, 0, 0] (.seq (.seq (.reg [⟨some 11, none, .mv (.t 5)⟩, ⟨some 12, none, .mv (.t 0)⟩, ⟨some 13, none, .len false (.t 12)⟩, ⟨some 14, none, .bin .lss false (.t 11) (.t 13)⟩]) (.cond (.t 14) .skip (.exit 0))) (.seq (.block 1 (.seq (.dreg [[], [], [0, 1], [2, 0, 1], [], [], [4, 5], [6, 4, 5], [3, 2, 0, 1, 7, 6, 4, 5], [8, 3, 2, 0, 1, 7, 6, 4, 5]] [⟨some 17, none, .mv (.t 0)⟩, ⟨some 18, none, .mv (.t 5)⟩, ⟨some 19, none, .iaddr 2 (.t 17) (.t 18)⟩, ⟨some 20, none, .load true 2 (.t 19)⟩, ⟨some 21, none, .mv (.t 1)⟩, ⟨some 22, none, .mv (.t 5)⟩, ⟨some 23, none, .iaddr 2 (.t 21) (.t 22)⟩, ⟨some 24, none, .load true 2 (.t 23)⟩, ⟨some 25, none, .call 36 [(.t 20), (.t 24)]⟩, ⟨some 26, none, .un .not (.t 25)⟩]) (.cond (.t 26) (.seq (.reg [⟨some 4, none, .mv (.c (.bool false))⟩]) .ret) .skip))) (.reg [⟨some 15, none, .mv (.t 5)⟩, ⟨some 16, none, .bin .add false (.t 15) (.c (.int .i64 1))⟩, ⟨some 5, none, .mv (.t 16)⟩])))))) (.seq (.reg [⟨some 4, none, .mv (.c (.bool true))⟩]) .ret))))
theorem k_laws_eqAssignedS : codeOf Tryz.prog 11 = some ⟨27, c_laws_eqAssignedS, [(.tmp 4)]⟩ := by kernel_rfl
theorem m_laws_eqAssignedS : modes 11 = ⟨[], .asis, none, false⟩ := by unfold modes; rfl
abbrev EqT_Assigned (x : Ag) : Prop := x.bulk ≤ 1048576 → E 36 [x.sv, x.sv] [] = some (.bool true, [])
abbrev EqTS_Assigned (xs : List Ag) : Prop := xs.length + Ag.sumB xs ≤ 1048576 → E 11 [.arr (xs.map Ag.d), .arr (xs.map Ag.d)] [] = some (.bool true, [])
set_option maxHeartbeats 1000000 in
theorem eqTS_Assigned_of (xs : List Ag) (h : ∀ x ∈ xs, EqT_Assigned x) : EqTS_Assigned xs := by
  intro hb
  refine E_walk k_laws_eqAssignedS m_laws_eqAssignedS (of_decide_eq_true rfl) ?_
  simp (disch := omega) only [c_laws_eqAssignedS, go_sem, go_cond, zA, zB, zC, zD, zE, zF, zG, zH, ↓reduceIte, zI, reduceCtorEq, zJ, zK]
  refine go_loop (α := Int) (fun i => ⟨slots 27 0 [(0, .arr (xs.map Ag.d)), (1, .arr (xs.map Ag.d)), (5, .int .i64 i)], []⟩) (fun i => ∃ k : Nat, i = k ∧ k ≤ xs.length) (fun i => xs.length - i.toNat) 0 ⟨0, rfl, Nat.zero_le _⟩ (by simp (disch := omega) only [go_sem, go_cond, zA, zB, zC, zD, zE, zF, zG, zH, ↓reduceIte, zI, reduceCtorEq, zJ, zK]) ?_
  · rintro i ⟨k, rfl, hk⟩
    obtain ⟨i, hi⟩ : ∃ i : Int, i = (k : Int) := ⟨_, rfl⟩
    rw [← hi]
    have hn : i.toNat = k := by omega
    rcases Nat.lt_or_ge k xs.length with hlt | hge
    · have hg := get_at Ag.d hlt
      rw [Ag.d_eq] at hg
      have hle := Ag.bulk_le xs k hlt
      have hc := h xs[k] (List.getElem_mem hlt) (by omega)
      simp (disch := omega) only [go_sem, go_cond, zA, zB, zC, zD, zE, zF, zG, zH, ↓reduceIte, zI, reduceCtorEq, zJ, zK, hn, hg, hc, m_laws_eqAssigned]
      refine ⟨i + 1, ⟨k + 1, by omega, hlt⟩, by omega, ?_⟩
      trivial
    · obtain rfl : k = xs.length := by omega
      simp (disch := omega) only [go_sem, go_cond, zA, zB, zC, zD, zE, zF, zG, zH, ↓reduceIte, zI, reduceCtorEq, zJ, zK, hn]
set_option maxHeartbeats 1000000 in
theorem eqT_Assigned_of (x : Ag) : EqT_Assigned x := by
  intro hb
  have qb := Ag.bulk_eq x
  refine E_walk k_laws_eqAssigned m_laws_eqAssigned (of_decide_eq_true rfl) ?_
  simp (disch := omega) only [c_laws_eqAssigned, go_sem, go_cond, zA, zB, zC, zD, zE, zF, zG, zH, ↓reduceIte, zI, reduceCtorEq, zJ, zK, dec_refl]
theorem eqT_Assigned (x : Ag) : EqT_Assigned x := eqT_Assigned_of x
theorem eqTS_Assigned (xs : List Ag) : EqTS_Assigned xs := eqTS_Assigned_of xs fun x _ => eqT_Assigned x
def c_laws_eqTable : SC := (.seq (.reg [⟨some 2, none, .boxv 97 4 (.t 0)⟩, ⟨some 3, none, .boxv 97 4 (.t 1)⟩, ⟨some 4, none, .mv (.c (.bool false))⟩]) (.seq (.seq (.reg [⟨some 5, none, .faddr 0 (.t 2)⟩, ⟨some 6, none, .load false 1 (.t 5)⟩, ⟨some 7, none, .faddr 0 (.t 3)⟩, ⟨some 8, none, .load false 1 (.t 7)⟩, ⟨some 9, none, .bin .neq false (.t 6) (.t 8)⟩]) (.cond (.t 9) (.seq (.reg [⟨some 4, none, .mv (.c (.bool false))⟩]) .ret) .skip)) (.seq (.seq (.reg [⟨some 10, none, .faddr 1 (.t 2)⟩, ⟨some 11, none, .load false 1 (.t 10)⟩, ⟨some 12, none, .faddr 1 (.t 3)⟩, ⟨some 13, none, .load false 1 (.t 12)⟩, ⟨some 14, none, .bin .neq false (.t 11) (.t 13)⟩]) (.cond (.t 14) (.seq (.reg [⟨some 4, none, .mv (.c (.bool false))⟩]) .ret) .skip)) (.seq (.seq (.reg [⟨some 15, none, .faddr 2 (.t 2)⟩, ⟨some 16, none, .load false 1 (.t 15)⟩, ⟨some 17, none, .faddr 2 (.t 3)⟩, ⟨some 18, none, .load false 1 (.t 17)⟩, ⟨some 19, none, .bin .neq true (.t 16) (.t 18)⟩]) (.cond (.t 19) (.seq (.reg [⟨some 4, none, .mv (.c (.bool false))⟩]) .ret) .skip)) (.seq (.seq (.reg [⟨some 20, none, .faddr 3 (.t 2)⟩, ⟨some 21, none, .load false 1 (.t 20)⟩, ⟨some 22, none, .faddr 3 (.t 3)⟩, ⟨some 23, none, .load false 1 (.t 22)⟩, ⟨some 24, none, .call 112 [(.t 21), (.t 23)]⟩, ⟨some 25, none, .un .not (.t 24)⟩]) (.cond (.t 25) (.seq (.reg [⟨some 4, none, .mv (.c (.bool false))⟩]) .ret) .skip)) (.seq (.reg [⟨some 4, none, .mv (.c (.bool true))⟩]) .ret))))))
theorem k_laws_eqTable : codeOf Tryz.prog 74 = some ⟨26, c_laws_eqTable, [(.tmp 4)]⟩ := by kernel_rfl
theorem m_laws_eqTable : modes 74 = ⟨[], .asis, none, false⟩ := by unfold modes; rfl
def c_laws_eqTableS : SC := (.seq (.reg [⟨some 4, none, .mv (.c (.bool false))⟩]) (.seq (.seq (.reg [⟨some 6, none, .mv (.t 0)⟩, ⟨some 7, none, .len false (.t 6)⟩, ⟨some 8, none, .mv (.t 1)⟩, ⟨some 9, none, .len false (.t 8)⟩, ⟨some 10, none, .bin .neq false (.t 7) (.t 9)⟩]) (.cond (.t 10) (.seq (.reg [⟨some 4, none, .mv (.c (.bool false))⟩]) .ret) .skip)) (.seq (.seq (.reg [⟨some 5, none, .mv (.c (.int .i64 0))⟩]) (.block 0 (.loop [1, 1, 0, 0, 0, 1, 0, 0, 0, 0, 0, 0, 0, 0, 0, 0, 0, 0, 0, 0, 0, 0, 0, 0, 0, 0, 0] (.seq (.seq (.reg [⟨some 11, none, .mv (.t 5)⟩, ⟨some 12, none, .mv (.t 0)⟩, ⟨some 13, none, .len false (.t 12)⟩, ⟨some 14, none, .bin .lss false (.t 11) (.t 13)⟩]) (.cond (.t 14) .skip (.exit 0))) (.seq (.block 1 (.seq (.dreg [[], [], [0, 1], [2, 0, 1], [], [], [4, 5], [6, 4, 5], [3, 2, 0, 1, 7, 6, 4, 5], [8, 3, 2, 0, 1, 7, 6, 4, 5]] [⟨some 17, none, .mv (.t 0)⟩, ⟨some 18, none, .mv (.t 5)⟩, ⟨some 19, none, .iaddr 4 (.t 17) (.t 18)⟩, ⟨some 20, none, .load true 4 (.t 19)⟩, ⟨some 21, none, .mv (.t 1)⟩, ⟨some 22, none, .mv (.t 5)⟩, ⟨some 23, none, .iaddr 4 (.t 21) (.t 22)⟩, ⟨some 24, none, .load true 4 (.t 23)⟩, ⟨some 25, none, .call 74 [(.t 20), (.t 24)]⟩, ⟨some 26, none, .un .not (.t 25)⟩]) (.cond (.t 26) (.seq (.reg [⟨some 4, none, .mv (.c (.bool false))⟩]) .ret) .skip))) (.reg [⟨some 15, none, .mv (.t 5)⟩, ⟨some 16, none, .bin .add false (.t 15) (.c (.int .i64 1))⟩, ⟨some 5, none, .mv (.t 16)⟩])))))) (.seq (.reg [⟨some 4, none, .mv (.c (.bool true))⟩]) .ret))))
theorem k_laws_eqTableS : codeOf Tryz.prog 37 = some ⟨27, c_laws_eqTableS, [(.tmp 4)]⟩ := by kernel_rfl
theorem m_laws_eqTableS : modes 37 = ⟨[], .asis, none, false⟩ := by unfold modes; rfl
abbrev EqT_Table (x : Tl) : Prop := x.bulk ≤ 1048576 → E 74 [x.sv, x.sv] [] = some (.bool true, [])
abbrev EqTS_Table (xs : List Tl) : Prop := xs.length + Tl.sumB xs ≤ 1048576 → E 37 [.arr (xs.map Tl.d), .arr (xs.map Tl.d)] [] = some (.bool true, [])
set_option maxHeartbeats 1000000 in
theorem eqTS_Table_of (xs : List Tl) (h : ∀ x ∈ xs, EqT_Table x) : EqTS_Table xs := by
  intro hb
  refine E_walk k_laws_eqTableS m_laws_eqTableS (of_decide_eq_true rfl) ?_
  simp (disch := omega) only [c_laws_eqTableS, go_sem, go_cond, zA, zB, zC, zD, zE, zF, zG, zH, ↓reduceIte, zI, reduceCtorEq, zJ, zK]
  refine go_loop (α := Int) (fun i => ⟨slots 27 0 [(0, .arr (xs.map Tl.d)), (1, .arr (xs.map Tl.d)), (5, .int .i64 i)], []⟩) (fun i => ∃ k : Nat, i = k ∧ k ≤ xs.length) (fun i => xs.length - i.toNat) 0 ⟨0, rfl, Nat.zero_le _⟩ (by simp (disch := omega) only [go_sem, go_cond, zA, zB, zC, zD, zE, zF, zG, zH, ↓reduceIte, zI, reduceCtorEq, zJ, zK]) ?_
  · rintro i ⟨k, rfl, hk⟩
    obtain ⟨i, hi⟩ : ∃ i : Int, i = (k : Int) := ⟨_, rfl⟩
    rw [← hi]
    have hn : i.toNat = k := by omega
    rcases Nat.lt_or_ge k xs.length with hlt | hge
    · have hg := get_at Tl.d hlt
      rw [Tl.d_eq] at hg
      have hle := Tl.bulk_le xs k hlt
      have hc := h xs[k] (List.getElem_mem hlt) (by omega)
      simp (disch := omega) only [go_sem, go_cond, zA, zB, zC, zD, zE, zF, zG, zH, ↓reduceIte, zI, reduceCtorEq, zJ, zK, hn, hg, hc, m_laws_eqTable]
      refine ⟨i + 1, ⟨k + 1, by omega, hlt⟩, by omega, ?_⟩
      trivial
    · obtain rfl : k = xs.length := by omega
      simp (disch := omega) only [go_sem, go_cond, zA, zB, zC, zD, zE, zF, zG, zH, ↓reduceIte, zI, reduceCtorEq, zJ, zK, hn]
set_option maxHeartbeats 1000000 in
theorem eqT_Table_of (x : Tl) (h_vals : EqTS_int x.vals) : EqT_Table x := by
  intro hb
  have qb := Tl.bulk_eq x
  replace h_vals := h_vals (by omega)
  refine E_walk k_laws_eqTable m_laws_eqTable (of_decide_eq_true rfl) ?_
  simp (disch := omega) only [c_laws_eqTable, go_sem, go_cond, zA, zB, zC, zD, zE, zF, zG, zH, ↓reduceIte, zI, reduceCtorEq, zJ, zK, h_vals, m_laws_eqIntS, dec_refl]
theorem eqT_Table (x : Tl) : EqT_Table x := eqT_Table_of x (eqTS_int x.vals)
def c_laws_eqInterpretation : SC := (.seq (.reg [⟨some 2, none, .boxv 35 2 (.t 0)⟩, ⟨some 3, none, .boxv 35 2 (.t 1)⟩, ⟨some 4, none, .mv (.c (.bool false))⟩]) (.seq (.seq (.reg [⟨some 5, none, .faddr 0 (.t 2)⟩, ⟨some 6, none, .load false 1 (.t 5)⟩, ⟨some 7, none, .faddr 0 (.t 3)⟩, ⟨some 8, none, .load false 1 (.t 7)⟩, ⟨some 9, none, .bin .neq false (.t 6) (.t 8)⟩]) (.cond (.t 9) (.seq (.reg [⟨some 4, none, .mv (.c (.bool false))⟩]) .ret) .skip)) (.seq (.seq (.reg [⟨some 10, none, .faddr 1 (.t 2)⟩, ⟨some 11, none, .load false 1 (.t 10)⟩, ⟨some 12, none, .faddr 1 (.t 3)⟩, ⟨some 13, none, .load false 1 (.t 12)⟩, ⟨some 14, none, .call 37 [(.t 11), (.t 13)]⟩, ⟨some 15, none, .un .not (.t 14)⟩]) (.cond (.t 15) (.seq (.reg [⟨some 4, none, .mv (.c (.bool false))⟩]) .ret) .skip)) (.seq (.reg [⟨some 4, none, .mv (.c (.bool true))⟩]) .ret))))
theorem k_laws_eqInterpretation : codeOf Tryz.prog 12 = some ⟨16, c_laws_eqInterpretation, [(.tmp 4)]⟩ := by kernel_rfl
theorem m_laws_eqInterpretation : modes 12 = ⟨[], .asis, none, false⟩ := by unfold modes; rfl
abbrev EqT_Interpretation (x : Ip) : Prop := x.bulk ≤ 1048576 → E 12 [x.sv, x.sv] [] = some (.bool true, [])
set_option maxHeartbeats 1000000 in
theorem eqT_Interpretation_of (x : Ip) (h_tables : EqTS_Table x.tables) : EqT_Interpretation x := by
  intro hb
  have qb := Ip.bulk_eq x
  replace h_tables := h_tables (by omega)
  refine E_walk k_laws_eqInterpretation m_laws_eqInterpretation (of_decide_eq_true rfl) ?_
  simp (disch := omega) only [c_laws_eqInterpretation, go_sem, go_cond, zA, zB, zC, zD, zE, zF, zG, zH, ↓reduceIte, zI, reduceCtorEq, zJ, zK, h_tables, m_laws_eqTableS, dec_refl]
theorem eqT_Interpretation (x : Ip) : EqT_Interpretation x := eqT_Interpretation_of x (eqTS_Table_of x.tables fun y hy => eqT_Table y)
theorem Ip.bulk_tame (m : Ip) (hb : m.bulk ≤ 1048576) : m.tame := by
  rw [Ip.bulk_eq] at hb
  refine ⟨by omega, fun t ht => ?_⟩
  obtain ⟨k, hk, rfl⟩ := List.getElem_of_mem ht
  have h1 := Tl.bulk_le m.tables k hk
  rw [Tl.bulk_eq] at h1
  omega
def In.wtS (xs : List Int) : Nat := xs.length
noncomputable def In.mkS : List Int → Int → List Int × Int
  | [], k => ([], k)
  | _ :: xs, k => (k :: (In.mkS xs (k + 1)).1, (In.mkS xs (k + 1)).2)
theorem In.mkS_end : ∀ (xs : List Int) (k : Int), (In.mkS xs k).2 = k + In.wtS xs
  | [], k => by simp [In.mkS, In.wtS]
  | x :: xs, k => by
    have h := In.mkS_end xs (k + 1)
    unfold In.wtS at h ⊢
    rw [In.mkS]
    simp only [List.length_cons]
    omega
theorem In.mkS_len : ∀ (xs : List Int) (k : Int), (In.mkS xs k).1.length = xs.length
  | [], k => by rw [In.mkS]
  | x :: xs, k => by rw [In.mkS]; simp only [List.length_cons]; rw [In.mkS_len xs]
theorem In.wtS_bulk (xs : List Int) : In.wtS xs ≤ 5 * xs.length := by
  unfold In.wtS
  omega
def c_laws_markIntS : SC := (.seq (.reg [⟨some 4, none, .mv (.c (.int .i64 0))⟩]) (.seq (.seq (.reg [⟨some 5, none, .mv (.c (.int .i64 0))⟩]) (.block 0 (.loop [1, 1, 0, 0, 0, 1, 0, 0, 0, 0, 0, 0, 0, 0, 0, 0, 0, 0, 0] (.seq (.seq (.reg [⟨some 6, none, .mv (.t 5)⟩, ⟨some 7, none, .mv (.t 0)⟩, ⟨some 8, none, .len false (.t 7)⟩, ⟨some 9, none, .bin .lss false (.t 6) (.t 8)⟩]) (.cond (.t 9) .skip (.exit 0))) (.seq (.block 1 (.seq (.reg [⟨some 12, none, .mv (.t 0)⟩, ⟨some 13, none, .mv (.t 5)⟩, ⟨some 14, none, .mv (.t 1)⟩, ⟨some 15, none, .iaddr 1 (.t 12) (.t 13)⟩, ⟨none, none, (.store 1 (.t 15) (.t 14))⟩]) (.reg [⟨some 16, none, .mv (.t 1)⟩, ⟨some 17, none, .bin .add false (.t 16) (.c (.int .i64 1))⟩, ⟨some 1, none, .mv (.t 17)⟩]))) (.reg [⟨some 10, none, .mv (.t 5)⟩, ⟨some 11, none, .bin .add false (.t 10) (.c (.int .i64 1))⟩, ⟨some 5, none, .mv (.t 11)⟩])))))) (.seq (.reg [⟨some 18, none, .mv (.t 1)⟩, ⟨some 4, none, .mv (.t 18)⟩]) .ret)))
theorem k_laws_markIntS : codeOf Tryz.prog 76 = some ⟨19, c_laws_markIntS, [(.tmp 4)]⟩ := by kernel_rfl
theorem m_laws_markIntS : modes 76 = ⟨[true], .asis, none, true⟩ := by unfold modes; rfl
abbrev MarkTS_int (xs : List Int) : Prop := ∀ (k : Int) (ob : List Ob), 1 ≤ k → k + In.wtS xs ≤ 1099511627776 → toTree ob = [.tree (xs.map (fun s => [OT.int s])) []] → E 76 [.ref 0, .int .i64 k] ob = some (.int .i64 (In.mkS xs k).2, [.tree ((In.mkS xs k).1.map (fun s => [OT.int s])) []])
set_option maxHeartbeats 2000000 in
theorem markTS_int (xs : List Int) : MarkTS_int xs := by
  intro k0 ob h1 h2 hob
  have hlen : ob.length = 1 := by rw [← toTree_len, hob]; rfl
  have hwt : In.wtS xs = xs.length := rfl
  refine E_walk k_laws_markIntS m_laws_markIntS (of_decide_eq_true rfl) ?_
  simp (disch := omega) only [c_laws_markIntS, go_sem, go_cond, zA, zB, zC, zD, zE, zF, zG, zH, ↓reduceIte, zI, reduceCtorEq, zJ, zK, hob, hlen]
  refine go_loop (α := Int × (Int) × (List Int)) (fun a => ⟨slots 19 0 [(0, .ref 0), (1, .int .i64 (a.2.1)), (5, .int .i64 (a.1))], [.tree (((a.2.2) ++ xs.drop (a.1).toNat).map (fun s => [OT.int s])) []]⟩) (fun a => ∃ k : Nat, a.1 = k ∧ k ≤ (xs).length ∧ (a.2.2).length = k ∧ (a.2.1) = k0 + k ∧ In.mkS xs k0 = ((a.2.2) ++ (In.mkS (xs.drop k) (a.2.1)).1, (In.mkS (xs.drop k) (a.2.1)).2)) (fun a => (xs).length - (a.1).toNat) (0, k0, []) ⟨0, rfl, Nat.zero_le _, rfl, by simp, by simp⟩ (by simp (disch := omega) only [go_sem, go_cond, zA, zB, zC, zD, zE, zF, zG, zH, ↓reduceIte, zI, reduceCtorEq, zJ, zK, Int.toNat_zero]) ?_
  rintro ⟨i, kk, dn⟩ ⟨k, hi, hk, hR⟩
  dsimp only at hi hR
  have hni : i.toNat = k := by omega
  have hni1 : (i + 1).toNat = k + 1 := by omega
  rcases Nat.lt_or_ge k (xs).length with hlt | hge
  · obtain ⟨hd, hk1, hm⟩ := hR
    have hdr : xs.drop k = xs[k] :: xs.drop (k + 1) := List.drop_eq_getElem_cons hlt
    have hel : (dn ++ xs.drop k).length = xs.length := by simp; omega
    have hg : (List.map (fun s => [OT.int s]) (dn ++ xs.drop k))[k]? = some [OT.int xs[k]] := by
      rw [hdr, List.getElem?_map, List.getElem?_append_right (by omega), hd, Nat.sub_self]; rfl
    rw [hdr, In.mkS] at hm
    have hs := map_set_mid (fun s => [OT.int s]) dn (xs.drop (k + 1)) xs[k] (kk) hd
    rw [← hdr] at hs
    have hgs : ∀ a, ((List.map (fun s => [OT.int s]) (dn ++ xs.drop k)).set k a)[k]? = some a := fun a => List.getElem?_set_self (by rw [List.length_map, hel]; exact hlt)
    simp (disch := omega) only [go_sem, go_cond, zA, zB, zC, zD, zE, zF, zG, zH, ↓reduceIte, zI, reduceCtorEq, zJ, zK, hni, hel, hg, hgs, List.length_set, List.set_set, hs]
    refine ⟨(i + 1, kk + 1, dn ++ [kk]), ⟨k + 1, by dsimp only; omega, hlt, by dsimp only; simp [hd], by dsimp only; omega, by rw [hm]; simp⟩, by dsimp only; omega, ?_⟩
    dsimp only
    rw [hni1]
    try first | rfl | simp only [and_self]
  · obtain ⟨hd, hk1, hm⟩ := hR
    have hdr : xs.drop k = [] := List.drop_eq_nil_of_le hge
    rw [hdr, In.mkS] at hm
    rw [hm]
    simp (disch := omega) only [go_sem, go_cond, zA, zB, zC, zD, zE, zF, zG, zH, ↓reduceIte, zI, reduceCtorEq, zJ, zK, hni, hdr, List.append_nil]
mutual
def Tm.wt : Tm → Nat
  | .mk name args => 1 + Tm.wtS args
def Tm.wtS : List Tm → Nat
  | [] => 0
  | x :: xs => Tm.wt x + Tm.wtS xs
end
theorem Tm.wt_eq (x : Tm) : x.wt = 1 + Tm.wtS x.args := by
  obtain ⟨name, args⟩ := x
  rw [Tm.wt]; rfl
mutual
noncomputable def Tm.mk1 : Tm → Int → Tm × Int
  | .mk name args, k => ((Tm.mk (markT k) ((Tm.mkS args (k + 1)).1)), (Tm.mkS args (k + 1)).2)
noncomputable def Tm.mkS : List Tm → Int → List Tm × Int
  | [], k => ([], k)
  | x :: xs, k => ((Tm.mk1 x k).1 :: (Tm.mkS xs (Tm.mk1 x k).2).1, (Tm.mkS xs (Tm.mk1 x k).2).2)
end
theorem Tm.mk1_eq (x : Tm) (k : Int) : x.mk1 k = ((Tm.mk (markT k) ((Tm.mkS x.args (k + 1)).1)), (Tm.mkS x.args (k + 1)).2) := by
  obtain ⟨name, args⟩ := x
  rw [Tm.mk1]; rfl
theorem Tm.mk1_d (x : Tm) (k : Int) : Tm.d (x.mk1 k).1 = [.str (markT k), .arr ((Tm.mkS x.args (k + 1)).1.map Tm.d)] := by
  rw [Tm.mk1_eq, Tm.d_eq]
  try rfl
theorem Tm.mk1_o (x : Tm) (k : Int) : Tm.o (x.mk1 k).1 = [.str (markT k), .ow ((Tm.mkS x.args (k + 1)).1.map Tm.o)] := by
  rw [Tm.mk1_eq, Tm.o_eq]
  try rfl
theorem Tm.mkS_end_of : ∀ (xs : List Tm) (k : Int), (∀ x ∈ xs, ∀ k, (x.mk1 k).2 = k + x.wt) → (Tm.mkS xs k).2 = k + Tm.wtS xs
  | [], k, _ => by simp [Tm.mkS, Tm.wtS]
  | x :: xs, k, h => by
    rw [Tm.mkS, Tm.wtS]
    have h1 := h x (by simp) k
    have h2 := Tm.mkS_end_of xs (x.mk1 k).2 fun y hy => h y (by simp [hy])
    dsimp only
    omega
theorem Tm.mk1_end (x : Tm) (k : Int) : (x.mk1 k).2 = k + x.wt := by
  rw [Tm.mk1_eq, Tm.wt_eq]
  have h := fun k => Tm.mkS_end_of x.args k fun y hy k => Tm.mk1_end y k
  simp only [h]
  omega
termination_by SizeOf.sizeOf x
decreasing_by exact Tm.lt_of_mem hy
theorem Tm.mkS_end (xs : List Tm) (k : Int) : (Tm.mkS xs k).2 = k + Tm.wtS xs := Tm.mkS_end_of xs k fun x _ k => Tm.mk1_end x k
theorem Tm.wtS_of : ∀ xs : List Tm, (∀ x ∈ xs, x.wt ≤ 5 * (1 + x.bulk)) → Tm.wtS xs ≤ 5 * (xs.length + Tm.sumB xs)
  | [], _ => by simp [Tm.wtS]
  | x :: xs, h => by
    have h1 := h x (by simp)
    have h2 := Tm.wtS_of xs fun y hy => h y (by simp [hy])
    rw [Tm.wtS, Tm.sumB]; simp only [List.length_cons]; omega
theorem Tm.wt_bulk (x : Tm) : x.wt ≤ 5 * (1 + x.bulk) := by
  rw [Tm.wt_eq, Tm.bulk_eq]
  have h := Tm.wtS_of x.args fun y hy => Tm.wt_bulk y
  omega
termination_by SizeOf.sizeOf x
decreasing_by exact Tm.lt_of_mem hy
theorem Tm.wtS_bulk (xs : List Tm) : Tm.wtS xs ≤ 5 * (xs.length + Tm.sumB xs) := Tm.wtS_of xs fun x _ => Tm.wt_bulk x
theorem Tm.length_wt : ∀ xs : List Tm, xs.length ≤ Tm.wtS xs
  | [] => Nat.le_refl _
  | x :: xs => by
    have := Tm.length_wt xs
    have := Tm.wt_eq x
    rw [Tm.wtS]; simp only [List.length_cons]; omega
def c_laws_markTermS : SC := (.seq (.reg [⟨some 4, none, .mv (.c (.int .i64 0))⟩]) (.seq (.seq (.reg [⟨some 5, none, .mv (.c (.int .i64 0))⟩]) (.block 0 (.loop [1, 1, 0, 0, 0, 1, 0, 0, 0, 0, 0, 0, 0, 0, 0, 0, 0, 0, 0, 0, 0, 0, 0, 0, 0, 0, 0, 0] (.seq (.seq (.reg [⟨some 6, none, .mv (.t 5)⟩, ⟨some 7, none, .mv (.t 0)⟩, ⟨some 8, none, .len false (.t 7)⟩, ⟨some 9, none, .bin .lss false (.t 6) (.t 8)⟩]) (.cond (.t 9) .skip (.exit 0))) (.seq (.block 1 (.seq (.reg [⟨some 12, none, .mv (.t 0)⟩, ⟨some 13, none, .mv (.t 5)⟩, ⟨some 14, none, .mv (.t 1)⟩, ⟨some 15, none, .call 41 [(.t 14)]⟩, ⟨some 16, none, .iaddr 2 (.t 12) (.t 13)⟩, ⟨some 17, none, .faddr 0 (.t 16)⟩, ⟨none, none, (.store 1 (.t 17) (.t 15))⟩]) (.seq (.reg [⟨some 18, none, .mv (.t 1)⟩, ⟨some 19, none, .bin .add false (.t 18) (.c (.int .i64 1))⟩, ⟨some 1, none, .mv (.t 19)⟩]) (.reg [⟨some 20, none, .mv (.t 0)⟩, ⟨some 21, none, .mv (.t 5)⟩, ⟨some 22, none, .iaddr 2 (.t 20) (.t 21)⟩, ⟨some 23, none, .faddr 1 (.t 22)⟩, ⟨some 24, none, .load false 1 (.t 23)⟩, ⟨some 25, none, .mv (.t 1)⟩, ⟨some 26, none, .call 77 [(.t 24), (.t 25)]⟩, ⟨some 1, none, .mv (.t 26)⟩])))) (.reg [⟨some 10, none, .mv (.t 5)⟩, ⟨some 11, none, .bin .add false (.t 10) (.c (.int .i64 1))⟩, ⟨some 5, none, .mv (.t 11)⟩])))))) (.seq (.reg [⟨some 27, none, .mv (.t 1)⟩, ⟨some 4, none, .mv (.t 27)⟩]) .ret)))
theorem k_laws_markTermS : codeOf Tryz.prog 77 = some ⟨28, c_laws_markTermS, [(.tmp 4)]⟩ := by kernel_rfl
theorem m_laws_markTermS : modes 77 = ⟨[true], .asis, none, true⟩ := by unfold modes; rfl
abbrev MarkTS_Term (xs : List Tm) : Prop := ∀ (k : Int) (ob : List Ob), 1 ≤ k → k + Tm.wtS xs ≤ 1099511627776 → toTree ob = [.tree (xs.map Tm.o) []] → E 77 [.ref 0, .int .i64 k] ob = some (.int .i64 (Tm.mkS xs k).2, [.tree ((Tm.mkS xs k).1.map Tm.o) []])
set_option maxHeartbeats 2000000 in
theorem markTS_Term_of (xs : List Tm) (ih : ∀ x ∈ xs, MarkTS_Term x.args) : MarkTS_Term xs := by
  intro k0 ob h1 h2 hob
  have hlen : ob.length = 1 := by rw [← toTree_len, hob]; rfl
  have hL := Tm.length_wt xs
  refine E_walk k_laws_markTermS m_laws_markTermS (of_decide_eq_true rfl) ?_
  simp (disch := omega) only [c_laws_markTermS, go_sem, go_cond, zA, zB, zC, zD, zE, zF, zG, zH, ↓reduceIte, zI, reduceCtorEq, zJ, zK, hob, hlen]
  refine go_loop (α := Int × (Int) × (List Tm)) (fun a => ⟨slots 28 0 [(0, .ref 0), (1, .int .i64 (a.2.1)), (5, .int .i64 (a.1))], [.tree (((a.2.2) ++ xs.drop (a.1).toNat).map Tm.o) []]⟩) (fun a => ∃ k : Nat, a.1 = k ∧ k ≤ (xs).length ∧ (a.2.2).length = k ∧ 1 ≤ (a.2.1) ∧ (a.2.1) + Tm.wtS (xs.drop k) = k0 + Tm.wtS xs ∧ Tm.mkS xs k0 = ((a.2.2) ++ (Tm.mkS (xs.drop k) (a.2.1)).1, (Tm.mkS (xs.drop k) (a.2.1)).2)) (fun a => (xs).length - (a.1).toNat) (0, k0, []) ⟨0, rfl, Nat.zero_le _, rfl, h1, by rw [List.drop_zero], by simp⟩ (by simp (disch := omega) only [go_sem, go_cond, zA, zB, zC, zD, zE, zF, zG, zH, ↓reduceIte, zI, reduceCtorEq, zJ, zK, Int.toNat_zero]) ?_
  rintro ⟨i, kk, dn⟩ ⟨k, hi, hk, hR⟩
  dsimp only at hi hR
  have hni : i.toNat = k := by omega
  have hni1 : (i + 1).toNat = k + 1 := by omega
  rcases Nat.lt_or_ge k (xs).length with hlt | hge
  · obtain ⟨hd, hk1, hkn, hm⟩ := hR
    have hdr : xs.drop k = xs[k] :: xs.drop (k + 1) := List.drop_eq_getElem_cons hlt
    have hel : (dn ++ xs.drop k).length = xs.length := by simp; omega
    have hg : (List.map Tm.o (dn ++ xs.drop k))[k]? = some [.str xs[k].name, .ow (xs[k].args.map Tm.o)] := by
      rw [← Tm.o_eq, hdr, List.getElem?_map, List.getElem?_append_right (by omega), hd, Nat.sub_self]; rfl
    rw [hdr, Tm.wtS] at hkn
    rw [hdr, Tm.mkS] at hm
    have hn1 := Tm.wt_eq xs[k]
    have e1 := Tm.mkS_end xs[k].args ((kk + 1))
    have t0 := markText_E (k := kk) (by omega) (by omega)
    have c58 := ih xs[k] (List.getElem_mem hlt) ((kk + 1)) [.tree (xs[k].args.map Tm.o) []] (by omega) (by omega) rfl
    have hs := map_set_mid Tm.o dn (xs.drop (k + 1)) xs[k] (xs[k].mk1 kk).1 hd
    rw [Tm.mk1_o, ← hdr] at hs
    have hgs : ∀ a, ((List.map Tm.o (dn ++ xs.drop k)).set k a)[k]? = some a := fun a => List.getElem?_set_self (by rw [List.length_map, hel]; exact hlt)
    have he := Tm.mk1_end xs[k] kk
    have three : ∀ z : Int, dec ((3 : Int) = 0) = false := fun _ => dec_f (by omega)
    simp (disch := omega) only [go_sem, go_cond, zA, zB, zC, zD, zE, zF, zG, zH, ↓reduceIte, zI, reduceCtorEq, zJ, zK, hni, hel, hg, t0, c58, m_laws_markTermS, m_laws_markText, hgs, List.length_set, List.set_set, hs, three 0]
    refine ⟨(i + 1, (xs[k].mk1 kk).2, dn ++ [(xs[k].mk1 kk).1]), ⟨k + 1, by dsimp only; omega, hlt, by dsimp only; simp [hd], by dsimp only; omega, by dsimp only; omega, by rw [hm]; simp⟩, by dsimp only; omega, ?_⟩
    dsimp only
    rw [hni1, Tm.mk1_eq]
    refine ⟨⟨?_, rfl⟩, rfl⟩
    first | rfl | omega
  · obtain ⟨hd, hk1, hkn, hm⟩ := hR
    have hdr : xs.drop k = [] := List.drop_eq_nil_of_le hge
    rw [hdr, Tm.mkS] at hm
    rw [hm]
    simp (disch := omega) only [go_sem, go_cond, zA, zB, zC, zD, zE, zF, zG, zH, ↓reduceIte, zI, reduceCtorEq, zJ, zK, hni, hdr, List.append_nil]
theorem markTS1_Term (x : Tm) : MarkTS_Term x.args := markTS_Term_of x.args fun y hy => markTS1_Term y
termination_by SizeOf.sizeOf x
decreasing_by exact Tm.lt_of_mem hy
theorem markTS_Term (xs : List Tm) : MarkTS_Term xs := markTS_Term_of xs fun y _ => markTS1_Term y
def Lt.wt (x : Lt) : Nat := 2 + Tm.wtS x.atom.args
theorem Lt.wt_eq (x : Lt) : x.wt = 2 + Tm.wtS x.atom.args := rfl
noncomputable def Lt.mk1 (x : Lt) (k : Int) : Lt × Int := ((Lt.mk (dec (k.tmod 3 = 0)) (Tm.mk (markT (k + 1)) ((Tm.mkS x.atom.args (k + 1 + 1)).1))), (Tm.mkS x.atom.args (k + 1 + 1)).2)
theorem Lt.mk1_eq (x : Lt) (k : Int) : x.mk1 k = ((Lt.mk (dec (k.tmod 3 = 0)) (Tm.mk (markT (k + 1)) ((Tm.mkS x.atom.args (k + 1 + 1)).1))), (Tm.mkS x.atom.args (k + 1 + 1)).2) := rfl
def Lt.wtS : List Lt → Nat
  | [] => 0
  | x :: xs => Lt.wt x + Lt.wtS xs
noncomputable def Lt.mkS : List Lt → Int → List Lt × Int
  | [], k => ([], k)
  | x :: xs, k => ((Lt.mk1 x k).1 :: (Lt.mkS xs (Lt.mk1 x k).2).1, (Lt.mkS xs (Lt.mk1 x k).2).2)
theorem Lt.mk1_d (x : Lt) (k : Int) : Lt.d (x.mk1 k).1 = [.bool (dec (k.tmod 3 = 0)), .str (markT (k + 1)), .arr ((Tm.mkS x.atom.args (k + 1 + 1)).1.map Tm.d)] := by
  rw [Lt.mk1_eq, Lt.d_eq]
  try rfl
theorem Lt.mk1_o (x : Lt) (k : Int) : Lt.o (x.mk1 k).1 = [.bool (dec (k.tmod 3 = 0)), .str (markT (k + 1)), .ow ((Tm.mkS x.atom.args (k + 1 + 1)).1.map Tm.o)] := by
  rw [Lt.mk1_eq, Lt.o_eq]
  try rfl
theorem Lt.mk1_end (x : Lt) (k : Int) : (x.mk1 k).2 = k + x.wt := by
  rw [Lt.mk1_eq, Lt.wt_eq]
  first
    | omega
    | (simp only [Tm.mkS_end]; done)
    | (simp only [Tm.mkS_end]; omega)
    | simp
theorem Lt.mkS_end : ∀ (xs : List Lt) (k : Int), (Lt.mkS xs k).2 = k + Lt.wtS xs
  | [], k => by simp [Lt.mkS, Lt.wtS]
  | x :: xs, k => by
    rw [Lt.mkS, Lt.wtS]
    have h1 := Lt.mk1_end x k
    have h2 := Lt.mkS_end xs (x.mk1 k).2
    dsimp only
    omega
theorem Lt.wt_bulk (x : Lt) : x.wt ≤ 5 * (1 + x.bulk) := by
  rw [Lt.wt_eq, Lt.bulk_eq]
  have h0 := Tm.wtS_bulk x.atom.args
  have q1 := Tm.bulk_eq x.atom
  omega
theorem Lt.wtS_bulk : ∀ xs : List Lt, Lt.wtS xs ≤ 5 * (xs.length + Lt.sumB xs)
  | [] => by simp [Lt.wtS]
  | x :: xs => by
    have h1 := Lt.wt_bulk x
    have h2 := Lt.wtS_bulk xs
    rw [Lt.wtS, Lt.sumB]; simp only [List.length_cons]; omega
theorem Lt.length_wt : ∀ xs : List Lt, xs.length ≤ Lt.wtS xs
  | [] => Nat.le_refl _
  | x :: xs => by
    have := Lt.length_wt xs
    have := Lt.wt_eq x
    rw [Lt.wtS]; simp only [List.length_cons]; omega
def c_laws_markLiteralS : SC := (.seq (.reg [⟨some 4, none, .mv (.c (.int .i64 0))⟩]) (.seq (.seq (.reg [⟨some 5, none, .mv (.c (.int .i64 0))⟩]) (.block 0 (.loop [1, 1, 0, 0, 0, 1, 0, 0, 0, 0, 0, 0, 0, 0, 0, 0, 0, 0, 0, 0, 0, 0, 0, 0, 0, 0, 0, 0, 0, 0, 0, 0, 0, 0, 0, 0, 0, 0, 0] (.seq (.seq (.reg [⟨some 6, none, .mv (.t 5)⟩, ⟨some 7, none, .mv (.t 0)⟩, ⟨some 8, none, .len false (.t 7)⟩, ⟨some 9, none, .bin .lss false (.t 6) (.t 8)⟩]) (.cond (.t 9) .skip (.exit 0))) (.seq (.block 1 (.seq (.reg [⟨some 12, none, .mv (.t 0)⟩, ⟨some 13, none, .mv (.t 5)⟩, ⟨some 14, none, .mv (.t 1)⟩, ⟨some 15, none, .bin .rem false (.t 14) (.c (.int .i64 3))⟩, ⟨some 16, none, .bin .eql false (.t 15) (.c (.int .i64 0))⟩, ⟨some 17, none, .iaddr 3 (.t 12) (.t 13)⟩, ⟨some 18, none, .faddr 0 (.t 17)⟩, ⟨none, none, (.store 1 (.t 18) (.t 16))⟩]) (.seq (.reg [⟨some 19, none, .mv (.t 1)⟩, ⟨some 20, none, .bin .add false (.t 19) (.c (.int .i64 1))⟩, ⟨some 1, none, .mv (.t 20)⟩]) (.seq (.reg [⟨some 21, none, .mv (.t 0)⟩, ⟨some 22, none, .mv (.t 5)⟩, ⟨some 23, none, .mv (.t 1)⟩, ⟨some 24, none, .call 41 [(.t 23)]⟩, ⟨some 25, none, .iaddr 3 (.t 21) (.t 22)⟩, ⟨some 26, none, .faddr 1 (.t 25)⟩, ⟨some 27, none, .faddr 0 (.t 26)⟩, ⟨none, none, (.store 1 (.t 27) (.t 24))⟩]) (.seq (.reg [⟨some 28, none, .mv (.t 1)⟩, ⟨some 29, none, .bin .add false (.t 28) (.c (.int .i64 1))⟩, ⟨some 1, none, .mv (.t 29)⟩]) (.reg [⟨some 30, none, .mv (.t 0)⟩, ⟨some 31, none, .mv (.t 5)⟩, ⟨some 32, none, .iaddr 3 (.t 30) (.t 31)⟩, ⟨some 33, none, .faddr 1 (.t 32)⟩, ⟨some 34, none, .faddr 1 (.t 33)⟩, ⟨some 35, none, .load false 1 (.t 34)⟩, ⟨some 36, none, .mv (.t 1)⟩, ⟨some 37, none, .call 77 [(.t 35), (.t 36)]⟩, ⟨some 1, none, .mv (.t 37)⟩])))))) (.reg [⟨some 10, none, .mv (.t 5)⟩, ⟨some 11, none, .bin .add false (.t 10) (.c (.int .i64 1))⟩, ⟨some 5, none, .mv (.t 11)⟩])))))) (.seq (.reg [⟨some 38, none, .mv (.t 1)⟩, ⟨some 4, none, .mv (.t 38)⟩]) .ret)))
theorem k_laws_markLiteralS : codeOf Tryz.prog 40 = some ⟨39, c_laws_markLiteralS, [(.tmp 4)]⟩ := by kernel_rfl
theorem m_laws_markLiteralS : modes 40 = ⟨[true], .asis, none, true⟩ := by unfold modes; rfl
abbrev MarkTS_Literal (xs : List Lt) : Prop := ∀ (k : Int) (ob : List Ob), 1 ≤ k → k + Lt.wtS xs ≤ 1099511627776 → toTree ob = [.tree (xs.map Lt.o) []] → E 40 [.ref 0, .int .i64 k] ob = some (.int .i64 (Lt.mkS xs k).2, [.tree ((Lt.mkS xs k).1.map Lt.o) []])
set_option maxHeartbeats 2000000 in
theorem markTS_Literal_of (xs : List Lt) : MarkTS_Literal xs := by
  intro k0 ob h1 h2 hob
  have hlen : ob.length = 1 := by rw [← toTree_len, hob]; rfl
  have hL := Lt.length_wt xs
  refine E_walk k_laws_markLiteralS m_laws_markLiteralS (of_decide_eq_true rfl) ?_
  simp (disch := omega) only [c_laws_markLiteralS, go_sem, go_cond, zA, zB, zC, zD, zE, zF, zG, zH, ↓reduceIte, zI, reduceCtorEq, zJ, zK, hob, hlen]
  refine go_loop (α := Int × (Int) × (List Lt)) (fun a => ⟨slots 39 0 [(0, .ref 0), (1, .int .i64 (a.2.1)), (5, .int .i64 (a.1))], [.tree (((a.2.2) ++ xs.drop (a.1).toNat).map Lt.o) []]⟩) (fun a => ∃ k : Nat, a.1 = k ∧ k ≤ (xs).length ∧ (a.2.2).length = k ∧ 1 ≤ (a.2.1) ∧ (a.2.1) + Lt.wtS (xs.drop k) = k0 + Lt.wtS xs ∧ Lt.mkS xs k0 = ((a.2.2) ++ (Lt.mkS (xs.drop k) (a.2.1)).1, (Lt.mkS (xs.drop k) (a.2.1)).2)) (fun a => (xs).length - (a.1).toNat) (0, k0, []) ⟨0, rfl, Nat.zero_le _, rfl, h1, by rw [List.drop_zero], by simp⟩ (by simp (disch := omega) only [go_sem, go_cond, zA, zB, zC, zD, zE, zF, zG, zH, ↓reduceIte, zI, reduceCtorEq, zJ, zK, Int.toNat_zero]) ?_
  rintro ⟨i, kk, dn⟩ ⟨k, hi, hk, hR⟩
  dsimp only at hi hR
  have hni : i.toNat = k := by omega
  have hni1 : (i + 1).toNat = k + 1 := by omega
  rcases Nat.lt_or_ge k (xs).length with hlt | hge
  · obtain ⟨hd, hk1, hkn, hm⟩ := hR
    have hdr : xs.drop k = xs[k] :: xs.drop (k + 1) := List.drop_eq_getElem_cons hlt
    have hel : (dn ++ xs.drop k).length = xs.length := by simp; omega
    have hg : (List.map Lt.o (dn ++ xs.drop k))[k]? = some [.bool xs[k].pos, .str xs[k].atom.name, .ow (xs[k].atom.args.map Tm.o)] := by
      rw [← Lt.o_eq, hdr, List.getElem?_map, List.getElem?_append_right (by omega), hd, Nat.sub_self]; rfl
    rw [hdr, Lt.wtS] at hkn
    rw [hdr, Lt.mkS] at hm
    have hn1 := Lt.wt_eq xs[k]
    have e2 := Tm.mkS_end xs[k].atom.args ((kk + 1 + 1))
    have t0 := markText_E (k := (kk + 1)) (by omega) (by omega)
    have c64 := markTS_Term xs[k].atom.args ((kk + 1 + 1)) [.tree (xs[k].atom.args.map Tm.o) []] (by omega) (by omega) rfl
    have hs := map_set_mid Lt.o dn (xs.drop (k + 1)) xs[k] (xs[k].mk1 kk).1 hd
    rw [Lt.mk1_o, ← hdr] at hs
    have hgs : ∀ a, ((List.map Lt.o (dn ++ xs.drop k)).set k a)[k]? = some a := fun a => List.getElem?_set_self (by rw [List.length_map, hel]; exact hlt)
    have he := Lt.mk1_end xs[k] kk
    have three : ∀ z : Int, dec ((3 : Int) = 0) = false := fun _ => dec_f (by omega)
    simp (disch := omega) only [go_sem, go_cond, zA, zB, zC, zD, zE, zF, zG, zH, ↓reduceIte, zI, reduceCtorEq, zJ, zK, hni, hel, hg, t0, c64, m_laws_markTermS, m_laws_markText, hgs, List.length_set, List.set_set, hs, three 0]
    refine ⟨(i + 1, (xs[k].mk1 kk).2, dn ++ [(xs[k].mk1 kk).1]), ⟨k + 1, by dsimp only; omega, hlt, by dsimp only; simp [hd], by dsimp only; omega, by dsimp only; omega, by rw [hm]; simp⟩, by dsimp only; omega, ?_⟩
    dsimp only
    rw [hni1, Lt.mk1_eq]
    refine ⟨⟨?_, rfl⟩, rfl⟩
    first | rfl | omega
  · obtain ⟨hd, hk1, hkn, hm⟩ := hR
    have hdr : xs.drop k = [] := List.drop_eq_nil_of_le hge
    rw [hdr, Lt.mkS] at hm
    rw [hm]
    simp (disch := omega) only [go_sem, go_cond, zA, zB, zC, zD, zE, zF, zG, zH, ↓reduceIte, zI, reduceCtorEq, zJ, zK, hni, hdr, List.append_nil]
theorem markTS_Literal (xs : List Lt) : MarkTS_Literal xs := markTS_Literal_of xs
def Ag.wt (x : Ag) : Nat := 2
theorem Ag.wt_eq (x : Ag) : x.wt = 2 := rfl
noncomputable def Ag.mk1 (x : Ag) (k : Int) : Ag × Int := ((Ag.mk (markT k) ((k + 1))), (k + 1 + 1))
theorem Ag.mk1_eq (x : Ag) (k : Int) : x.mk1 k = ((Ag.mk (markT k) ((k + 1))), (k + 1 + 1)) := rfl
def Ag.wtS : List Ag → Nat
  | [] => 0
  | x :: xs => Ag.wt x + Ag.wtS xs
noncomputable def Ag.mkS : List Ag → Int → List Ag × Int
  | [], k => ([], k)
  | x :: xs, k => ((Ag.mk1 x k).1 :: (Ag.mkS xs (Ag.mk1 x k).2).1, (Ag.mkS xs (Ag.mk1 x k).2).2)
theorem Ag.mk1_d (x : Ag) (k : Int) : Ag.d (x.mk1 k).1 = [.str (markT k), .int (k + 1)] := by
  rw [Ag.mk1_eq, Ag.d_eq]
  try rfl
theorem Ag.mk1_o (x : Ag) (k : Int) : Ag.o (x.mk1 k).1 = [.str (markT k), .int (k + 1)] := by
  rw [Ag.mk1_eq, Ag.o_eq]
  try rfl
theorem Ag.mk1_end (x : Ag) (k : Int) : (x.mk1 k).2 = k + x.wt := by
  rw [Ag.mk1_eq, Ag.wt_eq]
  first
    | omega
    | (simp only [Nat.cast_ofNat_Int]; done)
    | (simp only [Nat.cast_ofNat_Int]; omega)
    | simp
theorem Ag.mkS_end : ∀ (xs : List Ag) (k : Int), (Ag.mkS xs k).2 = k + Ag.wtS xs
  | [], k => by simp [Ag.mkS, Ag.wtS]
  | x :: xs, k => by
    rw [Ag.mkS, Ag.wtS]
    have h1 := Ag.mk1_end x k
    have h2 := Ag.mkS_end xs (x.mk1 k).2
    dsimp only
    omega
theorem Ag.wt_bulk (x : Ag) : x.wt ≤ 5 * (1 + x.bulk) := by
  rw [Ag.wt_eq, Ag.bulk_eq]
  omega
theorem Ag.wtS_bulk : ∀ xs : List Ag, Ag.wtS xs ≤ 5 * (xs.length + Ag.sumB xs)
  | [] => by simp [Ag.wtS]
  | x :: xs => by
    have h1 := Ag.wt_bulk x
    have h2 := Ag.wtS_bulk xs
    rw [Ag.wtS, Ag.sumB]; simp only [List.length_cons]; omega
theorem Ag.length_wt : ∀ xs : List Ag, xs.length ≤ Ag.wtS xs
  | [] => Nat.le_refl _
  | x :: xs => by
    have := Ag.length_wt xs
    have := Ag.wt_eq x
    rw [Ag.wtS]; simp only [List.length_cons]; omega
def c_laws_markAssignedS : SC := (.seq (.reg [⟨some 4, none, .mv (.c (.int .i64 0))⟩]) (.seq (.seq (.reg [⟨some 5, none, .mv (.c (.int .i64 0))⟩]) (.block 0 (.loop [1, 1, 0, 0, 0, 1, 0, 0, 0, 0, 0, 0, 0, 0, 0, 0, 0, 0, 0, 0, 0, 0, 0, 0, 0, 0, 0, 0] (.seq (.seq (.reg [⟨some 6, none, .mv (.t 5)⟩, ⟨some 7, none, .mv (.t 0)⟩, ⟨some 8, none, .len false (.t 7)⟩, ⟨some 9, none, .bin .lss false (.t 6) (.t 8)⟩]) (.cond (.t 9) .skip (.exit 0))) (.seq (.block 1 (.seq (.reg [⟨some 12, none, .mv (.t 0)⟩, ⟨some 13, none, .mv (.t 5)⟩, ⟨some 14, none, .mv (.t 1)⟩, ⟨some 15, none, .call 41 [(.t 14)]⟩, ⟨some 16, none, .iaddr 2 (.t 12) (.t 13)⟩, ⟨some 17, none, .faddr 0 (.t 16)⟩, ⟨none, none, (.store 1 (.t 17) (.t 15))⟩]) (.seq (.reg [⟨some 18, none, .mv (.t 1)⟩, ⟨some 19, none, .bin .add false (.t 18) (.c (.int .i64 1))⟩, ⟨some 1, none, .mv (.t 19)⟩]) (.seq (.reg [⟨some 20, none, .mv (.t 0)⟩, ⟨some 21, none, .mv (.t 5)⟩, ⟨some 22, none, .mv (.t 1)⟩, ⟨some 23, none, .iaddr 2 (.t 20) (.t 21)⟩, ⟨some 24, none, .faddr 1 (.t 23)⟩, ⟨none, none, (.store 1 (.t 24) (.t 22))⟩]) (.reg [⟨some 25, none, .mv (.t 1)⟩, ⟨some 26, none, .bin .add false (.t 25) (.c (.int .i64 1))⟩, ⟨some 1, none, .mv (.t 26)⟩]))))) (.reg [⟨some 10, none, .mv (.t 5)⟩, ⟨some 11, none, .bin .add false (.t 10) (.c (.int .i64 1))⟩, ⟨some 5, none, .mv (.t 11)⟩])))))) (.seq (.reg [⟨some 27, none, .mv (.t 1)⟩, ⟨some 4, none, .mv (.t 27)⟩]) .ret)))
theorem k_laws_markAssignedS : codeOf Tryz.prog 16 = some ⟨28, c_laws_markAssignedS, [(.tmp 4)]⟩ := by kernel_rfl
theorem m_laws_markAssignedS : modes 16 = ⟨[true], .asis, none, true⟩ := by unfold modes; rfl
abbrev MarkTS_Assigned (xs : List Ag) : Prop := ∀ (k : Int) (ob : List Ob), 1 ≤ k → k + Ag.wtS xs ≤ 1099511627776 → toTree ob = [.tree (xs.map Ag.o) []] → E 16 [.ref 0, .int .i64 k] ob = some (.int .i64 (Ag.mkS xs k).2, [.tree ((Ag.mkS xs k).1.map Ag.o) []])
set_option maxHeartbeats 2000000 in
theorem markTS_Assigned_of (xs : List Ag) : MarkTS_Assigned xs := by
  intro k0 ob h1 h2 hob
  have hlen : ob.length = 1 := by rw [← toTree_len, hob]; rfl
  have hL := Ag.length_wt xs
  refine E_walk k_laws_markAssignedS m_laws_markAssignedS (of_decide_eq_true rfl) ?_
  simp (disch := omega) only [c_laws_markAssignedS, go_sem, go_cond, zA, zB, zC, zD, zE, zF, zG, zH, ↓reduceIte, zI, reduceCtorEq, zJ, zK, hob, hlen]
  refine go_loop (α := Int × (Int) × (List Ag)) (fun a => ⟨slots 28 0 [(0, .ref 0), (1, .int .i64 (a.2.1)), (5, .int .i64 (a.1))], [.tree (((a.2.2) ++ xs.drop (a.1).toNat).map Ag.o) []]⟩) (fun a => ∃ k : Nat, a.1 = k ∧ k ≤ (xs).length ∧ (a.2.2).length = k ∧ 1 ≤ (a.2.1) ∧ (a.2.1) + Ag.wtS (xs.drop k) = k0 + Ag.wtS xs ∧ Ag.mkS xs k0 = ((a.2.2) ++ (Ag.mkS (xs.drop k) (a.2.1)).1, (Ag.mkS (xs.drop k) (a.2.1)).2)) (fun a => (xs).length - (a.1).toNat) (0, k0, []) ⟨0, rfl, Nat.zero_le _, rfl, h1, by rw [List.drop_zero], by simp⟩ (by simp (disch := omega) only [go_sem, go_cond, zA, zB, zC, zD, zE, zF, zG, zH, ↓reduceIte, zI, reduceCtorEq, zJ, zK, Int.toNat_zero]) ?_
  rintro ⟨i, kk, dn⟩ ⟨k, hi, hk, hR⟩
  dsimp only at hi hR
  have hni : i.toNat = k := by omega
  have hni1 : (i + 1).toNat = k + 1 := by omega
  rcases Nat.lt_or_ge k (xs).length with hlt | hge
  · obtain ⟨hd, hk1, hkn, hm⟩ := hR
    have hdr : xs.drop k = xs[k] :: xs.drop (k + 1) := List.drop_eq_getElem_cons hlt
    have hel : (dn ++ xs.drop k).length = xs.length := by simp; omega
    have hg : (List.map Ag.o (dn ++ xs.drop k))[k]? = some [.str xs[k].var, .int xs[k].elem] := by
      rw [← Ag.o_eq, hdr, List.getElem?_map, List.getElem?_append_right (by omega), hd, Nat.sub_self]; rfl
    rw [hdr, Ag.wtS] at hkn
    rw [hdr, Ag.mkS] at hm
    have hn1 := Ag.wt_eq xs[k]
    have t0 := markText_E (k := kk) (by omega) (by omega)
    have hs := map_set_mid Ag.o dn (xs.drop (k + 1)) xs[k] (xs[k].mk1 kk).1 hd
    rw [Ag.mk1_o, ← hdr] at hs
    have hgs : ∀ a, ((List.map Ag.o (dn ++ xs.drop k)).set k a)[k]? = some a := fun a => List.getElem?_set_self (by rw [List.length_map, hel]; exact hlt)
    have he := Ag.mk1_end xs[k] kk
    have three : ∀ z : Int, dec ((3 : Int) = 0) = false := fun _ => dec_f (by omega)
    simp (disch := omega) only [go_sem, go_cond, zA, zB, zC, zD, zE, zF, zG, zH, ↓reduceIte, zI, reduceCtorEq, zJ, zK, hni, hel, hg, t0, m_laws_markText, hgs, List.length_set, List.set_set, hs, three 0]
    refine ⟨(i + 1, (xs[k].mk1 kk).2, dn ++ [(xs[k].mk1 kk).1]), ⟨k + 1, by dsimp only; omega, hlt, by dsimp only; simp [hd], by dsimp only; omega, by dsimp only; omega, by rw [hm]; simp⟩, by dsimp only; omega, ?_⟩
    dsimp only
    rw [hni1, Ag.mk1_eq]
    refine ⟨⟨?_, rfl⟩, rfl⟩
    first | rfl | omega
  · obtain ⟨hd, hk1, hkn, hm⟩ := hR
    have hdr : xs.drop k = [] := List.drop_eq_nil_of_le hge
    rw [hdr, Ag.mkS] at hm
    rw [hm]
    simp (disch := omega) only [go_sem, go_cond, zA, zB, zC, zD, zE, zF, zG, zH, ↓reduceIte, zI, reduceCtorEq, zJ, zK, hni, hdr, List.append_nil]
theorem markTS_Assigned (xs : List Ag) : MarkTS_Assigned xs := markTS_Assigned_of xs
def Bd.wt (x : Bd) : Nat := 2 + Tm.wtS x.term.args
theorem Bd.wt_eq (x : Bd) : x.wt = 2 + Tm.wtS x.term.args := rfl
noncomputable def Bd.mk1 (x : Bd) (k : Int) : Bd × Int := ((Bd.mk (markT k) (Tm.mk (markT (k + 1)) ((Tm.mkS x.term.args (k + 1 + 1)).1))), (Tm.mkS x.term.args (k + 1 + 1)).2)
theorem Bd.mk1_eq (x : Bd) (k : Int) : x.mk1 k = ((Bd.mk (markT k) (Tm.mk (markT (k + 1)) ((Tm.mkS x.term.args (k + 1 + 1)).1))), (Tm.mkS x.term.args (k + 1 + 1)).2) := rfl
def Bd.wtS : List Bd → Nat
  | [] => 0
  | x :: xs => Bd.wt x + Bd.wtS xs
noncomputable def Bd.mkS : List Bd → Int → List Bd × Int
  | [], k => ([], k)
  | x :: xs, k => ((Bd.mk1 x k).1 :: (Bd.mkS xs (Bd.mk1 x k).2).1, (Bd.mkS xs (Bd.mk1 x k).2).2)
theorem Bd.mk1_d (x : Bd) (k : Int) : Bd.d (x.mk1 k).1 = [.str (markT k), .str (markT (k + 1)), .arr ((Tm.mkS x.term.args (k + 1 + 1)).1.map Tm.d)] := by
  rw [Bd.mk1_eq, Bd.d_eq]
  try rfl
theorem Bd.mk1_o (x : Bd) (k : Int) : Bd.o (x.mk1 k).1 = [.str (markT k), .str (markT (k + 1)), .ow ((Tm.mkS x.term.args (k + 1 + 1)).1.map Tm.o)] := by
  rw [Bd.mk1_eq, Bd.o_eq]
  try rfl
theorem Bd.mk1_end (x : Bd) (k : Int) : (x.mk1 k).2 = k + x.wt := by
  rw [Bd.mk1_eq, Bd.wt_eq]
  first
    | omega
    | (simp only [Tm.mkS_end]; done)
    | (simp only [Tm.mkS_end]; omega)
    | simp
theorem Bd.mkS_end : ∀ (xs : List Bd) (k : Int), (Bd.mkS xs k).2 = k + Bd.wtS xs
  | [], k => by simp [Bd.mkS, Bd.wtS]
  | x :: xs, k => by
    rw [Bd.mkS, Bd.wtS]
    have h1 := Bd.mk1_end x k
    have h2 := Bd.mkS_end xs (x.mk1 k).2
    dsimp only
    omega
theorem Bd.wt_bulk (x : Bd) : x.wt ≤ 5 * (1 + x.bulk) := by
  rw [Bd.wt_eq, Bd.bulk_eq]
  have h0 := Tm.wtS_bulk x.term.args
  have q1 := Tm.bulk_eq x.term
  omega
theorem Bd.wtS_bulk : ∀ xs : List Bd, Bd.wtS xs ≤ 5 * (xs.length + Bd.sumB xs)
  | [] => by simp [Bd.wtS]
  | x :: xs => by
    have h1 := Bd.wt_bulk x
    have h2 := Bd.wtS_bulk xs
    rw [Bd.wtS, Bd.sumB]; simp only [List.length_cons]; omega
theorem Bd.length_wt : ∀ xs : List Bd, xs.length ≤ Bd.wtS xs
  | [] => Nat.le_refl _
  | x :: xs => by
    have := Bd.length_wt xs
    have := Bd.wt_eq x
    rw [Bd.wtS]; simp only [List.length_cons]; omega
def Tl.wt (x : Tl) : Nat := 3 + In.wtS x.vals
theorem Tl.wt_eq (x : Tl) : x.wt = 3 + In.wtS x.vals := rfl
noncomputable def Tl.mk1 (x : Tl) (k : Int) : Tl × Int := ((Tl.mk (markT k) ((k + 1)) (dec ((k + 1 + 1).tmod 3 = 0)) ((In.mkS x.vals (k + 1 + 1 + 1)).1)), (In.mkS x.vals (k + 1 + 1 + 1)).2)
theorem Tl.mk1_eq (x : Tl) (k : Int) : x.mk1 k = ((Tl.mk (markT k) ((k + 1)) (dec ((k + 1 + 1).tmod 3 = 0)) ((In.mkS x.vals (k + 1 + 1 + 1)).1)), (In.mkS x.vals (k + 1 + 1 + 1)).2) := rfl
def Tl.wtS : List Tl → Nat
  | [] => 0
  | x :: xs => Tl.wt x + Tl.wtS xs
noncomputable def Tl.mkS : List Tl → Int → List Tl × Int
  | [], k => ([], k)
  | x :: xs, k => ((Tl.mk1 x k).1 :: (Tl.mkS xs (Tl.mk1 x k).2).1, (Tl.mkS xs (Tl.mk1 x k).2).2)
theorem Tl.mk1_d (x : Tl) (k : Int) : Tl.d (x.mk1 k).1 = [.str (markT k), .int (k + 1), .bool (dec ((k + 1 + 1).tmod 3 = 0)), .arr ((In.mkS x.vals (k + 1 + 1 + 1)).1.map (fun n => [D.int n]))] := by
  rw [Tl.mk1_eq, Tl.d_eq]
  try rfl
theorem Tl.mk1_o (x : Tl) (k : Int) : Tl.o (x.mk1 k).1 = [.str (markT k), .int (k + 1), .bool (dec ((k + 1 + 1).tmod 3 = 0)), .ow ((In.mkS x.vals (k + 1 + 1 + 1)).1.map (fun n => [OT.int n]))] := by
  rw [Tl.mk1_eq, Tl.o_eq]
  try rfl
theorem Tl.mk1_end (x : Tl) (k : Int) : (x.mk1 k).2 = k + x.wt := by
  rw [Tl.mk1_eq, Tl.wt_eq]
  first
    | omega
    | (simp only [In.mkS_end]; done)
    | (simp only [In.mkS_end]; omega)
    | simp
theorem Tl.mkS_end : ∀ (xs : List Tl) (k : Int), (Tl.mkS xs k).2 = k + Tl.wtS xs
  | [], k => by simp [Tl.mkS, Tl.wtS]
  | x :: xs, k => by
    rw [Tl.mkS, Tl.wtS]
    have h1 := Tl.mk1_end x k
    have h2 := Tl.mkS_end xs (x.mk1 k).2
    dsimp only
    omega
theorem Tl.wt_bulk (x : Tl) : x.wt ≤ 5 * (1 + x.bulk) := by
  rw [Tl.wt_eq, Tl.bulk_eq]
  have h0 := In.wtS_bulk x.vals
  omega
theorem Tl.wtS_bulk : ∀ xs : List Tl, Tl.wtS xs ≤ 5 * (xs.length + Tl.sumB xs)
  | [] => by simp [Tl.wtS]
  | x :: xs => by
    have h1 := Tl.wt_bulk x
    have h2 := Tl.wtS_bulk xs
    rw [Tl.wtS, Tl.sumB]; simp only [List.length_cons]; omega
theorem Tl.length_wt : ∀ xs : List Tl, xs.length ≤ Tl.wtS xs
  | [] => Nat.le_refl _
  | x :: xs => by
    have := Tl.length_wt xs
    have := Tl.wt_eq x
    rw [Tl.wtS]; simp only [List.length_cons]; omega
def c_laws_markTableS : SC := (.seq (.reg [⟨some 4, none, .mv (.c (.int .i64 0))⟩]) (.seq (.seq (.reg [⟨some 5, none, .mv (.c (.int .i64 0))⟩]) (.block 0 (.loop [1, 1, 0, 0, 0, 1, 0, 0, 0, 0, 0, 0, 0, 0, 0, 0, 0, 0, 0, 0, 0, 0, 0, 0, 0, 0, 0, 0, 0, 0, 0, 0, 0, 0, 0, 0, 0, 0, 0, 0, 0, 0, 0, 0] (.seq (.seq (.reg [⟨some 6, none, .mv (.t 5)⟩, ⟨some 7, none, .mv (.t 0)⟩, ⟨some 8, none, .len false (.t 7)⟩, ⟨some 9, none, .bin .lss false (.t 6) (.t 8)⟩]) (.cond (.t 9) .skip (.exit 0))) (.seq (.block 1 (.seq (.reg [⟨some 12, none, .mv (.t 0)⟩, ⟨some 13, none, .mv (.t 5)⟩, ⟨some 14, none, .mv (.t 1)⟩, ⟨some 15, none, .call 41 [(.t 14)]⟩, ⟨some 16, none, .iaddr 4 (.t 12) (.t 13)⟩, ⟨some 17, none, .faddr 0 (.t 16)⟩, ⟨none, none, (.store 1 (.t 17) (.t 15))⟩]) (.seq (.reg [⟨some 18, none, .mv (.t 1)⟩, ⟨some 19, none, .bin .add false (.t 18) (.c (.int .i64 1))⟩, ⟨some 1, none, .mv (.t 19)⟩]) (.seq (.reg [⟨some 20, none, .mv (.t 0)⟩, ⟨some 21, none, .mv (.t 5)⟩, ⟨some 22, none, .mv (.t 1)⟩, ⟨some 23, none, .iaddr 4 (.t 20) (.t 21)⟩, ⟨some 24, none, .faddr 1 (.t 23)⟩, ⟨none, none, (.store 1 (.t 24) (.t 22))⟩]) (.seq (.reg [⟨some 25, none, .mv (.t 1)⟩, ⟨some 26, none, .bin .add false (.t 25) (.c (.int .i64 1))⟩, ⟨some 1, none, .mv (.t 26)⟩]) (.seq (.reg [⟨some 27, none, .mv (.t 0)⟩, ⟨some 28, none, .mv (.t 5)⟩, ⟨some 29, none, .mv (.t 1)⟩, ⟨some 30, none, .bin .rem false (.t 29) (.c (.int .i64 3))⟩, ⟨some 31, none, .bin .eql false (.t 30) (.c (.int .i64 0))⟩, ⟨some 32, none, .iaddr 4 (.t 27) (.t 28)⟩, ⟨some 33, none, .faddr 2 (.t 32)⟩, ⟨none, none, (.store 1 (.t 33) (.t 31))⟩]) (.seq (.reg [⟨some 34, none, .mv (.t 1)⟩, ⟨some 35, none, .bin .add false (.t 34) (.c (.int .i64 1))⟩, ⟨some 1, none, .mv (.t 35)⟩]) (.reg [⟨some 36, none, .mv (.t 0)⟩, ⟨some 37, none, .mv (.t 5)⟩, ⟨some 38, none, .iaddr 4 (.t 36) (.t 37)⟩, ⟨some 39, none, .faddr 3 (.t 38)⟩, ⟨some 40, none, .load false 1 (.t 39)⟩, ⟨some 41, none, .mv (.t 1)⟩, ⟨some 42, none, .call 76 [(.t 40), (.t 41)]⟩, ⟨some 1, none, .mv (.t 42)⟩])))))))) (.reg [⟨some 10, none, .mv (.t 5)⟩, ⟨some 11, none, .bin .add false (.t 10) (.c (.int .i64 1))⟩, ⟨some 5, none, .mv (.t 11)⟩])))))) (.seq (.reg [⟨some 43, none, .mv (.t 1)⟩, ⟨some 4, none, .mv (.t 43)⟩]) .ret)))
theorem k_laws_markTableS : codeOf Tryz.prog 39 = some ⟨44, c_laws_markTableS, [(.tmp 4)]⟩ := by kernel_rfl
theorem m_laws_markTableS : modes 39 = ⟨[true], .asis, none, true⟩ := by unfold modes; rfl
abbrev MarkTS_Table (xs : List Tl) : Prop := ∀ (k : Int) (ob : List Ob), 1 ≤ k → k + Tl.wtS xs ≤ 1099511627776 → toTree ob = [.tree (xs.map Tl.o) []] → E 39 [.ref 0, .int .i64 k] ob = some (.int .i64 (Tl.mkS xs k).2, [.tree ((Tl.mkS xs k).1.map Tl.o) []])
set_option maxHeartbeats 2000000 in
theorem markTS_Table_of (xs : List Tl) : MarkTS_Table xs := by
  intro k0 ob h1 h2 hob
  have hlen : ob.length = 1 := by rw [← toTree_len, hob]; rfl
  have hL := Tl.length_wt xs
  refine E_walk k_laws_markTableS m_laws_markTableS (of_decide_eq_true rfl) ?_
  simp (disch := omega) only [c_laws_markTableS, go_sem, go_cond, zA, zB, zC, zD, zE, zF, zG, zH, ↓reduceIte, zI, reduceCtorEq, zJ, zK, hob, hlen]
  refine go_loop (α := Int × (Int) × (List Tl)) (fun a => ⟨slots 44 0 [(0, .ref 0), (1, .int .i64 (a.2.1)), (5, .int .i64 (a.1))], [.tree (((a.2.2) ++ xs.drop (a.1).toNat).map Tl.o) []]⟩) (fun a => ∃ k : Nat, a.1 = k ∧ k ≤ (xs).length ∧ (a.2.2).length = k ∧ 1 ≤ (a.2.1) ∧ (a.2.1) + Tl.wtS (xs.drop k) = k0 + Tl.wtS xs ∧ Tl.mkS xs k0 = ((a.2.2) ++ (Tl.mkS (xs.drop k) (a.2.1)).1, (Tl.mkS (xs.drop k) (a.2.1)).2)) (fun a => (xs).length - (a.1).toNat) (0, k0, []) ⟨0, rfl, Nat.zero_le _, rfl, h1, by rw [List.drop_zero], by simp⟩ (by simp (disch := omega) only [go_sem, go_cond, zA, zB, zC, zD, zE, zF, zG, zH, ↓reduceIte, zI, reduceCtorEq, zJ, zK, Int.toNat_zero]) ?_
  rintro ⟨i, kk, dn⟩ ⟨k, hi, hk, hR⟩
  dsimp only at hi hR
  have hni : i.toNat = k := by omega
  have hni1 : (i + 1).toNat = k + 1 := by omega
  rcases Nat.lt_or_ge k (xs).length with hlt | hge
  · obtain ⟨hd, hk1, hkn, hm⟩ := hR
    have hdr : xs.drop k = xs[k] :: xs.drop (k + 1) := List.drop_eq_getElem_cons hlt
    have hel : (dn ++ xs.drop k).length = xs.length := by simp; omega
    have hg : (List.map Tl.o (dn ++ xs.drop k))[k]? = some [.str xs[k].name, .int xs[k].arity, .bool xs[k].pred, .ow (xs[k].vals.map fun n => [OT.int n])] := by
      rw [← Tl.o_eq, hdr, List.getElem?_map, List.getElem?_append_right (by omega), hd, Nat.sub_self]; rfl
    rw [hdr, Tl.wtS] at hkn
    rw [hdr, Tl.mkS] at hm
    have hn1 := Tl.wt_eq xs[k]
    have e3 := In.mkS_end xs[k].vals ((kk + 1 + 1 + 1))
    have t0 := markText_E (k := kk) (by omega) (by omega)
    have c58 := markTS_int xs[k].vals ((kk + 1 + 1 + 1)) [.tree (xs[k].vals.map (fun n => [OT.int n])) []] (by omega) (by omega) rfl
    have hs := map_set_mid Tl.o dn (xs.drop (k + 1)) xs[k] (xs[k].mk1 kk).1 hd
    rw [Tl.mk1_o, ← hdr] at hs
    have hgs : ∀ a, ((List.map Tl.o (dn ++ xs.drop k)).set k a)[k]? = some a := fun a => List.getElem?_set_self (by rw [List.length_map, hel]; exact hlt)
    have he := Tl.mk1_end xs[k] kk
    have three : ∀ z : Int, dec ((3 : Int) = 0) = false := fun _ => dec_f (by omega)
    simp (disch := omega) only [go_sem, go_cond, zA, zB, zC, zD, zE, zF, zG, zH, ↓reduceIte, zI, reduceCtorEq, zJ, zK, hni, hel, hg, t0, c58, m_laws_markIntS, m_laws_markText, hgs, List.length_set, List.set_set, hs, three 0]
    refine ⟨(i + 1, (xs[k].mk1 kk).2, dn ++ [(xs[k].mk1 kk).1]), ⟨k + 1, by dsimp only; omega, hlt, by dsimp only; simp [hd], by dsimp only; omega, by dsimp only; omega, by rw [hm]; simp⟩, by dsimp only; omega, ?_⟩
    dsimp only
    rw [hni1, Tl.mk1_eq]
    refine ⟨⟨?_, rfl⟩, rfl⟩
    first | rfl | omega
  · obtain ⟨hd, hk1, hkn, hm⟩ := hR
    have hdr : xs.drop k = [] := List.drop_eq_nil_of_le hge
    rw [hdr, Tl.mkS] at hm
    rw [hm]
    simp (disch := omega) only [go_sem, go_cond, zA, zB, zC, zD, zE, zF, zG, zH, ↓reduceIte, zI, reduceCtorEq, zJ, zK, hni, hdr, List.append_nil]
theorem markTS_Table (xs : List Tl) : MarkTS_Table xs := markTS_Table_of xs
theorem Tm.mkS_len : ∀ (xs : List Tm) (k : Int), (Tm.mkS xs k).1.length = xs.length
  | [], k => by rw [Tm.mkS]
  | x :: xs, k => by rw [Tm.mkS]; simp only [List.length_cons]; rw [Tm.mkS_len xs]
theorem Lt.mkS_len : ∀ (xs : List Lt) (k : Int), (Lt.mkS xs k).1.length = xs.length
  | [], k => by rw [Lt.mkS]
  | x :: xs, k => by rw [Lt.mkS]; simp only [List.length_cons]; rw [Lt.mkS_len xs]
def c_laws_heldAssignedS : SC := (.seq (.reg [⟨some 4, none, .mv (.c (.int .i64 0))⟩]) (.seq (.seq (.reg [⟨some 5, none, .mv (.c (.int .i64 0))⟩]) (.block 0 (.loop [1, 1, 0, 0, 0, 1, 0, 0, 0, 0, 0, 0, 0, 0, 0, 0, 0, 0, 0, 0, 0, 0, 0, 0, 0, 0, 0, 0, 0, 0, 0, 0] (.seq (.seq (.reg [⟨some 6, none, .mv (.t 5)⟩, ⟨some 7, none, .mv (.t 0)⟩, ⟨some 8, none, .len false (.t 7)⟩, ⟨some 9, none, .bin .lss false (.t 6) (.t 8)⟩]) (.cond (.t 9) .skip (.exit 0))) (.seq (.block 1 (.seq (.seq (.dreg [[], [], [0, 1], [2, 0, 1], [3, 2, 0, 1], [], [5], [4, 3, 2, 0, 1, 6, 5]] [⟨some 12, none, .mv (.t 0)⟩, ⟨some 13, none, .mv (.t 5)⟩, ⟨some 14, none, .iaddr 2 (.t 12) (.t 13)⟩, ⟨some 15, none, .faddr 0 (.t 14)⟩, ⟨some 16, none, .load false 1 (.t 15)⟩, ⟨some 17, none, .mv (.t 1)⟩, ⟨some 18, none, .call 41 [(.t 17)]⟩, ⟨some 19, none, .bin .neq false (.t 16) (.t 18)⟩]) (.cond (.t 19) (.seq (.reg [⟨some 4, none, .mv (.c (.int .i64 (-(0 + 1))))⟩]) .ret) .skip)) (.seq (.reg [⟨some 20, none, .mv (.t 1)⟩, ⟨some 21, none, .bin .add false (.t 20) (.c (.int .i64 1))⟩, ⟨some 1, none, .mv (.t 21)⟩]) (.seq (.seq (.reg [⟨some 22, none, .mv (.t 0)⟩, ⟨some 23, none, .mv (.t 5)⟩, ⟨some 24, none, .iaddr 2 (.t 22) (.t 23)⟩, ⟨some 25, none, .faddr 1 (.t 24)⟩, ⟨some 26, none, .load false 1 (.t 25)⟩, ⟨some 27, none, .mv (.t 1)⟩, ⟨some 28, none, .bin .neq false (.t 26) (.t 27)⟩]) (.cond (.t 28) (.seq (.reg [⟨some 4, none, .mv (.c (.int .i64 (-(0 + 1))))⟩]) .ret) .skip)) (.reg [⟨some 29, none, .mv (.t 1)⟩, ⟨some 30, none, .bin .add false (.t 29) (.c (.int .i64 1))⟩, ⟨some 1, none, .mv (.t 30)⟩]))))) (.reg [⟨some 10, none, .mv (.t 5)⟩, ⟨some 11, none, .bin .add false (.t 10) (.c (.int .i64 1))⟩, ⟨some 5, none, .mv (.t 11)⟩])))))) (.seq (.reg [⟨some 31, none, .mv (.t 1)⟩, ⟨some 4, none, .mv (.t 31)⟩]) .ret)))
theorem k_laws_heldAssignedS : codeOf Tryz.prog 17 = some ⟨32, c_laws_heldAssignedS, [(.tmp 4)]⟩ := by kernel_rfl
theorem m_laws_heldAssignedS : modes 17 = ⟨[], .asis, none, false⟩ := by unfold modes; rfl
theorem Ag.mkS_len : ∀ (xs : List Ag) (k : Int), (Ag.mkS xs k).1.length = xs.length
  | [], k => by rw [Ag.mkS]
  | x :: xs, k => by rw [Ag.mkS]; simp only [List.length_cons]; rw [Ag.mkS_len xs]
abbrev HeldTS_Assigned (xs : List Ag) : Prop := ∀ k : Int, 1 ≤ k → k + Ag.wtS xs ≤ 1099511627776 → E 17 [.arr ((Ag.mkS xs k).1.map Ag.d), .int .i64 k] [] = some (.int .i64 (Ag.mkS xs k).2, [])
set_option maxHeartbeats 2000000 in
theorem heldTS_Assigned_of (xs : List Ag) : HeldTS_Assigned xs := by
  intro k0 h1 h2
  obtain ⟨ys, hys⟩ : ∃ ys, ys = (Ag.mkS xs k0).1 := ⟨_, rfl⟩
  have hyl : ys.length = xs.length := by rw [hys, Ag.mkS_len]
  rw [← hys]
  have hL := Ag.length_wt xs
  refine E_walk k_laws_heldAssignedS m_laws_heldAssignedS (of_decide_eq_true rfl) ?_
  simp (disch := omega) only [c_laws_heldAssignedS, go_sem, go_cond, zA, zB, zC, zD, zE, zF, zG, zH, ↓reduceIte, zI, reduceCtorEq, zJ, zK]
  refine go_loop (α := Int × (Int)) (fun a => ⟨slots 32 0 [(0, .arr (ys.map Ag.d)), (1, .int .i64 (a.2)), (5, .int .i64 (a.1))], []⟩) (fun a => ∃ k : Nat, a.1 = k ∧ k ≤ (ys).length ∧ 1 ≤ (a.2) ∧ (a.2) + Ag.wtS (xs.drop k) = k0 + Ag.wtS xs ∧ ys.drop k = (Ag.mkS (xs.drop k) (a.2)).1 ∧ (Ag.mkS xs k0).2 = (Ag.mkS (xs.drop k) (a.2)).2) (fun a => (ys).length - (a.1).toNat) (0, k0) ⟨0, rfl, Nat.zero_le _, h1, by rw [List.drop_zero], by rw [List.drop_zero, List.drop_zero, hys], by rw [List.drop_zero]⟩ (by simp (disch := omega) only [go_sem, go_cond, zA, zB, zC, zD, zE, zF, zG, zH, ↓reduceIte, zI, reduceCtorEq, zJ, zK]) ?_
  rintro ⟨i, kk⟩ ⟨k, hi, hk, hR⟩
  dsimp only at hi hR
  have hni : i.toNat = k := by omega
  have hni1 : (i + 1).toNat = k + 1 := by omega
  rcases Nat.lt_or_ge k (ys).length with hlt | hge
  · obtain ⟨hk1, hkn, hy, hm⟩ := hR
    have hlx : k < xs.length := by omega
    have hdr : xs.drop k = xs[k] :: xs.drop (k + 1) := List.drop_eq_getElem_cons hlx
    have hdy := List.drop_eq_getElem_cons hlt
    rw [hdr, Ag.wtS] at hkn
    rw [hdr, Ag.mkS] at hm
    rw [hdr, Ag.mkS, hdy] at hy
    dsimp only at hy hm
    obtain ⟨hy1, hy2⟩ := List.cons.inj hy
    have hg := get_at Ag.d hlt
    rw [hy1, Ag.mk1_d] at hg
    have hn1 := Ag.wt_eq xs[k]
    have t0 := markText_E (k := kk) (by omega) (by omega)
    have he := Ag.mk1_end xs[k] kk
    simp (disch := omega) only [go_sem, go_cond, zA, zB, zC, zD, zE, zF, zG, zH, ↓reduceIte, zI, reduceCtorEq, zJ, zK, hni, hg, m_laws_markText, dec_refl, t0]
    refine ⟨(i + 1, (xs[k].mk1 kk).2), ⟨k + 1, by dsimp only; omega, hlt, by dsimp only; omega, by dsimp only; omega, hy2, hm⟩, by dsimp only; omega, ?_⟩
    dsimp only
    rw [Ag.mk1_eq]
    simp only [and_self, and_true, true_and]
    try omega
  · obtain ⟨hk1, hkn, hy, hm⟩ := hR
    have hdr : xs.drop k = [] := List.drop_eq_nil_of_le (by omega)
    rw [hdr, Ag.mkS] at hm
    rw [hm]
    simp (disch := omega) only [go_sem, go_cond, zA, zB, zC, zD, zE, zF, zG, zH, ↓reduceIte, zI, reduceCtorEq, zJ, zK, hni]
theorem heldTS_Assigned (xs : List Ag) : HeldTS_Assigned xs := heldTS_Assigned_of xs
theorem toTree1 {o : Ob} {es : List (List OT)} (h : toTree [o] = [.tree es []]) : (∃ a b, o = .row a b es) ∨ o = .tree es [] := by
  cases o with
  | row a b e => obtain ⟨h1, h2⟩ := List.cons.inj h; cases h1; exact .inl ⟨a, b, rfl⟩
  | tree e hs => obtain ⟨h1, h2⟩ := List.cons.inj h; cases h1; exact .inr rfl
  | _ => simp [toTree] at h
noncomputable def Sb.mkr (x : Sb) (k : Int) : Sb × Int := ((Sb.mk ((Bd.mkS x.binds k).1)), (Bd.mkS x.binds k).2)
noncomputable def Cl.mkr (x : Cl) (k : Int) : Cl × Int := ((Cl.mk ((Lt.mkS x.lits k).1)), (Lt.mkS x.lits k).2)
def c_laws_markClause : SC := (.seq (.reg [⟨some 2, none, .boxv 39 1 (.t 0)⟩, ⟨some 4, none, .mv (.c (.int .i64 0))⟩]) (.seq (.reg [⟨some 5, none, .faddr 0 (.t 2)⟩, ⟨some 6, none, .load false 1 (.t 5)⟩, ⟨some 7, none, .mv (.t 1)⟩, ⟨some 8, none, .call 40 [(.t 6), (.t 7)]⟩, ⟨some 1, none, .mv (.t 8)⟩]) (.seq (.reg [⟨some 9, none, .mv (.t 1)⟩, ⟨some 4, none, .mv (.t 9)⟩]) .ret)))
theorem k_laws_markClause : codeOf Tryz.prog 15 = some ⟨10, c_laws_markClause, [(.tmp 4)]⟩ := by kernel_rfl
theorem m_laws_markClause : modes 15 = ⟨[true], .asis, none, false⟩ := by unfold modes; rfl
set_option maxHeartbeats 1000000 in
theorem markT_Clause (x : Cl) (k : Int) (o0 : Ob) (h1 : 1 ≤ k) (h2 : k + (Lt.wtS x.lits : Nat) ≤ 1099511627776) (t0 : toTree [o0] = [.tree (x.lits.map Lt.o) []]) : E 15 [.agg [.ref 0], .int .i64 k] [o0] = some (.int .i64 (x.mkr k).2, [.tree ((Lt.mkS x.lits k).1.map Lt.o) []]) := by
  have e0 := Lt.mkS_end x.lits k
  rw [Cl.mkr]
  dsimp only
  have c0 := markTS_Literal x.lits k [o0] (by omega) (by omega) t0
  rcases toTree1 t0 with ⟨a0, b0, rfl⟩ | rfl <;>
   (
    refine E_walk k_laws_markClause m_laws_markClause (of_decide_eq_true rfl) ?_
    simp (disch := omega) only [c_laws_markClause, go_sem, go_cond, zA, zB, zC, zD, zE, zF, zG, zH, ↓reduceIte, zI, reduceCtorEq, zJ, zK, c0, m_laws_markLiteralS])
noncomputable def Ip.mkr (x : Ip) (k : Int) : Ip × Int := ((Ip.mk (x.size) ((Tl.mkS x.tables k).1)), (Tl.mkS x.tables k).2)
def c_laws_markInterpretation : SC := (.seq (.reg [⟨some 2, none, .boxv 35 2 (.t 0)⟩, ⟨some 4, none, .mv (.c (.int .i64 0))⟩]) (.seq (.reg [⟨some 5, none, .faddr 1 (.t 2)⟩, ⟨some 6, none, .load false 1 (.t 5)⟩, ⟨some 7, none, .mv (.t 1)⟩, ⟨some 8, none, .call 39 [(.t 6), (.t 7)]⟩, ⟨some 1, none, .mv (.t 8)⟩]) (.seq (.reg [⟨some 9, none, .mv (.t 1)⟩, ⟨some 4, none, .mv (.t 9)⟩]) .ret)))
theorem k_laws_markInterpretation : codeOf Tryz.prog 14 = some ⟨10, c_laws_markInterpretation, [(.tmp 4)]⟩ := by kernel_rfl
theorem m_laws_markInterpretation : modes 14 = ⟨[true], .asis, none, false⟩ := by unfold modes; rfl
set_option maxHeartbeats 1000000 in
theorem markT_Interpretation (x : Ip) (k : Int) (o0 : Ob) (h1 : 1 ≤ k) (h2 : k + (Tl.wtS x.tables : Nat) ≤ 1099511627776) (t0 : toTree [o0] = [.tree (x.tables.map Tl.o) []]) : E 14 [.agg [.int .i64 x.size, .ref 0], .int .i64 k] [o0] = some (.int .i64 (x.mkr k).2, [.tree ((Tl.mkS x.tables k).1.map Tl.o) []]) := by
  have e0 := Tl.mkS_end x.tables k
  rw [Ip.mkr]
  dsimp only
  have c0 := markTS_Table x.tables k [o0] (by omega) (by omega) t0
  rcases toTree1 t0 with ⟨a0, b0, rfl⟩ | rfl <;>
   (
    refine E_walk k_laws_markInterpretation m_laws_markInterpretation (of_decide_eq_true rfl) ?_
    simp (disch := omega) only [c_laws_markInterpretation, go_sem, go_cond, zA, zB, zC, zD, zE, zF, zG, zH, ↓reduceIte, zI, reduceCtorEq, zJ, zK, c0, m_laws_markTableS])
def c_laws_FnExactFirstCounterexample : SC := (.seq (.reg [⟨some 2, none, .boxv 24 2 (.t 0)⟩, ⟨some 3, none, .boxv 27 1 (.t 1)⟩, ⟨some 4, none, .mv (.c (.bool false))⟩]) (.seq (.reg [⟨some 5, none, .mv (.c (.int .i64 1048576))⟩]) (.seq (.reg [⟨some 20, none, .load true 2 (.t 2)⟩, ⟨some 21, none, .mv (.t 5)⟩, ⟨some 22, none, .call 5 [(.t 20), (.t 21)]⟩, ⟨some 5, none, .mv (.t 22)⟩]) (.seq (.seq (.reg [⟨some 23, none, .mv (.t 5)⟩, ⟨some 24, none, .bin .lss false (.t 23) (.c (.int .i64 0))⟩]) (.cond (.t 24) (.seq (.reg [⟨some 4, none, .mv (.c (.bool true))⟩]) .ret) .skip)) (.seq (.reg [⟨some 25, none, .load true 1 (.t 3)⟩, ⟨some 26, none, .mv (.t 5)⟩, ⟨some 27, none, .call 6 [(.t 25), (.t 26)]⟩, ⟨some 5, none, .mv (.t 27)⟩]) (.seq (.seq (.reg [⟨some 28, none, .mv (.t 5)⟩, ⟨some 29, none, .bin .lss false (.t 28) (.c (.int .i64 0))⟩]) (.cond (.t 29) (.seq (.reg [⟨some 4, none, .mv (.c (.bool true))⟩]) .ret) .skip)) (.seq (.dreg [[], [0], [], [2, 1, 0], [1, 0, 3, 2], [4, 1, 0, 3, 2], [5, 4, 1, 0, 3, 2], [5, 4, 1, 0, 3, 2], [5, 4, 1, 0, 3, 2], [6, 5, 4, 1, 0, 3, 2], [7, 5, 4, 1, 0, 3, 2, 9, 6], [8, 5, 4, 1, 0, 3, 2, 10, 7, 9, 6]] [⟨some 31, none, .load true 2 (.t 2)⟩, ⟨some 32, none, .call 8 [(.t 31)]⟩, ⟨some 33, none, .load true 1 (.t 3)⟩, ⟨some 34, none, .call 9 [(.t 33)]⟩, ⟨some 35, none, .call 7 [(.t 32), (.t 34)]⟩, ⟨some 30, none, .mv (.t 35)⟩, ⟨some 36, none, .ext (.t 30) 0⟩, ⟨some 37, none, .ext (.t 30) 1⟩, ⟨some 38, none, .ext (.t 30) 2⟩, ⟨some 6, none, .mv (.t 36)⟩, ⟨some 7, none, .mv (.t 37)⟩, ⟨some 8, none, .mv (.t 38)⟩]) (.seq (.reg [⟨some 39, none, .load true 2 (.t 2)⟩, ⟨some 40, none, .call 8 [(.t 39)]⟩, ⟨some 9, none, .alloc 35 [(.int .i64 0), .nil]⟩, ⟨none, none, (.store 2 (.t 9) (.t 40))⟩]) (.seq (.reg [⟨some 41, none, .load true 1 (.t 3)⟩, ⟨some 42, none, .call 9 [(.t 41)]⟩, ⟨some 10, none, .alloc 39 [.nil]⟩, ⟨none, none, (.store 1 (.t 10) (.t 42))⟩]) (.seq (.reg [⟨some 44, none, .load true 2 (.t 9)⟩, ⟨some 45, none, .load true 1 (.t 10)⟩, ⟨some 46, none, .call 10 [(.t 44), (.t 45)]⟩, ⟨some 43, none, .mv (.t 46)⟩, ⟨some 47, none, .ext (.t 43) 0⟩, ⟨some 48, none, .ext (.t 43) 1⟩, ⟨some 49, none, .ext (.t 43) 2⟩, ⟨some 11, none, .mv (.t 47)⟩, ⟨some 12, none, .mv (.t 48)⟩, ⟨some 13, none, .mv (.t 49)⟩]) (.seq (.seq (.reg [⟨some 50, none, .mv (.t 11)⟩, ⟨some 51, none, .mv (.t 6)⟩, ⟨some 52, none, .call 11 [(.t 50), (.t 51)]⟩, ⟨some 53, none, .un .not (.t 52)⟩, ⟨some 54, none, .mv (.t 53)⟩, ⟨(some 55), (some (54, false)), (.mv (.t 12))⟩, ⟨(some 56), (some (54, false)), (.mv (.t 7))⟩, ⟨(some 57), (some (54, false)), (.bin .neq true (.t 55) (.t 56))⟩, ⟨some 58, none, .pick (.t 54) (.c (.bool true)) (.t 57)⟩, ⟨some 59, none, .mv (.t 58)⟩, ⟨(some 60), (some (59, false)), (.mv (.t 13))⟩, ⟨(some 61), (some (59, false)), (.mv (.t 8))⟩, ⟨(some 62), (some (59, false)), (.bin .neq true (.t 60) (.t 61))⟩, ⟨some 63, none, .pick (.t 59) (.c (.bool true)) (.t 62)⟩]) (.cond (.t 63) (.seq (.reg [⟨some 4, none, .mv (.c (.bool false))⟩]) .ret) .skip)) (.seq (.seq (.dreg [[], [], [1], [0, 2, 1], [3, 0, 2, 1]] [⟨some 64, none, .load true 2 (.t 9)⟩, ⟨some 65, none, .load true 2 (.t 2)⟩, ⟨some 66, none, .call 8 [(.t 65)]⟩, ⟨some 67, none, .call 12 [(.t 64), (.t 66)]⟩, ⟨some 68, none, .un .not (.t 67)⟩]) (.cond (.t 68) (.seq (.reg [⟨some 4, none, .mv (.c (.bool false))⟩]) .ret) .skip)) (.seq (.seq (.dreg [[], [], [1], [0, 2, 1], [3, 0, 2, 1]] [⟨some 69, none, .load true 1 (.t 10)⟩, ⟨some 70, none, .load true 1 (.t 3)⟩, ⟨some 71, none, .call 9 [(.t 70)]⟩, ⟨some 72, none, .call 13 [(.t 69), (.t 71)]⟩, ⟨some 73, none, .un .not (.t 72)⟩]) (.cond (.t 73) (.seq (.reg [⟨some 4, none, .mv (.c (.bool false))⟩]) .ret) .skip)) (.seq (.reg [⟨some 14, none, .mv (.c (.int .i64 1))⟩]) (.seq (.reg [⟨some 74, none, .load true 2 (.t 9)⟩, ⟨some 75, none, .mv (.t 14)⟩, ⟨some 76, none, .call 14 [(.t 74), (.t 75)]⟩, ⟨some 14, none, .mv (.t 76)⟩]) (.seq (.reg [⟨some 77, none, .load true 1 (.t 10)⟩, ⟨some 78, none, .mv (.t 14)⟩, ⟨some 79, none, .call 15 [(.t 77), (.t 78)]⟩, ⟨some 14, none, .mv (.t 79)⟩]) (.seq (.seq (.reg [⟨some 80, none, .mv (.t 14)⟩, ⟨some 81, none, .bin .lss false (.t 80) (.c (.int .i64 0))⟩, ⟨some 82, none, .mv (.t 81)⟩, ⟨(some 83), (some (82, false)), (.mv (.t 11))⟩, ⟨(some 84), (some (82, false)), (.mv (.t 6))⟩, ⟨(some 85), (some (82, false)), (.call 11 [(.t 83), (.t 84)])⟩, ⟨(some 86), (some (82, false)), (.un .not (.t 85))⟩, ⟨some 87, none, .pick (.t 82) (.c (.bool true)) (.t 86)⟩, ⟨some 88, none, .mv (.t 87)⟩, ⟨(some 89), (some (88, false)), (.mv (.t 12))⟩, ⟨(some 90), (some (88, false)), (.mv (.t 7))⟩, ⟨(some 91), (some (88, false)), (.bin .neq true (.t 89) (.t 90))⟩, ⟨some 92, none, .pick (.t 88) (.c (.bool true)) (.t 91)⟩, ⟨some 93, none, .mv (.t 92)⟩, ⟨(some 94), (some (93, false)), (.mv (.t 13))⟩, ⟨(some 95), (some (93, false)), (.mv (.t 8))⟩, ⟨(some 96), (some (93, false)), (.bin .neq true (.t 94) (.t 95))⟩, ⟨some 97, none, .pick (.t 93) (.c (.bool true)) (.t 96)⟩]) (.cond (.t 97) (.seq (.reg [⟨some 4, none, .mv (.c (.bool false))⟩]) .ret) .skip)) (.seq (.reg [⟨some 15, none, .mv (.c (.int .i64 1))⟩]) (.seq (.reg [⟨some 98, none, .mv (.t 11)⟩, ⟨some 99, none, .mv (.t 15)⟩, ⟨some 100, none, .call 16 [(.t 98), (.t 99)]⟩, ⟨some 15, none, .mv (.t 100)⟩]) (.seq (.reg [⟨some 16, none, .mv (.c (.int .i64 1))⟩]) (.seq (.reg [⟨some 101, none, .mv (.t 11)⟩, ⟨some 102, none, .mv (.t 16)⟩, ⟨some 103, none, .call 17 [(.t 101), (.t 102)]⟩, ⟨some 16, none, .mv (.t 103)⟩]) (.seq (.seq (.reg [⟨some 104, none, .mv (.t 16)⟩, ⟨some 105, none, .bin .lss false (.t 104) (.c (.int .i64 0))⟩]) (.cond (.t 105) (.seq (.reg [⟨some 4, none, .mv (.c (.bool false))⟩]) .ret) .skip)) (.seq (.seq (.reg [⟨some 106, none, .mv (.t 16)⟩, ⟨some 107, none, .mv (.t 15)⟩, ⟨some 108, none, .bin .neq false (.t 106) (.t 107)⟩]) (.cond (.t 108) (.seq (.reg [⟨some 4, none, .mv (.c (.bool false))⟩]) .ret) .skip)) (.seq (.dreg [[], [0], [], [2, 1, 0], [1, 0, 3, 2], [4, 1, 0, 3, 2], [5, 4, 1, 0, 3, 2], [5, 4, 1, 0, 3, 2], [5, 4, 1, 0, 3, 2], [6, 5, 4, 1, 0, 3, 2], [7, 5, 4, 1, 0, 3, 2, 9, 6], [8, 5, 4, 1, 0, 3, 2, 10, 7, 9, 6]] [⟨some 110, none, .load true 2 (.t 2)⟩, ⟨some 111, none, .call 8 [(.t 110)]⟩, ⟨some 112, none, .load true 1 (.t 3)⟩, ⟨some 113, none, .call 9 [(.t 112)]⟩, ⟨some 114, none, .call 10 [(.t 111), (.t 113)]⟩, ⟨some 109, none, .mv (.t 114)⟩, ⟨some 115, none, .ext (.t 109) 0⟩, ⟨some 116, none, .ext (.t 109) 1⟩, ⟨some 117, none, .ext (.t 109) 2⟩, ⟨some 17, none, .mv (.t 115)⟩, ⟨some 18, none, .mv (.t 116)⟩, ⟨some 19, none, .mv (.t 117)⟩]) (.seq (.seq (.reg [⟨some 118, none, .mv (.t 17)⟩, ⟨some 119, none, .mv (.t 6)⟩, ⟨some 120, none, .call 11 [(.t 118), (.t 119)]⟩, ⟨some 121, none, .un .not (.t 120)⟩, ⟨some 122, none, .mv (.t 121)⟩, ⟨(some 123), (some (122, false)), (.mv (.t 18))⟩, ⟨(some 124), (some (122, false)), (.mv (.t 7))⟩, ⟨(some 125), (some (122, false)), (.bin .neq true (.t 123) (.t 124))⟩, ⟨some 126, none, .pick (.t 122) (.c (.bool true)) (.t 125)⟩, ⟨some 127, none, .mv (.t 126)⟩, ⟨(some 128), (some (127, false)), (.mv (.t 19))⟩, ⟨(some 129), (some (127, false)), (.mv (.t 8))⟩, ⟨(some 130), (some (127, false)), (.bin .neq true (.t 128) (.t 129))⟩, ⟨some 131, none, .pick (.t 127) (.c (.bool true)) (.t 130)⟩]) (.cond (.t 131) (.seq (.reg [⟨some 4, none, .mv (.c (.bool false))⟩]) .ret) .skip)) (.seq (.reg [⟨some 16, none, .mv (.c (.int .i64 1))⟩]) (.seq (.reg [⟨some 132, none, .mv (.t 11)⟩, ⟨some 133, none, .mv (.t 16)⟩, ⟨some 134, none, .call 17 [(.t 132), (.t 133)]⟩, ⟨some 16, none, .mv (.t 134)⟩]) (.seq (.seq (.reg [⟨some 135, none, .mv (.t 16)⟩, ⟨some 136, none, .bin .lss false (.t 135) (.c (.int .i64 0))⟩]) (.cond (.t 136) (.seq (.reg [⟨some 4, none, .mv (.c (.bool false))⟩]) .ret) .skip)) (.seq (.seq (.reg [⟨some 137, none, .mv (.t 16)⟩, ⟨some 138, none, .mv (.t 15)⟩, ⟨some 139, none, .bin .neq false (.t 137) (.t 138)⟩]) (.cond (.t 139) (.seq (.reg [⟨some 4, none, .mv (.c (.bool false))⟩]) .ret) .skip)) (.seq (.reg [⟨some 4, none, .mv (.c (.bool true))⟩]) .ret))))))))))))))))))))))))))))))
theorem k_laws_FnExactFirstCounterexample : codeOf Tryz.prog 3 = some ⟨140, c_laws_FnExactFirstCounterexample, [(.tmp 4)]⟩ := by kernel_rfl
theorem m_laws_FnExactFirstCounterexample : modes 3 = ⟨[], .asis, none, false⟩ := by unfold modes; rfl
theorem Cl.bulk_tame (x : Cl) (h : x.bulk ≤ 1048576) : x.tame := by
  rw [Cl.bulk_eq] at h
  refine ⟨by omega, fun y hy => ?_⟩
  obtain ⟨k, hk, rfl⟩ := List.getElem_of_mem hy
  have h1 := Lt.bulk_le x.lits k hk
  have h2 := Tm.nodes_bulk x.lits[k].atom
  rw [Lt.bulk_eq] at h1
  omega
def c_spec_FirstCounterexample : SC := (.seq (.reg [⟨some 2, none, .boxv 35 2 (.t 0)⟩, ⟨some 3, none, .boxv 39 1 (.t 1)⟩, ⟨some 4, none, .mv (.c .nil)⟩, ⟨some 5, none, .mv (.c (.bool false))⟩, ⟨some 6, none, .mv (.c (.bool false))⟩]) (.seq (.seq (.reg [⟨some 9, none, .load true 2 (.t 2)⟩, ⟨some 10, none, .call 27 [(.t 9)]⟩, ⟨some 11, none, .un .not (.t 10)⟩, ⟨some 12, none, .mv (.t 11)⟩, ⟨(some 13), (some (12, false)), (.load true 1 (.t 3))⟩, ⟨(some 14), (some (12, false)), (.call 28 [(.t 13)])⟩, ⟨(some 15), (some (12, false)), (.un .not (.t 14))⟩, ⟨some 16, none, .pick (.t 12) (.c (.bool true)) (.t 15)⟩]) (.cond (.t 16) (.seq (.reg [⟨(some 17), none, (.mkrow 72 2 [(.str ⟨#[]⟩), (.int .i64 0)] 0 [])⟩, ⟨some 4, none, .mv (.t 17)⟩, ⟨some 5, none, .mv (.c (.bool false))⟩, ⟨some 6, none, .mv (.c (.bool false))⟩]) .ret) .skip)) (.seq (.reg [⟨some 19, none, .load true 2 (.t 2)⟩, ⟨some 20, none, .load true 1 (.t 3)⟩, ⟨some 21, none, .call 29 [(.t 19), (.t 20)]⟩, ⟨some 18, none, .mv (.t 21)⟩, ⟨some 22, none, .ext (.t 18) 0⟩, ⟨some 23, none, .ext (.t 18) 1⟩, ⟨some 7, none, .mv (.t 22)⟩, ⟨some 8, none, .mv (.t 23)⟩]) (.seq (.reg [⟨some 24, none, .mv (.t 7)⟩, ⟨some 25, none, .mv (.t 8)⟩, ⟨some 26, none, .bin .eql false (.t 25) (.c (.int .i64 1))⟩, ⟨some 27, none, .mv (.t 8)⟩, ⟨some 28, none, .bin .geq false (.t 27) (.c (.int .i64 0))⟩, ⟨some 4, none, .mv (.t 24)⟩, ⟨some 5, none, .mv (.t 26)⟩, ⟨some 6, none, .mv (.t 28)⟩]) .ret))))
theorem k_spec_FirstCounterexample : codeOf Tryz.prog 7 = some ⟨29, c_spec_FirstCounterexample, [(.tmp 4), (.tmp 5), (.tmp 6)]⟩ := by kernel_rfl
theorem m_spec_FirstCounterexample : modes 7 = ⟨[], .frz, none, false⟩ := by unfold modes; rfl
theorem Tm.vs_ok (x : Tm) : ∀ s ∈ x.vs, varB s = true := by
  intro s hs
  rw [Tm.vs_eq] at hs
  cases h : varB x.name with
  | true =>
    rw [h, cond_true, List.mem_singleton] at hs
    rw [hs]; exact h
  | false =>
    rw [h, cond_false, Tm.vsL_mem] at hs
    obtain ⟨y, hy, hs⟩ := hs
    exact Tm.vs_ok y s hs
termination_by SizeOf.sizeOf x
decreasing_by exact Tm.lt_of_mem hy
theorem Lt.vsL_ok : ∀ (xs : List Lt) (s : ByteArray), s ∈ Lt.vsL xs → varB s = true
  | [], s, h => by rw [Lt.vsL] at h; cases h
  | x :: xs, s, h => by
    rw [Lt.vsL, List.mem_append] at h
    exact h.elim (Tm.vs_ok x.atom s) (Lt.vsL_ok xs s)
theorem digA_bulk (sz n : Int) : ∀ l : List ByteArray, (∀ s ∈ l, s.size ≤ 6) → Ag.sumB (digA sz l n).1 ≤ 6 * l.length
  | [], _ => by rw [digA, Ag.sumB]; exact Nat.zero_le _
  | s :: l, h => by
    have ih := digA_bulk sz n l fun y hy => h y (by simp [hy])
    have h1 := h s (by simp)
    rw [digA, Ag.sumB, Ag.bulk_eq]
    simp only [List.length_cons]
    omega
theorem cexN_bulk (m : Ip) (c : Cl) (h : ∀ s ∈ c.vars, s.size ≤ 6) (h6 : c.vars.length ≤ 6) : ∀ (k : Nat) (n : Int), (cexL (cexN m c k n)).length + Ag.sumB (cexL (cexN m c k n)) ≤ 1048576
  | 0, n => by rw [cexN]; show ([] : List Ag).length + Ag.sumB [] ≤ 1048576; simp [Ag.sumB]
  | k + 1, n => by
    have ih := cexN_bulk m c h h6 k (n + 1)
    have h1 := digA_len m.size n c.vars
    have h2 := digA_bulk m.size n c.vars h
    rw [cexN]
    cases satA m (asg (digA m.size c.vars n).1) c.lits false with
    | none => show ([] : List Ag).length + Ag.sumB [] ≤ 1048576; simp [Ag.sumB]
    | some b =>
      cases b with
      | true => exact ih
      | false => show (digA m.size c.vars n).1.length + Ag.sumB (digA m.size c.vars n).1 ≤ 1048576; omega
theorem cexT_bulk (m : Ip) (c : Cl) : (cexL (cexT m c)).length + Ag.sumB (cexL (cexT m c)) ≤ 1048576 := by
  unfold cexT
  cases hm : m.ok with
  | false => rw [Bool.false_and, cond_false]; show ([] : List Ag).length + Ag.sumB [] ≤ 1048576; simp [Ag.sumB]
  | true =>
    rw [Bool.true_and]
    cases hc : c.ok && c.narrow with
    | false => rw [cond_false]; show ([] : List Ag).length + Ag.sumB [] ≤ 1048576; simp [Ag.sumB]
    | true =>
      rw [cond_true]
      rw [Bool.and_eq_true] at hc
      have h6 : c.vars.length ≤ 6 := by
        have h := dec_iff.1 hc.2
        have hcv : insA [] (Lt.vsL c.lits) = c.vars := rfl
        rw [hcv] at h
        omega
      refine cexN_bulk m c (fun s hs => ?_) h6 _ _
      exact varB_size (Lt.vsL_ok _ s ((insA_mem.1 hs).resolve_left (by simp)))
set_option maxHeartbeats 4000000 in
theorem l10FirstCounterexample_E (m : Ip) (ht : m.tame) (c : Cl) (hct : c.tame) : E 7 [m.sv, c.sv] [] = some (.tup [.arr ((cexL (cexT m c)).map Ag.d), .bool (cexF (cexT m c)), .bool (cexT m c).isSome], []) := by
  have h1 := l10Good_E m ht
  have hq := l10Clause_E c hct
  unfold cexT
  cases hm : m.ok with
  | false =>
    rw [hm] at h1
    rw [Bool.false_and, cond_false]
    refine E_walk k_spec_FirstCounterexample m_spec_FirstCounterexample (of_decide_eq_true rfl) ?_
    simp (disch := omega) only [c_spec_FirstCounterexample, go_sem, go_cond, zA, zB, zC, zD, zE, zF, zG, zH, ↓reduceIte, zI, reduceCtorEq, zJ, zK, h1, hq, m_spec_l10Good, m_spec_l10Clause, cexL, cexF, List.map_nil, OT.erss, OT.noShss, Option.getD_none, Option.isSome_none, Option.getD_some, Option.isSome_some]
    try first | rfl | exact ⟨rfl, rfl⟩
  | true =>
    rw [hm] at h1
    rw [Bool.true_and]
    cases hcn : c.ok && c.narrow with
    | false =>
      rw [hcn] at hq
      rw [cond_false]
      refine E_walk k_spec_FirstCounterexample m_spec_FirstCounterexample (of_decide_eq_true rfl) ?_
      simp (disch := omega) only [c_spec_FirstCounterexample, go_sem, go_cond, zA, zB, zC, zD, zE, zF, zG, zH, ↓reduceIte, zI, reduceCtorEq, zJ, zK, h1, hq, m_spec_l10Good, m_spec_l10Clause, cexL, cexF, List.map_nil, OT.erss, OT.noShss, Option.getD_none, Option.isSome_none, Option.getD_some, Option.isSome_some]
      try first | rfl | exact ⟨rfl, rfl⟩
    | true =>
      rw [hcn] at hq
      rw [cond_true]
      rw [Bool.and_eq_true] at hcn
      have hc := l10Counter_E m hm ht c hcn.1 hcn.2
      generalize cexAll m c = o at *
      rcases o with _ | _ | a
      all_goals
        refine E_walk k_spec_FirstCounterexample m_spec_FirstCounterexample (of_decide_eq_true rfl) ?_
        simp (disch := omega) only [c_spec_FirstCounterexample, go_sem, go_cond, zA, zB, zC, zD, zE, zF, zG, zH, ↓reduceIte, zI, reduceCtorEq, zJ, zK, h1, hq, hc, m_spec_l10Good, m_spec_l10Clause, m_spec_l10Counter, cexL, cexF, cexZ, List.map_nil, OT.erss, OT.noShss, Ag.erss, Ag.noss, Option.getD_none, Option.isSome_none, Option.getD_some, Option.isSome_some]
        try first | rfl | exact ⟨rfl, rfl⟩
set_option maxHeartbeats 8000000 in
theorem law39_E (m : Ip) (c : Cl) (hfm : D.fits m.d) (hfc : D.fits c.d) : E 3 [m.sv, c.sv] [] = some (.bool true, []) := by
  have s0 := szT_Interpretation m hfm 1048576 (by omega) (by omega)
  have q0 := szR_spec 1048576 m.bulk
  obtain ⟨l0, hl0⟩ : ∃ l, l = szR 1048576 (m.bulk : Nat) := ⟨_, rfl⟩
  rw [← hl0] at s0 q0
  rcases Int.lt_or_le l0 0 with h0 | h0_0
  · refine E_walk k_laws_FnExactFirstCounterexample m_laws_FnExactFirstCounterexample (of_decide_eq_true rfl) ?_
    simp (disch := omega) only [c_laws_FnExactFirstCounterexample, go_sem, go_cond, zA, zB, zC, zD, zE, zF, zG, zH, ↓reduceIte, zI, reduceCtorEq, zJ, zK, s0, m_laws_szInterpretation]
  have s1 := szT_Clause c hfc l0 (by omega) (by omega)
  have q1 := szR_spec l0 c.bulk
  obtain ⟨l1, hl1⟩ : ∃ l, l = szR l0 (c.bulk : Nat) := ⟨_, rfl⟩
  rw [← hl1] at s1 q1
  rcases Int.lt_or_le l1 0 with h0 | h0_1
  · refine E_walk k_laws_FnExactFirstCounterexample m_laws_FnExactFirstCounterexample (of_decide_eq_true rfl) ?_
    simp (disch := omega) only [c_laws_FnExactFirstCounterexample, go_sem, go_cond, zA, zB, zC, zD, zE, zF, zG, zH, ↓reduceIte, zI, reduceCtorEq, zJ, zK, s0, s1, m_laws_szClause, m_laws_szInterpretation]
  have hb_m : m.bulk ≤ 1048576 := by omega
  have hb_c : c.bulk ≤ 1048576 := by omega
  have t_m := toT_Interpretation m hb_m
  have t_c := toT_Clause c hb_c
  have hmt := Ip.bulk_tame m hb_m
  have hct := Cl.bulk_tame c hb_c
  have a1 := l10FirstCounterexample_E m hmt c hct
  have a2 := firstCounterexample_E m hmt c hct
  have hb_r := cexT_bulk m c
  obtain ⟨r, hr_r⟩ : ∃ r, r = cexL (cexT m c) := ⟨_, rfl⟩
  rw [← hr_r] at a1 a2 hb_r
  obtain ⟨f, hr_f⟩ : ∃ r, r = cexF (cexT m c) := ⟨_, rfl⟩
  rw [← hr_f] at a1 a2
  obtain ⟨o, hr_o⟩ : ∃ r, r = (cexT m c).isSome := ⟨_, rfl⟩
  rw [← hr_o] at a1 a2
  have eq_m := eqT_Interpretation m (by omega)
  have be_m := Ip.bulk_eq m
  have w_m_tables := Tl.wtS_bulk m.tables
  have eq_c := eqT_Clause c (by omega)
  have be_c := Cl.bulk_eq c
  have w_c_lits := Lt.wtS_bulk c.lits
  have eq_r := eqTS_Assigned r (by omega)
  have w_r := Ag.wtS_bulk r
  have k_m_0 := Tl.mkS_end m.tables (1)
  have m_m := markT_Interpretation m (1) (.row 97 4 (m.tables.map Tl.o)) (by omega) (by omega) rfl
  obtain ⟨n_m, hn_m⟩ : ∃ n1, n1 = (m.mkr (1)).2 := ⟨_, rfl⟩
  have hn'_m : n_m = (Tl.mkS m.tables (1)).2 := hn_m
  rw [← hn_m] at m_m
  have k_c_0 := Lt.mkS_end c.lits (n_m)
  have m_c := markT_Clause c (n_m) (.row 107 3 (c.lits.map Lt.o)) (by omega) (by omega) rfl
  obtain ⟨n_c, hn_c⟩ : ∃ n1, n1 = (c.mkr (n_m)).2 := ⟨_, rfl⟩
  have hn'_c : n_c = (Lt.mkS c.lits (n_m)).2 := hn_c
  rw [← hn_c] at m_c
  have k_r := Ag.mkS_end r (1)
  have m_r := markTS_Assigned r (1) [.row 72 2 (r.map Ag.o)] (by omega) (by omega) rfl
  have hd_r := heldTS_Assigned r (1) (by omega) (by omega)
  obtain ⟨n_r, hn_r⟩ : ∃ n1, n1 = (Ag.mkS r (1)).2 := ⟨_, rfl⟩
  rw [← hn_r] at k_r m_r hd_r
  refine E_walk k_laws_FnExactFirstCounterexample m_laws_FnExactFirstCounterexample (of_decide_eq_true rfl) ?_
  simp (disch := omega) only [c_laws_FnExactFirstCounterexample, go_sem, zA, zB, zC, zD, zE, zF, zG, zH, ↓reduceIte, zI, reduceCtorEq, zJ, zK, s0, s1, t_m, t_c, a1, a2, eq_m, eq_c, eq_r, m_m, m_c, hd_r, m_r, dec_refl, m_laws_szInterpretation, m_laws_szClause, m_laws_toInterpretation, m_laws_toClause, m_laws_eqInterpretation, m_laws_eqClause, m_laws_eqAssignedS, m_laws_markInterpretation, m_laws_markClause, m_laws_heldAssignedS, m_laws_markAssignedS, m_spec_FirstCounterexample, m_impl_FirstCounterexample, Ip.osv, Ip.obs, Tl.osv, Tl.obs, Cl.osv, Cl.obs, Lt.osv, Lt.obs, Tm.osv, Tm.obs, Ag.osv, Ag.obs, Tl.erss, Tl.noss, Lt.erss, Lt.noss, Ag.erss, Ag.noss]
  repeat ((first | (refine go_condT ?_ ?_; (focus (simp (disch := omega) only [go_sem, zA, zB, zC, zD, zE, zF, zG, zH, ↓reduceIte, zI, reduceCtorEq, zJ, zK, s0, s1, t_m, t_c, a1, a2, eq_m, eq_c, eq_r, m_m, m_c, hd_r, m_r, dec_refl, m_laws_szInterpretation, m_laws_szClause, m_laws_toInterpretation, m_laws_toClause, m_laws_eqInterpretation, m_laws_eqClause, m_laws_eqAssignedS, m_laws_markInterpretation, m_laws_markClause, m_laws_heldAssignedS, m_laws_markAssignedS, m_spec_FirstCounterexample, m_impl_FirstCounterexample, Ip.osv, Ip.obs, Tl.osv, Tl.obs, Cl.osv, Cl.obs, Lt.osv, Lt.obs, Tm.osv, Tm.obs, Ag.osv, Ag.obs, Tl.erss, Tl.noss, Lt.erss, Lt.noss, Ag.erss, Ag.noss]; done))) | (refine go_condF ?_ ?_; (focus (simp (disch := omega) only [go_sem, zA, zB, zC, zD, zE, zF, zG, zH, ↓reduceIte, zI, reduceCtorEq, zJ, zK, s0, s1, t_m, t_c, a1, a2, eq_m, eq_c, eq_r, m_m, m_c, hd_r, m_r, dec_refl, m_laws_szInterpretation, m_laws_szClause, m_laws_toInterpretation, m_laws_toClause, m_laws_eqInterpretation, m_laws_eqClause, m_laws_eqAssignedS, m_laws_markInterpretation, m_laws_markClause, m_laws_heldAssignedS, m_laws_markAssignedS, m_spec_FirstCounterexample, m_impl_FirstCounterexample, Ip.osv, Ip.obs, Tl.osv, Tl.obs, Cl.osv, Cl.obs, Lt.osv, Lt.obs, Tm.osv, Tm.obs, Ag.osv, Ag.obs, Tl.erss, Tl.noss, Lt.erss, Lt.noss, Ag.erss, Ag.noss]; done)))); (try simp (disch := omega) only [go_sem, zA, zB, zC, zD, zE, zF, zG, zH, ↓reduceIte, zI, reduceCtorEq, zJ, zK, s0, s1, t_m, t_c, a1, a2, eq_m, eq_c, eq_r, m_m, m_c, hd_r, m_r, dec_refl, m_laws_szInterpretation, m_laws_szClause, m_laws_toInterpretation, m_laws_toClause, m_laws_eqInterpretation, m_laws_eqClause, m_laws_eqAssignedS, m_laws_markInterpretation, m_laws_markClause, m_laws_heldAssignedS, m_laws_markAssignedS, m_spec_FirstCounterexample, m_impl_FirstCounterexample, Ip.osv, Ip.obs, Tl.osv, Tl.obs, Cl.osv, Cl.obs, Lt.osv, Lt.obs, Tm.osv, Tm.obs, Ag.osv, Ag.obs, Tl.erss, Tl.noss, Lt.erss, Lt.noss, Ag.erss, Ag.noss]))
end Go.Proofs.YtolhlpglgheldaaGreat
set_option maxRecDepth 100000
set_option linter.unusedSimpArgs false
set_option linter.unusedVariables false
namespace Go.Proofs.YtolhlpglgheldaaGreat
open Go.RowKit Go.ChangeShapes Go.WideShapes Go.ChangeAt Go.Deep
section
variable {H : Type} {enc : TypeId × Value → H} {P : Program} {w : World} {base : Nat} {spare : Nat → Bool} {held : Bool}
theorem addr_add_plain {b o k : Nat} : (⟨b, o, none⟩ : Addr).add k = ⟨b, o + k, none⟩ := by
  unfold Addr.add; split
  · subst_vars; rfl
  · rfl
theorem cell_lt {a : Addr} {v : Value} (h : w.cell? a = some v) : a.block < w.heap.size := by
  unfold World.cell? at h
  cases hb : w.heap[a.block]? with
  | none => rw [hb] at h; cases h
  | some o => exact (Array.getElem?_eq_some_iff.1 hb).1
end
section
variable {H : Type} {enc : TypeId × Value → H} {w : World} {base : Nat} {spare : Nat → Bool} {held : Bool}
end
end Go.Proofs.YtolhlpglgheldaaGreat
set_option maxRecDepth 100000
set_option linter.unusedSimpArgs false
set_option linter.unusedVariables false
namespace Go.Proofs.YtolhlpglgheldaaGreat
open Go.RowKit Go.ChangeShapes Go.WideShapes Go.ChangeAt Go.Deep
section
variable {H : Type} {enc : TypeId × Value → H} {P : Program} {w : World} {base : Nat} {spare : Nat → Bool} {held : Bool}
theorem open_sl' {t e : TypeId} {fuel : Nat} {v : Value} {x : DataW H × List MemPlace} (sz : Nat) (hsz : P.cellsOf e = sz) (h0 : 0 < sz) (ht : P.underlying t = some (.slice e)) (h : DataW.trod enc P w base spare held fuel t [v] = some x) :
    ∃ (a : Option Addr) (len cap : Nat) (f : Nat → Nat → Value), v = .slice a len cap ∧ len ≤ cap ∧ cap ≤ 9223372036854775807 ∧ SlA w 0 sz len f a ∧
      ∀ i, i < len → ∃ n x', n < fuel ∧ DataW.trod enc P w base spare held n e ((List.range sz).map (f i)) = some x' := by
  rcases DataW.trod_slice ht h with ⟨hcs, _⟩ | ⟨a, len, cap, elems, rest, n, hf, hcs, hx, hb, hl, hm, hlen, hel, _, _⟩
  · simp only [List.cons.injEq, and_true] at hcs
    exact ⟨none, 0, 0, fun _ _ => undef, hcs, Nat.le_refl _, by omega, .inl rfl, fun i hi => absurd hi (by omega)⟩
  · have hi : ∀ i, i < len → ∃ cs' x', w.cells? base (a.add (i * sz)) sz = some cs' ∧ DataW.trod enc P w base spare held n e cs' = some x' := by
      intro i hi
      have h1 := hel i hi
      rw [hsz, List.getElem?_eq_getElem (by omega)] at h1
      obtain ⟨cs', h2, h3⟩ := Option.bind_eq_some_iff.1 h1
      exact ⟨cs', _, h2, h3⟩
    have hcell : ∀ i j, i < len → j < sz → ∃ v, w.cell? (a.add (i * sz + j)) = some v := by
      intro i j hil hj
      obtain ⟨cs', x', hc, _⟩ := hi i hil
      obtain ⟨_, hcl, hat⟩ := World.cells?_some hc
      have h1 := hat j hj
      rw [Go.Deep.add_add, List.getElem?_eq_getElem (by omega)] at h1
      exact ⟨_, h1⟩
    simp only [List.cons.injEq, and_true] at hcs
    refine ⟨some a, len, cap, fun i j => (w.cell? (a.add (i * sz + j))).getD undef, hcs, hl, hm, ?_, ?_⟩
    · rcases Nat.eq_zero_or_pos len with h | h
      · exact .inl h
      · obtain ⟨v, hv⟩ := hcell 0 0 h h0
        rw [Nat.zero_mul, Nat.zero_add] at hv
        have hsp : a.spot = none := by simpa [Addr.add] using World.cell?_spot hv
        have hlt := cell_lt hv
        obtain ⟨b, off, spot⟩ := a
        simp only at hsp
        subst hsp
        refine .inr ⟨b, off, rfl, Nat.zero_le _, by simpa [Addr.add] using hlt, fun i j hil hj => ?_⟩
        obtain ⟨v', hv'⟩ := hcell i j hil hj
        rw [addr_add_plain] at hv'
        show _ = some ((w.cell? ((⟨b, off, none⟩ : Addr).add (i * sz + j))).getD undef)
        rw [addr_add_plain, Nat.add_assoc, hv']
        rfl
    · intro i hil
      obtain ⟨cs', x', hc, ht'⟩ := hi i hil
      obtain ⟨_, hcl, hat⟩ := World.cells?_some hc
      refine ⟨n, x', by omega, ?_⟩
      have hcs' : (List.range sz).map (fun j => (w.cell? (a.add (i * sz + j))).getD undef) = cs' := by
        apply List.ext_getElem?
        intro j
        by_cases hj : j < sz
        · rw [List.getElem?_map, List.getElem?_range hj]
          have h1 := hat j hj
          rw [Go.Deep.add_add] at h1
          rw [List.getElem?_eq_getElem (by omega : j < cs'.length)] at h1 ⊢
          simp [h1]
        · rw [List.getElem?_eq_none (by simp; omega), List.getElem?_eq_none (by omega)]
      rw [hcs']
      exact ht'
theorem open_st' {t : TypeId} {fs : Array Field} {fuel : Nat} {cs : List Value} {x : DataW H × List MemPlace} (ht : P.underlying t = some (.struct fs)) (h : DataW.trod enc P w base spare held fuel t cs = some x) :
    ∃ n, n < fuel ∧ cs.length = P.cellsOf t ∧ ∀ (i : Nat) (f : Field), fs[i]? = some f → ∃ y, DataW.trod enc P w base spare held n f.type ((cs.drop f.offset).take (P.cellsOf f.type)) = some y := by
  obtain ⟨xs, n, hn, hx, hlen, hxl, hf⟩ := DataW.trod_struct ht h
  refine ⟨n, by omega, hlen, fun i f hi => ?_⟩
  have hil : i < fs.size := (Array.getElem?_eq_some_iff.1 hi).1
  have h1 := hf i f hi
  rw [List.getElem?_eq_getElem (by omega : i < xs.length)] at h1
  exact ⟨_, h1⟩
end
inductive Lvs (w : World) : List D → List Value → Prop
  | nil : Lvs w [] []
  | cons {d : D} {v : Value} {ds : List D} {vs : List Value} (h : DAt w d v) (hs : Lvs w ds vs) : Lvs w (d :: ds) (v :: vs)
theorem Lvs.len {w : World} {ds : List D} {vs : List Value} (h : Lvs w ds vs) : ds.length = vs.length := by
  induction h with
  | nil => rfl
  | cons h hs ih => simp [ih]
theorem Lvs.get {w : World} {ds : List D} {vs : List Value} (h : Lvs w ds vs) : ∀ j (h1 : j < ds.length) (h2 : j < vs.length), DAt w ds[j] vs[j] := by
  induction h with
  | nil => intro j h1; simp at h1
  | cons h hs ih =>
    intro j h1 h2
    cases j with
    | zero => exact h
    | succ j => exact ih j (by simpa using h1) (by simpa using h2)
theorem open_arr {α : Type} [Inhabited α] (dd : α → List D) {w : World} {m len cap : Nat} {f : Nat → Nat → Value} {a : Option Addr} (hl : len ≤ cap) (hm : cap ≤ 9223372036854775807) (hS : SlA w 0 m len f a)
    (hel : ∀ i, i < len → ∃ X : α, Lvs w (dd X) ((List.range m).map (f i))) : ∃ xs : List α, DAt w (.arr (xs.map dd)) (.slice a len cap) := by
  obtain ⟨g, hg⟩ : ∃ g : Nat → α, ∀ i, i < len → Lvs w (dd (g i)) ((List.range m).map (f i)) :=
    ⟨fun i => if h : i < len then (hel i h).choose else default, fun i hi => by simp only [hi, dif_pos]; exact (hel i hi).choose_spec⟩
  refine ⟨(List.range len).map g, ?_⟩
  have hlen : (((List.range len).map g).map dd).length = len := by simp
  have := DAt.arr_mk (w := w) (es := ((List.range len).map g).map dd) (sz := m) (cap := cap) (a := a) (f := f) (by rw [hlen]; exact hl) hm (by rw [hlen]; exact hS) (fun i hi => by
    rw [hlen] at hi
    have := (hg i hi).len
    simpa using this) (fun i j hi hj => by
    rw [hlen] at hi
    have h1 := hg i hi
    have h2 := h1.len
    simp only [List.length_map, List.length_range] at h2
    simp only [List.getElem_map, List.getElem_range] at hj ⊢
    have := h1.get j hj (by simp; omega)
    simpa using this)
  rw [hlen] at this
  exact this
instance : Inhabited Tm := ⟨Tm.zero⟩
instance : Inhabited Fm := ⟨Fm.zero⟩
section
variable {H : Type} {enc : TypeId × Value → H} {w : World} {base : Nat} {spare : Nat → Bool} {held : Bool}
end
end Go.Proofs.YtolhlpglgheldaaGreat
set_option maxRecDepth 100000
set_option linter.unusedSimpArgs false
set_option linter.unusedVariables false
namespace Go.Proofs.YtolhlpglgheldaaGreat
open Go.RowKit
theorem DRep.lt_ {own : Bool} {w : World} {S : Nat → Prop} {d : D} {v : Value} (h : DRep own w S d v) : DRep own w (fun b => S b ∧ b < w.heap.size) d v := by
  induction h with
  | int S n => exact .int _ n
  | bool S b => exact .bool _ b
  | str S s h => exact .str _ s h
  | arr S sz es a cap f Sub h1 h2 h3 h4 h5 h6 h7 ih =>
    refine .arr _ sz es a cap f (fun i j x => Sub i j x ∧ x < w.heap.size) h1 h2 ?_ h4 (fun i j x h => ⟨h5 i j x h.1, h.2⟩) (fun ho i j i' j' x h h' => h6 ho i j i' j' x h.1 h'.1) ih
    rcases h3 with h3 | ⟨b, off, ha, hS, hl, hc, ho⟩
    · exact .inl h3
    · exact .inr ⟨b, off, ha, ⟨hS, hl⟩, hl, hc, fun h => ⟨fun i j hx => (ho h).1 i j hx.1, (ho h).2⟩⟩
theorem Fun.yes {f : FuncId} {args : List SV} (h : Fun Tryz.prog f args [] (.bool true) []) {w : World} {vs : List Value} (hgl : GL w fun b => b < w.heap.size) (hvs : RepVs w (fun b => b < w.heap.size) (fun _ => none) args vs) : Calls Tryz.prog f vs.toArray w (Ret w (.bool true)) := by
  have nl : ∀ g, ¬ (geto [] g).live := fun g hg => by simp [geto, Ob.live] at hg
  refine (h w (fun b => b < w.heap.size) (fun _ => none) (fun _ _ => False) vs ⟨fun b hb => hb, fun g hg => absurd hg (nl g), fun g b hg => absurd hg (nl g), fun g b hg => absurd hg (nl g), fun g g' b hg => absurd hg (nl g), fun g _ => rfl, hgl⟩ hvs).mono ?_
  rintro e w' ⟨v, I', V', B', rfl, hr, hp⟩
  simp only [RepV] at hr
  subst hr
  exact ⟨rfl, hp.fr.os, hp.fr.tape, hp.fr.output, hp.fr.size, fun b hb => hp.fr.block b hb fun ⟨g, hg, _⟩ => absurd hg (nl g)⟩
theorem lvs_cons {w : World} {d : D} {ds : List D} {v : Value} {vs : List Value} (h : Lvs w (d :: ds) (v :: vs)) : DAt w d v ∧ Lvs w ds vs := by
  cases h with
  | cons h1 h2 => exact ⟨h1, h2⟩
theorem DAt.rep_sv {w : World} {d : D} {v : Value} (h : DAt w d v) : RepV w (fun b => b < w.heap.size) (fun _ => none) d.sv v :=
  D.rep_sv ((DRep.lt_ h).up fun b hb => hb.2)
theorem Lvs.reps {w : World} {ds : List D} {vs : List Value} (h : Lvs w ds vs) : RepVs w (fun b => b < w.heap.size) (fun _ => none) (ds.map D.sv) vs := by
  induction h with
  | nil => simp [RepVs]
  | cons h hs ih => simp only [List.map_cons, RepVs]; exact ⟨_, _, rfl, h.rep_sv, ih⟩
theorem Lvs.agg {w : World} {ds : List D} {vs : List Value} (h : Lvs w ds vs) : RepV w (fun b => b < w.heap.size) (fun _ => none) (.agg (ds.map D.sv)) (.agg vs.toArray) := by
  simp only [RepV]; exact ⟨vs, rfl, h.reps⟩
theorem Lvs.fits {w : World} {ds : List D} {vs : List Value} (h : Lvs w ds vs) : D.fits ds := by
  induction h with
  | nil => trivial
  | cons h hs ih => exact ⟨DRep.fit h, ih⟩
theorem DAt.fit {w : World} {d : D} {v : Value} (h : DAt w d v) : D.fit d := DRep.fit h
theorem args_nil {w : World} {I : Nat → Prop} {V : Nat → Option Value} : RepVs w I V [] [] := by simp [RepVs]
theorem args_more {w : World} {I : Nat → Prop} {V : Nat → Option Value} {x : SV} {xs : List SV} {v : Value} {vs : List Value} (h : RepV w I V x v) (hs : RepVs w I V xs vs) : RepVs w I V (x :: xs) (v :: vs) := by
  simp only [RepVs]; exact ⟨v, vs, rfl, h, hs⟩
instance : Inhabited Lt := ⟨Lt.zero⟩
instance : Inhabited Bd := ⟨Bd.zero⟩
instance : Inhabited Tl := ⟨Tl.zero⟩
section
variable {H : Type} {enc : TypeId × Value → H} {w : World} {base : Nat} {spare : Nat → Bool} {held : Bool}
theorem opnS_int {fuel : Nat} {v : Value} {x : DataW H × List MemPlace} (h : DataW.trod enc Tryz.prog w base spare held fuel 86 [v] = some x) : ∃ xs : List Int, DAt w (.arr (xs.map fun s => [D.int s])) v := by
  obtain ⟨a, len, cap, f, rfl, hl, hm, hS, hr⟩ := open_sl' (P := Tryz.prog) 1 (by kernel_rfl) (by omega) Tryz.underlying86 h
  exact open_arr (fun s => [D.int s]) hl hm hS fun i hi => by
    obtain ⟨n, x', hn, h1⟩ := hr i hi
    obtain ⟨z, q, _, _⟩ := DataW.trod_int Tryz.underlying3 h1
    rw [q]
    exact ⟨z, .cons (.int _ z) .nil⟩
theorem opn_Term_of {fuel : Nat} (ih : ∀ n, n < fuel → ∀ v x, DataW.trod enc Tryz.prog w base spare held n 90 [v] = some x → ∃ xs : List Tm, DAt w (.arr (xs.map Tm.d)) v) {cs : List Value} {x : DataW H × List MemPlace} (h : DataW.trod enc Tryz.prog w base spare held fuel 92 cs = some x) : ∃ X : Tm, Lvs w X.d cs := by
  obtain ⟨n, hn, hlen, hf⟩ := open_st' Tryz.underlying92 h
  rw [show Tryz.prog.cellsOf 92 = 2 by kernel_rfl] at hlen
  match cs, hlen with
  | [c0, c1], _ =>
    obtain ⟨y0, k0⟩ := hf 0 _ rfl
    have e0 : (([c0, c1].drop 0).take (Tryz.prog.cellsOf 9)) = [c0] := by rw [show Tryz.prog.cellsOf 9 = 1 by kernel_rfl]; rfl
    obtain ⟨z0, q0, _, s0⟩ := DataW.trod_string Tryz.underlying9 k0
    have q0' : c0 = .string z0 := by
      have : [c0] = [.string z0] := by rw [← e0]; exact q0
      simpa using this
    obtain ⟨y1, k1⟩ := hf 1 _ rfl
    have e1 : (([c0, c1].drop 1).take (Tryz.prog.cellsOf 90)) = [c1] := by rw [show Tryz.prog.cellsOf 90 = 1 by kernel_rfl]; rfl
    have k1' : DataW.trod enc Tryz.prog w base spare held n 90 [c1] = some y1 := by rw [← e1]; exact k1
    obtain ⟨z1, g1⟩ := ih n hn c1 y1 k1'
    subst q0'
    exact ⟨.mk z0 z1, by rw [Tm.d_eq]; exact (.cons (.str _ z0 s0) (.cons g1 .nil))⟩
theorem opnS_Term_all : ∀ (fuel : Nat) (v : Value) (x : DataW H × List MemPlace), DataW.trod enc Tryz.prog w base spare held fuel 90 [v] = some x → ∃ xs : List Tm, DAt w (.arr (xs.map Tm.d)) v := by
  intro fuel
  induction fuel using Nat.strongRecOn with
  | _ fuel ih =>
    intro v x h
    obtain ⟨a, len, cap, f, rfl, hl, hm, hS, hr⟩ := open_sl' (P := Tryz.prog) 2 (by kernel_rfl) (by omega) Tryz.underlying90 h
    exact open_arr Tm.d hl hm hS fun i hi => by
      obtain ⟨n, x', hn, h1⟩ := hr i hi
      exact opn_Term_of (fun n' hn' => ih n' (by omega)) h1
theorem opn_Term {fuel : Nat} {cs : List Value} {x : DataW H × List MemPlace} (h : DataW.trod enc Tryz.prog w base spare held fuel 92 cs = some x) : ∃ X : Tm, Lvs w X.d cs :=
  opn_Term_of (fun n _ => opnS_Term_all n) h
theorem opn_Literal {fuel : Nat} {cs : List Value} {x : DataW H × List MemPlace} (h : DataW.trod enc Tryz.prog w base spare held fuel 94 cs = some x) : ∃ X : Lt, Lvs w X.d cs := by
  obtain ⟨n, hn, hlen, hf⟩ := open_st' Tryz.underlying94 h
  rw [show Tryz.prog.cellsOf 94 = 3 by kernel_rfl] at hlen
  match cs, hlen with
  | [c0, c1, c2], _ =>
    obtain ⟨y0, k0⟩ := hf 0 _ rfl
    have e0 : (([c0, c1, c2].drop 0).take (Tryz.prog.cellsOf 4)) = [c0] := by rw [show Tryz.prog.cellsOf 4 = 1 by kernel_rfl]; rfl
    obtain ⟨z0, q0, _⟩ := DataW.trod_bool Tryz.underlying4 k0
    have q0' : c0 = .bool z0 := by
      have : [c0] = [.bool z0] := by rw [← e0]; exact q0
      simpa using this
    obtain ⟨y1, k1⟩ := hf 1 _ rfl
    have e1 : (([c0, c1, c2].drop 1).take (Tryz.prog.cellsOf 92)) = [c1, c2] := by rw [show Tryz.prog.cellsOf 92 = 2 by kernel_rfl]; rfl
    have k1' : DataW.trod enc Tryz.prog w base spare held n 92 [c1, c2] = some y1 := by rw [← e1]; exact k1
    obtain ⟨z1, g1⟩ := opn_Term k1'
    rw [Tm.d_eq] at g1
    obtain ⟨g1_0, g1⟩ := lvs_cons g1
    obtain ⟨g1_1, g1⟩ := lvs_cons g1
    subst q0'
    exact ⟨⟨z0, z1⟩, by rw [Lt.d_eq]; exact (.cons (.bool _ z0) (.cons g1_0 (.cons g1_1 .nil)))⟩
theorem opnS_Literal {fuel : Nat} {v : Value} {x : DataW H × List MemPlace} (h : DataW.trod enc Tryz.prog w base spare held fuel 25 [v] = some x) : ∃ xs : List Lt, DAt w (.arr (xs.map Lt.d)) v := by
  obtain ⟨a, len, cap, f, rfl, hl, hm, hS, hr⟩ := open_sl' (P := Tryz.prog) 3 (by kernel_rfl) (by omega) Tryz.underlying25 h
  exact open_arr Lt.d hl hm hS fun i hi => by
    obtain ⟨n, x', hn, h1⟩ := hr i hi
    exact opn_Literal h1
theorem opn_Clause {fuel : Nat} {cs : List Value} {x : DataW H × List MemPlace} (h : DataW.trod enc Tryz.prog w base spare held fuel 27 cs = some x) : ∃ X : Cl, Lvs w X.d cs := by
  obtain ⟨n, hn, hlen, hf⟩ := open_st' Tryz.underlying27 h
  rw [show Tryz.prog.cellsOf 27 = 1 by kernel_rfl] at hlen
  match cs, hlen with
  | [c0], _ =>
    obtain ⟨y0, k0⟩ := hf 0 _ rfl
    have e0 : (([c0].drop 0).take (Tryz.prog.cellsOf 25)) = [c0] := by rw [show Tryz.prog.cellsOf 25 = 1 by kernel_rfl]; rfl
    have k0' : DataW.trod enc Tryz.prog w base spare held n 25 [c0] = some y0 := by rw [← e0]; exact k0
    obtain ⟨z0, g0⟩ := opnS_Literal k0'
    exact ⟨⟨z0⟩, by rw [Cl.d_eq]; exact (.cons g0 .nil)⟩
theorem opn_Table {fuel : Nat} {cs : List Value} {x : DataW H × List MemPlace} (h : DataW.trod enc Tryz.prog w base spare held fuel 88 cs = some x) : ∃ X : Tl, Lvs w X.d cs := by
  obtain ⟨n, hn, hlen, hf⟩ := open_st' Tryz.underlying88 h
  rw [show Tryz.prog.cellsOf 88 = 4 by kernel_rfl] at hlen
  match cs, hlen with
  | [c0, c1, c2, c3], _ =>
    obtain ⟨y0, k0⟩ := hf 0 _ rfl
    have e0 : (([c0, c1, c2, c3].drop 0).take (Tryz.prog.cellsOf 9)) = [c0] := by rw [show Tryz.prog.cellsOf 9 = 1 by kernel_rfl]; rfl
    obtain ⟨z0, q0, _, s0⟩ := DataW.trod_string Tryz.underlying9 k0
    have q0' : c0 = .string z0 := by
      have : [c0] = [.string z0] := by rw [← e0]; exact q0
      simpa using this
    obtain ⟨y1, k1⟩ := hf 1 _ rfl
    have e1 : (([c0, c1, c2, c3].drop 1).take (Tryz.prog.cellsOf 3)) = [c1] := by rw [show Tryz.prog.cellsOf 3 = 1 by kernel_rfl]; rfl
    obtain ⟨z1, q1, _, _⟩ := DataW.trod_int Tryz.underlying3 k1
    have q1' : c1 = .int .i64 z1 := by
      have : [c1] = [.int .i64 z1] := by rw [← e1]; exact q1
      simpa using this
    obtain ⟨y2, k2⟩ := hf 2 _ rfl
    have e2 : (([c0, c1, c2, c3].drop 2).take (Tryz.prog.cellsOf 4)) = [c2] := by rw [show Tryz.prog.cellsOf 4 = 1 by kernel_rfl]; rfl
    obtain ⟨z2, q2, _⟩ := DataW.trod_bool Tryz.underlying4 k2
    have q2' : c2 = .bool z2 := by
      have : [c2] = [.bool z2] := by rw [← e2]; exact q2
      simpa using this
    obtain ⟨y3, k3⟩ := hf 3 _ rfl
    have e3 : (([c0, c1, c2, c3].drop 3).take (Tryz.prog.cellsOf 86)) = [c3] := by rw [show Tryz.prog.cellsOf 86 = 1 by kernel_rfl]; rfl
    have k3' : DataW.trod enc Tryz.prog w base spare held n 86 [c3] = some y3 := by rw [← e3]; exact k3
    obtain ⟨z3, g3⟩ := opnS_int k3'
    subst q0' q1' q2'
    exact ⟨⟨z0, z1, z2, z3⟩, by rw [Tl.d_eq]; exact (.cons (.str _ z0 s0) (.cons (.int _ z1) (.cons (.bool _ z2) (.cons g3 .nil))))⟩
theorem opnS_Table {fuel : Nat} {v : Value} {x : DataW H × List MemPlace} (h : DataW.trod enc Tryz.prog w base spare held fuel 22 [v] = some x) : ∃ xs : List Tl, DAt w (.arr (xs.map Tl.d)) v := by
  obtain ⟨a, len, cap, f, rfl, hl, hm, hS, hr⟩ := open_sl' (P := Tryz.prog) 4 (by kernel_rfl) (by omega) Tryz.underlying22 h
  exact open_arr Tl.d hl hm hS fun i hi => by
    obtain ⟨n, x', hn, h1⟩ := hr i hi
    exact opn_Table h1
theorem opn_Interpretation {fuel : Nat} {cs : List Value} {x : DataW H × List MemPlace} (h : DataW.trod enc Tryz.prog w base spare held fuel 24 cs = some x) : ∃ X : Ip, Lvs w X.d cs := by
  obtain ⟨n, hn, hlen, hf⟩ := open_st' Tryz.underlying24 h
  rw [show Tryz.prog.cellsOf 24 = 2 by kernel_rfl] at hlen
  match cs, hlen with
  | [c0, c1], _ =>
    obtain ⟨y0, k0⟩ := hf 0 _ rfl
    have e0 : (([c0, c1].drop 0).take (Tryz.prog.cellsOf 3)) = [c0] := by rw [show Tryz.prog.cellsOf 3 = 1 by kernel_rfl]; rfl
    obtain ⟨z0, q0, _, _⟩ := DataW.trod_int Tryz.underlying3 k0
    have q0' : c0 = .int .i64 z0 := by
      have : [c0] = [.int .i64 z0] := by rw [← e0]; exact q0
      simpa using this
    obtain ⟨y1, k1⟩ := hf 1 _ rfl
    have e1 : (([c0, c1].drop 1).take (Tryz.prog.cellsOf 22)) = [c1] := by rw [show Tryz.prog.cellsOf 22 = 1 by kernel_rfl]; rfl
    have k1' : DataW.trod enc Tryz.prog w base spare held n 22 [c1] = some y1 := by rw [← e1]; exact k1
    obtain ⟨z1, g1⟩ := opnS_Table k1'
    subst q0'
    exact ⟨⟨z0, z1⟩, by rw [Ip.d_eq]; exact (.cons (.int _ z0) (.cons g1 .nil))⟩
end
end Go.Proofs.YtolhlpglgheldaaGreat
