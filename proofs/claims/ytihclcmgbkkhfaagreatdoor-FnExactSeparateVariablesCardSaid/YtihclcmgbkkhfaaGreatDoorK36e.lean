/-
  This text holds, one behind the other: This text tells what the free variables of a formula answer in the reference. No condition.
  This text tells what giving quantifiers variables of their own answers in the reference. No condition.
  This text tells what giving quantifiers variables of their own answers in the program. No condition.
  This text tells what the program's check of a resulting formula answers. No condition.
  This text tells what giving quantifiers variables of their own answers in the program: the walk over formulas. No condition.
  This text tells what SeparateVariables answers in both packages. No condition.
  This text holds plain laws of formulas: how much they hold. No condition.
  This text tells what the laws' marks answer. No condition.
  This text tells what the laws read of the marks. No condition.
  This text tells what the laws' marks of a record answer. No condition.
  This text tells what the laws' measuring functions answer. No condition.
  This text tells what the laws' copying functions answer. No condition.
  This text tells what the laws' comparing functions answer. No condition.
  This text tells what the law of SeparateVariables answers. No condition.
  This text opens arguments: slices of integers, of structs, of tables: what is read as data lies in memory as our words say. No condition.
  This text opens arguments: what is read as data, terms and formulas, lies in memory as our words say. No condition.
  This text turns a function's answer into a walk of the kit's form, and opens arguments that are clauses. No condition.
-/
import Derived.Test.YtihclcmgbkkhfaaGreatDoorK36c
import Derived.Test.YtihclcmgbkkhfaaGreatDoorK36d
import Derived.ProofKit
import Derived.Deep.Slices
import Derived.Deep.Fields
import Derived.ChangeSame
import Derived.OpenShut
import Derived.ShutString
import Derived.ChangeOld
open Nat renaming reduceAdd → zA, reduceSub → zB, reduceLT → zC, reduceLeDiff → zD, reduceEqDiff → zE, reduceBEq → zF, reduceBneDiff → zG, reduceMul → zH
open Int renaming reduceToNat → zI, reduceNeg → zJ, reduceAdd → zK
set_option maxRecDepth 100000
set_option linter.unusedSimpArgs false
set_option linter.unusedVariables false
namespace Go.Proofs.YtihclcmgbkkhfaaGreatDoor
open Go.RowKit
def c_spec_l8Into : SC := (.seq (.reg [⟨some 4, none, .boxv 34 5 (.t 1)⟩, ⟨some 6, none, .mv (.c .nil)⟩]) (.seq (.seq (.reg [⟨some 10, none, .faddr 0 (.t 4)⟩, ⟨some 11, none, .load false 1 (.t 10)⟩, ⟨some 12, none, .bin .eql false (.t 11) (.c (.int .i64 3))⟩]) (.cond (.t 12) (.seq (.reg [⟨some 13, none, .faddr 1 (.t 4)⟩, ⟨some 14, none, .load true 2 (.t 13)⟩, ⟨some 15, none, .call 106 [(.t 14)]⟩, ⟨some 7, none, .mv (.t 15)⟩]) (.seq (.reg [⟨some 8, none, .mv (.c (.int .i64 0))⟩]) (.block 0 (.loop [1, 0, 1, 0, 1, 0, 0, 1, 1, 0, 0, 0, 0, 0, 0, 0, 0, 0, 0, 0, 0, 0, 0, 0, 0, 0, 0, 0, 0, 0, 0, 0, 0, 0, 0, 0, 0, 0, 0, 0, 0, 0, 0, 0, 0, 0, 0, 0, 0, 0, 0, 0, 0, 0, 0, 0, 0, 0, 0, 0, 0, 0, 0, 0, 0, 0] (.seq (.seq (.reg [⟨some 16, none, .mv (.t 8)⟩, ⟨some 17, none, .mv (.t 7)⟩, ⟨some 18, none, .len false (.t 17)⟩, ⟨some 19, none, .bin .lss false (.t 16) (.t 18)⟩]) (.cond (.t 19) .skip (.exit 0))) (.seq (.block 1 (.seq (.reg [⟨some 22, none, .mv (.t 2)⟩, ⟨some 23, none, .mv (.t 7)⟩, ⟨some 24, none, .mv (.t 8)⟩, ⟨some 25, none, .iaddr 1 (.t 23) (.t 24)⟩, ⟨some 26, none, .load false 1 (.t 25)⟩, ⟨some 27, none, .call 56 [(.t 22), (.t 26)]⟩, ⟨some 28, none, .un .not (.t 27)⟩]) (.cond (.t 28) (.reg [⟨some 29, none, .mv (.t 0)⟩, ⟨some 30, none, .mv (.t 7)⟩, ⟨some 31, none, .mv (.t 8)⟩, ⟨some 32, none, .iaddr 1 (.t 30) (.t 31)⟩, ⟨some 33, none, .load false 1 (.t 32)⟩, ⟨some 34, none, .call 107 [(.t 29), (.t 33)]⟩, ⟨some 0, none, .mv (.t 34)⟩]) .skip))) (.reg [⟨some 20, none, .mv (.t 8)⟩, ⟨some 21, none, .bin .add false (.t 20) (.c (.int .i64 1))⟩, ⟨some 8, none, .mv (.t 21)⟩]))))))) .skip)) (.seq (.seq (.reg [⟨some 35, none, .faddr 0 (.t 4)⟩, ⟨some 36, none, .load false 1 (.t 35)⟩, ⟨some 37, none, .bin .eql false (.t 36) (.c (.int .i64 8))⟩, ⟨some 38, none, .mv (.t 37)⟩, ⟨(some 39), (some (38, false)), (.faddr 0 (.t 4))⟩, ⟨(some 40), (some (38, false)), (.load false 1 (.t 39))⟩, ⟨(some 41), (some (38, false)), (.bin .eql false (.t 40) (.c (.int .i64 9)))⟩, ⟨some 42, none, .pick (.t 38) (.c (.bool true)) (.t 41)⟩]) (.cond (.t 42) (.dreg [[], [], [0, 1], [], [3], [4, 3], [2, 0, 1, 5, 4, 3], [6, 2, 0, 1, 5, 4, 3]] [⟨(some 43), none, (.mkrow 9 1 [(.str ⟨#[]⟩)] 0 [])⟩, ⟨some 44, none, .mv (.t 2)⟩, ⟨(some 45), none, (.append 9 1 16 [(.str ⟨#[]⟩)] (.t 43) (.t 44))⟩, ⟨some 46, none, .faddr 3 (.t 4)⟩, ⟨some 47, none, .load false 1 (.t 46)⟩, ⟨(some 48), none, (.mkrow 9 1 [(.str ⟨#[]⟩)] 1 [(0, (.t 47))])⟩, ⟨(some 49), none, (.append 9 1 16 [(.str ⟨#[]⟩)] (.t 45) (.t 48))⟩, ⟨some 2, none, .mv (.t 49)⟩]) .skip)) (.seq (.seq (.reg [⟨some 9, none, .mv (.c (.int .i64 0))⟩]) (.block 2 (.loop [1, 0, 1, 0, 1, 0, 0, 0, 0, 1, 0, 0, 0, 0, 0, 0, 0, 0, 0, 0, 0, 0, 0, 0, 0, 0, 0, 0, 0, 0, 0, 0, 0, 0, 0, 0, 0, 0, 0, 0, 0, 0, 0, 0, 0, 0, 0, 0, 0, 0, 0, 0, 0, 0, 0, 0, 0, 0, 0, 0, 0, 0, 0, 0, 0, 0] (.seq (.seq (.reg [⟨some 50, none, .mv (.t 9)⟩, ⟨some 51, none, .faddr 4 (.t 4)⟩, ⟨some 52, none, .load false 1 (.t 51)⟩, ⟨some 53, none, .len false (.t 52)⟩, ⟨some 54, none, .bin .lss false (.t 50) (.t 53)⟩]) (.cond (.t 54) .skip (.exit 2))) (.seq (.block 3 (.reg [⟨some 57, none, .mv (.t 0)⟩, ⟨some 58, none, .faddr 4 (.t 4)⟩, ⟨some 59, none, .load false 1 (.t 58)⟩, ⟨some 60, none, .mv (.t 9)⟩, ⟨some 61, none, .iaddr 5 (.t 59) (.t 60)⟩, ⟨some 62, none, .load true 5 (.t 61)⟩, ⟨some 63, none, .mv (.t 2)⟩, ⟨some 64, none, .call 79 [(.t 57), (.t 62), (.t 63)]⟩, ⟨some 0, none, .mv (.t 64)⟩])) (.reg [⟨some 55, none, .mv (.t 9)⟩, ⟨some 56, none, .bin .add false (.t 55) (.c (.int .i64 1))⟩, ⟨some 9, none, .mv (.t 56)⟩])))))) (.seq (.reg [⟨some 65, none, .mv (.t 0)⟩, ⟨some 6, none, .mv (.t 65)⟩]) .ret)))))
theorem k_spec_l8Into : codeOf Tryz.prog 79 = some ⟨66, c_spec_l8Into, [(.tmp 6)]⟩ := by kernel_rfl
theorem m_spec_l8Into : modes 79 = ⟨[], .asis, none, false⟩ := by unfold modes; rfl
def c_spec_l8Free : SC := (.seq (.reg [⟨some 1, none, .boxv 34 5 (.t 0)⟩, ⟨some 2, none, .mv (.c .nil)⟩]) (.seq (.reg [⟨(some 3), none, (.mkrow 9 1 [(.str ⟨#[]⟩)] 0 [])⟩, ⟨some 4, none, .load true 5 (.t 1)⟩, ⟨(some 5), none, (.mkrow 9 1 [(.str ⟨#[]⟩)] 0 [])⟩, ⟨some 6, none, .call 79 [(.t 3), (.t 4), (.t 5)]⟩, ⟨some 2, none, .mv (.t 6)⟩]) .ret))
theorem k_spec_l8Free : codeOf Tryz.prog 47 = some ⟨7, c_spec_l8Free, [(.tmp 2)]⟩ := by kernel_rfl
theorem m_spec_l8Free : modes 47 = ⟨[], .asis, none, false⟩ := by unfold modes; rfl
theorem insA_filter (b acc : List ByteArray) (n : ByteArray) (ns : List ByteArray) : insA acc ((n :: ns).filter fun m => !dec (m ∈ b)) = insA (bif dec (n ∈ b) then acc else insU acc n) (ns.filter fun m => !dec (m ∈ b)) := by
  rw [List.filter_cons]
  cases dec (n ∈ b) with
  | true => rfl
  | false => rfl
abbrev IntF (x : Fm) : Prop := ∀ l b : List ByteArray, l.length + x.vn ≤ 1048576 → b.length + x.nodes ≤ 1048576 → E 79 [.arr (l.map fun s => [D.str s]), x.sv, .arr (b.map fun s => [D.str s])] [] = some (.arr ((insA l (x.fv b)).map fun s => [D.str s]), [])
set_option maxHeartbeats 8000000 in
theorem l8Into_of (x : Fm) (hx : x.forms = true) (ih : ∀ y ∈ x.parts, IntF y) : IntF x := by
  intro l b hn hb
  have hfo := Fm.forms_form hx
  have hvn := Fm.vn_eq x
  have hnd := Fm.nodes_eq x
  have hpl := Fm.length_le x.parts
  have hfv := Fm.fv_eq x b
  have hat := Fm.atom_le hfo
  have hxs : x.sv = .agg [.int .i64 x.op, .str x.atom.name, .arr (x.atom.args.map Tm.d), .str x.var, .arr (x.parts.map Fm.d)] := rfl
  cases ho : dec (x.op = 3) with
  | true =>
    rw [ho] at hfv
    simp only [cond_true] at hfv
    have ho3 := dec_iff.1 ho
    have hp0 := (Fm.form_atom hfo ho3).1
    have o8 : dec (x.op = 8) = false := dec_f (by omega)
    have o9 : dec (x.op = 9) = false := dec_f (by omega)
    have hv := l2Vars_E x.atom (by omega)
    have hil := insA_len x.atom.vs []
    have hvl := Tm.vs_len x.atom
    simp only [List.length_nil] at hil
    obtain ⟨ns, hns⟩ : ∃ ns, ns = insA [] x.atom.vs := ⟨_, rfl⟩
    rw [← hns] at hv hfv hil
    rw [hfv]
    refine E_walk k_spec_l8Into m_spec_l8Into (of_decide_eq_true rfl) ?_
    simp (disch := omega) only [c_spec_l8Into, go_sem, go_cond, zA, zB, zC, zD, zE, zF, zG, zH, ↓reduceIte, zI, reduceCtorEq, zJ, zK, ho, hv, m_spec_l2Vars]
    refine go_loop (α := Int × (List ByteArray)) (fun a => ⟨slots 66 0 [(0, .arr ((a.2).map fun s => [D.str s])), (2, .arr (b.map fun s => [D.str s])), (4, .ptr 0 0), (7, .arr (ns.map fun s => [D.str s])), (8, .int .i64 (a.1))], [.box 34 [.int .i64 x.op, .str x.atom.name, .arr (x.atom.args.map Tm.d), .str x.var, .arr (x.parts.map Fm.d)]]⟩) (fun a => ∃ k : Nat, a.1 = k ∧ k ≤ (ns).length ∧ insA (a.2) ((ns.drop k).filter fun m => !dec (m ∈ b)) = insA l (ns.filter fun m => !dec (m ∈ b)) ∧ (a.2).length + (ns.length - k) ≤ 1048576) (fun a => (ns).length - (a.1).toNat) (0, l) ⟨0, rfl, Nat.zero_le _, by rw [List.drop_zero], by dsimp only; omega⟩ (by simp (disch := omega) only [go_sem, go_cond, zA, zB, zC, zD, zE, zF, zG, zH, ↓reduceIte, zI, reduceCtorEq, zJ, zK]) ?_
    rintro ⟨i, acc⟩ ⟨k, hi, hk, hR⟩
    dsimp only at hi hR
    have hni : i.toNat = k := by omega
    have hni1 : (i + 1).toNat = k + 1 := by omega
    rcases Nat.lt_or_ge k (ns).length with hlt | hge
    · have hg := get_at (fun s => [D.str s]) hlt
      obtain ⟨hR1, hR2⟩ := hR
      rw [List.drop_eq_getElem_cons hlt, insA_filter] at hR1
      have c1 := l2In_E b ns[k] (by omega)
      have c2 := l2Put_E acc ns[k] (by omega)
      have hul := insU_len acc ns[k]
      cases hq : dec (ns[k] ∈ b) with
      | true =>
        rw [hq] at c1 hR1
        simp only [cond_true] at hR1
        simp (disch := omega) only [go_sem, go_cond, zA, zB, zC, zD, zE, zF, zG, zH, ↓reduceIte, zI, reduceCtorEq, zJ, zK, hni, hg, c1, c2, m_spec_l2In, m_spec_l2Put]
        exact ⟨(i + 1, acc), ⟨k + 1, by dsimp only; omega, hlt, hR1, by dsimp only; omega⟩, by dsimp only; omega, by first | trivial | rfl⟩
      | false =>
        rw [hq] at c1 hR1
        simp only [cond_false] at hR1
        simp (disch := omega) only [go_sem, go_cond, zA, zB, zC, zD, zE, zF, zG, zH, ↓reduceIte, zI, reduceCtorEq, zJ, zK, hni, hg, c1, c2, m_spec_l2In, m_spec_l2Put]
        exact ⟨(i + 1, insU acc ns[k]), ⟨k + 1, by dsimp only; omega, hlt, hR1, by dsimp only; omega⟩, by dsimp only; omega, by first | trivial | rfl⟩
    · rw [List.drop_eq_nil_of_le hge] at hR
      obtain ⟨hR1, hR2⟩ := hR
      have hR1 : acc = _ := hR1
      rw [← hR1]
      simp (disch := omega) only [go_sem, go_cond, zA, zB, zC, zD, zE, zF, zG, zH, ↓reduceIte, zI, reduceCtorEq, zJ, zK, hni, o8, o9]
      refine go_loop (α := Int) (fun a => ⟨slots 66 0 [(0, .arr (acc.map fun s => [D.str s])), (2, .arr (b.map fun s => [D.str s])), (4, .ptr 0 0), (9, .int .i64 a)], [.box 34 [.int .i64 x.op, .str x.atom.name, .arr (x.atom.args.map Tm.d), .str x.var, .arr (x.parts.map Fm.d)]]⟩) (fun a => ∃ k : Nat, a = k ∧ k ≤ (x.parts).length) (fun a => (x.parts).length - (a).toNat) 0 ⟨0, rfl, Nat.zero_le _⟩ (by simp (disch := omega) only [go_sem, go_cond, zA, zB, zC, zD, zE, zF, zG, zH, ↓reduceIte, zI, reduceCtorEq, zJ, zK]) ?_
      rintro i ⟨k, hi, hk⟩
      have hni : i.toNat = k := by omega
      have hni1 : (i + 1).toNat = k + 1 := by omega
      rcases Nat.lt_or_ge k (x.parts).length with hlt | hge
      · rw [hp0] at hlt
        simp at hlt
      · simp (disch := omega) only [go_sem, go_cond, zA, zB, zC, zD, zE, zF, zG, zH, ↓reduceIte, zI, reduceCtorEq, zJ, zK, hni]
  | false =>
    rw [ho] at hfv
    simp only [cond_false] at hfv
    cases o8 : dec (x.op = 8) <;> cases o9 : dec (x.op = 9)
    all_goals
      have hq : qB x.op = (dec (x.op = 8) || dec (x.op = 9)) := rfl
      rw [o8, o9] at hq
      simp only [Bool.or_self, Bool.or_true, Bool.or_false, Bool.true_or, Bool.false_or] at hq
      rw [hq] at hfv
      simp only [cond_true, cond_false] at hfv
      rw [hfv]
    · obtain ⟨b', hb'⟩ : ∃ b', b' = b := ⟨_, rfl⟩
      have hbl : b'.length ≤ b.length + 1 := by rw [hb']; omega
      rw [← hb']
      refine E_walk k_spec_l8Into m_spec_l8Into (of_decide_eq_true rfl) ?_
      simp (disch := omega) only [c_spec_l8Into, go_sem, go_cond, zA, zB, zC, zD, zE, zF, zG, zH, ↓reduceIte, zI, reduceCtorEq, zJ, zK, ho, o8, o9]
      refine go_loop (α := Int × (List ByteArray)) (fun a => ⟨slots 66 0 [(0, .arr ((a.2).map fun s => [D.str s])), (2, .arr (b'.map fun s => [D.str s])), (4, .ptr 0 0), (9, .int .i64 (a.1))], [.box 34 [.int .i64 x.op, .str x.atom.name, .arr (x.atom.args.map Tm.d), .str x.var, .arr (x.parts.map Fm.d)]]⟩) (fun a => ∃ k : Nat, a.1 = k ∧ k ≤ (x.parts).length ∧ insA (a.2) (Fm.fvL (x.parts.drop k) b') = insA l (Fm.fvL x.parts b') ∧ (a.2).length + Fm.vnS (x.parts.drop k) ≤ 1048576) (fun a => (x.parts).length - (a.1).toNat) (0, l) ⟨0, rfl, Nat.zero_le _, by rw [List.drop_zero], by rw [List.drop_zero]; dsimp only; omega⟩ (by simp (disch := omega) only [go_sem, go_cond, zA, zB, zC, zD, zE, zF, zG, zH, ↓reduceIte, zI, reduceCtorEq, zJ, zK]) ?_
      rintro ⟨i, acc⟩ ⟨k, hi, hk, hR⟩
      dsimp only at hi hR
      have hni : i.toNat = k := by omega
      have hni1 : (i + 1).toNat = k + 1 := by omega
      rcases Nat.lt_or_ge k (x.parts).length with hlt | hge
      · have hg := get_at Fm.d hlt
        rw [Fm.d_eq] at hg
        obtain ⟨hR1, hR2⟩ := hR
        rw [List.drop_eq_getElem_cons hlt, Fm.fvL, insA_app] at hR1
        rw [List.drop_eq_getElem_cons hlt, Fm.vnS] at hR2
        have hnm := Fm.nodes_le x.parts k hlt
        have hc := ih x.parts[k] (List.getElem_mem hlt) acc b' (by omega) (by omega)
        have hlen := insA_len (x.parts[k].fv b') acc
        have hvl := Fm.fv_len x.parts[k] b'
        simp (disch := omega) only [go_sem, go_cond, zA, zB, zC, zD, zE, zF, zG, zH, ↓reduceIte, zI, reduceCtorEq, zJ, zK, hni, hg, hc, m_spec_l8Into]
        exact ⟨(i + 1, insA acc (x.parts[k].fv b')), ⟨k + 1, by dsimp only; omega, hlt, hR1, by dsimp only; omega⟩, by dsimp only; omega, by first | trivial | rfl⟩
      · rw [List.drop_eq_nil_of_le hge, Fm.fvL] at hR
        obtain ⟨hR1, hR2⟩ := hR
        have hR1 : acc = _ := hR1
        rw [← hR1]
        simp (disch := omega) only [go_sem, go_cond, zA, zB, zC, zD, zE, zF, zG, zH, ↓reduceIte, zI, reduceCtorEq, zJ, zK, hni]
    all_goals
      have hbm : ((b.map fun s => [D.str s]).map fun x => x.map D.ot) = b.map fun s => [OT.str s] := by rw [List.map_map]; rfl
      have hal := al_dstrs b
      have hal2 := al_strs b
      have hl1 : (b.map fun s => [OT.str s]) ++ [[OT.str x.var]] = (b ++ [x.var]).map fun s => [OT.str s] := by simp
      obtain ⟨b', hb'⟩ : ∃ b', b' = b ++ [x.var] := ⟨_, rfl⟩
      have hbl : b'.length ≤ b.length + 1 := by rw [hb']; simp
      rw [← hb'] at hl1
      rw [← hb']
      have hp1 : x.parts.length = 1 := by
        obtain ⟨_, p, hp⟩ := Fm.form_quant hfo hq
        rw [hp]; rfl
      have h10 : ((1 : Int) = 0) = False := by simp
      refine E_walk k_spec_l8Into m_spec_l8Into (of_decide_eq_true rfl) ?_
      simp (disch := omega) only [c_spec_l8Into, go_sem, go_cond, zA, zB, zC, zD, zE, zF, zG, zH, ↓reduceIte, zI, reduceCtorEq, zJ, zK, ho, o8, o9, hbm, hal, hal2, hl1, List.nil_append]
      refine go_loop (α := Int × (List ByteArray)) (fun a => ⟨slots 66 0 [(0, .arr ((a.2).map fun s => [D.str s])), (2, (if (a.1) = 0 then .ref 0 else .any)), (4, (if (a.1) = 0 then .ptr 1 0 else .ptr 0 0)), (9, .int .i64 (a.1))], (if (a.1) = 0 then [.row 9 1 (b'.map fun s => [OT.str s]), .box 34 [.int .i64 x.op, .str x.atom.name, .arr (x.atom.args.map Tm.d), .str x.var, .arr (x.parts.map Fm.d)]] else [.box 34 [.int .i64 x.op, .str x.atom.name, .arr (x.atom.args.map Tm.d), .str x.var, .arr (x.parts.map Fm.d)]])⟩) (fun a => ∃ k : Nat, a.1 = k ∧ k ≤ (x.parts).length ∧ insA (a.2) (Fm.fvL (x.parts.drop k) b') = insA l (Fm.fvL x.parts b') ∧ (a.2).length + Fm.vnS (x.parts.drop k) ≤ 1048576) (fun a => (x.parts).length - (a.1).toNat) (0, l) ⟨0, rfl, Nat.zero_le _, by rw [List.drop_zero], by rw [List.drop_zero]; dsimp only; omega⟩ (by simp (disch := omega) only [go_sem, go_cond, zA, zB, zC, zD, zE, zF, zG, zH, ↓reduceIte, zI, reduceCtorEq, zJ, zK, eq_self, if_true]) ?_
      rintro ⟨i, acc⟩ ⟨k, hi, hk, hR⟩
      dsimp only at hi hR
      have hni : i.toNat = k := by omega
      have hni1 : (i + 1).toNat = k + 1 := by omega
      rcases Nat.lt_or_ge k (x.parts).length with hlt | hge
      · have hg := get_at Fm.d hlt
        rw [Fm.d_eq] at hg
        obtain rfl : k = 0 := by omega
        obtain rfl : i = 0 := by omega
        obtain ⟨hR1, hR2⟩ := hR
        rw [List.drop_eq_getElem_cons hlt, Fm.fvL, insA_app] at hR1
        rw [List.drop_eq_getElem_cons hlt, Fm.vnS] at hR2
        rw [Nat.zero_add] at hR1 hR2
        have hnm := Fm.nodes_le x.parts 0 hlt
        have hc := ih x.parts[0] (List.getElem_mem hlt) acc b' (by omega) (by omega)
        have hlen := insA_len (x.parts[0].fv b') acc
        have hvl := Fm.fv_len x.parts[0] b'
        simp (disch := omega) only [go_sem, go_cond, zA, zB, zC, zD, zE, zF, zG, zH, ↓reduceIte, zI, reduceCtorEq, zJ, zK, hni, hg, hc, m_spec_l8Into, eq_self, if_true]
        refine ⟨(1, insA acc (x.parts[0].fv b')), ⟨1, rfl, hlt, hR1, by dsimp only; omega⟩, by dsimp only; omega, ?_⟩
        simp (disch := omega) only [go_sem, go_cond, zA, zB, zC, zD, zE, zF, zG, zH, ↓reduceIte, zI, reduceCtorEq, zJ, zK, h10, if_false]
      · rw [List.drop_eq_nil_of_le hge, Fm.fvL] at hR
        obtain ⟨hR1, hR2⟩ := hR
        have hR1 : acc = _ := hR1
        rw [← hR1]
        have hi0 : (i = 0) = False := by simp; omega
        simp (disch := omega) only [go_sem, go_cond, zA, zB, zC, zD, zE, zF, zG, zH, ↓reduceIte, zI, reduceCtorEq, zJ, zK, hni, hi0, if_false]
theorem l8Into_E (x : Fm) (hx : x.forms = true) : IntF x :=
  l8Into_of x hx fun y hy => l8Into_E y (Fm.forms_part hx hy)
termination_by SizeOf.sizeOf x
decreasing_by exact Fm.lt_of_mem hy
theorem l8Free_E (x : Fm) (hx : x.forms = true) (hv : x.vn ≤ 1048576) (hn : x.nodes ≤ 1048576) : E 47 [x.sv] [] = some (.arr (x.free.map fun s => [D.str s]), []) := by
  have h1 := l8Into_E x hx [] [] (by simpa using hv) (by simpa using hn)
  rw [List.map_nil] at h1
  unfold Fm.free
  have hxs : x.sv = .agg [.int .i64 x.op, .str x.atom.name, .arr (x.atom.args.map Tm.d), .str x.var, .arr (x.parts.map Fm.d)] := rfl
  refine E_walk k_spec_l8Free m_spec_l8Free (of_decide_eq_true rfl) ?_
  simp (disch := omega) only [c_spec_l8Free, go_sem, go_cond, zA, zB, zC, zD, zE, zF, zG, zH, ↓reduceIte, zI, reduceCtorEq, zJ, zK, h1, m_spec_l8Into]
def c_spec_l9Namer_next : SC := (.seq (.reg [⟨(some 2), none, (.mv (.c (.str ⟨#[]⟩)))⟩]) (.block 0 (.loop [1, 0, 0, 0, 0, 0, 0, 0, 0, 0, 0, 0, 0, 0, 0, 0, 0, 0, 0, 0, 0, 0, 0, 0, 0, 0, 0, 0, 0] (.block 1 (.seq (.reg [⟨some 4, none, .mv (.t 0)⟩, ⟨some 5, none, .nilchk (.t 4)⟩, ⟨some 6, none, .faddr 1 (.t 5)⟩, ⟨some 7, none, .load false 1 (.t 6)⟩, ⟨some 8, none, .bin .add false (.t 7) (.c (.int .i64 1))⟩, ⟨some 9, none, .nilchk (.t 4)⟩, ⟨some 10, none, .faddr 1 (.t 9)⟩, ⟨none, none, (.store 1 (.t 10) (.t 8))⟩]) (.seq (.dreg [[], [0], [1, 0], [2, 1, 0], [], [4], [5, 4], [6, 5, 4], [7, 6, 5, 4], [3, 2, 1, 0, 8, 7, 6, 5, 4], [9, 3, 2, 1, 0, 8, 7, 6, 5, 4]] [⟨some 11, none, .mv (.t 0)⟩, ⟨some 12, none, .nilchk (.t 11)⟩, ⟨some 13, none, .faddr 0 (.t 12)⟩, ⟨some 14, none, .load false 1 (.t 13)⟩, ⟨some 15, none, .mv (.t 0)⟩, ⟨some 16, none, .nilchk (.t 15)⟩, ⟨some 17, none, .faddr 1 (.t 16)⟩, ⟨some 18, none, .load false 1 (.t 17)⟩, ⟨some 19, none, .call 105 [(.t 18)]⟩, ⟨some 20, none, .bin .add false (.t 14) (.t 19)⟩, ⟨some 3, none, .mv (.t 20)⟩]) (.seq (.reg [⟨some 21, none, .mv (.t 0)⟩, ⟨some 22, none, .nilchk (.t 21)⟩, ⟨some 23, none, .faddr 2 (.t 22)⟩, ⟨some 24, none, .load false 1 (.t 23)⟩, ⟨some 25, none, .mv (.t 3)⟩, ⟨some 26, none, .call 56 [(.t 24), (.t 25)]⟩, ⟨some 27, none, .un .not (.t 26)⟩]) (.cond (.t 27) (.seq (.reg [⟨some 28, none, .mv (.t 3)⟩, ⟨some 2, none, .mv (.t 28)⟩]) .ret) .skip))))))))
theorem k_spec_l9Namer_next : codeOf Tryz.prog 78 = some ⟨29, c_spec_l9Namer_next, [(.tmp 2)]⟩ := by kernel_rfl
theorem m_spec_l9Namer_next : modes 78 = ⟨[], .asis, none, false⟩ := by unfold modes; rfl
def c_spec_l9Separate : SC := (.seq (.reg [⟨some 4, none, .boxv 34 5 (.t 0)⟩, ⟨(some 8), none, (.alloc 34 [(.int .i64 0), (.str ⟨#[]⟩), .nil, (.str ⟨#[]⟩), .nil])⟩]) (.seq (.reg [⟨some 11, none, .faddr 0 (.t 4)⟩, ⟨some 12, none, .load false 1 (.t 11)⟩, ⟨(some 13), none, (.build [(.int .i64 0), (.str ⟨#[]⟩), .nil, (.str ⟨#[]⟩), .nil] [(0, (1, (.t 12)))])⟩, ⟨(some 9), none, (.alloc 34 [(.int .i64 0), (.str ⟨#[]⟩), .nil, (.str ⟨#[]⟩), .nil])⟩, ⟨none, none, (.store 5 (.t 9) (.t 13))⟩]) (.seq (.seq (.reg [⟨some 14, none, .faddr 0 (.t 4)⟩, ⟨some 15, none, .load false 1 (.t 14)⟩, ⟨some 16, none, .bin .eql false (.t 15) (.c (.int .i64 3))⟩]) (.cond (.t 16) (.reg [⟨some 17, none, .faddr 1 (.t 4)⟩, ⟨some 18, none, .load true 2 (.t 17)⟩, ⟨some 19, none, .mv (.t 2)⟩, ⟨some 20, none, .mv (.t 3)⟩, ⟨some 21, none, .call 77 [(.t 18), (.t 19), (.t 20)]⟩, ⟨some 22, none, .faddr 1 (.t 9)⟩, ⟨none, none, (.store 2 (.t 22) (.t 21))⟩]) .skip)) (.seq (.seq (.reg [⟨some 23, none, .faddr 0 (.t 4)⟩, ⟨some 24, none, .load false 1 (.t 23)⟩, ⟨some 25, none, .bin .eql false (.t 24) (.c (.int .i64 8))⟩, ⟨some 26, none, .mv (.t 25)⟩, ⟨(some 27), (some (26, false)), (.faddr 0 (.t 4))⟩, ⟨(some 28), (some (26, false)), (.load false 1 (.t 27))⟩, ⟨(some 29), (some (26, false)), (.bin .eql false (.t 28) (.c (.int .i64 9)))⟩, ⟨some 30, none, .pick (.t 26) (.c (.bool true)) (.t 29)⟩]) (.cond (.t 30) (.seq (.reg [⟨some 31, none, .mv (.t 1)⟩, ⟨some 32, none, .call 78 [(.t 31)]⟩, ⟨some 33, none, .faddr 3 (.t 9)⟩, ⟨none, none, (.store 1 (.t 33) (.t 32))⟩]) (.seq (.dreg [[], [], [0, 1], [], [3], [4, 3], [2, 0, 1, 5, 4, 3], [6, 2, 0, 1, 5, 4, 3]] [⟨(some 34), none, (.mkrow 9 1 [(.str ⟨#[]⟩)] 0 [])⟩, ⟨some 35, none, .mv (.t 2)⟩, ⟨(some 36), none, (.append 9 1 16 [(.str ⟨#[]⟩)] (.t 34) (.t 35))⟩, ⟨some 37, none, .faddr 3 (.t 4)⟩, ⟨some 38, none, .load false 1 (.t 37)⟩, ⟨(some 39), none, (.mkrow 9 1 [(.str ⟨#[]⟩)] 1 [(0, (.t 38))])⟩, ⟨(some 40), none, (.append 9 1 16 [(.str ⟨#[]⟩)] (.t 36) (.t 39))⟩, ⟨some 2, none, .mv (.t 40)⟩]) (.dreg [[], [], [0, 1], [], [3], [4, 3], [2, 0, 1, 5, 4, 3], [6, 2, 0, 1, 5, 4, 3]] [⟨(some 41), none, (.mkrow 9 1 [(.str ⟨#[]⟩)] 0 [])⟩, ⟨some 42, none, .mv (.t 3)⟩, ⟨(some 43), none, (.append 9 1 16 [(.str ⟨#[]⟩)] (.t 41) (.t 42))⟩, ⟨some 44, none, .faddr 3 (.t 9)⟩, ⟨some 45, none, .load false 1 (.t 44)⟩, ⟨(some 46), none, (.mkrow 9 1 [(.str ⟨#[]⟩)] 1 [(0, (.t 45))])⟩, ⟨(some 47), none, (.append 9 1 16 [(.str ⟨#[]⟩)] (.t 43) (.t 46))⟩, ⟨some 3, none, .mv (.t 47)⟩]))) .skip)) (.seq (.seq (.reg [⟨some 10, none, .mv (.c (.int .i64 0))⟩]) (.block 0 (.loop [0, 1, 1, 1, 1, 0, 0, 0, 1, 1, 1, 0, 0, 0, 0, 0, 0, 0, 0, 0, 0, 0, 0, 0, 0, 0, 0, 0, 0, 0, 0, 0, 0, 0, 0, 0, 0, 0, 0, 0, 0, 0, 0, 0, 0, 0, 0, 0, 0, 0, 0, 0, 0, 0, 0, 0, 0, 0, 0, 0, 0, 0, 0, 0, 0, 0, 0, 0, 0, 0] (.seq (.seq (.reg [⟨some 48, none, .mv (.t 10)⟩, ⟨some 49, none, .faddr 4 (.t 4)⟩, ⟨some 50, none, .load false 1 (.t 49)⟩, ⟨some 51, none, .len false (.t 50)⟩, ⟨some 52, none, .bin .lss false (.t 48) (.t 51)⟩]) (.cond (.t 52) .skip (.exit 0))) (.seq (.block 1 (.dreg [[], [0], [], [2], [], [3, 2, 4], [5, 3, 2, 4], [], [], [], [6, 5, 3, 2, 4, 7, 8, 9], [10, 6, 5, 3, 2, 4, 7, 8, 9], [1, 0, 11, 10, 6, 5, 3, 2, 4, 7, 8, 9], [0, 1, 2, 3, 4, 5, 6, 7, 8, 9, 10, 11, 12], [13, 0, 1, 2, 3, 4, 5, 6, 7, 8, 9, 10, 11, 12]] [⟨some 55, none, .faddr 4 (.t 9)⟩, ⟨some 56, none, .load false 1 (.t 55)⟩, ⟨some 57, none, .faddr 4 (.t 4)⟩, ⟨some 58, none, .load false 1 (.t 57)⟩, ⟨some 59, none, .mv (.t 10)⟩, ⟨some 60, none, .iaddr 5 (.t 58) (.t 59)⟩, ⟨some 61, none, .load true 5 (.t 60)⟩, ⟨some 62, none, .mv (.t 1)⟩, ⟨some 63, none, .mv (.t 2)⟩, ⟨some 64, none, .mv (.t 3)⟩, ⟨some 65, none, .call 46 [(.t 61), (.t 62), (.t 63), (.t 64)]⟩, ⟨(some 66), none, (.mkrow 34 5 [(.int .i64 0), (.str ⟨#[]⟩), .nil, (.str ⟨#[]⟩), .nil] 1 [(0, (.t 65))])⟩, ⟨(some 67), none, (.append 34 5 88 [(.int .i64 0), (.str ⟨#[]⟩), .nil, (.str ⟨#[]⟩), .nil] (.t 56) (.t 66))⟩, ⟨some 68, none, .faddr 4 (.t 9)⟩, ⟨none, none, (.store 1 (.t 68) (.t 67))⟩])) (.reg [⟨some 53, none, .mv (.t 10)⟩, ⟨some 54, none, .bin .add false (.t 53) (.c (.int .i64 1))⟩, ⟨some 10, none, .mv (.t 54)⟩])))))) (.seq (.reg [⟨some 69, none, .load true 5 (.t 9)⟩, ⟨none, none, (.store 5 (.t 8) (.t 69))⟩]) .ret))))))
theorem k_spec_l9Separate : codeOf Tryz.prog 46 = some ⟨70, c_spec_l9Separate, [(.cell 8 true 5)]⟩ := by kernel_rfl
theorem m_spec_l9Separate : modes 46 = ⟨[], .frz, none, false⟩ := by unfold modes; rfl
set_option maxHeartbeats 4000000 in
theorem next_E (p : ByteArray) (hp : p.size ≤ 1000) (tk : List ByteArray) (c : Int) (h0 : 0 ≤ c) (hc : c + tk.length ≤ 1099511600000) : E 78 [.ptr 0 0] [.box 73 [.str p, .int .i64 c, .arr (tk.map fun s => [D.str s])]] = some (.str (pre p (fresh p tk c)), [.box 73 [.str p, .int .i64 (fresh p tk c), .arr (tk.map fun s => [D.str s])]]) := by
  have hfr := fresh_range p tk c
  refine E_walk k_spec_l9Namer_next m_spec_l9Namer_next (of_decide_eq_true rfl) ?_
  simp (disch := omega) only [c_spec_l9Namer_next, go_sem, go_cond, zA, zB, zC, zD, zE, zF, zG, zH, ↓reduceIte, zI, reduceCtorEq, zJ, zK]
  refine go_loop (α := Int) (fun a => ⟨slots 29 0 [(0, .ptr 0 0)], [.box 73 [.str p, .int .i64 a, .arr (tk.map fun s => [D.str s])]]⟩) (fun a => c ≤ a ∧ fresh p tk a = fresh p tk c) (fun a => beyond p tk a) c ⟨Int.le_refl _, rfl⟩ (by simp (disch := omega) only [go_sem, go_cond, zA, zB, zC, zD, zE, zF, zG, zH, ↓reduceIte, zI, reduceCtorEq, zJ, zK]) ?_
  rintro a ⟨ha, hR⟩
  have hfa := fresh_range p tk a
  rw [hR] at hfa
  have hit := l1Num_E (a + 1) (by omega) (by omega)
  have hns := numB_size (show 0 ≤ a + 1 by omega) (by omega : a + 1 ≤ 1099511627776)
  have hpre : p ++ numB (a + 1) = pre p (a + 1) := rfl
  have hcn := l2In_E tk (pre p (a + 1)) (by omega)
  by_cases hm : pre p (a + 1) ∈ tk
  · rw [dec_t hm] at hcn
    simp (disch := omega) only [go_sem, go_cond, zA, zB, zC, zD, zE, zF, zG, zH, ↓reduceIte, zI, reduceCtorEq, zJ, zK, hit, hpre, hcn, m_spec_l1Num, m_spec_l2In]
    exact ⟨a + 1, ⟨by omega, by rw [← fresh_hit (by omega) hm]; exact hR⟩, beyond_lt (by omega) hm, by first | trivial | rfl | exact ⟨rfl, rfl⟩⟩
  · rw [dec_f hm] at hcn
    have hnew := fresh_new hm
    rw [hR] at hnew
    rw [hnew]
    simp (disch := omega) only [go_sem, go_cond, zA, zB, zC, zD, zE, zF, zG, zH, ↓reduceIte, zI, reduceCtorEq, zJ, zK, hit, hpre, hcn, m_spec_l1Num, m_spec_l2In]
theorem Fm.sv_mk (op : Int) (a : Tm) (v : ByteArray) (ps : List Fm) : (Fm.mk op a v ps).sv = .agg [.int .i64 op, .str a.name, .arr (a.args.map Tm.d), .str v, .arr (ps.map Fm.d)] := rfl
abbrev SpsC (tk : List ByteArray) (x : Fm) : Prop := ∀ (from_ to_ : List ByteArray), from_.length = to_.length → from_.length + x.nodes ≤ 1048576 → OnV (envL from_ to_) → ∀ c : Int, 0 ≤ c → c + x.nodes * (tk.length + 2 : Nat) ≤ 1099511000000 → E 46 [x.sv, .ptr 0 0, .arr (from_.map fun s => [D.str s]), .arr (to_.map fun s => [D.str s])] [.box 73 [.str preV, .int .i64 c, .arr (tk.map fun s => [D.str s])]] = some ((x.sep tk (envL from_ to_) c).1.sv, [.box 73 [.str preV, .int .i64 (x.sep tk (envL from_ to_) c).2, .arr (tk.map fun s => [D.str s])]])
set_option maxHeartbeats 16000000 in
theorem l9Separate_of (tk : List ByteArray) (x : Fm) (hx : x.forms = true) (ih : ∀ y ∈ x.parts, SpsC tk y) : SpsC tk x := by
  intro from_ to_ hlen hfl hon c0 h0 hc0
  have hfo := Fm.forms_form hx
  have hpl := Fm.length_le x.parts
  have hnq := Fm.nodes_eq x
  have h10 : ((1 : Int) = 0) = False := by simp
  have hxs : x.sv = .agg [.int .i64 x.op, .str x.atom.name, .arr (x.atom.args.map Tm.d), .str x.var, .arr (x.parts.map Fm.d)] := rfl
  have has : x.atom.sv = .agg [.str x.atom.name, .arr (x.atom.args.map Tm.d)] := rfl
  have hse := Fm.sep_eq tk x (envL from_ to_) c0
  rw [hnq, Int.natCast_add, Int.add_mul] at hc0
  have hge1 : ((1 : Nat) : Int) * (tk.length + 2 : Nat) = tk.length + 2 := by simp
  rw [hge1] at hc0
  have hgeS : (0 : Int) ≤ (Fm.nodeS x.parts : Int) * (tk.length + 2 : Nat) := Int.mul_nonneg (by omega) (by omega)
  cases ho : dec (x.op = 3) with
  | true =>
    have h3 := dec_iff.1 ho
    have o8 : dec (x.op = 8) = false := dec_f (by omega)
    have o9 : dec (x.op = 9) = false := dec_f (by omega)
    rw [ho, cond_true] at hse
    rw [hse]
    have hp0 := (Fm.form_atom hfo h3).1
    have hlen0 : (x.parts.length : Int) = 0 := by rw [hp0]; rfl
    have ht := l9TermA_E from_ to_ hlen (by omega) hon x.atom (Fm.form_atom hfo h3).2.1
    unfold RsC at ht
    obtain ⟨z, hz⟩ : ∃ z, z = x.atom.rn (envL from_ to_) := ⟨_, rfl⟩
    rw [← hz] at ht ⊢
    have hzs : z.sv = .agg [.str z.name, .arr (z.args.map Tm.d)] := rfl
    have hr1 : (Fm.mk 3 z ⟨#[]⟩ []).sv = .agg [.int .i64 3, .str z.name, .arr (z.args.map Tm.d), .str ⟨#[]⟩, .arr []] := rfl
    dsimp only
    rw [hr1, ← h3]
    refine E_walk k_spec_l9Separate m_spec_l9Separate (of_decide_eq_true rfl) ?_
    simp (disch := omega) only [c_spec_l9Separate, go_sem, go_cond, zA, zB, zC, zD, zE, zF, zG, zH, ↓reduceIte, zI, reduceCtorEq, zJ, zK, ho, o8, o9, ht, m_spec_l9Term]
    refine go_loop (α := Int) (fun a => ⟨slots 70 0 [(1, .ptr 0 0), (2, .arr (from_.map fun s => [D.str s])), (3, .arr (to_.map fun s => [D.str s])), (4, .ptr 1 0), (8, .ptr 2 0), (9, .ptr 3 0), (10, .int .i64 a)], [.box 73 [.str preV, .int .i64 c0, .arr (tk.map fun s => [D.str s])], .box 34 [.int .i64 x.op, .str x.atom.name, .arr (x.atom.args.map Tm.d), .str x.var, .arr (x.parts.map Fm.d)], .box 34 [.int .i64 0, .str ⟨#[]⟩, .nil, .str ⟨#[]⟩, .nil], .box 34 [.int .i64 x.op, .str z.name, .arr (z.args.map Tm.d), .str ⟨#[]⟩, .nil]]⟩) (fun a => ∃ k : Nat, a = k ∧ k ≤ (x.parts).length) (fun a => (x.parts).length - (a).toNat) 0 ⟨0, rfl, Nat.zero_le _⟩ (by simp (disch := omega) only [go_sem, go_cond, zA, zB, zC, zD, zE, zF, zG, zH, ↓reduceIte, zI, reduceCtorEq, zJ, zK]) ?_
    rintro i ⟨k, hi, hk⟩
    have hni : i.toNat = k := by omega
    have hni1 : (i + 1).toNat = k + 1 := by omega
    rcases Nat.lt_or_ge k (x.parts).length with hlt | hge
    · omega
    · simp (disch := omega) only [go_sem, go_cond, zA, zB, zC, zD, zE, zF, zG, zH, ↓reduceIte, zI, reduceCtorEq, zJ, zK, hni, hp0, List.map_nil, List.length_nil]
  | false =>
    rw [ho, cond_false] at hse
    cases hq : qB x.op with
    | false =>
      rw [hq, cond_false] at hse
      rw [hse]
      unfold qB at hq
      rw [Bool.or_eq_false_iff] at hq
      obtain ⟨o8, o9⟩ := hq
      obtain ⟨e1, he1⟩ : ∃ e1, e1 = envL from_ to_ := ⟨_, rfl⟩
      obtain ⟨f1, hf1⟩ : ∃ f1, f1 = from_ := ⟨_, rfl⟩
      obtain ⟨t1, ht1⟩ : ∃ t1, t1 = to_ := ⟨_, rfl⟩
      rw [← hf1, ← ht1] at he1
      have hlen1 : f1.length = t1.length := by rw [hf1, ht1]; exact hlen
      have hon1 : OnV (envL f1 t1) := by rw [hf1, ht1]; exact hon
      rw [← hf1] at hfl
      rw [← hf1, ← ht1, ← he1]
      have hz0 : Tm.zero.name = ⟨#[]⟩ := rfl
      have hz1 : Tm.zero.args = [] := rfl
      refine E_walk k_spec_l9Separate m_spec_l9Separate (of_decide_eq_true rfl) ?_
      simp (disch := omega) only [c_spec_l9Separate, go_sem, go_cond, zA, zB, zC, zD, zE, zF, zG, zH, ↓reduceIte, zI, reduceCtorEq, zJ, zK, ho, o8, o9]
      refine go_loop (α := Int × (Int) × (List Fm)) (fun a => ⟨slots 70 0 [(1, .ptr 0 0), (2, .arr (f1.map fun s => [D.str s])), (3, .arr (t1.map fun s => [D.str s])), (4, .ptr 1 0), (8, .ptr 2 0), (9, .ptr 3 0), (10, .int .i64 (a.1))], (if (a.1) = 0 then [.box 73 [.str preV, .int .i64 (a.2.1), .arr (tk.map fun s => [D.str s])], .box 34 [.int .i64 x.op, .str x.atom.name, .arr (x.atom.args.map Tm.d), .str x.var, .arr (x.parts.map Fm.d)], .box 34 [.int .i64 0, .str ⟨#[]⟩, .nil, .str ⟨#[]⟩, .nil], .box 34 [.int .i64 x.op, .str ⟨#[]⟩, .nil, .str ⟨#[]⟩, .nil]] else [.box 73 [.str preV, .int .i64 (a.2.1), .arr (tk.map fun s => [D.str s])], .box 34 [.int .i64 x.op, .str x.atom.name, .arr (x.atom.args.map Tm.d), .str x.var, .arr (x.parts.map Fm.d)], .box 34 [.int .i64 0, .str ⟨#[]⟩, .nil, .str ⟨#[]⟩, .nil], .box 34 [.int .i64 x.op, .str ⟨#[]⟩, .nil, .str ⟨#[]⟩, .ref 4], .row 34 5 ((a.2.2).map Fm.osh)])⟩) (fun a => ∃ k : Nat, a.1 = k ∧ k ≤ (x.parts).length ∧ (a.2.2).length = k ∧ 0 ≤ (a.2.1) ∧ stepL (fun y d => Fm.sep tk y e1 d) x.parts c0 = ((a.2.2) ++ (stepL (fun y d => Fm.sep tk y e1 d) (x.parts.drop k) (a.2.1)).1, (stepL (fun y d => Fm.sep tk y e1 d) (x.parts.drop k) (a.2.1)).2) ∧ (a.2.1) + (Fm.nodeS (x.parts.drop k) : Int) * (tk.length + 2 : Nat) ≤ 1099511000000) (fun a => (x.parts).length - (a.1).toNat) (0, c0, []) ⟨0, rfl, Nat.zero_le _, rfl, h0, by rw [List.drop_zero]; rfl, by rw [List.drop_zero]; dsimp only; omega⟩ (by simp (disch := omega) only [go_sem, go_cond, zA, zB, zC, zD, zE, zF, zG, zH, ↓reduceIte, zI, reduceCtorEq, zJ, zK, eq_self, if_true]) ?_
      rintro ⟨i, c, acc⟩ ⟨k, hi, hk, hR⟩
      dsimp only at hi hR
      have hni : i.toNat = k := by omega
      have hni1 : (i + 1).toNat = k + 1 := by omega
      rcases Nat.lt_or_ge k (x.parts).length with hlt | hge
      have hfl1 : f1.length + Fm.nodeS x.parts ≤ 1048576 := by omega
      · have hg := get_at Fm.d hlt
        rw [Fm.d_eq] at hg
        obtain ⟨hR1, hR2, hR3, hR4⟩ := hR
        rw [List.drop_eq_getElem_cons hlt, stepL] at hR3
        rw [List.drop_eq_getElem_cons hlt, Fm.nodeS, Int.natCast_add, Int.add_mul] at hR4
        have hcnt := Fm.sep_count tk x.parts[k] e1 c hR2
        have hge0 : (0 : Int) ≤ (Fm.nodeS (x.parts.drop (k + 1)) : Int) * (tk.length + 2 : Nat) := Int.mul_nonneg (by omega) (by omega)
        have hc := ih x.parts[k] (List.getElem_mem hlt) f1 t1 hlen1 (by have := Fm.nodes_le x.parts k hlt; omega) hon1 c hR2 (by omega)
        rw [← he1] at hc
        obtain ⟨y, hy⟩ : ∃ y, y = x.parts[k].sep tk e1 c := ⟨_, rfl⟩
        rw [← hy] at hc hcnt hR3
        have hs : acc.map Fm.osh ++ [[OT.int y.1.op, OT.str y.1.atom.name, OT.sh (y.1.atom.args.map Tm.d), OT.str y.1.var, OT.sh (y.1.parts.map Fm.d)]] = (acc ++ [y.1]).map Fm.osh := by rw [List.map_append, List.map_cons, List.map_nil, Fm.osh_eq]
        have hR3' : stepL (fun y c => Fm.sep tk y e1 c) x.parts c0 = ((acc ++ [y.1]) ++ (stepL (fun y c => Fm.sep tk y e1 c) (x.parts.drop (k + 1)) y.2).1, (stepL (fun y c => Fm.sep tk y e1 c) (x.parts.drop (k + 1)) y.2).2) := by rw [hR3, List.append_assoc]; rfl
        rcases Nat.eq_zero_or_pos k with h0 | h0
        · subst h0
          obtain rfl : i = 0 := hi
          have ha0 : acc = [] := List.eq_nil_of_length_eq_zero hR1
          subst ha0
          rw [List.map_nil, List.nil_append] at hs
          simp only [Nat.zero_add] at hR4 hge0 hR3'
          simp (disch := omega) only [go_sem, go_cond, zA, zB, zC, zD, zE, zF, zG, zH, ↓reduceIte, zI, reduceCtorEq, zJ, zK, hni, hg, hc, m_spec_l9Separate, eq_self, if_true, er_strs]
          refine ⟨(1, y.2, [] ++ [y.1]), ⟨1, rfl, hlt, rfl, by dsimp only; omega, hR3', by dsimp only; omega⟩, by dsimp only; omega, ?_⟩
          simp (disch := omega) only [go_sem, go_cond, zA, zB, zC, zD, zE, zF, zG, zH, ↓reduceIte, zI, reduceCtorEq, zJ, zK, h10, if_false, hs, List.nil_append]
        · have hi0 : (i = 0) = False := by simp; omega
          have hi1 : (i + 1 = 0) = False := by simp; omega
          simp (disch := omega) only [go_sem, go_cond, zA, zB, zC, zD, zE, zF, zG, zH, ↓reduceIte, zI, reduceCtorEq, zJ, zK, hni, hg, hc, m_spec_l9Separate, hi0, if_false]
          refine ⟨(i + 1, y.2, acc ++ [y.1]), ⟨k + 1, by dsimp only; omega, hlt, by simp [hR1], by dsimp only; omega, hR3', by dsimp only; omega⟩, by dsimp only; omega, ?_⟩
          simp (disch := omega) only [go_sem, go_cond, zA, zB, zC, zD, zE, zF, zG, zH, ↓reduceIte, zI, reduceCtorEq, zJ, zK, hi1, if_false, hs]
      · obtain rfl : k = x.parts.length := by omega
        obtain ⟨hR1, hR2, hR3, hR4⟩ := hR
        rw [List.drop_eq_nil_of_le hge, stepL, List.append_nil] at hR3
        have hR3 : stepL (fun y c => Fm.sep tk y e1 c) x.parts c0 = (acc, c) := hR3
        rw [hR3]
        have hfu := Fm.osh_full acc
        have her := Fm.osh_er acc
        rcases Nat.eq_zero_or_pos x.parts.length with h0 | h0
        · have hx : x.parts = [] := List.eq_nil_of_length_eq_zero h0
          obtain rfl : i = 0 := by omega
          have ha0 : acc = [] := List.eq_nil_of_length_eq_zero (by rw [hR1]; exact h0)
          subst ha0
          simp (disch := omega) only [go_sem, go_cond, zA, zB, zC, zD, zE, zF, zG, zH, ↓reduceIte, zI, reduceCtorEq, zJ, zK, hni, hx, eq_self, if_true, List.map_nil, List.length_nil, Fm.sv_mk, hz0, hz1]
        · have hi0 : (i = 0) = False := by simp; omega
          simp (disch := omega) only [go_sem, go_cond, zA, zB, zC, zD, zE, zF, zG, zH, ↓reduceIte, zI, reduceCtorEq, zJ, zK, hni, hi0, if_false, hfu, her, Fm.sv_mk, hz0, hz1, List.map_nil]
    | true =>
      rw [hq, cond_true] at hse
      rw [hse]
      have hvx := (Fm.form_quant hfo hq).1
      have hone : x.parts.length = 1 := by obtain ⟨p, hp⟩ := (Fm.form_quant hfo hq).2; rw [hp]; rfl
      unfold qB at hq
      have hfr := fresh_range preV tk c0
      have hnx := next_E preV (by decide) tk c0 h0 (by omega)
      obtain ⟨cf, hcf⟩ : ∃ cf, cf = fresh preV tk c0 := ⟨_, rfl⟩
      rw [← hcf] at hnx hfr ⊢
      obtain ⟨v, hv⟩ : ∃ v, v = pre preV cf := ⟨_, rfl⟩
      rw [← hv] at hnx ⊢
      obtain ⟨e1, he1⟩ : ∃ e1, e1 = envL (from_ ++ [x.var]) (to_ ++ [v]) := ⟨_, rfl⟩
      have hes := envL_snoc from_ to_ x.var v hlen
      have hon1 : OnV (envL (from_ ++ [x.var]) (to_ ++ [v])) := by rw [hes]; exact hon.put hvx v
      rw [← hes, ← he1]
      obtain ⟨f1, hf1⟩ : ∃ f1, f1 = from_ ++ [x.var] := ⟨_, rfl⟩
      obtain ⟨t1, ht1⟩ : ∃ t1, t1 = to_ ++ [v] := ⟨_, rfl⟩
      have ha1 : (from_.map fun s => [OT.str s]) ++ [[OT.str x.var]] = (from_ ++ [x.var]).map fun s => [OT.str s] := by simp
      have ha2 : (to_.map fun s => [OT.str s]) ++ [[OT.str v]] = (to_ ++ [v]).map fun s => [OT.str s] := by simp
      have hbf : (from_.map fun s => [D.str s]).map (fun x => x.map D.ot) = from_.map fun s => [OT.str s] := by rw [List.map_map]; rfl
      have hbt : (to_.map fun s => [D.str s]).map (fun x => x.map D.ot) = to_.map fun s => [OT.str s] := by rw [List.map_map]; rfl
      have haf := al_strs from_
      have hat := al_strs to_
      have hlen1 : (from_ ++ [x.var]).length = (to_ ++ [v]).length := by simp [hlen]
      rw [← hf1] at he1 hon1 hlen1 ha1
      rw [← ht1] at he1 hon1 hlen1 ha2
      have hfl1' : f1.length = from_.length + 1 := by rw [hf1]; simp
      have hz0 : Tm.zero.name = ⟨#[]⟩ := rfl
      have hz1 : Tm.zero.args = [] := rfl
      rcases hq8 : dec (x.op = 8) with _ | _
      · have o8 := hq8
        have o9 : dec (x.op = 9) = true := by rw [hq8, Bool.false_or] at hq; exact hq
        refine E_walk k_spec_l9Separate m_spec_l9Separate (of_decide_eq_true rfl) ?_
        simp (disch := omega) only [c_spec_l9Separate, go_sem, go_cond, zA, zB, zC, zD, zE, zF, zG, zH, ↓reduceIte, zI, reduceCtorEq, zJ, zK, ho, o8, o9, hnx, ha1, ha2, hbf, hbt, haf, hat, List.nil_append, m_spec_l9Namer_next]
        refine go_loop (α := Int × (Int) × (List Fm)) (fun a => ⟨slots 70 0 [(1, .ptr 0 0), (2, (if (a.1) = 0 then .ref 1 else .any)), (3, (if (a.1) = 0 then .ref 2 else .any)), (4, (if (a.1) = 0 then .ptr 3 0 else .ptr 1 0)), (8, (if (a.1) = 0 then .ptr 4 0 else .ptr 2 0)), (9, (if (a.1) = 0 then .ptr 5 0 else .ptr 3 0)), (10, .int .i64 (a.1))], (if (a.1) = 0 then [.box 73 [.str preV, .int .i64 (a.2.1), .arr (tk.map fun s => [D.str s])], .row 9 1 (f1.map fun s => [OT.str s]), .row 9 1 (t1.map fun s => [OT.str s]), .box 34 [.int .i64 x.op, .str x.atom.name, .arr (x.atom.args.map Tm.d), .str x.var, .arr (x.parts.map Fm.d)], .box 34 [.int .i64 0, .str ⟨#[]⟩, .nil, .str ⟨#[]⟩, .nil], .box 34 [.int .i64 x.op, .str ⟨#[]⟩, .nil, .str v, .nil]] else [.box 73 [.str preV, .int .i64 (a.2.1), .arr (tk.map fun s => [D.str s])], .box 34 [.int .i64 x.op, .str x.atom.name, .arr (x.atom.args.map Tm.d), .str x.var, .arr (x.parts.map Fm.d)], .box 34 [.int .i64 0, .str ⟨#[]⟩, .nil, .str ⟨#[]⟩, .nil], .box 34 [.int .i64 x.op, .str ⟨#[]⟩, .nil, .str v, .ref 4], .row 34 5 ((a.2.2).map Fm.osh)])⟩) (fun a => ∃ k : Nat, a.1 = k ∧ k ≤ (x.parts).length ∧ (a.2.2).length = k ∧ 0 ≤ (a.2.1) ∧ stepL (fun y d => Fm.sep tk y e1 d) x.parts cf = ((a.2.2) ++ (stepL (fun y d => Fm.sep tk y e1 d) (x.parts.drop k) (a.2.1)).1, (stepL (fun y d => Fm.sep tk y e1 d) (x.parts.drop k) (a.2.1)).2) ∧ (a.2.1) + (Fm.nodeS (x.parts.drop k) : Int) * (tk.length + 2 : Nat) ≤ 1099511000000) (fun a => (x.parts).length - (a.1).toNat) (0, cf, []) ⟨0, rfl, Nat.zero_le _, rfl, by dsimp only; omega, by rw [List.drop_zero]; rfl, by rw [List.drop_zero]; dsimp only; omega⟩ (by simp (disch := omega) only [go_sem, go_cond, zA, zB, zC, zD, zE, zF, zG, zH, ↓reduceIte, zI, reduceCtorEq, zJ, zK, eq_self, if_true]) ?_
        rintro ⟨i, c, acc⟩ ⟨k, hi, hk, hR⟩
        dsimp only at hi hR
        have hni : i.toNat = k := by omega
        have hni1 : (i + 1).toNat = k + 1 := by omega
        rcases Nat.lt_or_ge k (x.parts).length with hlt | hge
        · have hg := get_at Fm.d hlt
          rw [Fm.d_eq] at hg
          obtain ⟨hR1, hR2, hR3, hR4⟩ := hR
          rw [List.drop_eq_getElem_cons hlt, stepL] at hR3
          rw [List.drop_eq_getElem_cons hlt, Fm.nodeS, Int.natCast_add, Int.add_mul] at hR4
          have hcnt := Fm.sep_count tk x.parts[k] e1 c hR2
          have hge0 : (0 : Int) ≤ (Fm.nodeS (x.parts.drop (k + 1)) : Int) * (tk.length + 2 : Nat) := Int.mul_nonneg (by omega) (by omega)
          have hc := ih x.parts[k] (List.getElem_mem hlt) f1 t1 hlen1 (by have := Fm.nodes_le x.parts k hlt; omega) hon1 c hR2 (by omega)
          rw [← he1] at hc
          obtain ⟨y, hy⟩ : ∃ y, y = x.parts[k].sep tk e1 c := ⟨_, rfl⟩
          rw [← hy] at hc hcnt hR3
          have hs : acc.map Fm.osh ++ [[OT.int y.1.op, OT.str y.1.atom.name, OT.sh (y.1.atom.args.map Tm.d), OT.str y.1.var, OT.sh (y.1.parts.map Fm.d)]] = (acc ++ [y.1]).map Fm.osh := by rw [List.map_append, List.map_cons, List.map_nil, Fm.osh_eq]
          have hR3' : stepL (fun y c => Fm.sep tk y e1 c) x.parts cf = ((acc ++ [y.1]) ++ (stepL (fun y c => Fm.sep tk y e1 c) (x.parts.drop (k + 1)) y.2).1, (stepL (fun y c => Fm.sep tk y e1 c) (x.parts.drop (k + 1)) y.2).2) := by rw [hR3, List.append_assoc]; rfl
          rcases Nat.eq_zero_or_pos k with h0 | h0
          · subst h0
            obtain rfl : i = 0 := hi
            have ha0 : acc = [] := List.eq_nil_of_length_eq_zero hR1
            subst ha0
            rw [List.map_nil, List.nil_append] at hs
            simp only [Nat.zero_add] at hR4 hge0 hR3'
            simp (disch := omega) only [go_sem, go_cond, zA, zB, zC, zD, zE, zF, zG, zH, ↓reduceIte, zI, reduceCtorEq, zJ, zK, hni, hg, hc, m_spec_l9Separate, eq_self, if_true, er_strs]
            refine ⟨(1, y.2, [] ++ [y.1]), ⟨1, rfl, hlt, rfl, by dsimp only; omega, hR3', by dsimp only; omega⟩, by dsimp only; omega, ?_⟩
            simp (disch := omega) only [go_sem, go_cond, zA, zB, zC, zD, zE, zF, zG, zH, ↓reduceIte, zI, reduceCtorEq, zJ, zK, h10, if_false, hs, List.nil_append]
          · exfalso; omega
        · obtain rfl : k = x.parts.length := by omega
          obtain ⟨hR1, hR2, hR3, hR4⟩ := hR
          rw [List.drop_eq_nil_of_le hge, stepL, List.append_nil] at hR3
          have hR3 : stepL (fun y c => Fm.sep tk y e1 c) x.parts cf = (acc, c) := hR3
          rw [hR3]
          have hfu := Fm.osh_full acc
          have her := Fm.osh_er acc
          rcases Nat.eq_zero_or_pos x.parts.length with h0 | h0
          · have hx : x.parts = [] := List.eq_nil_of_length_eq_zero h0
            obtain rfl : i = 0 := by omega
            have ha0 : acc = [] := List.eq_nil_of_length_eq_zero (by rw [hR1]; exact h0)
            subst ha0
            exfalso; omega
          · have hi0 : (i = 0) = False := by simp; omega
            simp (disch := omega) only [go_sem, go_cond, zA, zB, zC, zD, zE, zF, zG, zH, ↓reduceIte, zI, reduceCtorEq, zJ, zK, hni, hi0, if_false, hfu, her, Fm.sv_mk, hz0, hz1, List.map_nil]
      · have o8 := hq8
        refine E_walk k_spec_l9Separate m_spec_l9Separate (of_decide_eq_true rfl) ?_
        simp (disch := omega) only [c_spec_l9Separate, go_sem, go_cond, zA, zB, zC, zD, zE, zF, zG, zH, ↓reduceIte, zI, reduceCtorEq, zJ, zK, ho, o8, hnx, ha1, ha2, hbf, hbt, haf, hat, List.nil_append, m_spec_l9Namer_next]
        refine go_loop (α := Int × (Int) × (List Fm)) (fun a => ⟨slots 70 0 [(1, .ptr 0 0), (2, (if (a.1) = 0 then .ref 1 else .any)), (3, (if (a.1) = 0 then .ref 2 else .any)), (4, (if (a.1) = 0 then .ptr 3 0 else .ptr 1 0)), (8, (if (a.1) = 0 then .ptr 4 0 else .ptr 2 0)), (9, (if (a.1) = 0 then .ptr 5 0 else .ptr 3 0)), (10, .int .i64 (a.1))], (if (a.1) = 0 then [.box 73 [.str preV, .int .i64 (a.2.1), .arr (tk.map fun s => [D.str s])], .row 9 1 (f1.map fun s => [OT.str s]), .row 9 1 (t1.map fun s => [OT.str s]), .box 34 [.int .i64 x.op, .str x.atom.name, .arr (x.atom.args.map Tm.d), .str x.var, .arr (x.parts.map Fm.d)], .box 34 [.int .i64 0, .str ⟨#[]⟩, .nil, .str ⟨#[]⟩, .nil], .box 34 [.int .i64 x.op, .str ⟨#[]⟩, .nil, .str v, .nil]] else [.box 73 [.str preV, .int .i64 (a.2.1), .arr (tk.map fun s => [D.str s])], .box 34 [.int .i64 x.op, .str x.atom.name, .arr (x.atom.args.map Tm.d), .str x.var, .arr (x.parts.map Fm.d)], .box 34 [.int .i64 0, .str ⟨#[]⟩, .nil, .str ⟨#[]⟩, .nil], .box 34 [.int .i64 x.op, .str ⟨#[]⟩, .nil, .str v, .ref 4], .row 34 5 ((a.2.2).map Fm.osh)])⟩) (fun a => ∃ k : Nat, a.1 = k ∧ k ≤ (x.parts).length ∧ (a.2.2).length = k ∧ 0 ≤ (a.2.1) ∧ stepL (fun y d => Fm.sep tk y e1 d) x.parts cf = ((a.2.2) ++ (stepL (fun y d => Fm.sep tk y e1 d) (x.parts.drop k) (a.2.1)).1, (stepL (fun y d => Fm.sep tk y e1 d) (x.parts.drop k) (a.2.1)).2) ∧ (a.2.1) + (Fm.nodeS (x.parts.drop k) : Int) * (tk.length + 2 : Nat) ≤ 1099511000000) (fun a => (x.parts).length - (a.1).toNat) (0, cf, []) ⟨0, rfl, Nat.zero_le _, rfl, by dsimp only; omega, by rw [List.drop_zero]; rfl, by rw [List.drop_zero]; dsimp only; omega⟩ (by simp (disch := omega) only [go_sem, go_cond, zA, zB, zC, zD, zE, zF, zG, zH, ↓reduceIte, zI, reduceCtorEq, zJ, zK, eq_self, if_true]) ?_
        rintro ⟨i, c, acc⟩ ⟨k, hi, hk, hR⟩
        dsimp only at hi hR
        have hni : i.toNat = k := by omega
        have hni1 : (i + 1).toNat = k + 1 := by omega
        rcases Nat.lt_or_ge k (x.parts).length with hlt | hge
        · have hg := get_at Fm.d hlt
          rw [Fm.d_eq] at hg
          obtain ⟨hR1, hR2, hR3, hR4⟩ := hR
          rw [List.drop_eq_getElem_cons hlt, stepL] at hR3
          rw [List.drop_eq_getElem_cons hlt, Fm.nodeS, Int.natCast_add, Int.add_mul] at hR4
          have hcnt := Fm.sep_count tk x.parts[k] e1 c hR2
          have hge0 : (0 : Int) ≤ (Fm.nodeS (x.parts.drop (k + 1)) : Int) * (tk.length + 2 : Nat) := Int.mul_nonneg (by omega) (by omega)
          have hc := ih x.parts[k] (List.getElem_mem hlt) f1 t1 hlen1 (by have := Fm.nodes_le x.parts k hlt; omega) hon1 c hR2 (by omega)
          rw [← he1] at hc
          obtain ⟨y, hy⟩ : ∃ y, y = x.parts[k].sep tk e1 c := ⟨_, rfl⟩
          rw [← hy] at hc hcnt hR3
          have hs : acc.map Fm.osh ++ [[OT.int y.1.op, OT.str y.1.atom.name, OT.sh (y.1.atom.args.map Tm.d), OT.str y.1.var, OT.sh (y.1.parts.map Fm.d)]] = (acc ++ [y.1]).map Fm.osh := by rw [List.map_append, List.map_cons, List.map_nil, Fm.osh_eq]
          have hR3' : stepL (fun y c => Fm.sep tk y e1 c) x.parts cf = ((acc ++ [y.1]) ++ (stepL (fun y c => Fm.sep tk y e1 c) (x.parts.drop (k + 1)) y.2).1, (stepL (fun y c => Fm.sep tk y e1 c) (x.parts.drop (k + 1)) y.2).2) := by rw [hR3, List.append_assoc]; rfl
          rcases Nat.eq_zero_or_pos k with h0 | h0
          · subst h0
            obtain rfl : i = 0 := hi
            have ha0 : acc = [] := List.eq_nil_of_length_eq_zero hR1
            subst ha0
            rw [List.map_nil, List.nil_append] at hs
            simp only [Nat.zero_add] at hR4 hge0 hR3'
            simp (disch := omega) only [go_sem, go_cond, zA, zB, zC, zD, zE, zF, zG, zH, ↓reduceIte, zI, reduceCtorEq, zJ, zK, hni, hg, hc, m_spec_l9Separate, eq_self, if_true, er_strs]
            refine ⟨(1, y.2, [] ++ [y.1]), ⟨1, rfl, hlt, rfl, by dsimp only; omega, hR3', by dsimp only; omega⟩, by dsimp only; omega, ?_⟩
            simp (disch := omega) only [go_sem, go_cond, zA, zB, zC, zD, zE, zF, zG, zH, ↓reduceIte, zI, reduceCtorEq, zJ, zK, h10, if_false, hs, List.nil_append]
          · exfalso; omega
        · obtain rfl : k = x.parts.length := by omega
          obtain ⟨hR1, hR2, hR3, hR4⟩ := hR
          rw [List.drop_eq_nil_of_le hge, stepL, List.append_nil] at hR3
          have hR3 : stepL (fun y c => Fm.sep tk y e1 c) x.parts cf = (acc, c) := hR3
          rw [hR3]
          have hfu := Fm.osh_full acc
          have her := Fm.osh_er acc
          rcases Nat.eq_zero_or_pos x.parts.length with h0 | h0
          · have hx : x.parts = [] := List.eq_nil_of_length_eq_zero h0
            obtain rfl : i = 0 := by omega
            have ha0 : acc = [] := List.eq_nil_of_length_eq_zero (by rw [hR1]; exact h0)
            subst ha0
            exfalso; omega
          · have hi0 : (i = 0) = False := by simp; omega
            simp (disch := omega) only [go_sem, go_cond, zA, zB, zC, zD, zE, zF, zG, zH, ↓reduceIte, zI, reduceCtorEq, zJ, zK, hni, hi0, if_false, hfu, her, Fm.sv_mk, hz0, hz1, List.map_nil]
theorem l9Separate_E (tk : List ByteArray) (x : Fm) (hx : x.forms = true) : SpsC tk x :=
  l9Separate_of tk x hx fun y hy => l9Separate_E tk y (Fm.forms_part hx hy)
termination_by SizeOf.sizeOf x
decreasing_by exact Fm.lt_of_mem hy
def c_impl_separator_fresh : SC := (.seq (.reg [⟨(some 2), none, (.mv (.c (.str ⟨#[]⟩)))⟩]) (.block 0 (.loop [1, 0, 0, 0, 0, 0, 0, 0, 0, 0, 0, 0, 0, 0, 0, 0, 0, 0, 0, 0, 0, 0, 0, 0, 0] (.block 1 (.seq (.reg [⟨some 4, none, .mv (.t 0)⟩, ⟨some 5, none, .nilchk (.t 4)⟩, ⟨some 6, none, .faddr 1 (.t 5)⟩, ⟨some 7, none, .load false 1 (.t 6)⟩, ⟨some 8, none, .bin .add false (.t 7) (.c (.int .i64 1))⟩, ⟨some 9, none, .nilchk (.t 4)⟩, ⟨some 10, none, .faddr 1 (.t 9)⟩, ⟨none, none, (.store 1 (.t 10) (.t 8))⟩]) (.seq (.reg [⟨some 11, none, .mv (.t 0)⟩, ⟨some 12, none, .nilchk (.t 11)⟩, ⟨some 13, none, .faddr 1 (.t 12)⟩, ⟨some 14, none, .load false 1 (.t 13)⟩, ⟨some 15, none, .call 100 [(.t 14)]⟩, ⟨(some 16), none, (.bin .add false (.c (.str ⟨#[86]⟩)) (.t 15))⟩, ⟨some 3, none, .mv (.t 16)⟩]) (.seq (.reg [⟨some 17, none, .mv (.t 0)⟩, ⟨some 18, none, .nilchk (.t 17)⟩, ⟨some 19, none, .faddr 0 (.t 18)⟩, ⟨some 20, none, .load false 1 (.t 19)⟩, ⟨some 21, none, .mv (.t 3)⟩, ⟨some 22, none, .call 96 [(.t 20), (.t 21)]⟩, ⟨some 23, none, .un .not (.t 22)⟩]) (.cond (.t 23) (.seq (.reg [⟨some 24, none, .mv (.t 3)⟩, ⟨some 2, none, .mv (.t 24)⟩]) .ret) .skip))))))))
theorem k_impl_separator_fresh : codeOf Tryz.prog 87 = some ⟨25, c_impl_separator_fresh, [(.tmp 2)]⟩ := by kernel_rfl
theorem m_impl_separator_fresh : modes 87 = ⟨[], .asis, none, false⟩ := by unfold modes; rfl
def c_impl_separator_separate : SC := (.seq (.reg [⟨some 3, none, .boxv 76 1 (.t 0)⟩, ⟨some 4, none, .boxv 34 5 (.t 1)⟩, ⟨some 5, none, .boxv 80 1 (.t 2)⟩, ⟨(some 6), none, (.alloc 34 [(.int .i64 0), (.str ⟨#[]⟩), .nil, (.str ⟨#[]⟩), .nil])⟩]) (.seq (.seq (.reg [⟨some 12, none, .faddr 0 (.t 4)⟩, ⟨some 13, none, .load false 1 (.t 12)⟩, ⟨some 14, none, .bin .eql false (.t 13) (.c (.int .i64 3))⟩]) (.cond (.t 14) (.seq (.reg [⟨some 15, none, .faddr 1 (.t 4)⟩, ⟨some 16, none, .load true 2 (.t 15)⟩, ⟨some 17, none, .load false 1 (.t 5)⟩, ⟨some 18, none, .call 86 [(.t 16), (.t 17)]⟩, ⟨some 19, none, .call 68 [(.t 18)]⟩, ⟨none, none, (.store 5 (.t 6) (.t 19))⟩]) .ret) .skip)) (.seq (.reg [⟨(some 7), none, (.mv (.c (.str ⟨#[]⟩)))⟩]) (.seq (.seq (.reg [⟨some 20, none, .faddr 0 (.t 4)⟩, ⟨some 21, none, .load false 1 (.t 20)⟩, ⟨some 22, none, .call 80 [(.t 21)]⟩]) (.cond (.t 22) (.seq (.reg [⟨some 23, none, .load false 1 (.t 3)⟩, ⟨some 24, none, .call 87 [(.t 23)]⟩, ⟨some 7, none, .mv (.t 24)⟩]) (.seq (.reg [⟨some 25, none, .mkmap true none⟩, ⟨some 8, none, .mv (.t 25)⟩]) (.seq (.seq (.reg [⟨some 26, none, .load false 1 (.t 5)⟩, ⟨some 27, none, .mkit (.t 26)⟩]) (.block 0 (.mloop [0, 0, 0, 1, 1, 1, 1, 1, 1, 0, 0, 0, 0, 0, 0, 0, 0, 0, 0, 0, 0, 0, 0, 0, 0, 0, 0, 1, 0, 0, 0, 0, 0, 0, 0, 0, 0, 0, 0, 0, 0, 0, 0, 0, 0, 0, 0] [0, 0, 0, 1, 1, 1, 1, 1, 1, 0, 0, 0, 0, 0, 0, 0, 0, 0, 0, 0, 0, 0, 0, 0, 0, 0, 0, 0, 0, 0, 0, 0, 0, 0, 0, 0, 0, 0, 0, 0, 0, 0, 0, 0, 0, 0, 0] (.t 27) 28 29 (.seq (.cond (.t 29) .skip (.exit 0)) (.block 1 (.seq (.reg [⟨some 30, none, .mcur (.t 27)⟩, ⟨some 31, none, .ext (.t 30) 0⟩, ⟨some 32, none, .ext (.t 30) 1⟩, ⟨some 9, none, .mv (.t 31)⟩, ⟨some 10, none, .mv (.t 32)⟩]) (.reg [⟨some 33, none, .mv (.t 8)⟩, ⟨some 34, none, .mv (.t 9)⟩, ⟨some 35, none, .mv (.t 10)⟩, ⟨none, none, (.mset true (.t 33) (.t 34) (.t 35))⟩]))))))) (.seq (.reg [⟨some 36, none, .mv (.t 8)⟩, ⟨some 37, none, .faddr 3 (.t 4)⟩, ⟨some 38, none, .load false 1 (.t 37)⟩, ⟨some 39, none, .mv (.t 7)⟩, ⟨none, none, (.mset true (.t 36) (.t 38) (.t 39))⟩]) (.reg [⟨some 40, none, .mv (.t 8)⟩, ⟨none, none, (.store 1 (.t 5) (.t 40))⟩]))))) .skip)) (.seq (.reg [⟨some 41, none, .load true 5 (.t 4)⟩, ⟨some 42, none, .mkfn 88 [(.t 3), (.t 5)]⟩, ⟨some 43, none, .call 74 [(.t 41), (.t 42)]⟩, ⟨(some 11), none, (.alloc 34 [(.int .i64 0), (.str ⟨#[]⟩), .nil, (.str ⟨#[]⟩), .nil])⟩, ⟨none, none, (.store 5 (.t 11) (.t 43))⟩]) (.seq (.reg [⟨some 44, none, .mv (.t 7)⟩, ⟨some 45, none, .faddr 3 (.t 11)⟩, ⟨none, none, (.store 1 (.t 45) (.t 44))⟩]) (.seq (.reg [⟨some 46, none, .load true 5 (.t 11)⟩, ⟨none, none, (.store 5 (.t 6) (.t 46))⟩]) .ret)))))))
theorem k_impl_separator_separate : codeOf Tryz.prog 51 = some ⟨47, c_impl_separator_separate, [(.cell 6 true 5)]⟩ := by kernel_rfl
theorem m_impl_separator_separate : modes 51 = ⟨[], .own [none, none, some (31, 2), none, some (34, 5)], none, false⟩ := by unfold modes; rfl
def c_impl_separator_separate_1 : SC := (.seq (.reg [⟨some 3, none, .boxv 34 5 (.t 0)⟩, ⟨(some 4), none, (.alloc 34 [(.int .i64 0), (.str ⟨#[]⟩), .nil, (.str ⟨#[]⟩), .nil])⟩]) (.seq (.reg [⟨some 5, none, .load false 1 (.t 1)⟩, ⟨some 6, none, .load true 5 (.t 3)⟩, ⟨some 7, none, .load false 1 (.t 2)⟩, ⟨some 8, none, .call 51 [(.t 5), (.t 6), (.t 7)]⟩, ⟨none, none, (.store 5 (.t 4) (.t 8))⟩]) .ret))
theorem k_impl_separator_separate_1 : codeOf Tryz.prog 88 = some ⟨9, c_impl_separator_separate_1, [(.cell 4 true 5)]⟩ := by kernel_rfl
theorem m_impl_separator_separate_1 : modes 88 = ⟨[], .own [none, none, some (31, 2), none, some (34, 5)], none, false⟩ := by unfold modes; rfl
theorem g_impl_separator_separate_1 : goFn Tryz.prog 88 = true := by kernel_rfl
def c_impl_atomOf : SC := (.seq (.reg [⟨some 1, none, .boxv 31 2 (.t 0)⟩, ⟨(some 2), none, (.alloc 34 [(.int .i64 0), (.str ⟨#[]⟩), .nil, (.str ⟨#[]⟩), .nil])⟩]) (.seq (.reg [⟨some 3, none, .load true 2 (.t 1)⟩, ⟨(some 4), none, (.build [(.int .i64 0), (.str ⟨#[]⟩), .nil, (.str ⟨#[]⟩), .nil] [(0, (1, (.c (.int .i64 3)))), (1, (2, (.t 3)))])⟩, ⟨none, none, (.store 5 (.t 2) (.t 4))⟩]) .ret))
theorem k_impl_atomOf : codeOf Tryz.prog 68 = some ⟨5, c_impl_atomOf, [(.cell 2 true 5)]⟩ := by kernel_rfl
theorem m_impl_atomOf : modes 68 = ⟨[true], .own [none, none, some (31, 2), none, some (34, 5)], none, false⟩ := by unfold modes; rfl
set_option maxHeartbeats 4000000 in
theorem freshS_E (tk : List ByteArray) (c : Int) (h0 : 0 ≤ c) (hc : c + tk.length ≤ 1099511600000) : E 87 [.ptr 0 0] [.box 78 [.ref 1, .int .i64 c], .row 9 1 (tk.map fun s => [OT.str s])] = some (.str (pre preV (fresh preV tk c)), [.box 78 [.ref 1, .int .i64 (fresh preV tk c)], .row 9 1 (tk.map fun s => [OT.str s])]) := by
  have hfr := fresh_range preV tk c
  refine E_walk k_impl_separator_fresh m_impl_separator_fresh (of_decide_eq_true rfl) ?_
  simp (disch := omega) only [c_impl_separator_fresh, go_sem, go_cond, zA, zB, zC, zD, zE, zF, zG, zH, ↓reduceIte, zI, reduceCtorEq, zJ, zK]
  refine go_loop (α := Int) (fun a => ⟨slots 25 0 [(0, .ptr 0 0)], [.box 78 [.ref 1, .int .i64 a], .row 9 1 (tk.map fun s => [OT.str s])]⟩) (fun a => c ≤ a ∧ fresh preV tk a = fresh preV tk c) (fun a => beyond preV tk a) c ⟨Int.le_refl _, rfl⟩ (by simp (disch := omega) only [go_sem, go_cond, zA, zB, zC, zD, zE, zF, zG, zH, ↓reduceIte, zI, reduceCtorEq, zJ, zK]) ?_
  rintro a ⟨ha, hR⟩
  have hfa := fresh_range preV tk a
  rw [hR] at hfa
  have hit := itoa_E (a + 1) (by omega) (by omega)
  have hns := numB_size (show 0 ≤ a + 1 by omega) (by omega : a + 1 ≤ 1099511627776)
  have hpre : (⟨#[86]⟩ : ByteArray) ++ numB (a + 1) = pre preV (a + 1) := rfl
  have hs1 : (⟨#[86]⟩ : ByteArray).size = 1 := rfl
  have hcn := containsS_E tk (pre preV (a + 1)) (by omega)
  by_cases hm : pre preV (a + 1) ∈ tk
  · rw [dec_t hm] at hcn
    simp (disch := omega) only [go_sem, go_cond, zA, zB, zC, zD, zE, zF, zG, zH, ↓reduceIte, zI, reduceCtorEq, zJ, zK, hit, hs1, hpre, hcn, m_strconv_Itoa, m_slices_Contains_string_string]
    exact ⟨a + 1, ⟨by omega, by rw [← fresh_hit (by omega) hm]; exact hR⟩, beyond_lt (by omega) hm, by first | trivial | rfl | exact ⟨rfl, rfl⟩⟩
  · rw [dec_f hm] at hcn
    have hnew := fresh_new hm
    rw [hR] at hnew
    rw [hnew]
    simp (disch := omega) only [go_sem, go_cond, zA, zB, zC, zD, zE, zF, zG, zH, ↓reduceIte, zI, reduceCtorEq, zJ, zK, hit, hs1, hpre, hcn, m_strconv_Itoa, m_slices_Contains_string_string]
theorem atomOf_E (y : Tm) : E 68 [y.osv] y.obs = some (.agg [.int .i64 3, .str y.name, .ref 0, .str ⟨#[]⟩, .ref 1], [.row 31 2 (y.args.map Tm.o), .row 34 5 []]) := by
  refine E_walk k_impl_atomOf m_impl_atomOf (of_decide_eq_true rfl) ?_
  simp (disch := omega) only [c_impl_atomOf, go_sem, go_cond, zA, zB, zC, zD, zE, zF, zG, zH, ↓reduceIte, zI, reduceCtorEq, zJ, zK, Tm.osv, Tm.obs]
set_option maxHeartbeats 8000000 in
theorem mapPartsA_of (fid : Nat) (e : SEnv) (tk : List ByteArray) (f : Fm → Int → Fm × Int) (P : Nat → Int → Prop) (x : Fm) (c0 : Int) (hP : P 0 c0) (hl : x.parts.length ≤ 1099511627776) (hat : x.atom.nodes ≤ 1099511627776) (hg : goFn Tryz.prog fid = true) (hm : (modes fid).hand = []) (hr : ∀ r, lateF (modes fid).res r = r)
    (hE : ∀ (k : Nat) (h : k < x.parts.length) (c : Int), P k c → E fid [x.parts[k].sv, .ptr 0 0, .ptr 1 0] [.box 76 [.ptr 2 0], .box 80 [.mp true (senvM e)], .box 78 [.ref 3, .int .i64 c], .row 9 1 (tk.map fun s => [OT.str s])] = some (.agg [.int .i64 (f x.parts[k] c).1.op, .str (f x.parts[k] c).1.atom.name, .ref 4, .str (f x.parts[k] c).1.var, .ref 5], [.box 76 [.ptr 2 0], .box 80 [.mp true (senvM e)], .box 78 [.ref 3, .int .i64 (f x.parts[k] c).2], .row 9 1 (tk.map fun s => [OT.str s]), .row 31 2 ((f x.parts[k] c).1.atom.args.map Tm.o), .row 34 5 ((f x.parts[k] c).1.parts.map Fm.o)]) ∧ P (k + 1) (f x.parts[k] c).2) :
    E 74 [x.sv, .fn fid [.ptr 0 0, .ptr 1 0]] [.box 76 [.ptr 2 0], .box 80 [.mp true (senvM e)], .box 78 [.ref 3, .int .i64 c0], .row 9 1 (tk.map fun s => [OT.str s])] = some (.agg [.int .i64 x.op, .str x.atom.name, .ref 4, .str x.var, .ref 5], [.box 76 [.ptr 2 0], .box 80 [.mp true (senvM e)], .box 78 [.ref 3, .int .i64 (stepL f x.parts c0).2], .row 9 1 (tk.map fun s => [OT.str s]), .row 31 2 (x.atom.args.map Tm.o), .row 34 5 ((stepL f x.parts c0).1.map Fm.o)]) := by
  have hct := copyTerm_E x.atom hat
  have h10 : ((1 : Int) = 0) = False := by simp
  refine E_walk k_impl_mapParts m_impl_mapParts (of_decide_eq_true rfl) ?_
  simp (disch := omega) only [c_impl_mapParts, go_sem, go_cond, zA, zB, zC, zD, zE, zF, zG, zH, ↓reduceIte, zI, reduceCtorEq, zJ, zK, hct, m_impl_copyTerm, Tm.osv, Tm.obs]
  refine go_loop (α := Int × (Int) × (List Fm)) (fun a => ⟨slots 33 0 [(1, .fn fid [.ptr 0 0, .ptr 1 0]), (4, .ptr 4 0), (5, .ptr 5 0), (17, .arr (x.parts.map Fm.d)), (18, .int .i64 x.parts.length), (19, .int .i64 (a.1))], (if (a.1) = 0 then [.box 76 [.ptr 2 0], .box 80 [.mp true (senvM e)], .box 78 [.ref 3, .int .i64 (a.2.1)], .row 9 1 (tk.map fun s => [OT.str s]), .box 34 [.int .i64 0, .str ⟨#[]⟩, .nil, .str ⟨#[]⟩, .nil], .box 34 [.int .i64 x.op, .str x.atom.name, .ref 6, .str x.var, .nil], .row 31 2 (x.atom.args.map Tm.o)] else [.box 76 [.ptr 2 0], .box 80 [.mp true (senvM e)], .box 78 [.ref 3, .int .i64 (a.2.1)], .row 9 1 (tk.map fun s => [OT.str s]), .box 34 [.int .i64 0, .str ⟨#[]⟩, .nil, .str ⟨#[]⟩, .nil], .box 34 [.int .i64 x.op, .str x.atom.name, .ref 6, .str x.var, .ref 7], .row 31 2 (x.atom.args.map Tm.o), .row 34 5 ((a.2.2).map Fm.o)])⟩) (fun a => ∃ k : Nat, a.1 = k ∧ k ≤ (x.parts).length ∧ (a.2.2).length = k ∧ P k (a.2.1) ∧ stepL f x.parts c0 = ((a.2.2) ++ (stepL f (x.parts.drop k) (a.2.1)).1, (stepL f (x.parts.drop k) (a.2.1)).2)) (fun a => (x.parts).length - (a.1).toNat) (0, c0, []) ⟨0, rfl, Nat.zero_le _, rfl, hP, by rw [List.drop_zero]; rfl⟩ (by simp (disch := omega) only [go_sem, go_cond, zA, zB, zC, zD, zE, zF, zG, zH, ↓reduceIte, zI, reduceCtorEq, zJ, zK, eq_self, if_true]) ?_
  rintro ⟨i, c, acc⟩ ⟨k, hi, hk, hR⟩
  dsimp only at hi hR
  have hni : i.toNat = k := by omega
  have hni1 : (i + 1).toNat = k + 1 := by omega
  rcases Nat.lt_or_ge k (x.parts).length with hlt | hge
  · have hgt := get_at Fm.d hlt
    rw [Fm.d_eq] at hgt
    obtain ⟨hR1, hR2, hR3⟩ := hR
    obtain ⟨hc, hp⟩ := hE k hlt c hR2
    rw [List.drop_eq_getElem_cons hlt, stepL] at hR3
    obtain ⟨y, hy⟩ : ∃ y, y = f x.parts[k] c := ⟨_, rfl⟩
    rw [← hy] at hc hp hR3
    have hs : acc.map Fm.o ++ [[OT.int y.1.op, OT.str y.1.atom.name, OT.ow (y.1.atom.args.map Tm.o), OT.str y.1.var, OT.ow (y.1.parts.map Fm.o)]] = (acc ++ [y.1]).map Fm.o := by rw [List.map_append, List.map_cons, List.map_nil, Fm.o_eq]
    have hR3' : stepL f x.parts c0 = ((acc ++ [y.1]) ++ (stepL f (x.parts.drop (k + 1)) y.2).1, (stepL f (x.parts.drop (k + 1)) y.2).2) := by rw [hR3, List.append_assoc]; rfl
    rcases Nat.eq_zero_or_pos k with h0 | h0
    · subst h0
      obtain rfl : i = 0 := hi
      have ha0 : acc = [] := List.eq_nil_of_length_eq_zero hR1
      subst ha0
      rw [List.map_nil, List.nil_append] at hs
      simp (disch := omega) only [go_sem, go_cond, zA, zB, zC, zD, zE, zF, zG, zH, ↓reduceIte, zI, reduceCtorEq, zJ, zK, hni, hgt, hc, hg, hm, hr, eq_self, if_true]
      refine ⟨(1, y.2, [] ++ [y.1]), ⟨1, rfl, hlt, rfl, hp, hR3'⟩, by dsimp only; omega, ?_⟩
      simp (disch := omega) only [go_sem, go_cond, zA, zB, zC, zD, zE, zF, zG, zH, ↓reduceIte, zI, reduceCtorEq, zJ, zK, h10, if_false, hs, List.nil_append]
    · have hi0 : (i = 0) = False := by simp; omega
      have hi1 : (i + 1 = 0) = False := by simp; omega
      simp (disch := omega) only [go_sem, go_cond, zA, zB, zC, zD, zE, zF, zG, zH, ↓reduceIte, zI, reduceCtorEq, zJ, zK, hni, hgt, hc, hg, hm, hr, hi0, if_false]
      refine ⟨(i + 1, y.2, acc ++ [y.1]), ⟨k + 1, by dsimp only; omega, hlt, by simp [hR1], hp, hR3'⟩, by dsimp only; omega, ?_⟩
      simp (disch := omega) only [go_sem, go_cond, zA, zB, zC, zD, zE, zF, zG, zH, ↓reduceIte, zI, reduceCtorEq, zJ, zK, hi1, if_false, hs]
  · obtain rfl : k = x.parts.length := by omega
    obtain ⟨hR1, hR2, hR3⟩ := hR
    rw [List.drop_eq_nil_of_le hge, stepL, List.append_nil] at hR3
    rw [hR3]
    rcases Nat.eq_zero_or_pos x.parts.length with h0 | h0
    · have hx : x.parts = [] := List.eq_nil_of_length_eq_zero h0
      obtain rfl : i = 0 := by omega
      have ha0 : acc = [] := List.eq_nil_of_length_eq_zero (by rw [hR1]; exact h0)
      subst ha0
      simp (disch := omega) only [go_sem, go_cond, zA, zB, zC, zD, zE, zF, zG, zH, ↓reduceIte, zI, reduceCtorEq, zJ, zK, hni, hx, eq_self, if_true, List.map_nil, List.length_nil]
    · have hi0 : (i = 0) = False := by simp; omega
      simp (disch := omega) only [go_sem, go_cond, zA, zB, zC, zD, zE, zF, zG, zH, ↓reduceIte, zI, reduceCtorEq, zJ, zK, hni, hi0, if_false]
set_option maxHeartbeats 8000000 in
theorem mapPartsB_of (fid : Nat) (e : SEnv) (tk : List ByteArray) (f : Fm → Int → Fm × Int) (P : Nat → Int → Prop) (x : Fm) (c0 : Int) (hP : P 0 c0) (hl : x.parts.length ≤ 1099511627776) (hat : x.atom.nodes ≤ 1099511627776) (hg : goFn Tryz.prog fid = true) (hm : (modes fid).hand = []) (hr : ∀ r, lateF (modes fid).res r = r)
    (hE : ∀ (k : Nat) (h : k < x.parts.length) (c : Int), P k c → E fid [x.parts[k].sv, .ptr 0 0, .ptr 1 0] [.box 76 [.ptr 2 0], .box 80 [.ref 3], .box 78 [.ref 4, .int .i64 c], .mp true (senvM e), .row 9 1 (tk.map fun s => [OT.str s])] = some (.agg [.int .i64 (f x.parts[k] c).1.op, .str (f x.parts[k] c).1.atom.name, .ref 5, .str (f x.parts[k] c).1.var, .ref 6], [.box 76 [.ptr 2 0], .box 80 [.ref 3], .box 78 [.ref 4, .int .i64 (f x.parts[k] c).2], .mp true (senvM e), .row 9 1 (tk.map fun s => [OT.str s]), .row 31 2 ((f x.parts[k] c).1.atom.args.map Tm.o), .row 34 5 ((f x.parts[k] c).1.parts.map Fm.o)]) ∧ P (k + 1) (f x.parts[k] c).2) :
    E 74 [x.sv, .fn fid [.ptr 0 0, .ptr 1 0]] [.box 76 [.ptr 2 0], .box 80 [.ref 3], .box 78 [.ref 4, .int .i64 c0], .mp true (senvM e), .row 9 1 (tk.map fun s => [OT.str s])] = some (.agg [.int .i64 x.op, .str x.atom.name, .ref 5, .str x.var, .ref 6], [.box 76 [.ptr 2 0], .box 80 [.ref 3], .box 78 [.ref 4, .int .i64 (stepL f x.parts c0).2], .mp true (senvM e), .row 9 1 (tk.map fun s => [OT.str s]), .row 31 2 (x.atom.args.map Tm.o), .row 34 5 ((stepL f x.parts c0).1.map Fm.o)]) := by
  have hct := copyTerm_E x.atom hat
  have h10 : ((1 : Int) = 0) = False := by simp
  refine E_walk k_impl_mapParts m_impl_mapParts (of_decide_eq_true rfl) ?_
  simp (disch := omega) only [c_impl_mapParts, go_sem, go_cond, zA, zB, zC, zD, zE, zF, zG, zH, ↓reduceIte, zI, reduceCtorEq, zJ, zK, hct, m_impl_copyTerm, Tm.osv, Tm.obs]
  refine go_loop (α := Int × (Int) × (List Fm)) (fun a => ⟨slots 33 0 [(1, .fn fid [.ptr 0 0, .ptr 1 0]), (4, .ptr 5 0), (5, .ptr 6 0), (17, .arr (x.parts.map Fm.d)), (18, .int .i64 x.parts.length), (19, .int .i64 (a.1))], (if (a.1) = 0 then [.box 76 [.ptr 2 0], .box 80 [.ref 3], .box 78 [.ref 4, .int .i64 (a.2.1)], .mp true (senvM e), .row 9 1 (tk.map fun s => [OT.str s]), .box 34 [.int .i64 0, .str ⟨#[]⟩, .nil, .str ⟨#[]⟩, .nil], .box 34 [.int .i64 x.op, .str x.atom.name, .ref 7, .str x.var, .nil], .row 31 2 (x.atom.args.map Tm.o)] else [.box 76 [.ptr 2 0], .box 80 [.ref 3], .box 78 [.ref 4, .int .i64 (a.2.1)], .mp true (senvM e), .row 9 1 (tk.map fun s => [OT.str s]), .box 34 [.int .i64 0, .str ⟨#[]⟩, .nil, .str ⟨#[]⟩, .nil], .box 34 [.int .i64 x.op, .str x.atom.name, .ref 7, .str x.var, .ref 8], .row 31 2 (x.atom.args.map Tm.o), .row 34 5 ((a.2.2).map Fm.o)])⟩) (fun a => ∃ k : Nat, a.1 = k ∧ k ≤ (x.parts).length ∧ (a.2.2).length = k ∧ P k (a.2.1) ∧ stepL f x.parts c0 = ((a.2.2) ++ (stepL f (x.parts.drop k) (a.2.1)).1, (stepL f (x.parts.drop k) (a.2.1)).2)) (fun a => (x.parts).length - (a.1).toNat) (0, c0, []) ⟨0, rfl, Nat.zero_le _, rfl, hP, by rw [List.drop_zero]; rfl⟩ (by simp (disch := omega) only [go_sem, go_cond, zA, zB, zC, zD, zE, zF, zG, zH, ↓reduceIte, zI, reduceCtorEq, zJ, zK, eq_self, if_true]) ?_
  rintro ⟨i, c, acc⟩ ⟨k, hi, hk, hR⟩
  dsimp only at hi hR
  have hni : i.toNat = k := by omega
  have hni1 : (i + 1).toNat = k + 1 := by omega
  rcases Nat.lt_or_ge k (x.parts).length with hlt | hge
  · have hgt := get_at Fm.d hlt
    rw [Fm.d_eq] at hgt
    obtain ⟨hR1, hR2, hR3⟩ := hR
    obtain ⟨hc, hp⟩ := hE k hlt c hR2
    rw [List.drop_eq_getElem_cons hlt, stepL] at hR3
    obtain ⟨y, hy⟩ : ∃ y, y = f x.parts[k] c := ⟨_, rfl⟩
    rw [← hy] at hc hp hR3
    have hs : acc.map Fm.o ++ [[OT.int y.1.op, OT.str y.1.atom.name, OT.ow (y.1.atom.args.map Tm.o), OT.str y.1.var, OT.ow (y.1.parts.map Fm.o)]] = (acc ++ [y.1]).map Fm.o := by rw [List.map_append, List.map_cons, List.map_nil, Fm.o_eq]
    have hR3' : stepL f x.parts c0 = ((acc ++ [y.1]) ++ (stepL f (x.parts.drop (k + 1)) y.2).1, (stepL f (x.parts.drop (k + 1)) y.2).2) := by rw [hR3, List.append_assoc]; rfl
    rcases Nat.eq_zero_or_pos k with h0 | h0
    · subst h0
      obtain rfl : i = 0 := hi
      have ha0 : acc = [] := List.eq_nil_of_length_eq_zero hR1
      subst ha0
      rw [List.map_nil, List.nil_append] at hs
      simp (disch := omega) only [go_sem, go_cond, zA, zB, zC, zD, zE, zF, zG, zH, ↓reduceIte, zI, reduceCtorEq, zJ, zK, hni, hgt, hc, hg, hm, hr, eq_self, if_true]
      refine ⟨(1, y.2, [] ++ [y.1]), ⟨1, rfl, hlt, rfl, hp, hR3'⟩, by dsimp only; omega, ?_⟩
      simp (disch := omega) only [go_sem, go_cond, zA, zB, zC, zD, zE, zF, zG, zH, ↓reduceIte, zI, reduceCtorEq, zJ, zK, h10, if_false, hs, List.nil_append]
    · have hi0 : (i = 0) = False := by simp; omega
      have hi1 : (i + 1 = 0) = False := by simp; omega
      simp (disch := omega) only [go_sem, go_cond, zA, zB, zC, zD, zE, zF, zG, zH, ↓reduceIte, zI, reduceCtorEq, zJ, zK, hni, hgt, hc, hg, hm, hr, hi0, if_false]
      refine ⟨(i + 1, y.2, acc ++ [y.1]), ⟨k + 1, by dsimp only; omega, hlt, by simp [hR1], hp, hR3'⟩, by dsimp only; omega, ?_⟩
      simp (disch := omega) only [go_sem, go_cond, zA, zB, zC, zD, zE, zF, zG, zH, ↓reduceIte, zI, reduceCtorEq, zJ, zK, hi1, if_false, hs]
  · obtain rfl : k = x.parts.length := by omega
    obtain ⟨hR1, hR2, hR3⟩ := hR
    rw [List.drop_eq_nil_of_le hge, stepL, List.append_nil] at hR3
    rw [hR3]
    rcases Nat.eq_zero_or_pos x.parts.length with h0 | h0
    · have hx : x.parts = [] := List.eq_nil_of_length_eq_zero h0
      obtain rfl : i = 0 := by omega
      have ha0 : acc = [] := List.eq_nil_of_length_eq_zero (by rw [hR1]; exact h0)
      subst ha0
      simp (disch := omega) only [go_sem, go_cond, zA, zB, zC, zD, zE, zF, zG, zH, ↓reduceIte, zI, reduceCtorEq, zJ, zK, hni, hx, eq_self, if_true, List.map_nil, List.length_nil]
    · have hi0 : (i = 0) = False := by simp; omega
      simp (disch := omega) only [go_sem, go_cond, zA, zB, zC, zD, zE, zF, zG, zH, ↓reduceIte, zI, reduceCtorEq, zJ, zK, hni, hi0, if_false]
abbrev SepC (tk : List ByteArray) (x : Fm) : Prop := ∀ (e : SEnv) (c : Int), FinS e → 0 ≤ c → c + x.nodes * (tk.length + 2 : Nat) ≤ 1099511000000 → E 51 [.ptr 0 0, x.sv, .mp true (senvM e)] [.box 78 [.ref 1, .int .i64 c], .row 9 1 (tk.map fun s => [OT.str s])] = some (.agg [.int .i64 (x.sep tk e c).1.op, .str (x.sep tk e c).1.atom.name, .ref 2, .str (x.sep tk e c).1.var, .ref 3], [.box 78 [.ref 1, .int .i64 (x.sep tk e c).2], .row 9 1 (tk.map fun s => [OT.str s]), .row 31 2 ((x.sep tk e c).1.atom.args.map Tm.o), .row 34 5 ((x.sep tk e c).1.parts.map Fm.o)])
theorem sepA_E (tk : List ByteArray) (x : Fm) (e : SEnv) (c : Int) (h : E 51 [.ptr 0 0, x.sv, .mp true (senvM e)] [.box 78 [.ref 1, .int .i64 c], .row 9 1 (tk.map fun s => [OT.str s])] = some (.agg [.int .i64 (x.sep tk e c).1.op, .str (x.sep tk e c).1.atom.name, .ref 2, .str (x.sep tk e c).1.var, .ref 3], [.box 78 [.ref 1, .int .i64 (x.sep tk e c).2], .row 9 1 (tk.map fun s => [OT.str s]), .row 31 2 ((x.sep tk e c).1.atom.args.map Tm.o), .row 34 5 ((x.sep tk e c).1.parts.map Fm.o)])) : E 88 [x.sv, .ptr 0 0, .ptr 1 0] [.box 76 [.ptr 2 0], .box 80 [.mp true (senvM e)], .box 78 [.ref 3, .int .i64 c], .row 9 1 (tk.map fun s => [OT.str s])] = some (.agg [.int .i64 (x.sep tk e c).1.op, .str (x.sep tk e c).1.atom.name, .ref 4, .str (x.sep tk e c).1.var, .ref 5], [.box 76 [.ptr 2 0], .box 80 [.mp true (senvM e)], .box 78 [.ref 3, .int .i64 (x.sep tk e c).2], .row 9 1 (tk.map fun s => [OT.str s]), .row 31 2 ((x.sep tk e c).1.atom.args.map Tm.o), .row 34 5 ((x.sep tk e c).1.parts.map Fm.o)]) := by
  obtain ⟨r, hr⟩ : ∃ r, r = x.sep tk e c := ⟨_, rfl⟩
  rw [← hr] at h ⊢
  refine E_walk k_impl_separator_separate_1 m_impl_separator_separate_1 (of_decide_eq_true rfl) ?_
  simp (disch := omega) only [c_impl_separator_separate_1, go_sem, go_cond, zA, zB, zC, zD, zE, zF, zG, zH, ↓reduceIte, zI, reduceCtorEq, zJ, zK, h, m_impl_separator_separate]
theorem sepB_E (tk : List ByteArray) (x : Fm) (e : SEnv) (c : Int) (h : E 51 [.ptr 0 0, x.sv, .mp true (senvM e)] [.box 78 [.ref 1, .int .i64 c], .row 9 1 (tk.map fun s => [OT.str s])] = some (.agg [.int .i64 (x.sep tk e c).1.op, .str (x.sep tk e c).1.atom.name, .ref 2, .str (x.sep tk e c).1.var, .ref 3], [.box 78 [.ref 1, .int .i64 (x.sep tk e c).2], .row 9 1 (tk.map fun s => [OT.str s]), .row 31 2 ((x.sep tk e c).1.atom.args.map Tm.o), .row 34 5 ((x.sep tk e c).1.parts.map Fm.o)])) : E 88 [x.sv, .ptr 0 0, .ptr 1 0] [.box 76 [.ptr 2 0], .box 80 [.ref 3], .box 78 [.ref 4, .int .i64 c], .mp true (senvM e), .row 9 1 (tk.map fun s => [OT.str s])] = some (.agg [.int .i64 (x.sep tk e c).1.op, .str (x.sep tk e c).1.atom.name, .ref 5, .str (x.sep tk e c).1.var, .ref 6], [.box 76 [.ptr 2 0], .box 80 [.ref 3], .box 78 [.ref 4, .int .i64 (x.sep tk e c).2], .mp true (senvM e), .row 9 1 (tk.map fun s => [OT.str s]), .row 31 2 ((x.sep tk e c).1.atom.args.map Tm.o), .row 34 5 ((x.sep tk e c).1.parts.map Fm.o)]) := by
  obtain ⟨r, hr⟩ : ∃ r, r = x.sep tk e c := ⟨_, rfl⟩
  rw [← hr] at h ⊢
  refine E_walk k_impl_separator_separate_1 m_impl_separator_separate_1 (of_decide_eq_true rfl) ?_
  simp (disch := omega) only [c_impl_separator_separate_1, go_sem, go_cond, zA, zB, zC, zD, zE, zF, zG, zH, ↓reduceIte, zI, reduceCtorEq, zJ, zK, h, m_impl_separator_separate]
def c_impl_ifFormula : SC := (.seq (.reg [⟨some 1, none, .boxv 34 5 (.t 0)⟩, ⟨(some 2), none, (.alloc 34 [(.int .i64 0), (.str ⟨#[]⟩), .nil, (.str ⟨#[]⟩), .nil])⟩, ⟨some 3, none, .mv (.c (.bool false))⟩]) (.seq (.seq (.reg [⟨some 4, none, .load true 5 (.t 1)⟩, ⟨some 5, none, .call 24 [(.t 4)]⟩, ⟨some 6, none, .un .not (.t 5)⟩]) (.cond (.t 6) (.seq (.reg [⟨(some 7), none, (.build [(.int .i64 0), (.str ⟨#[]⟩), .nil, (.str ⟨#[]⟩), .nil] [])⟩, ⟨none, none, (.store 5 (.t 2) (.t 7))⟩, ⟨some 3, none, .mv (.c (.bool false))⟩]) .ret) .skip)) (.seq (.reg [⟨some 8, none, .load true 5 (.t 1)⟩, ⟨none, none, (.store 5 (.t 2) (.t 8))⟩, ⟨some 3, none, .mv (.c (.bool true))⟩]) .ret)))
theorem k_impl_ifFormula : codeOf Tryz.prog 25 = some ⟨9, c_impl_ifFormula, [(.cell 2 true 5), (.tmp 3)]⟩ := by kernel_rfl
theorem m_impl_ifFormula : modes 25 = ⟨[true], .own [none, none, some (31, 2), none, some (34, 5), none], none, false⟩ := by unfold modes; rfl
theorem ifFormula_yes (y : Fm) (hy : y.tame) (hn : y.nodes ≤ 1099511627776) (hv : y.valid = true) : E 25 [y.osv] y.obs = some (.tup [y.osv, .bool true], y.obs) := by
  have h := isValidFormula_E y hy hn
  rw [hv] at h
  refine E_walk k_impl_ifFormula m_impl_ifFormula (of_decide_eq_true rfl) ?_
  simp (disch := omega) only [c_impl_ifFormula, go_sem, go_cond, zA, zB, zC, zD, zE, zF, zG, zH, ↓reduceIte, zI, reduceCtorEq, zJ, zK, h, m_impl_IsValidFormula, Fm.osv, Fm.obs, Tm.erss, Tm.noss, Fm.erss, Fm.noss]
theorem ifFormula_no (y : Fm) (hy : y.tame) (hn : y.nodes ≤ 1099511627776) (hv : y.valid = false) : E 25 [y.osv] y.obs = some (.tup [.agg [.int .i64 0, .str ⟨#[]⟩, .ref 2, .str ⟨#[]⟩, .ref 3], .bool false], [.row 31 2 (y.atom.args.map Tm.o), .row 34 5 (y.parts.map Fm.o), .row 31 2 [], .row 34 5 []]) := by
  have h := isValidFormula_E y hy hn
  rw [hv] at h
  refine E_walk k_impl_ifFormula m_impl_ifFormula (of_decide_eq_true rfl) ?_
  simp (disch := omega) only [c_impl_ifFormula, go_sem, go_cond, zA, zB, zC, zD, zE, zF, zG, zH, ↓reduceIte, zI, reduceCtorEq, zJ, zK, h, m_impl_IsValidFormula, Fm.osv, Fm.obs, Tm.erss, Tm.noss, Fm.erss, Fm.noss]
def c_impl_separated : SC := (.seq (.reg [⟨some 1, none, .boxv 34 5 (.t 0)⟩, ⟨(some 2), none, (.alloc 34 [(.int .i64 0), (.str ⟨#[]⟩), .nil, (.str ⟨#[]⟩), .nil])⟩]) (.seq (.dreg [[], [0], [1, 0], [2, 1, 0], [], [], [3, 2, 1, 0, 4, 5], [6, 3, 2, 1, 0, 4, 5]] [⟨some 3, none, .load true 5 (.t 1)⟩, ⟨some 4, none, .call 40 [(.t 3)]⟩, ⟨some 5, none, .build [.nil, (.int .i64 0)] [(0, (1, (.t 4)))]⟩, ⟨some 6, none, .boxv 78 2 (.t 5)⟩, ⟨some 7, none, .load true 5 (.t 1)⟩, ⟨some 8, none, .mkmap true none⟩, ⟨some 9, none, .call 51 [(.t 6), (.t 7), (.t 8)]⟩, ⟨none, none, (.store 5 (.t 2) (.t 9))⟩]) .ret))
theorem k_impl_separated : codeOf Tryz.prog 26 = some ⟨10, c_impl_separated, [(.cell 2 true 5)]⟩ := by kernel_rfl
theorem m_impl_separated : modes 26 = ⟨[], .own [none, none, some (31, 2), none, some (34, 5)], none, false⟩ := by unfold modes; rfl
def c_impl_SeparateVariables : SC := (.seq (.reg [⟨some 1, none, .boxv 34 5 (.t 0)⟩, ⟨(some 2), none, (.alloc 34 [(.int .i64 0), (.str ⟨#[]⟩), .nil, (.str ⟨#[]⟩), .nil])⟩, ⟨some 3, none, .mv (.c (.bool false))⟩]) (.seq (.seq (.reg [⟨some 4, none, .load true 5 (.t 1)⟩, ⟨some 5, none, .call 24 [(.t 4)]⟩, ⟨some 6, none, .un .not (.t 5)⟩]) (.cond (.t 6) (.seq (.reg [⟨(some 7), none, (.build [(.int .i64 0), (.str ⟨#[]⟩), .nil, (.str ⟨#[]⟩), .nil] [])⟩, ⟨none, none, (.store 5 (.t 2) (.t 7))⟩, ⟨some 3, none, .mv (.c (.bool false))⟩]) .ret) .skip)) (.seq (.reg [⟨some 8, none, .load true 5 (.t 1)⟩, ⟨some 9, none, .call 26 [(.t 8)]⟩, ⟨some 10, none, .call 25 [(.t 9)]⟩, ⟨some 11, none, .ext (.t 10) 0⟩, ⟨some 12, none, .ext (.t 10) 1⟩, ⟨none, none, (.store 5 (.t 2) (.t 11))⟩, ⟨some 3, none, .mv (.t 12)⟩]) .ret)))
theorem k_impl_SeparateVariables : codeOf Tryz.prog 8 = some ⟨13, c_impl_SeparateVariables, [(.cell 2 true 5), (.tmp 3)]⟩ := by kernel_rfl
theorem m_impl_SeparateVariables : modes 8 = ⟨[], .own [none, none, some (31, 2), none, some (34, 5), none], none, false⟩ := by unfold modes; rfl
set_option maxHeartbeats 16000000 in
theorem separate_of (tk : List ByteArray) (x : Fm) (hx : x.forms = true) (ih : ∀ y ∈ x.parts, SepC tk y) : SepC tk x := by
  intro e c0 hf h0 hc0
  have hfo := Fm.forms_form hx
  have hpl := Fm.length_le x.parts
  have hnq := Fm.nodes_eq x
  have hat := Fm.atom_le hfo
  have hse := Fm.sep_eq tk x e c0
  rw [hnq, Int.natCast_add, Int.add_mul] at hc0
  have hge1 : ((1 : Nat) : Int) * (tk.length + 2 : Nat) = tk.length + 2 := by simp
  rw [hge1] at hc0
  have hgeS : (0 : Int) ≤ (Fm.nodeS x.parts : Int) * (tk.length + 2 : Nat) := Int.mul_nonneg (by omega) (by omega)
  have hS2 : (Fm.nodeS x.parts : Int) ≤ (Fm.nodeS x.parts : Int) * (tk.length + 2 : Nat) := by
    have h := Int.mul_le_mul_of_nonneg_left (show (1 : Int) ≤ ((tk.length + 2 : Nat) : Int) by omega) (show (0 : Int) ≤ (Fm.nodeS x.parts : Int) by omega)
    rw [Int.mul_one] at h; exact h
  have hq0 := isQuantifier_E x.op
  cases ho : dec (x.op = 3) with
  | true =>
    rw [ho, cond_true] at hse
    rw [hse]
    have hrn := renamed_E e x.atom (by omega)
    unfold RnC at hrn
    obtain ⟨z, hz⟩ : ∃ z, z = x.atom.rn e := ⟨_, rfl⟩
    rw [← hz] at hrn ⊢
    have hao := atomOf_E z
    simp only [Tm.osv, Tm.obs] at hrn hao
    show E 51 [.ptr 0 0, x.sv, .mp true (senvM e)] [.box 78 [.ref 1, .int .i64 c0], .row 9 1 (tk.map fun s => [OT.str s])] = some (.agg [.int .i64 3, .str z.name, .ref 2, .str ⟨#[]⟩, .ref 3], [.box 78 [.ref 1, .int .i64 c0], .row 9 1 (tk.map fun s => [OT.str s]), .row 31 2 (z.args.map Tm.o), .row 34 5 []])
    refine E_walk k_impl_separator_separate m_impl_separator_separate (of_decide_eq_true rfl) ?_
    simp (disch := omega) only [c_impl_separator_separate, go_sem, go_cond, zA, zB, zC, zD, zE, zF, zG, zH, ↓reduceIte, zI, reduceCtorEq, zJ, zK, ho, hrn, hao, m_impl_renamed, m_impl_atomOf]
  | false =>
    rw [ho, cond_false] at hse
    have hz : x.atom = Tm.zero := Fm.form_other hfo fun h => by rw [dec_t h] at ho; cases ho
    cases hq : qB x.op with
    | false =>
      rw [hq, cond_false] at hse
      rw [hse, ← hz]
      unfold qB at hq
      rw [hq] at hq0
      have hm := mapPartsA_of 88 e tk (fun y c => Fm.sep tk y e c) (fun k c => 0 ≤ c ∧ c + (Fm.nodeS (x.parts.drop k) : Int) * (tk.length + 2 : Nat) ≤ 1099511000000) x c0 ⟨by omega, by rw [List.drop_zero]; omega⟩ (by omega) (by omega) g_impl_separator_separate_1 (by rw [m_impl_separator_separate_1]) (fun r => by rw [m_impl_separator_separate_1]; rfl) (fun k hk c hp => by
        obtain ⟨p1, p2⟩ := hp
        rw [List.drop_eq_getElem_cons hk, Fm.nodeS, Int.natCast_add, Int.add_mul] at p2
        have hcnt := Fm.sep_count tk x.parts[k] e c p1
        have hge0 : (0 : Int) ≤ (Fm.nodeS (x.parts.drop (k + 1)) : Int) * (tk.length + 2 : Nat) := Int.mul_nonneg (by omega) (by omega)
        exact ⟨sepA_E tk x.parts[k] e c (ih x.parts[k] (List.getElem_mem hk) e c hf p1 (by omega)), by omega, by omega⟩)
      obtain ⟨r, hr⟩ : ∃ r, r = stepL (fun y c => Fm.sep tk y e c) x.parts c0 := ⟨_, rfl⟩
      rw [← hr] at hm ⊢
      show E 51 [.ptr 0 0, x.sv, .mp true (senvM e)] [.box 78 [.ref 1, .int .i64 c0], .row 9 1 (tk.map fun s => [OT.str s])] = some (.agg [.int .i64 x.op, .str x.atom.name, .ref 2, .str ⟨#[]⟩, .ref 3], [.box 78 [.ref 1, .int .i64 r.2], .row 9 1 (tk.map fun s => [OT.str s]), .row 31 2 (x.atom.args.map Tm.o), .row 34 5 (r.1.map Fm.o)])
      refine E_walk k_impl_separator_separate m_impl_separator_separate (of_decide_eq_true rfl) ?_
      simp (disch := omega) only [c_impl_separator_separate, go_sem, go_cond, zA, zB, zC, zD, zE, zF, zG, zH, ↓reduceIte, zI, reduceCtorEq, zJ, zK, ho, hq0, hm, m_impl_mapParts, m_impl_isQuantifier, m_impl_separator_fresh]
    | true =>
      rw [hq, cond_true] at hse
      rw [hse, ← hz]
      unfold qB at hq
      rw [hq] at hq0
      have hfr := fresh_range preV tk c0
      have hnx := freshS_E tk c0 h0 (by omega)
      obtain ⟨cf, hcf⟩ : ∃ cf, cf = fresh preV tk c0 := ⟨_, rfl⟩
      rw [← hcf] at hnx hfr ⊢
      obtain ⟨v, hv⟩ : ∃ v, v = pre preV cf := ⟨_, rfl⟩
      rw [← hv] at hnx ⊢
      have hpm := senvM_put e x.var v
      obtain ⟨e1, he1⟩ : ∃ e1, e1 = putN e x.var v := ⟨_, rfl⟩
      have hf1 : FinS e1 := by rw [he1]; exact hf.put x.var v
      rw [← he1] at hpm ⊢
      have hm := mapPartsB_of 88 e1 tk (fun y c => Fm.sep tk y e1 c) (fun k c => 0 ≤ c ∧ c + (Fm.nodeS (x.parts.drop k) : Int) * (tk.length + 2 : Nat) ≤ 1099511000000) x cf ⟨by omega, by rw [List.drop_zero]; omega⟩ (by omega) (by omega) g_impl_separator_separate_1 (by rw [m_impl_separator_separate_1]) (fun r => by rw [m_impl_separator_separate_1]; rfl) (fun k hk c hp => by
        obtain ⟨p1, p2⟩ := hp
        rw [List.drop_eq_getElem_cons hk, Fm.nodeS, Int.natCast_add, Int.add_mul] at p2
        have hcnt := Fm.sep_count tk x.parts[k] e1 c p1
        have hge0 : (0 : Int) ≤ (Fm.nodeS (x.parts.drop (k + 1)) : Int) * (tk.length + 2 : Nat) := Int.mul_nonneg (by omega) (by omega)
        exact ⟨sepB_E tk x.parts[k] e1 c (ih x.parts[k] (List.getElem_mem hk) e1 c hf1 p1 (by omega)), by omega, by omega⟩)
      obtain ⟨r, hr⟩ : ∃ r, r = stepL (fun y c => Fm.sep tk y e1 c) x.parts cf := ⟨_, rfl⟩
      rw [← hr] at hm ⊢
      show E 51 [.ptr 0 0, x.sv, .mp true (senvM e)] [.box 78 [.ref 1, .int .i64 c0], .row 9 1 (tk.map fun s => [OT.str s])] = some (.agg [.int .i64 x.op, .str x.atom.name, .ref 2, .str v, .ref 3], [.box 78 [.ref 1, .int .i64 r.2], .row 9 1 (tk.map fun s => [OT.str s]), .row 31 2 (x.atom.args.map Tm.o), .row 34 5 (r.1.map Fm.o)])
      refine E_walk k_impl_separator_separate m_impl_separator_separate (of_decide_eq_true rfl) ?_
      simp (disch := omega) only [c_impl_separator_separate, go_sem, go_cond, zA, zB, zC, zD, zE, zF, zG, zH, ↓reduceIte, zI, reduceCtorEq, zJ, zK, ho, hq0, hnx, m_impl_isQuantifier, m_impl_separator_fresh]
      refine go_mloop (senvM e) hf.enum (.exit 0, ⟨slots 47 0 [(3, .ptr 2 0), (4, .ptr 3 0), (5, .ptr 4 0), (6, .ptr 5 0), (7, .str v), (8, .ref 6)], [.box 78 [.ref 1, .int .i64 cf], .row 9 1 (tk.map fun s => [OT.str s]), .box 76 [.ptr 0 0], .box 34 [.int .i64 x.op, .str x.atom.name, .arr (x.atom.args.map Tm.d), .str x.var, .arr (x.parts.map Fm.d)], .box 80 [.mp true (senvM e)], .box 34 [.int .i64 0, .str ⟨#[]⟩, .nil, .str ⟨#[]⟩, .nil], .mp true (senvM e)]⟩) (by simp (disch := omega) only [go_sem, go_cond, zA, zB, zC, zD, zE, zF, zG, zH, ↓reduceIte, zI, reduceCtorEq, zJ, zK, hpm, hm, m_impl_mapParts]) (fun p => ⟨slots 47 0 [(3, .ptr 2 0), (4, .ptr 3 0), (5, .ptr 4 0), (6, .ptr 5 0), (7, .str v), (8, .ref 6), (27, .ptr 7 0)], [.box 78 [.ref 1, .int .i64 cf], .row 9 1 (tk.map fun s => [OT.str s]), .box 76 [.ptr 0 0], .box 34 [.int .i64 x.op, .str x.atom.name, .arr (x.atom.args.map Tm.d), .str x.var, .arr (x.parts.map Fm.d)], .box 80 [.mp true (senvM e)], .box 34 [.int .i64 0, .str ⟨#[]⟩, .nil, .str ⟨#[]⟩, .nil], .mp true (fillM p), .it true (senvM e) (p.map (·.1)).reverse p.getLast?]⟩) 7 true (by simp (disch := omega) only [go_sem, go_cond, zA, zB, zC, zD, zE, zF, zG, zH, ↓reduceIte, zI, reduceCtorEq, zJ, zK]; exact ⟨rfl, rfl⟩) (fun p => by simp (disch := omega) only [go_sem, go_cond, zA, zB, zC, zD, zE, zF, zG, zH, ↓reduceIte, zI, reduceCtorEq, zJ, zK]) (fun p q y _ _ hyq _ => ?_) (fun p hp => ?_)
      · cases q with
        | int i => cases hyq
        | str s =>
          rw [senvM_str] at hyq
          cases hs : e s with
          | none => rw [hs] at hyq; cases hyq
          | some w =>
            rw [hs] at hyq
            obtain rfl := Option.some.inj hyq
            simp (disch := omega) only [go_sem, go_cond, zA, zB, zC, zD, zE, zF, zG, zH, ↓reduceIte, zI, reduceCtorEq, zJ, zK, fillM_snoc, List.getLast?_append, List.map_append, List.reverse_append]
            rfl
      · simp (disch := omega) only [go_sem, go_cond, zA, zB, zC, zD, zE, zF, zG, zH, ↓reduceIte, zI, reduceCtorEq, zJ, zK, fillM_eq hp]
theorem separate_E (tk : List ByteArray) (x : Fm) (hx : x.forms = true) : SepC tk x :=
  separate_of tk x hx fun y hy => separate_E tk y (Fm.forms_part hx hy)
termination_by SizeOf.sizeOf x
decreasing_by exact Fm.lt_of_mem hy
def c_spec_l9Apart : SC := (.seq (.reg [⟨some 1, none, .boxv 34 5 (.t 0)⟩, ⟨(some 2), none, (.alloc 34 [(.int .i64 0), (.str ⟨#[]⟩), .nil, (.str ⟨#[]⟩), .nil])⟩]) (.seq (.dreg [[], [], [1], [2, 1], [3, 2, 1], [], [], [0, 4, 3, 2, 1, 5, 6], [7, 0, 4, 3, 2, 1, 5, 6]] [⟨some 3, none, .load true 5 (.t 1)⟩, ⟨some 4, none, .load true 5 (.t 1)⟩, ⟨some 5, none, .call 47 [(.t 4)]⟩, ⟨(some 6), none, (.build [(.str ⟨#[]⟩), (.int .i64 0), .nil] [(0, (1, (.c (.str ⟨#[86]⟩)))), (2, (1, (.t 5)))])⟩, ⟨some 7, none, .boxv 73 3 (.t 6)⟩, ⟨(some 8), none, (.mkrow 9 1 [(.str ⟨#[]⟩)] 0 [])⟩, ⟨(some 9), none, (.mkrow 9 1 [(.str ⟨#[]⟩)] 0 [])⟩, ⟨some 10, none, .call 46 [(.t 3), (.t 7), (.t 8), (.t 9)]⟩, ⟨none, none, (.store 5 (.t 2) (.t 10))⟩]) .ret))
theorem k_spec_l9Apart : codeOf Tryz.prog 21 = some ⟨11, c_spec_l9Apart, [(.cell 2 true 5)]⟩ := by kernel_rfl
theorem m_spec_l9Apart : modes 21 = ⟨[], .frz, none, false⟩ := by unfold modes; rfl
def c_spec_SeparateVariables : SC := (.seq (.reg [⟨some 1, none, .boxv 34 5 (.t 0)⟩, ⟨(some 2), none, (.alloc 34 [(.int .i64 0), (.str ⟨#[]⟩), .nil, (.str ⟨#[]⟩), .nil])⟩, ⟨some 3, none, .mv (.c (.bool false))⟩]) (.seq (.seq (.reg [⟨some 5, none, .load true 5 (.t 1)⟩, ⟨some 6, none, .call 20 [(.t 5)]⟩, ⟨some 7, none, .un .not (.t 6)⟩]) (.cond (.t 7) (.seq (.reg [⟨(some 8), none, (.build [(.int .i64 0), (.str ⟨#[]⟩), .nil, (.str ⟨#[]⟩), .nil] [])⟩, ⟨none, none, (.store 5 (.t 2) (.t 8))⟩, ⟨some 3, none, .mv (.c (.bool false))⟩]) .ret) .skip)) (.seq (.reg [⟨some 9, none, .load true 5 (.t 1)⟩, ⟨some 10, none, .call 21 [(.t 9)]⟩, ⟨(some 4), none, (.alloc 34 [(.int .i64 0), (.str ⟨#[]⟩), .nil, (.str ⟨#[]⟩), .nil])⟩, ⟨none, none, (.store 5 (.t 4) (.t 10))⟩]) (.seq (.seq (.reg [⟨some 11, none, .load true 5 (.t 4)⟩, ⟨some 12, none, .call 20 [(.t 11)]⟩, ⟨some 13, none, .un .not (.t 12)⟩]) (.cond (.t 13) (.seq (.reg [⟨(some 14), none, (.build [(.int .i64 0), (.str ⟨#[]⟩), .nil, (.str ⟨#[]⟩), .nil] [])⟩, ⟨none, none, (.store 5 (.t 2) (.t 14))⟩, ⟨some 3, none, .mv (.c (.bool false))⟩]) .ret) .skip)) (.seq (.reg [⟨some 15, none, .load true 5 (.t 4)⟩, ⟨none, none, (.store 5 (.t 2) (.t 15))⟩, ⟨some 3, none, .mv (.c (.bool true))⟩]) .ret)))))
theorem k_spec_SeparateVariables : codeOf Tryz.prog 6 = some ⟨16, c_spec_SeparateVariables, [(.cell 2 true 5), (.tmp 3)]⟩ := by kernel_rfl
theorem m_spec_SeparateVariables : modes 6 = ⟨[], .frz, none, false⟩ := by unfold modes; rfl
theorem sep_bound (x : Fm) (hx : x.forms = true) (hn : x.nodes ≤ 40) : x.vn ≤ 1200 ∧ x.free.length ≤ 1200 ∧ (x.nodes : Int) * (x.free.length + 2 : Nat) ≤ 48080 := by
  have h1 := Fm.vn_le x hx
  have h2 := insA_len (x.fv []) []
  have h3 := Fm.fv_len x []
  have h4 : x.free.length ≤ 1200 := by
    simp only [List.length_nil] at h2
    show (insA [] (x.fv [])).length ≤ _
    omega
  refine ⟨by omega, h4, ?_⟩
  have h5 := Nat.mul_le_mul hn (show x.free.length + 2 ≤ 1202 by omega)
  rw [← Int.natCast_mul]
  omega
theorem envL_nil : envL [] [] = fun _ => none := by
  funext s
  rw [envL]
set_option maxHeartbeats 4000000 in
theorem separated_E (x : Fm) (hx : x.forms = true) (hn : x.nodes ≤ 40) : E 26 [x.sv] [] = some ((sepF x).osv, (sepF x).obs) := by
  obtain ⟨b1, b2, b3⟩ := sep_bound x hx hn
  have hfr := free_E x hx (by omega) (by omega)
  have hs := separate_E x.free x hx (fun _ => none) 0 FinS.none (by omega) (by omega)
  rw [senvM_none] at hs
  unfold sepF
  obtain ⟨r, hr⟩ : ∃ r, r = x.sep x.free (fun _ => none) 0 := ⟨_, rfl⟩
  rw [← hr] at hs ⊢
  refine E_walk k_impl_separated m_impl_separated (of_decide_eq_true rfl) ?_
  simp (disch := omega) only [c_impl_separated, go_sem, go_cond, zA, zB, zC, zD, zE, zF, zG, zH, ↓reduceIte, zI, reduceCtorEq, zJ, zK, hfr, hs, m_impl_free, m_impl_separator_separate, Fm.osv, Fm.obs]
set_option maxHeartbeats 4000000 in
theorem separateVariables_E (x : Fm) (hta : x.tame) (hn : x.nodes ≤ 1099511627776) : E 8 [x.sv] [] = some (.tup [(sepTo x).osv, .bool (sepOk x)], (sepTo x).obs) := by
  have h1 := isValidFormula_E x hta hn
  have hz1 : Fm.zero.osv = .agg [.int .i64 0, .str ⟨#[]⟩, .ref 0, .str ⟨#[]⟩, .ref 1] := rfl
  have hz2 : Fm.zero.obs = [.row 31 2 [], .row 34 5 []] := rfl
  unfold sepTo sepOk
  cases hv : x.valid with
  | false =>
    rw [hv] at h1
    rw [Bool.false_and, cond_false, hz1, hz2]
    refine E_walk k_impl_SeparateVariables m_impl_SeparateVariables (of_decide_eq_true rfl) ?_
    simp (disch := omega) only [c_impl_SeparateVariables, go_sem, go_cond, zA, zB, zC, zD, zE, zF, zG, zH, ↓reduceIte, zI, reduceCtorEq, zJ, zK, h1, m_impl_IsValidFormula, m_impl_separated, m_impl_ifFormula, Fm.osv, Fm.obs]
  | true =>
    rw [hv] at h1
    rw [Bool.true_and]
    have hva := hv
    unfold Fm.valid at hva
    rw [Bool.and_eq_true, decide_eq_true_eq] at hva
    obtain ⟨hva1, hva2⟩ := hva
    have hs := separated_E x hva2 hva1
    obtain ⟨hp1, hp2⟩ := Fm.sep_small x.free x hva2 (fun _ => none) 0
    have e0 : (x.sep x.free (fun _ => none) 0).1 = sepF x := rfl
    rw [e0] at hp1 hp2
    generalize sepF x = y at *
    cases hq : y.valid with
    | true =>
      have hi := ifFormula_yes y hp1 (by omega) hq
      rw [cond_true]
      refine E_walk k_impl_SeparateVariables m_impl_SeparateVariables (of_decide_eq_true rfl) ?_
      simp (disch := omega) only [c_impl_SeparateVariables, go_sem, go_cond, zA, zB, zC, zD, zE, zF, zG, zH, ↓reduceIte, zI, reduceCtorEq, zJ, zK, h1, hs, hi, m_impl_IsValidFormula, m_impl_separated, m_impl_ifFormula, Fm.osv, Fm.obs]
    | false =>
      have hi := ifFormula_no y hp1 (by omega) hq
      rw [cond_false, hz1, hz2]
      refine E_walk k_impl_SeparateVariables m_impl_SeparateVariables (of_decide_eq_true rfl) ?_
      simp (disch := omega) only [c_impl_SeparateVariables, go_sem, go_cond, zA, zB, zC, zD, zE, zF, zG, zH, ↓reduceIte, zI, reduceCtorEq, zJ, zK, h1, hs, hi, m_impl_IsValidFormula, m_impl_separated, m_impl_ifFormula, Fm.osv, Fm.obs]
set_option maxHeartbeats 4000000 in
theorem l9Apart_E (x : Fm) (hx : x.forms = true) (hn : x.nodes ≤ 40) : E 21 [x.sv] [] = some ((sepF x).sv, []) := by
  obtain ⟨b1, b2, b3⟩ := sep_bound x hx hn
  have hfr := l8Free_E x hx (by omega) (by omega)
  have hs := l9Separate_E x.free x hx [] [] rfl (by simp only [List.length_nil]; omega) (by rw [envL_nil]; exact OnV.none) 0 (by omega) (by omega)
  rw [envL_nil] at hs
  unfold preV at hs
  rw [List.map_nil] at hs
  unfold sepF
  obtain ⟨r, hr⟩ : ∃ r, r = x.sep x.free (fun _ => none) 0 := ⟨_, rfl⟩
  rw [← hr] at hs ⊢
  refine E_walk k_spec_l9Apart m_spec_l9Apart (of_decide_eq_true rfl) ?_
  simp (disch := omega) only [c_spec_l9Apart, go_sem, go_cond, zA, zB, zC, zD, zE, zF, zG, zH, ↓reduceIte, zI, reduceCtorEq, zJ, zK, hfr, hs, m_spec_l8Free, m_spec_l9Separate]
set_option maxHeartbeats 4000000 in
theorem l9SeparateVariables_E (x : Fm) (hta : x.tame) (hn : x.nodes ≤ 1099511627776) : E 6 [x.sv] [] = some (.tup [(sepTo x).sv, .bool (sepOk x)], []) := by
  have h1 := l8Good_E x hta hn
  have hz1 : Fm.zero.sv = .agg [.int .i64 0, .str ⟨#[]⟩, .arr [], .str ⟨#[]⟩, .arr []] := rfl
  unfold sepTo sepOk
  cases hv : x.valid with
  | false =>
    rw [hv] at h1
    rw [Bool.false_and, cond_false, hz1]
    refine E_walk k_spec_SeparateVariables m_spec_SeparateVariables (of_decide_eq_true rfl) ?_
    simp (disch := omega) only [c_spec_SeparateVariables, go_sem, go_cond, zA, zB, zC, zD, zE, zF, zG, zH, ↓reduceIte, zI, reduceCtorEq, zJ, zK, h1, m_spec_l8Good, m_spec_l9Apart]
  | true =>
    rw [hv] at h1
    rw [Bool.true_and]
    have hva := hv
    unfold Fm.valid at hva
    rw [Bool.and_eq_true, decide_eq_true_eq] at hva
    obtain ⟨hva1, hva2⟩ := hva
    have hs := l9Apart_E x hva2 hva1
    obtain ⟨hp1, hp2⟩ := Fm.sep_small x.free x hva2 (fun _ => none) 0
    have e0 : (x.sep x.free (fun _ => none) 0).1 = sepF x := rfl
    rw [e0] at hp1 hp2
    generalize sepF x = y at *
    have hg := l8Good_E y hp1 (by omega)
    cases hq : y.valid with
    | true =>
      rw [hq] at hg
      rw [cond_true]
      refine E_walk k_spec_SeparateVariables m_spec_SeparateVariables (of_decide_eq_true rfl) ?_
      simp (disch := omega) only [c_spec_SeparateVariables, go_sem, go_cond, zA, zB, zC, zD, zE, zF, zG, zH, ↓reduceIte, zI, reduceCtorEq, zJ, zK, h1, hs, hg, m_spec_l8Good, m_spec_l9Apart]
    | false =>
      rw [hq] at hg
      rw [cond_false, hz1]
      refine E_walk k_spec_SeparateVariables m_spec_SeparateVariables (of_decide_eq_true rfl) ?_
      simp (disch := omega) only [c_spec_SeparateVariables, go_sem, go_cond, zA, zB, zC, zD, zE, zF, zG, zH, ↓reduceIte, zI, reduceCtorEq, zJ, zK, h1, hs, hg, m_spec_l8Good, m_spec_l9Apart]
theorem Fm.bulk_tame (x : Fm) (h : x.bulk ≤ 1048576) : x.tame ∧ x.nodes ≤ 1 + x.bulk := by
  have hb := Fm.bulk_eq x
  have ha := Tm.nodes_bulk x.atom
  have key : ∀ xs : List Fm, (∀ y ∈ xs, y.bulk ≤ 1048576 → y.tame ∧ y.nodes ≤ 1 + y.bulk) → Fm.sumB xs ≤ 1048576 → Fm.tameS xs ∧ Fm.nodeS xs ≤ xs.length + Fm.sumB xs := by
    intro xs
    induction xs with
    | nil => intro _ _; rw [Fm.tameS, Fm.nodeS]; exact ⟨trivial, by simp⟩
    | cons y ys ih =>
      intro hh hs
      rw [Fm.sumB] at hs
      have h1 := hh y (by simp) (by omega)
      have h2 := ih (fun z hz => hh z (by simp [hz])) (by omega)
      rw [Fm.tameS, Fm.nodeS, Fm.sumB, List.length_cons]
      exact ⟨⟨h1.1, h2.1⟩, by omega⟩
  have hk := key x.parts (fun y hy hby => Fm.bulk_tame y hby) (by omega)
  rw [Fm.tame_eq, Fm.nodes_eq]
  exact ⟨⟨by omega, hk.1⟩, by omega⟩
termination_by SizeOf.sizeOf x
decreasing_by exact Fm.lt_of_mem hy
theorem Tm.atom_bulk {x : Tm} (h : x.atom = true) : x.bulk ≤ 300 := by
  have hn := Tm.atom_nodes h
  have h1 := Tm.sumB_nodes x.args fun y hy => Tm.names_bulk y ((Tm.atom_args h).2 y hy)
  have h2 : x.name.size ≤ 6 := by
    unfold Tm.atom at h
    split at h
    · rename_i he
      unfold Tm.eqn at he
      rw [dec_iff.1 he]; decide
    · rw [Bool.and_eq_true] at h; exact symB_size h.1
  rw [Tm.nodes_eq] at hn
  rw [Tm.bulk_eq]
  omega
theorem Fm.forms_bulk (x : Fm) (h : x.forms = true) : x.bulk + 1 ≤ 320 * x.nodes := by
  have hf := Fm.forms_form h
  have key : ∀ xs : List Fm, (∀ y ∈ xs, y.bulk + 1 ≤ 320 * y.nodes) → xs.length + Fm.sumB xs ≤ 320 * Fm.nodeS xs := by
    intro xs
    induction xs with
    | nil => intro _; simp [Fm.sumB]
    | cons y ys ih =>
      intro hh
      have h1 := hh y (by simp)
      have h2 := ih fun z hz => hh z (by simp [hz])
      rw [Fm.nodeS, Fm.sumB, List.length_cons]; omega
  have hk := key x.parts fun y hy => Fm.forms_bulk y (Fm.forms_part h hy)
  have ha : x.atom.bulk ≤ 300 := by
    by_cases ho : x.op = 3
    · exact Tm.atom_bulk (Fm.form_atom hf ho).2.1
    · rw [Fm.form_other hf ho, Tm.bulk_eq]
      show 0 + _ ≤ _
      simp [Tm.args, Tm.sumB]
  have hv : x.var.size ≤ 6 := by
    by_cases hq : qB x.op = true
    · exact varB_size (Fm.form_quant hf hq).1
    · have hq2 : qB x.op = false := by simpa using hq
      have e : x.var = ⟨#[]⟩ := by
        unfold qB at hq2
        rw [Bool.or_eq_false_iff] at hq2
        have o8 := dec_not.1 hq2.1
        have o9 := dec_not.1 hq2.2
        unfold Fm.form at hf
        split at hf
        · rw [Bool.and_eq_true] at hf; exact dec_iff.1 hf.2
        · split at hf
          · rw [Bool.and_eq_true] at hf; exact dec_iff.1 hf.2
          · split at hf
            · rw [Bool.and_eq_true] at hf; exact dec_iff.1 hf.2
            · split at hf
              · rw [Bool.and_eq_true] at hf; exact dec_iff.1 hf.2
              · rw [if_neg (by omega)] at hf; cases hf
      rw [e]
      decide
  rw [Fm.bulk_eq, Fm.nodes_eq]
  omega
termination_by SizeOf.sizeOf x
decreasing_by exact Fm.lt_of_mem hy
def St.wtS (xs : List ByteArray) : Nat := xs.length
noncomputable def St.mkS : List ByteArray → Int → List ByteArray × Int
  | [], k => ([], k)
  | _ :: xs, k => (markT k :: (St.mkS xs (k + 1)).1, (St.mkS xs (k + 1)).2)
theorem St.mkS_end : ∀ (xs : List ByteArray) (k : Int), (St.mkS xs k).2 = k + St.wtS xs
  | [], k => by simp [St.mkS, St.wtS]
  | x :: xs, k => by
    have h := St.mkS_end xs (k + 1)
    unfold St.wtS at h ⊢
    rw [St.mkS]
    simp only [List.length_cons]
    omega
theorem St.mkS_len : ∀ (xs : List ByteArray) (k : Int), (St.mkS xs k).1.length = xs.length
  | [], k => by rw [St.mkS]
  | x :: xs, k => by rw [St.mkS]; simp only [List.length_cons]; rw [St.mkS_len xs]
theorem St.wtS_bulk (xs : List ByteArray) : St.wtS xs ≤ 5 * (xs.length + strB xs) := by
  unfold St.wtS
  omega
mutual
def Tm.wt : Tm → Nat
  | .mk name args => 1 + Tm.wtS args
def Tm.wtS : List Tm → Nat
  | [] => 0
  | x :: xs => Tm.wt x + Tm.wtS xs
end
theorem Tm.wt_eq (x : Tm) : x.wt = 1 + Tm.wtS x.args := by
  obtain ⟨name, args⟩ := x
  rw [Tm.wt]; rfl
mutual
noncomputable def Tm.mk1 : Tm → Int → Tm × Int
  | .mk name args, k => ((Tm.mk (markT k) ((Tm.mkS args (k + 1)).1)), (Tm.mkS args (k + 1)).2)
noncomputable def Tm.mkS : List Tm → Int → List Tm × Int
  | [], k => ([], k)
  | x :: xs, k => ((Tm.mk1 x k).1 :: (Tm.mkS xs (Tm.mk1 x k).2).1, (Tm.mkS xs (Tm.mk1 x k).2).2)
end
theorem Tm.mk1_eq (x : Tm) (k : Int) : x.mk1 k = ((Tm.mk (markT k) ((Tm.mkS x.args (k + 1)).1)), (Tm.mkS x.args (k + 1)).2) := by
  obtain ⟨name, args⟩ := x
  rw [Tm.mk1]; rfl
theorem Tm.mk1_d (x : Tm) (k : Int) : Tm.d (x.mk1 k).1 = [.str (markT k), .arr ((Tm.mkS x.args (k + 1)).1.map Tm.d)] := by
  rw [Tm.mk1_eq, Tm.d_eq]
  try rfl
theorem Tm.mk1_o (x : Tm) (k : Int) : Tm.o (x.mk1 k).1 = [.str (markT k), .ow ((Tm.mkS x.args (k + 1)).1.map Tm.o)] := by
  rw [Tm.mk1_eq, Tm.o_eq]
  try rfl
theorem Tm.mkS_end_of : ∀ (xs : List Tm) (k : Int), (∀ x ∈ xs, ∀ k, (x.mk1 k).2 = k + x.wt) → (Tm.mkS xs k).2 = k + Tm.wtS xs
  | [], k, _ => by simp [Tm.mkS, Tm.wtS]
  | x :: xs, k, h => by
    rw [Tm.mkS, Tm.wtS]
    have h1 := h x (by simp) k
    have h2 := Tm.mkS_end_of xs (x.mk1 k).2 fun y hy => h y (by simp [hy])
    dsimp only
    omega
theorem Tm.mk1_end (x : Tm) (k : Int) : (x.mk1 k).2 = k + x.wt := by
  rw [Tm.mk1_eq, Tm.wt_eq]
  have h := fun k => Tm.mkS_end_of x.args k fun y hy k => Tm.mk1_end y k
  simp only [h]
  omega
termination_by SizeOf.sizeOf x
decreasing_by exact Tm.lt_of_mem hy
theorem Tm.mkS_end (xs : List Tm) (k : Int) : (Tm.mkS xs k).2 = k + Tm.wtS xs := Tm.mkS_end_of xs k fun x _ k => Tm.mk1_end x k
theorem Tm.wtS_of : ∀ xs : List Tm, (∀ x ∈ xs, x.wt ≤ 5 * (1 + x.bulk)) → Tm.wtS xs ≤ 5 * (xs.length + Tm.sumB xs)
  | [], _ => by simp [Tm.wtS]
  | x :: xs, h => by
    have h1 := h x (by simp)
    have h2 := Tm.wtS_of xs fun y hy => h y (by simp [hy])
    rw [Tm.wtS, Tm.sumB]; simp only [List.length_cons]; omega
theorem Tm.wt_bulk (x : Tm) : x.wt ≤ 5 * (1 + x.bulk) := by
  rw [Tm.wt_eq, Tm.bulk_eq]
  have h := Tm.wtS_of x.args fun y hy => Tm.wt_bulk y
  omega
termination_by SizeOf.sizeOf x
decreasing_by exact Tm.lt_of_mem hy
theorem Tm.wtS_bulk (xs : List Tm) : Tm.wtS xs ≤ 5 * (xs.length + Tm.sumB xs) := Tm.wtS_of xs fun x _ => Tm.wt_bulk x
theorem Tm.length_wt : ∀ xs : List Tm, xs.length ≤ Tm.wtS xs
  | [] => Nat.le_refl _
  | x :: xs => by
    have := Tm.length_wt xs
    have := Tm.wt_eq x
    rw [Tm.wtS]; simp only [List.length_cons]; omega
def c_laws_markTermS : SC := (.seq (.reg [⟨some 4, none, .mv (.c (.int .i64 0))⟩]) (.seq (.seq (.reg [⟨some 5, none, .mv (.c (.int .i64 0))⟩]) (.block 0 (.loop [1, 1, 0, 0, 0, 1, 0, 0, 0, 0, 0, 0, 0, 0, 0, 0, 0, 0, 0, 0, 0, 0, 0, 0, 0, 0, 0, 0] (.seq (.seq (.reg [⟨some 6, none, .mv (.t 5)⟩, ⟨some 7, none, .mv (.t 0)⟩, ⟨some 8, none, .len false (.t 7)⟩, ⟨some 9, none, .bin .lss false (.t 6) (.t 8)⟩]) (.cond (.t 9) .skip (.exit 0))) (.seq (.block 1 (.seq (.reg [⟨some 12, none, .mv (.t 0)⟩, ⟨some 13, none, .mv (.t 5)⟩, ⟨some 14, none, .mv (.t 1)⟩, ⟨some 15, none, .call 42 [(.t 14)]⟩, ⟨some 16, none, .iaddr 2 (.t 12) (.t 13)⟩, ⟨some 17, none, .faddr 0 (.t 16)⟩, ⟨none, none, (.store 1 (.t 17) (.t 15))⟩]) (.seq (.reg [⟨some 18, none, .mv (.t 1)⟩, ⟨some 19, none, .bin .add false (.t 18) (.c (.int .i64 1))⟩, ⟨some 1, none, .mv (.t 19)⟩]) (.reg [⟨some 20, none, .mv (.t 0)⟩, ⟨some 21, none, .mv (.t 5)⟩, ⟨some 22, none, .iaddr 2 (.t 20) (.t 21)⟩, ⟨some 23, none, .faddr 1 (.t 22)⟩, ⟨some 24, none, .load false 1 (.t 23)⟩, ⟨some 25, none, .mv (.t 1)⟩, ⟨some 26, none, .call 53 [(.t 24), (.t 25)]⟩, ⟨some 1, none, .mv (.t 26)⟩])))) (.reg [⟨some 10, none, .mv (.t 5)⟩, ⟨some 11, none, .bin .add false (.t 10) (.c (.int .i64 1))⟩, ⟨some 5, none, .mv (.t 11)⟩])))))) (.seq (.reg [⟨some 27, none, .mv (.t 1)⟩, ⟨some 4, none, .mv (.t 27)⟩]) .ret)))
theorem k_laws_markTermS : codeOf Tryz.prog 53 = some ⟨28, c_laws_markTermS, [(.tmp 4)]⟩ := by kernel_rfl
theorem m_laws_markTermS : modes 53 = ⟨[true], .asis, none, true⟩ := by unfold modes; rfl
abbrev MarkTS_Term (xs : List Tm) : Prop := ∀ (k : Int) (ob : List Ob), 1 ≤ k → k + Tm.wtS xs ≤ 1099511627776 → toTree ob = [.tree (xs.map Tm.o) []] → E 53 [.ref 0, .int .i64 k] ob = some (.int .i64 (Tm.mkS xs k).2, [.tree ((Tm.mkS xs k).1.map Tm.o) []])
set_option maxHeartbeats 2000000 in
theorem markTS_Term_of (xs : List Tm) (ih : ∀ x ∈ xs, MarkTS_Term x.args) : MarkTS_Term xs := by
  intro k0 ob h1 h2 hob
  have hlen : ob.length = 1 := by rw [← toTree_len, hob]; rfl
  have hL := Tm.length_wt xs
  refine E_walk k_laws_markTermS m_laws_markTermS (of_decide_eq_true rfl) ?_
  simp (disch := omega) only [c_laws_markTermS, go_sem, go_cond, zA, zB, zC, zD, zE, zF, zG, zH, ↓reduceIte, zI, reduceCtorEq, zJ, zK, hob, hlen]
  refine go_loop (α := Int × (Int) × (List Tm)) (fun a => ⟨slots 28 0 [(0, .ref 0), (1, .int .i64 (a.2.1)), (5, .int .i64 (a.1))], [.tree (((a.2.2) ++ xs.drop (a.1).toNat).map Tm.o) []]⟩) (fun a => ∃ k : Nat, a.1 = k ∧ k ≤ (xs).length ∧ (a.2.2).length = k ∧ 1 ≤ (a.2.1) ∧ (a.2.1) + Tm.wtS (xs.drop k) = k0 + Tm.wtS xs ∧ Tm.mkS xs k0 = ((a.2.2) ++ (Tm.mkS (xs.drop k) (a.2.1)).1, (Tm.mkS (xs.drop k) (a.2.1)).2)) (fun a => (xs).length - (a.1).toNat) (0, k0, []) ⟨0, rfl, Nat.zero_le _, rfl, h1, by rw [List.drop_zero], by simp⟩ (by simp (disch := omega) only [go_sem, go_cond, zA, zB, zC, zD, zE, zF, zG, zH, ↓reduceIte, zI, reduceCtorEq, zJ, zK, Int.toNat_zero]) ?_
  rintro ⟨i, kk, dn⟩ ⟨k, hi, hk, hR⟩
  dsimp only at hi hR
  have hni : i.toNat = k := by omega
  have hni1 : (i + 1).toNat = k + 1 := by omega
  rcases Nat.lt_or_ge k (xs).length with hlt | hge
  · obtain ⟨hd, hk1, hkn, hm⟩ := hR
    have hdr : xs.drop k = xs[k] :: xs.drop (k + 1) := List.drop_eq_getElem_cons hlt
    have hel : (dn ++ xs.drop k).length = xs.length := by simp; omega
    have hg : (List.map Tm.o (dn ++ xs.drop k))[k]? = some [.str xs[k].name, .ow (xs[k].args.map Tm.o)] := by
      rw [← Tm.o_eq, hdr, List.getElem?_map, List.getElem?_append_right (by omega), hd, Nat.sub_self]; rfl
    rw [hdr, Tm.wtS] at hkn
    rw [hdr, Tm.mkS] at hm
    have hn1 := Tm.wt_eq xs[k]
    have e1 := Tm.mkS_end xs[k].args ((kk + 1))
    have t0 := markText_E (k := kk) (by omega) (by omega)
    have c58 := ih xs[k] (List.getElem_mem hlt) ((kk + 1)) [.tree (xs[k].args.map Tm.o) []] (by omega) (by omega) rfl
    have hs := map_set_mid Tm.o dn (xs.drop (k + 1)) xs[k] (xs[k].mk1 kk).1 hd
    rw [Tm.mk1_o, ← hdr] at hs
    have hgs : ∀ a, ((List.map Tm.o (dn ++ xs.drop k)).set k a)[k]? = some a := fun a => List.getElem?_set_self (by rw [List.length_map, hel]; exact hlt)
    have he := Tm.mk1_end xs[k] kk
    have three : ∀ z : Int, dec ((3 : Int) = 0) = false := fun _ => dec_f (by omega)
    simp (disch := omega) only [go_sem, go_cond, zA, zB, zC, zD, zE, zF, zG, zH, ↓reduceIte, zI, reduceCtorEq, zJ, zK, hni, hel, hg, t0, c58, m_laws_markTermS, m_laws_markText, hgs, List.length_set, List.set_set, hs, three 0]
    refine ⟨(i + 1, (xs[k].mk1 kk).2, dn ++ [(xs[k].mk1 kk).1]), ⟨k + 1, by dsimp only; omega, hlt, by dsimp only; simp [hd], by dsimp only; omega, by dsimp only; omega, by rw [hm]; simp⟩, by dsimp only; omega, ?_⟩
    dsimp only
    rw [hni1, Tm.mk1_eq]
    refine ⟨⟨?_, rfl⟩, rfl⟩
    first | rfl | omega
  · obtain ⟨hd, hk1, hkn, hm⟩ := hR
    have hdr : xs.drop k = [] := List.drop_eq_nil_of_le hge
    rw [hdr, Tm.mkS] at hm
    rw [hm]
    simp (disch := omega) only [go_sem, go_cond, zA, zB, zC, zD, zE, zF, zG, zH, ↓reduceIte, zI, reduceCtorEq, zJ, zK, hni, hdr, List.append_nil]
theorem markTS1_Term (x : Tm) : MarkTS_Term x.args := markTS_Term_of x.args fun y hy => markTS1_Term y
termination_by SizeOf.sizeOf x
decreasing_by exact Tm.lt_of_mem hy
theorem markTS_Term (xs : List Tm) : MarkTS_Term xs := markTS_Term_of xs fun y _ => markTS1_Term y
mutual
def Fm.wt : Fm → Nat
  | .mk op atom var parts => 3 + Tm.wtS atom.args + Fm.wtS parts
def Fm.wtS : List Fm → Nat
  | [] => 0
  | x :: xs => Fm.wt x + Fm.wtS xs
end
theorem Fm.wt_eq (x : Fm) : x.wt = 3 + Tm.wtS x.atom.args + Fm.wtS x.parts := by
  obtain ⟨op, atom, var, parts⟩ := x
  rw [Fm.wt]; rfl
mutual
noncomputable def Fm.mk1 : Fm → Int → Fm × Int
  | .mk op atom var parts, k => ((Fm.mk (k) (Tm.mk (markT (k + 1)) ((Tm.mkS atom.args (k + 1 + 1)).1)) (markT (Tm.mkS atom.args (k + 1 + 1)).2) ((Fm.mkS parts ((Tm.mkS atom.args (k + 1 + 1)).2 + 1)).1)), (Fm.mkS parts ((Tm.mkS atom.args (k + 1 + 1)).2 + 1)).2)
noncomputable def Fm.mkS : List Fm → Int → List Fm × Int
  | [], k => ([], k)
  | x :: xs, k => ((Fm.mk1 x k).1 :: (Fm.mkS xs (Fm.mk1 x k).2).1, (Fm.mkS xs (Fm.mk1 x k).2).2)
end
theorem Fm.mk1_eq (x : Fm) (k : Int) : x.mk1 k = ((Fm.mk (k) (Tm.mk (markT (k + 1)) ((Tm.mkS x.atom.args (k + 1 + 1)).1)) (markT (Tm.mkS x.atom.args (k + 1 + 1)).2) ((Fm.mkS x.parts ((Tm.mkS x.atom.args (k + 1 + 1)).2 + 1)).1)), (Fm.mkS x.parts ((Tm.mkS x.atom.args (k + 1 + 1)).2 + 1)).2) := by
  obtain ⟨op, atom, var, parts⟩ := x
  rw [Fm.mk1]; rfl
theorem Fm.mk1_d (x : Fm) (k : Int) : Fm.d (x.mk1 k).1 = [.int k, .str (markT (k + 1)), .arr ((Tm.mkS x.atom.args (k + 1 + 1)).1.map Tm.d), .str (markT (Tm.mkS x.atom.args (k + 1 + 1)).2), .arr ((Fm.mkS x.parts ((Tm.mkS x.atom.args (k + 1 + 1)).2 + 1)).1.map Fm.d)] := by
  rw [Fm.mk1_eq, Fm.d_eq]
  try rfl
theorem Fm.mk1_o (x : Fm) (k : Int) : Fm.o (x.mk1 k).1 = [.int k, .str (markT (k + 1)), .ow ((Tm.mkS x.atom.args (k + 1 + 1)).1.map Tm.o), .str (markT (Tm.mkS x.atom.args (k + 1 + 1)).2), .ow ((Fm.mkS x.parts ((Tm.mkS x.atom.args (k + 1 + 1)).2 + 1)).1.map Fm.o)] := by
  rw [Fm.mk1_eq, Fm.o_eq]
  try rfl
theorem Fm.mkS_end_of : ∀ (xs : List Fm) (k : Int), (∀ x ∈ xs, ∀ k, (x.mk1 k).2 = k + x.wt) → (Fm.mkS xs k).2 = k + Fm.wtS xs
  | [], k, _ => by simp [Fm.mkS, Fm.wtS]
  | x :: xs, k, h => by
    rw [Fm.mkS, Fm.wtS]
    have h1 := h x (by simp) k
    have h2 := Fm.mkS_end_of xs (x.mk1 k).2 fun y hy => h y (by simp [hy])
    dsimp only
    omega
theorem Fm.mk1_end (x : Fm) (k : Int) : (x.mk1 k).2 = k + x.wt := by
  rw [Fm.mk1_eq, Fm.wt_eq]
  have h := fun k => Fm.mkS_end_of x.parts k fun y hy k => Fm.mk1_end y k
  simp only [h, Tm.mkS_end]
  omega
termination_by SizeOf.sizeOf x
decreasing_by exact Fm.lt_of_mem hy
theorem Fm.mkS_end (xs : List Fm) (k : Int) : (Fm.mkS xs k).2 = k + Fm.wtS xs := Fm.mkS_end_of xs k fun x _ k => Fm.mk1_end x k
theorem Fm.wtS_of : ∀ xs : List Fm, (∀ x ∈ xs, x.wt ≤ 5 * (1 + x.bulk)) → Fm.wtS xs ≤ 5 * (xs.length + Fm.sumB xs)
  | [], _ => by simp [Fm.wtS]
  | x :: xs, h => by
    have h1 := h x (by simp)
    have h2 := Fm.wtS_of xs fun y hy => h y (by simp [hy])
    rw [Fm.wtS, Fm.sumB]; simp only [List.length_cons]; omega
theorem Fm.wt_bulk (x : Fm) : x.wt ≤ 5 * (1 + x.bulk) := by
  rw [Fm.wt_eq, Fm.bulk_eq]
  have h := Fm.wtS_of x.parts fun y hy => Fm.wt_bulk y
  have h0 := Tm.wtS_bulk x.atom.args
  have q1 := Tm.bulk_eq x.atom
  omega
termination_by SizeOf.sizeOf x
decreasing_by exact Fm.lt_of_mem hy
theorem Fm.wtS_bulk (xs : List Fm) : Fm.wtS xs ≤ 5 * (xs.length + Fm.sumB xs) := Fm.wtS_of xs fun x _ => Fm.wt_bulk x
theorem Fm.length_wt : ∀ xs : List Fm, xs.length ≤ Fm.wtS xs
  | [] => Nat.le_refl _
  | x :: xs => by
    have := Fm.length_wt xs
    have := Fm.wt_eq x
    rw [Fm.wtS]; simp only [List.length_cons]; omega
def c_laws_markFormulaS : SC := (.seq (.reg [⟨some 4, none, .mv (.c (.int .i64 0))⟩]) (.seq (.seq (.reg [⟨some 5, none, .mv (.c (.int .i64 0))⟩]) (.block 0 (.loop [1, 1, 0, 0, 0, 1, 0, 0, 0, 0, 0, 0, 0, 0, 0, 0, 0, 0, 0, 0, 0, 0, 0, 0, 0, 0, 0, 0, 0, 0, 0, 0, 0, 0, 0, 0, 0, 0, 0, 0, 0, 0, 0, 0, 0, 0, 0, 0, 0, 0, 0, 0] (.seq (.seq (.reg [⟨some 6, none, .mv (.t 5)⟩, ⟨some 7, none, .mv (.t 0)⟩, ⟨some 8, none, .len false (.t 7)⟩, ⟨some 9, none, .bin .lss false (.t 6) (.t 8)⟩]) (.cond (.t 9) .skip (.exit 0))) (.seq (.block 1 (.seq (.reg [⟨some 12, none, .mv (.t 0)⟩, ⟨some 13, none, .mv (.t 5)⟩, ⟨some 14, none, .mv (.t 1)⟩, ⟨some 15, none, .iaddr 5 (.t 12) (.t 13)⟩, ⟨some 16, none, .faddr 0 (.t 15)⟩, ⟨none, none, (.store 1 (.t 16) (.t 14))⟩]) (.seq (.reg [⟨some 17, none, .mv (.t 1)⟩, ⟨some 18, none, .bin .add false (.t 17) (.c (.int .i64 1))⟩, ⟨some 1, none, .mv (.t 18)⟩]) (.seq (.reg [⟨some 19, none, .mv (.t 0)⟩, ⟨some 20, none, .mv (.t 5)⟩, ⟨some 21, none, .mv (.t 1)⟩, ⟨some 22, none, .call 42 [(.t 21)]⟩, ⟨some 23, none, .iaddr 5 (.t 19) (.t 20)⟩, ⟨some 24, none, .faddr 1 (.t 23)⟩, ⟨some 25, none, .faddr 0 (.t 24)⟩, ⟨none, none, (.store 1 (.t 25) (.t 22))⟩]) (.seq (.reg [⟨some 26, none, .mv (.t 1)⟩, ⟨some 27, none, .bin .add false (.t 26) (.c (.int .i64 1))⟩, ⟨some 1, none, .mv (.t 27)⟩]) (.seq (.reg [⟨some 28, none, .mv (.t 0)⟩, ⟨some 29, none, .mv (.t 5)⟩, ⟨some 30, none, .iaddr 5 (.t 28) (.t 29)⟩, ⟨some 31, none, .faddr 1 (.t 30)⟩, ⟨some 32, none, .faddr 1 (.t 31)⟩, ⟨some 33, none, .load false 1 (.t 32)⟩, ⟨some 34, none, .mv (.t 1)⟩, ⟨some 35, none, .call 53 [(.t 33), (.t 34)]⟩, ⟨some 1, none, .mv (.t 35)⟩]) (.seq (.reg [⟨some 36, none, .mv (.t 0)⟩, ⟨some 37, none, .mv (.t 5)⟩, ⟨some 38, none, .mv (.t 1)⟩, ⟨some 39, none, .call 42 [(.t 38)]⟩, ⟨some 40, none, .iaddr 5 (.t 36) (.t 37)⟩, ⟨some 41, none, .faddr 3 (.t 40)⟩, ⟨none, none, (.store 1 (.t 41) (.t 39))⟩]) (.seq (.reg [⟨some 42, none, .mv (.t 1)⟩, ⟨some 43, none, .bin .add false (.t 42) (.c (.int .i64 1))⟩, ⟨some 1, none, .mv (.t 43)⟩]) (.reg [⟨some 44, none, .mv (.t 0)⟩, ⟨some 45, none, .mv (.t 5)⟩, ⟨some 46, none, .iaddr 5 (.t 44) (.t 45)⟩, ⟨some 47, none, .faddr 4 (.t 46)⟩, ⟨some 48, none, .load false 1 (.t 47)⟩, ⟨some 49, none, .mv (.t 1)⟩, ⟨some 50, none, .call 30 [(.t 48), (.t 49)]⟩, ⟨some 1, none, .mv (.t 50)⟩]))))))))) (.reg [⟨some 10, none, .mv (.t 5)⟩, ⟨some 11, none, .bin .add false (.t 10) (.c (.int .i64 1))⟩, ⟨some 5, none, .mv (.t 11)⟩])))))) (.seq (.reg [⟨some 51, none, .mv (.t 1)⟩, ⟨some 4, none, .mv (.t 51)⟩]) .ret)))
theorem k_laws_markFormulaS : codeOf Tryz.prog 30 = some ⟨52, c_laws_markFormulaS, [(.tmp 4)]⟩ := by kernel_rfl
theorem m_laws_markFormulaS : modes 30 = ⟨[true], .asis, none, true⟩ := by unfold modes; rfl
abbrev MarkTS_Formula (xs : List Fm) : Prop := ∀ (k : Int) (ob : List Ob), 1 ≤ k → k + Fm.wtS xs ≤ 1099511627776 → toTree ob = [.tree (xs.map Fm.o) []] → E 30 [.ref 0, .int .i64 k] ob = some (.int .i64 (Fm.mkS xs k).2, [.tree ((Fm.mkS xs k).1.map Fm.o) []])
set_option maxHeartbeats 2000000 in
theorem markTS_Formula_of (xs : List Fm) (ih : ∀ x ∈ xs, MarkTS_Formula x.parts) : MarkTS_Formula xs := by
  intro k0 ob h1 h2 hob
  have hlen : ob.length = 1 := by rw [← toTree_len, hob]; rfl
  have hL := Fm.length_wt xs
  refine E_walk k_laws_markFormulaS m_laws_markFormulaS (of_decide_eq_true rfl) ?_
  simp (disch := omega) only [c_laws_markFormulaS, go_sem, go_cond, zA, zB, zC, zD, zE, zF, zG, zH, ↓reduceIte, zI, reduceCtorEq, zJ, zK, hob, hlen]
  refine go_loop (α := Int × (Int) × (List Fm)) (fun a => ⟨slots 52 0 [(0, .ref 0), (1, .int .i64 (a.2.1)), (5, .int .i64 (a.1))], [.tree (((a.2.2) ++ xs.drop (a.1).toNat).map Fm.o) []]⟩) (fun a => ∃ k : Nat, a.1 = k ∧ k ≤ (xs).length ∧ (a.2.2).length = k ∧ 1 ≤ (a.2.1) ∧ (a.2.1) + Fm.wtS (xs.drop k) = k0 + Fm.wtS xs ∧ Fm.mkS xs k0 = ((a.2.2) ++ (Fm.mkS (xs.drop k) (a.2.1)).1, (Fm.mkS (xs.drop k) (a.2.1)).2)) (fun a => (xs).length - (a.1).toNat) (0, k0, []) ⟨0, rfl, Nat.zero_le _, rfl, h1, by rw [List.drop_zero], by simp⟩ (by simp (disch := omega) only [go_sem, go_cond, zA, zB, zC, zD, zE, zF, zG, zH, ↓reduceIte, zI, reduceCtorEq, zJ, zK, Int.toNat_zero]) ?_
  rintro ⟨i, kk, dn⟩ ⟨k, hi, hk, hR⟩
  dsimp only at hi hR
  have hni : i.toNat = k := by omega
  have hni1 : (i + 1).toNat = k + 1 := by omega
  rcases Nat.lt_or_ge k (xs).length with hlt | hge
  · obtain ⟨hd, hk1, hkn, hm⟩ := hR
    have hdr : xs.drop k = xs[k] :: xs.drop (k + 1) := List.drop_eq_getElem_cons hlt
    have hel : (dn ++ xs.drop k).length = xs.length := by simp; omega
    have hg : (List.map Fm.o (dn ++ xs.drop k))[k]? = some [.int xs[k].op, .str xs[k].atom.name, .ow (xs[k].atom.args.map Tm.o), .str xs[k].var, .ow (xs[k].parts.map Fm.o)] := by
      rw [← Fm.o_eq, hdr, List.getElem?_map, List.getElem?_append_right (by omega), hd, Nat.sub_self]; rfl
    rw [hdr, Fm.wtS] at hkn
    rw [hdr, Fm.mkS] at hm
    have hn1 := Fm.wt_eq xs[k]
    have e2 := Tm.mkS_end xs[k].atom.args ((kk + 1 + 1))
    have e4 := Fm.mkS_end xs[k].parts (((Tm.mkS xs[k].atom.args (kk + 1 + 1)).2 + 1))
    have t0 := markText_E (k := (kk + 1)) (by omega) (by omega)
    have c64 := markTS_Term xs[k].atom.args ((kk + 1 + 1)) [.tree (xs[k].atom.args.map Tm.o) []] (by omega) (by omega) rfl
    have t187 := markText_E (k := (Tm.mkS xs[k].atom.args (kk + 1 + 1)).2) (by omega) (by omega)
    have c284 := ih xs[k] (List.getElem_mem hlt) (((Tm.mkS xs[k].atom.args (kk + 1 + 1)).2 + 1)) [.tree (xs[k].parts.map Fm.o) []] (by omega) (by omega) rfl
    have hs := map_set_mid Fm.o dn (xs.drop (k + 1)) xs[k] (xs[k].mk1 kk).1 hd
    rw [Fm.mk1_o, ← hdr] at hs
    have hgs : ∀ a, ((List.map Fm.o (dn ++ xs.drop k)).set k a)[k]? = some a := fun a => List.getElem?_set_self (by rw [List.length_map, hel]; exact hlt)
    have he := Fm.mk1_end xs[k] kk
    have three : ∀ z : Int, dec ((3 : Int) = 0) = false := fun _ => dec_f (by omega)
    simp (disch := omega) only [go_sem, go_cond, zA, zB, zC, zD, zE, zF, zG, zH, ↓reduceIte, zI, reduceCtorEq, zJ, zK, hni, hel, hg, t0, c64, m_laws_markTermS, t187, c284, m_laws_markFormulaS, m_laws_markText, hgs, List.length_set, List.set_set, hs, three 0]
    refine ⟨(i + 1, (xs[k].mk1 kk).2, dn ++ [(xs[k].mk1 kk).1]), ⟨k + 1, by dsimp only; omega, hlt, by dsimp only; simp [hd], by dsimp only; omega, by dsimp only; omega, by rw [hm]; simp⟩, by dsimp only; omega, ?_⟩
    dsimp only
    rw [hni1, Fm.mk1_eq]
    refine ⟨⟨?_, rfl⟩, rfl⟩
    first | rfl | omega
  · obtain ⟨hd, hk1, hkn, hm⟩ := hR
    have hdr : xs.drop k = [] := List.drop_eq_nil_of_le hge
    rw [hdr, Fm.mkS] at hm
    rw [hm]
    simp (disch := omega) only [go_sem, go_cond, zA, zB, zC, zD, zE, zF, zG, zH, ↓reduceIte, zI, reduceCtorEq, zJ, zK, hni, hdr, List.append_nil]
theorem markTS1_Formula (x : Fm) : MarkTS_Formula x.parts := markTS_Formula_of x.parts fun y hy => markTS1_Formula y
termination_by SizeOf.sizeOf x
decreasing_by exact Fm.lt_of_mem hy
theorem markTS_Formula (xs : List Fm) : MarkTS_Formula xs := markTS_Formula_of xs fun y _ => markTS1_Formula y
def c_laws_heldTermS : SC := (.seq (.reg [⟨some 4, none, .mv (.c (.int .i64 0))⟩]) (.seq (.seq (.reg [⟨some 5, none, .mv (.c (.int .i64 0))⟩]) (.block 0 (.loop [1, 1, 0, 0, 0, 1, 0, 0, 0, 0, 0, 0, 0, 0, 0, 0, 0, 0, 0, 0, 0, 0, 0, 0, 0, 0, 0, 0, 0, 0, 0, 0] (.seq (.seq (.reg [⟨some 6, none, .mv (.t 5)⟩, ⟨some 7, none, .mv (.t 0)⟩, ⟨some 8, none, .len false (.t 7)⟩, ⟨some 9, none, .bin .lss false (.t 6) (.t 8)⟩]) (.cond (.t 9) .skip (.exit 0))) (.seq (.block 1 (.seq (.seq (.dreg [[], [], [0, 1], [2, 0, 1], [3, 2, 0, 1], [], [5], [4, 3, 2, 0, 1, 6, 5]] [⟨some 12, none, .mv (.t 0)⟩, ⟨some 13, none, .mv (.t 5)⟩, ⟨some 14, none, .iaddr 2 (.t 12) (.t 13)⟩, ⟨some 15, none, .faddr 0 (.t 14)⟩, ⟨some 16, none, .load false 1 (.t 15)⟩, ⟨some 17, none, .mv (.t 1)⟩, ⟨some 18, none, .call 42 [(.t 17)]⟩, ⟨some 19, none, .bin .neq false (.t 16) (.t 18)⟩]) (.cond (.t 19) (.seq (.reg [⟨some 4, none, .mv (.c (.int .i64 (-(0 + 1))))⟩]) .ret) .skip)) (.seq (.reg [⟨some 20, none, .mv (.t 1)⟩, ⟨some 21, none, .bin .add false (.t 20) (.c (.int .i64 1))⟩, ⟨some 1, none, .mv (.t 21)⟩]) (.seq (.reg [⟨some 22, none, .mv (.t 0)⟩, ⟨some 23, none, .mv (.t 5)⟩, ⟨some 24, none, .iaddr 2 (.t 22) (.t 23)⟩, ⟨some 25, none, .faddr 1 (.t 24)⟩, ⟨some 26, none, .load false 1 (.t 25)⟩, ⟨some 27, none, .mv (.t 1)⟩, ⟨some 28, none, .call 54 [(.t 26), (.t 27)]⟩, ⟨some 1, none, .mv (.t 28)⟩]) (.seq (.reg [⟨some 29, none, .mv (.t 1)⟩, ⟨some 30, none, .bin .lss false (.t 29) (.c (.int .i64 0))⟩]) (.cond (.t 30) (.seq (.reg [⟨some 4, none, .mv (.c (.int .i64 (-(0 + 1))))⟩]) .ret) .skip)))))) (.reg [⟨some 10, none, .mv (.t 5)⟩, ⟨some 11, none, .bin .add false (.t 10) (.c (.int .i64 1))⟩, ⟨some 5, none, .mv (.t 11)⟩])))))) (.seq (.reg [⟨some 31, none, .mv (.t 1)⟩, ⟨some 4, none, .mv (.t 31)⟩]) .ret)))
theorem k_laws_heldTermS : codeOf Tryz.prog 54 = some ⟨32, c_laws_heldTermS, [(.tmp 4)]⟩ := by kernel_rfl
theorem m_laws_heldTermS : modes 54 = ⟨[], .asis, none, false⟩ := by unfold modes; rfl
theorem Tm.mkS_len : ∀ (xs : List Tm) (k : Int), (Tm.mkS xs k).1.length = xs.length
  | [], k => by rw [Tm.mkS]
  | x :: xs, k => by rw [Tm.mkS]; simp only [List.length_cons]; rw [Tm.mkS_len xs]
abbrev HeldTS_Term (xs : List Tm) : Prop := ∀ k : Int, 1 ≤ k → k + Tm.wtS xs ≤ 1099511627776 → E 54 [.arr ((Tm.mkS xs k).1.map Tm.d), .int .i64 k] [] = some (.int .i64 (Tm.mkS xs k).2, [])
set_option maxHeartbeats 2000000 in
theorem heldTS_Term_of (xs : List Tm) (ih : ∀ x ∈ xs, HeldTS_Term x.args) : HeldTS_Term xs := by
  intro k0 h1 h2
  obtain ⟨ys, hys⟩ : ∃ ys, ys = (Tm.mkS xs k0).1 := ⟨_, rfl⟩
  have hyl : ys.length = xs.length := by rw [hys, Tm.mkS_len]
  rw [← hys]
  have hL := Tm.length_wt xs
  refine E_walk k_laws_heldTermS m_laws_heldTermS (of_decide_eq_true rfl) ?_
  simp (disch := omega) only [c_laws_heldTermS, go_sem, go_cond, zA, zB, zC, zD, zE, zF, zG, zH, ↓reduceIte, zI, reduceCtorEq, zJ, zK]
  refine go_loop (α := Int × (Int)) (fun a => ⟨slots 32 0 [(0, .arr (ys.map Tm.d)), (1, .int .i64 (a.2)), (5, .int .i64 (a.1))], []⟩) (fun a => ∃ k : Nat, a.1 = k ∧ k ≤ (ys).length ∧ 1 ≤ (a.2) ∧ (a.2) + Tm.wtS (xs.drop k) = k0 + Tm.wtS xs ∧ ys.drop k = (Tm.mkS (xs.drop k) (a.2)).1 ∧ (Tm.mkS xs k0).2 = (Tm.mkS (xs.drop k) (a.2)).2) (fun a => (ys).length - (a.1).toNat) (0, k0) ⟨0, rfl, Nat.zero_le _, h1, by rw [List.drop_zero], by rw [List.drop_zero, List.drop_zero, hys], by rw [List.drop_zero]⟩ (by simp (disch := omega) only [go_sem, go_cond, zA, zB, zC, zD, zE, zF, zG, zH, ↓reduceIte, zI, reduceCtorEq, zJ, zK]) ?_
  rintro ⟨i, kk⟩ ⟨k, hi, hk, hR⟩
  dsimp only at hi hR
  have hni : i.toNat = k := by omega
  have hni1 : (i + 1).toNat = k + 1 := by omega
  rcases Nat.lt_or_ge k (ys).length with hlt | hge
  · obtain ⟨hk1, hkn, hy, hm⟩ := hR
    have hlx : k < xs.length := by omega
    have hdr : xs.drop k = xs[k] :: xs.drop (k + 1) := List.drop_eq_getElem_cons hlx
    have hdy := List.drop_eq_getElem_cons hlt
    rw [hdr, Tm.wtS] at hkn
    rw [hdr, Tm.mkS] at hm
    rw [hdr, Tm.mkS, hdy] at hy
    dsimp only at hy hm
    obtain ⟨hy1, hy2⟩ := List.cons.inj hy
    have hg := get_at Tm.d hlt
    rw [hy1, Tm.mk1_d] at hg
    have hn1 := Tm.wt_eq xs[k]
    have e1 := Tm.mkS_end xs[k].args ((kk + 1))
    have t0 := markText_E (k := kk) (by omega) (by omega)
    have c58 := ih xs[k] (List.getElem_mem hlx) ((kk + 1)) (by omega) (by omega)
    have he := Tm.mk1_end xs[k] kk
    simp (disch := omega) only [go_sem, go_cond, zA, zB, zC, zD, zE, zF, zG, zH, ↓reduceIte, zI, reduceCtorEq, zJ, zK, hni, hg, m_laws_markText, dec_refl, t0, c58, m_laws_heldTermS]
    refine ⟨(i + 1, (xs[k].mk1 kk).2), ⟨k + 1, by dsimp only; omega, hlt, by dsimp only; omega, by dsimp only; omega, hy2, hm⟩, by dsimp only; omega, ?_⟩
    dsimp only
    rw [Tm.mk1_eq]
    simp only [and_self, and_true, true_and]
    try omega
  · obtain ⟨hk1, hkn, hy, hm⟩ := hR
    have hdr : xs.drop k = [] := List.drop_eq_nil_of_le (by omega)
    rw [hdr, Tm.mkS] at hm
    rw [hm]
    simp (disch := omega) only [go_sem, go_cond, zA, zB, zC, zD, zE, zF, zG, zH, ↓reduceIte, zI, reduceCtorEq, zJ, zK, hni]
theorem heldTS1_Term (x : Tm) : HeldTS_Term x.args := heldTS_Term_of x.args fun y hy => heldTS1_Term y
termination_by SizeOf.sizeOf x
decreasing_by exact Tm.lt_of_mem hy
theorem heldTS_Term (xs : List Tm) : HeldTS_Term xs := heldTS_Term_of xs fun y _ => heldTS1_Term y
def c_laws_heldFormulaS : SC := (.seq (.reg [⟨some 4, none, .mv (.c (.int .i64 0))⟩]) (.seq (.seq (.reg [⟨some 5, none, .mv (.c (.int .i64 0))⟩]) (.block 0 (.loop [1, 1, 0, 0, 0, 1, 0, 0, 0, 0, 0, 0, 0, 0, 0, 0, 0, 0, 0, 0, 0, 0, 0, 0, 0, 0, 0, 0, 0, 0, 0, 0, 0, 0, 0, 0, 0, 0, 0, 0, 0, 0, 0, 0, 0, 0, 0, 0, 0, 0, 0, 0, 0, 0, 0, 0, 0, 0, 0, 0, 0, 0] (.seq (.seq (.reg [⟨some 6, none, .mv (.t 5)⟩, ⟨some 7, none, .mv (.t 0)⟩, ⟨some 8, none, .len false (.t 7)⟩, ⟨some 9, none, .bin .lss false (.t 6) (.t 8)⟩]) (.cond (.t 9) .skip (.exit 0))) (.seq (.block 1 (.seq (.seq (.reg [⟨some 12, none, .mv (.t 0)⟩, ⟨some 13, none, .mv (.t 5)⟩, ⟨some 14, none, .iaddr 5 (.t 12) (.t 13)⟩, ⟨some 15, none, .faddr 0 (.t 14)⟩, ⟨some 16, none, .load false 1 (.t 15)⟩, ⟨some 17, none, .mv (.t 1)⟩, ⟨some 18, none, .bin .neq false (.t 16) (.t 17)⟩]) (.cond (.t 18) (.seq (.reg [⟨some 4, none, .mv (.c (.int .i64 (-(0 + 1))))⟩]) .ret) .skip)) (.seq (.reg [⟨some 19, none, .mv (.t 1)⟩, ⟨some 20, none, .bin .add false (.t 19) (.c (.int .i64 1))⟩, ⟨some 1, none, .mv (.t 20)⟩]) (.seq (.seq (.dreg [[], [], [0, 1], [2, 0, 1], [3, 2, 0, 1], [4, 3, 2, 0, 1], [], [6], [5, 4, 3, 2, 0, 1, 7, 6]] [⟨some 21, none, .mv (.t 0)⟩, ⟨some 22, none, .mv (.t 5)⟩, ⟨some 23, none, .iaddr 5 (.t 21) (.t 22)⟩, ⟨some 24, none, .faddr 1 (.t 23)⟩, ⟨some 25, none, .faddr 0 (.t 24)⟩, ⟨some 26, none, .load false 1 (.t 25)⟩, ⟨some 27, none, .mv (.t 1)⟩, ⟨some 28, none, .call 42 [(.t 27)]⟩, ⟨some 29, none, .bin .neq false (.t 26) (.t 28)⟩]) (.cond (.t 29) (.seq (.reg [⟨some 4, none, .mv (.c (.int .i64 (-(0 + 1))))⟩]) .ret) .skip)) (.seq (.reg [⟨some 30, none, .mv (.t 1)⟩, ⟨some 31, none, .bin .add false (.t 30) (.c (.int .i64 1))⟩, ⟨some 1, none, .mv (.t 31)⟩]) (.seq (.reg [⟨some 32, none, .mv (.t 0)⟩, ⟨some 33, none, .mv (.t 5)⟩, ⟨some 34, none, .iaddr 5 (.t 32) (.t 33)⟩, ⟨some 35, none, .faddr 1 (.t 34)⟩, ⟨some 36, none, .faddr 1 (.t 35)⟩, ⟨some 37, none, .load false 1 (.t 36)⟩, ⟨some 38, none, .mv (.t 1)⟩, ⟨some 39, none, .call 54 [(.t 37), (.t 38)]⟩, ⟨some 1, none, .mv (.t 39)⟩]) (.seq (.seq (.reg [⟨some 40, none, .mv (.t 1)⟩, ⟨some 41, none, .bin .lss false (.t 40) (.c (.int .i64 0))⟩]) (.cond (.t 41) (.seq (.reg [⟨some 4, none, .mv (.c (.int .i64 (-(0 + 1))))⟩]) .ret) .skip)) (.seq (.seq (.dreg [[], [], [0, 1], [2, 0, 1], [3, 2, 0, 1], [], [5], [4, 3, 2, 0, 1, 6, 5]] [⟨some 42, none, .mv (.t 0)⟩, ⟨some 43, none, .mv (.t 5)⟩, ⟨some 44, none, .iaddr 5 (.t 42) (.t 43)⟩, ⟨some 45, none, .faddr 3 (.t 44)⟩, ⟨some 46, none, .load false 1 (.t 45)⟩, ⟨some 47, none, .mv (.t 1)⟩, ⟨some 48, none, .call 42 [(.t 47)]⟩, ⟨some 49, none, .bin .neq false (.t 46) (.t 48)⟩]) (.cond (.t 49) (.seq (.reg [⟨some 4, none, .mv (.c (.int .i64 (-(0 + 1))))⟩]) .ret) .skip)) (.seq (.reg [⟨some 50, none, .mv (.t 1)⟩, ⟨some 51, none, .bin .add false (.t 50) (.c (.int .i64 1))⟩, ⟨some 1, none, .mv (.t 51)⟩]) (.seq (.reg [⟨some 52, none, .mv (.t 0)⟩, ⟨some 53, none, .mv (.t 5)⟩, ⟨some 54, none, .iaddr 5 (.t 52) (.t 53)⟩, ⟨some 55, none, .faddr 4 (.t 54)⟩, ⟨some 56, none, .load false 1 (.t 55)⟩, ⟨some 57, none, .mv (.t 1)⟩, ⟨some 58, none, .call 32 [(.t 56), (.t 57)]⟩, ⟨some 1, none, .mv (.t 58)⟩]) (.seq (.reg [⟨some 59, none, .mv (.t 1)⟩, ⟨some 60, none, .bin .lss false (.t 59) (.c (.int .i64 0))⟩]) (.cond (.t 60) (.seq (.reg [⟨some 4, none, .mv (.c (.int .i64 (-(0 + 1))))⟩]) .ret) .skip)))))))))))) (.reg [⟨some 10, none, .mv (.t 5)⟩, ⟨some 11, none, .bin .add false (.t 10) (.c (.int .i64 1))⟩, ⟨some 5, none, .mv (.t 11)⟩])))))) (.seq (.reg [⟨some 61, none, .mv (.t 1)⟩, ⟨some 4, none, .mv (.t 61)⟩]) .ret)))
theorem k_laws_heldFormulaS : codeOf Tryz.prog 32 = some ⟨62, c_laws_heldFormulaS, [(.tmp 4)]⟩ := by kernel_rfl
theorem m_laws_heldFormulaS : modes 32 = ⟨[], .asis, none, false⟩ := by unfold modes; rfl
theorem Fm.mkS_len : ∀ (xs : List Fm) (k : Int), (Fm.mkS xs k).1.length = xs.length
  | [], k => by rw [Fm.mkS]
  | x :: xs, k => by rw [Fm.mkS]; simp only [List.length_cons]; rw [Fm.mkS_len xs]
abbrev HeldTS_Formula (xs : List Fm) : Prop := ∀ k : Int, 1 ≤ k → k + Fm.wtS xs ≤ 1099511627776 → E 32 [.arr ((Fm.mkS xs k).1.map Fm.d), .int .i64 k] [] = some (.int .i64 (Fm.mkS xs k).2, [])
set_option maxHeartbeats 2000000 in
theorem heldTS_Formula_of (xs : List Fm) (ih : ∀ x ∈ xs, HeldTS_Formula x.parts) : HeldTS_Formula xs := by
  intro k0 h1 h2
  obtain ⟨ys, hys⟩ : ∃ ys, ys = (Fm.mkS xs k0).1 := ⟨_, rfl⟩
  have hyl : ys.length = xs.length := by rw [hys, Fm.mkS_len]
  rw [← hys]
  have hL := Fm.length_wt xs
  refine E_walk k_laws_heldFormulaS m_laws_heldFormulaS (of_decide_eq_true rfl) ?_
  simp (disch := omega) only [c_laws_heldFormulaS, go_sem, go_cond, zA, zB, zC, zD, zE, zF, zG, zH, ↓reduceIte, zI, reduceCtorEq, zJ, zK]
  refine go_loop (α := Int × (Int)) (fun a => ⟨slots 62 0 [(0, .arr (ys.map Fm.d)), (1, .int .i64 (a.2)), (5, .int .i64 (a.1))], []⟩) (fun a => ∃ k : Nat, a.1 = k ∧ k ≤ (ys).length ∧ 1 ≤ (a.2) ∧ (a.2) + Fm.wtS (xs.drop k) = k0 + Fm.wtS xs ∧ ys.drop k = (Fm.mkS (xs.drop k) (a.2)).1 ∧ (Fm.mkS xs k0).2 = (Fm.mkS (xs.drop k) (a.2)).2) (fun a => (ys).length - (a.1).toNat) (0, k0) ⟨0, rfl, Nat.zero_le _, h1, by rw [List.drop_zero], by rw [List.drop_zero, List.drop_zero, hys], by rw [List.drop_zero]⟩ (by simp (disch := omega) only [go_sem, go_cond, zA, zB, zC, zD, zE, zF, zG, zH, ↓reduceIte, zI, reduceCtorEq, zJ, zK]) ?_
  rintro ⟨i, kk⟩ ⟨k, hi, hk, hR⟩
  dsimp only at hi hR
  have hni : i.toNat = k := by omega
  have hni1 : (i + 1).toNat = k + 1 := by omega
  rcases Nat.lt_or_ge k (ys).length with hlt | hge
  · obtain ⟨hk1, hkn, hy, hm⟩ := hR
    have hlx : k < xs.length := by omega
    have hdr : xs.drop k = xs[k] :: xs.drop (k + 1) := List.drop_eq_getElem_cons hlx
    have hdy := List.drop_eq_getElem_cons hlt
    rw [hdr, Fm.wtS] at hkn
    rw [hdr, Fm.mkS] at hm
    rw [hdr, Fm.mkS, hdy] at hy
    dsimp only at hy hm
    obtain ⟨hy1, hy2⟩ := List.cons.inj hy
    have hg := get_at Fm.d hlt
    rw [hy1, Fm.mk1_d] at hg
    have hn1 := Fm.wt_eq xs[k]
    have e2 := Tm.mkS_end xs[k].atom.args ((kk + 1 + 1))
    have e4 := Fm.mkS_end xs[k].parts (((Tm.mkS xs[k].atom.args (kk + 1 + 1)).2 + 1))
    have t0 := markText_E (k := (kk + 1)) (by omega) (by omega)
    have c64 := heldTS_Term xs[k].atom.args ((kk + 1 + 1)) (by omega) (by omega)
    have t145 := markText_E (k := (Tm.mkS xs[k].atom.args (kk + 1 + 1)).2) (by omega) (by omega)
    have c242 := ih xs[k] (List.getElem_mem hlx) (((Tm.mkS xs[k].atom.args (kk + 1 + 1)).2 + 1)) (by omega) (by omega)
    have he := Fm.mk1_end xs[k] kk
    simp (disch := omega) only [go_sem, go_cond, zA, zB, zC, zD, zE, zF, zG, zH, ↓reduceIte, zI, reduceCtorEq, zJ, zK, hni, hg, m_laws_markText, dec_refl, t0, c64, m_laws_heldTermS, t145, c242, m_laws_heldFormulaS]
    refine ⟨(i + 1, (xs[k].mk1 kk).2), ⟨k + 1, by dsimp only; omega, hlt, by dsimp only; omega, by dsimp only; omega, hy2, hm⟩, by dsimp only; omega, ?_⟩
    dsimp only
    rw [Fm.mk1_eq]
    simp only [and_self, and_true, true_and]
    try omega
  · obtain ⟨hk1, hkn, hy, hm⟩ := hR
    have hdr : xs.drop k = [] := List.drop_eq_nil_of_le (by omega)
    rw [hdr, Fm.mkS] at hm
    rw [hm]
    simp (disch := omega) only [go_sem, go_cond, zA, zB, zC, zD, zE, zF, zG, zH, ↓reduceIte, zI, reduceCtorEq, zJ, zK, hni]
theorem heldTS1_Formula (x : Fm) : HeldTS_Formula x.parts := heldTS_Formula_of x.parts fun y hy => heldTS1_Formula y
termination_by SizeOf.sizeOf x
decreasing_by exact Fm.lt_of_mem hy
theorem heldTS_Formula (xs : List Fm) : HeldTS_Formula xs := heldTS_Formula_of xs fun y _ => heldTS1_Formula y
theorem toTree1 {o : Ob} {es : List (List OT)} (h : toTree [o] = [.tree es []]) : (∃ a b, o = .row a b es) ∨ o = .tree es [] := by
  cases o with
  | row a b e => obtain ⟨h1, h2⟩ := List.cons.inj h; cases h1; exact .inl ⟨a, b, rfl⟩
  | tree e hs => obtain ⟨h1, h2⟩ := List.cons.inj h; cases h1; exact .inr rfl
  | _ => simp [toTree] at h
noncomputable def Tm.mkr (x : Tm) (k : Int) : Tm × Int := ((Tm.mk (x.name) ((Tm.mkS x.args k).1)), (Tm.mkS x.args k).2)
def c_laws_markTerm : SC := (.seq (.reg [⟨some 2, none, .boxv 31 2 (.t 0)⟩, ⟨some 4, none, .mv (.c (.int .i64 0))⟩]) (.seq (.reg [⟨some 5, none, .faddr 1 (.t 2)⟩, ⟨some 6, none, .load false 1 (.t 5)⟩, ⟨some 7, none, .mv (.t 1)⟩, ⟨some 8, none, .call 53 [(.t 6), (.t 7)]⟩, ⟨some 1, none, .mv (.t 8)⟩]) (.seq (.reg [⟨some 9, none, .mv (.t 1)⟩, ⟨some 4, none, .mv (.t 9)⟩]) .ret)))
theorem k_laws_markTerm : codeOf Tryz.prog 29 = some ⟨10, c_laws_markTerm, [(.tmp 4)]⟩ := by kernel_rfl
theorem m_laws_markTerm : modes 29 = ⟨[true], .asis, none, false⟩ := by unfold modes; rfl
set_option maxHeartbeats 1000000 in
theorem markT_Term (x : Tm) (k : Int) (o0 : Ob) (h1 : 1 ≤ k) (h2 : k + (Tm.wtS x.args : Nat) ≤ 1099511627776) (t0 : toTree [o0] = [.tree (x.args.map Tm.o) []]) : E 29 [.agg [.str x.name, .ref 0], .int .i64 k] [o0] = some (.int .i64 (x.mkr k).2, [.tree ((Tm.mkS x.args k).1.map Tm.o) []]) := by
  have e0 := Tm.mkS_end x.args k
  rw [Tm.mkr]
  dsimp only
  have c0 := markTS_Term x.args k [o0] (by omega) (by omega) t0
  rcases toTree1 t0 with ⟨a0, b0, rfl⟩ | rfl <;>
   (
    refine E_walk k_laws_markTerm m_laws_markTerm (of_decide_eq_true rfl) ?_
    simp (disch := omega) only [c_laws_markTerm, go_sem, go_cond, zA, zB, zC, zD, zE, zF, zG, zH, ↓reduceIte, zI, reduceCtorEq, zJ, zK, c0, m_laws_markTermS])
def c_laws_heldTerm : SC := (.seq (.reg [⟨some 2, none, .boxv 31 2 (.t 0)⟩, ⟨some 4, none, .mv (.c (.int .i64 0))⟩]) (.seq (.reg [⟨some 5, none, .faddr 1 (.t 2)⟩, ⟨some 6, none, .load false 1 (.t 5)⟩, ⟨some 7, none, .mv (.t 1)⟩, ⟨some 8, none, .call 54 [(.t 6), (.t 7)]⟩, ⟨some 1, none, .mv (.t 8)⟩]) (.seq (.seq (.reg [⟨some 9, none, .mv (.t 1)⟩, ⟨some 10, none, .bin .lss false (.t 9) (.c (.int .i64 0))⟩]) (.cond (.t 10) (.seq (.reg [⟨some 4, none, .mv (.c (.int .i64 (-(0 + 1))))⟩]) .ret) .skip)) (.seq (.reg [⟨some 11, none, .mv (.t 1)⟩, ⟨some 4, none, .mv (.t 11)⟩]) .ret))))
theorem k_laws_heldTerm : codeOf Tryz.prog 31 = some ⟨12, c_laws_heldTerm, [(.tmp 4)]⟩ := by kernel_rfl
theorem m_laws_heldTerm : modes 31 = ⟨[], .asis, none, false⟩ := by unfold modes; rfl
set_option maxHeartbeats 1000000 in
theorem heldT_Term (x : Tm) (k : Int) (h1 : 1 ≤ k) (h2 : k + (Tm.wtS x.args : Nat) ≤ 1099511627776) : E 31 [.agg [.str x.name, .arr ((Tm.mkS x.args k).1.map Tm.d)], .int .i64 k] [] = some (.int .i64 (x.mkr k).2, []) := by
  have e0 := Tm.mkS_end x.args k
  rw [Tm.mkr]
  dsimp only
  have p0 : (Tm.mk (x.name) ((Tm.mkS x.args k).1)).name = x.name := rfl
  have p1 : (Tm.mk (x.name) ((Tm.mkS x.args k).1)).args = (Tm.mkS x.args k).1 := rfl
  have c0 := heldTS_Term x.args k (by omega) (by omega)
  refine E_walk k_laws_heldTerm m_laws_heldTerm (of_decide_eq_true rfl) ?_
  simp (disch := omega) only [c_laws_heldTerm, go_sem, go_cond, zA, zB, zC, zD, zE, zF, zG, zH, ↓reduceIte, zI, reduceCtorEq, zJ, zK, c0, m_laws_heldTermS, p0, p1]
noncomputable def Fm.mkr (x : Fm) (k : Int) : Fm × Int := ((Fm.mk (x.op) (Tm.mk (x.atom.name) ((Tm.mkS x.atom.args k).1)) (x.var) ((Fm.mkS x.parts (Tm.mkS x.atom.args k).2).1)), (Fm.mkS x.parts (Tm.mkS x.atom.args k).2).2)
def c_laws_markFormula : SC := (.seq (.reg [⟨some 2, none, .boxv 34 5 (.t 0)⟩, ⟨some 4, none, .mv (.c (.int .i64 0))⟩]) (.seq (.reg [⟨some 5, none, .faddr 1 (.t 2)⟩, ⟨some 6, none, .load true 2 (.t 5)⟩, ⟨some 7, none, .mv (.t 1)⟩, ⟨some 8, none, .call 29 [(.t 6), (.t 7)]⟩, ⟨some 1, none, .mv (.t 8)⟩]) (.seq (.reg [⟨some 9, none, .faddr 4 (.t 2)⟩, ⟨some 10, none, .load false 1 (.t 9)⟩, ⟨some 11, none, .mv (.t 1)⟩, ⟨some 12, none, .call 30 [(.t 10), (.t 11)]⟩, ⟨some 1, none, .mv (.t 12)⟩]) (.seq (.reg [⟨some 13, none, .mv (.t 1)⟩, ⟨some 4, none, .mv (.t 13)⟩]) .ret))))
theorem k_laws_markFormula : codeOf Tryz.prog 10 = some ⟨14, c_laws_markFormula, [(.tmp 4)]⟩ := by kernel_rfl
theorem m_laws_markFormula : modes 10 = ⟨[true], .asis, none, false⟩ := by unfold modes; rfl
set_option maxHeartbeats 1000000 in
theorem markT_Formula (x : Fm) (k : Int) (o0 o1 : Ob) (h1 : 1 ≤ k) (h2 : k + (Tm.wtS x.atom.args + Fm.wtS x.parts : Nat) ≤ 1099511627776) (t0 : toTree [o0] = [.tree (x.atom.args.map Tm.o) []]) (t1 : toTree [o1] = [.tree (x.parts.map Fm.o) []]) : E 10 [.agg [.int .i64 x.op, .str x.atom.name, .ref 0, .str x.var, .ref 1], .int .i64 k] [o0, o1] = some (.int .i64 (x.mkr k).2, [.tree ((Tm.mkS x.atom.args k).1.map Tm.o) [], .tree ((Fm.mkS x.parts (Tm.mkS x.atom.args k).2).1.map Fm.o) []]) := by
  have e0 := Tm.mkS_end x.atom.args k
  have e1 := Fm.mkS_end x.parts (Tm.mkS x.atom.args k).2
  rw [Fm.mkr]
  dsimp only
  have c0 := markT_Term x.atom k o0 (by omega) (by omega) t0
  rw [Tm.mkr] at c0
  dsimp only at c0
  have c1 := markTS_Formula x.parts (Tm.mkS x.atom.args k).2 [o1] (by omega) (by omega) t1
  rcases toTree1 t0 with ⟨a0, b0, rfl⟩ | rfl <;>
  rcases toTree1 t1 with ⟨a1, b1, rfl⟩ | rfl <;>
   (
    refine E_walk k_laws_markFormula m_laws_markFormula (of_decide_eq_true rfl) ?_
    simp (disch := omega) only [c_laws_markFormula, go_sem, go_cond, zA, zB, zC, zD, zE, zF, zG, zH, ↓reduceIte, zI, reduceCtorEq, zJ, zK, c0, m_laws_markTerm, c1, m_laws_markFormulaS])
def c_laws_heldFormula : SC := (.seq (.reg [⟨some 2, none, .boxv 34 5 (.t 0)⟩, ⟨some 4, none, .mv (.c (.int .i64 0))⟩]) (.seq (.reg [⟨some 5, none, .faddr 1 (.t 2)⟩, ⟨some 6, none, .load true 2 (.t 5)⟩, ⟨some 7, none, .mv (.t 1)⟩, ⟨some 8, none, .call 31 [(.t 6), (.t 7)]⟩, ⟨some 1, none, .mv (.t 8)⟩]) (.seq (.seq (.reg [⟨some 9, none, .mv (.t 1)⟩, ⟨some 10, none, .bin .lss false (.t 9) (.c (.int .i64 0))⟩]) (.cond (.t 10) (.seq (.reg [⟨some 4, none, .mv (.c (.int .i64 (-(0 + 1))))⟩]) .ret) .skip)) (.seq (.reg [⟨some 11, none, .faddr 4 (.t 2)⟩, ⟨some 12, none, .load false 1 (.t 11)⟩, ⟨some 13, none, .mv (.t 1)⟩, ⟨some 14, none, .call 32 [(.t 12), (.t 13)]⟩, ⟨some 1, none, .mv (.t 14)⟩]) (.seq (.seq (.reg [⟨some 15, none, .mv (.t 1)⟩, ⟨some 16, none, .bin .lss false (.t 15) (.c (.int .i64 0))⟩]) (.cond (.t 16) (.seq (.reg [⟨some 4, none, .mv (.c (.int .i64 (-(0 + 1))))⟩]) .ret) .skip)) (.seq (.reg [⟨some 17, none, .mv (.t 1)⟩, ⟨some 4, none, .mv (.t 17)⟩]) .ret))))))
theorem k_laws_heldFormula : codeOf Tryz.prog 11 = some ⟨18, c_laws_heldFormula, [(.tmp 4)]⟩ := by kernel_rfl
theorem m_laws_heldFormula : modes 11 = ⟨[], .asis, none, false⟩ := by unfold modes; rfl
set_option maxHeartbeats 1000000 in
theorem heldT_Formula (x : Fm) (k : Int) (h1 : 1 ≤ k) (h2 : k + (Tm.wtS x.atom.args + Fm.wtS x.parts : Nat) ≤ 1099511627776) : E 11 [.agg [.int .i64 x.op, .str x.atom.name, .arr ((Tm.mkS x.atom.args k).1.map Tm.d), .str x.var, .arr ((Fm.mkS x.parts (Tm.mkS x.atom.args k).2).1.map Fm.d)], .int .i64 k] [] = some (.int .i64 (x.mkr k).2, []) := by
  have e0 := Tm.mkS_end x.atom.args k
  have e1 := Fm.mkS_end x.parts (Tm.mkS x.atom.args k).2
  rw [Fm.mkr]
  dsimp only
  have p0 : (Fm.mk (x.op) (Tm.mk (x.atom.name) ((Tm.mkS x.atom.args k).1)) (x.var) ((Fm.mkS x.parts (Tm.mkS x.atom.args k).2).1)).op = x.op := rfl
  have p1 : (Fm.mk (x.op) (Tm.mk (x.atom.name) ((Tm.mkS x.atom.args k).1)) (x.var) ((Fm.mkS x.parts (Tm.mkS x.atom.args k).2).1)).atom = (Tm.mk (x.atom.name) ((Tm.mkS x.atom.args k).1)) := rfl
  have p2 : (Tm.mk (x.atom.name) ((Tm.mkS x.atom.args k).1)).name = x.atom.name := rfl
  have p3 : (Tm.mk (x.atom.name) ((Tm.mkS x.atom.args k).1)).args = (Tm.mkS x.atom.args k).1 := rfl
  have p4 : (Fm.mk (x.op) (Tm.mk (x.atom.name) ((Tm.mkS x.atom.args k).1)) (x.var) ((Fm.mkS x.parts (Tm.mkS x.atom.args k).2).1)).var = x.var := rfl
  have p5 : (Fm.mk (x.op) (Tm.mk (x.atom.name) ((Tm.mkS x.atom.args k).1)) (x.var) ((Fm.mkS x.parts (Tm.mkS x.atom.args k).2).1)).parts = (Fm.mkS x.parts (Tm.mkS x.atom.args k).2).1 := rfl
  have c0 := heldT_Term x.atom k (by omega) (by omega)
  rw [Tm.mkr] at c0
  dsimp only at c0
  have c1 := heldTS_Formula x.parts (Tm.mkS x.atom.args k).2 (by omega) (by omega)
  refine E_walk k_laws_heldFormula m_laws_heldFormula (of_decide_eq_true rfl) ?_
  simp (disch := omega) only [c_laws_heldFormula, go_sem, go_cond, zA, zB, zC, zD, zE, zF, zG, zH, ↓reduceIte, zI, reduceCtorEq, zJ, zK, c0, m_laws_heldTerm, c1, m_laws_heldFormulaS, p0, p1, p2, p3, p4, p5]
def c_laws_szTerm : SC := (.seq (.reg [⟨some 2, none, .boxv 24 2 (.t 0)⟩, ⟨some 4, none, .mv (.c (.int .i64 0))⟩]) (.seq (.reg [⟨some 5, none, .mv (.t 1)⟩, ⟨some 6, none, .faddr 0 (.t 2)⟩, ⟨some 7, none, .load false 1 (.t 6)⟩, ⟨some 8, none, .len true (.t 7)⟩, ⟨some 9, none, .bin .sub false (.t 5) (.t 8)⟩, ⟨some 1, none, .mv (.t 9)⟩]) (.seq (.seq (.reg [⟨some 10, none, .mv (.t 1)⟩, ⟨some 11, none, .bin .lss false (.t 10) (.c (.int .i64 0))⟩]) (.cond (.t 11) (.seq (.reg [⟨some 4, none, .mv (.c (.int .i64 (-(0 + 1))))⟩]) .ret) .skip)) (.seq (.reg [⟨some 12, none, .faddr 1 (.t 2)⟩, ⟨some 13, none, .load false 1 (.t 12)⟩, ⟨some 14, none, .mv (.t 1)⟩, ⟨some 15, none, .call 43 [(.t 13), (.t 14)]⟩, ⟨some 1, none, .mv (.t 15)⟩]) (.seq (.seq (.reg [⟨some 16, none, .mv (.t 1)⟩, ⟨some 17, none, .bin .lss false (.t 16) (.c (.int .i64 0))⟩]) (.cond (.t 17) (.seq (.reg [⟨some 4, none, .mv (.c (.int .i64 (-(0 + 1))))⟩]) .ret) .skip)) (.seq (.reg [⟨some 18, none, .mv (.t 1)⟩, ⟨some 4, none, .mv (.t 18)⟩]) .ret))))))
theorem k_laws_szTerm : codeOf Tryz.prog 18 = some ⟨19, c_laws_szTerm, [(.tmp 4)]⟩ := by kernel_rfl
theorem m_laws_szTerm : modes 18 = ⟨[], .asis, none, false⟩ := by unfold modes; rfl
def c_laws_szTermS : SC := (.seq (.reg [⟨some 4, none, .mv (.c (.int .i64 0))⟩]) (.seq (.reg [⟨some 6, none, .mv (.t 1)⟩, ⟨some 7, none, .mv (.t 0)⟩, ⟨some 8, none, .len false (.t 7)⟩, ⟨some 9, none, .bin .sub false (.t 6) (.t 8)⟩, ⟨some 1, none, .mv (.t 9)⟩]) (.seq (.seq (.reg [⟨some 10, none, .mv (.t 1)⟩, ⟨some 11, none, .bin .lss false (.t 10) (.c (.int .i64 0))⟩]) (.cond (.t 11) (.seq (.reg [⟨some 4, none, .mv (.c (.int .i64 (-(0 + 1))))⟩]) .ret) .skip)) (.seq (.seq (.reg [⟨some 5, none, .mv (.c (.int .i64 0))⟩]) (.block 0 (.loop [1, 1, 0, 0, 0, 1, 0, 0, 0, 0, 0, 0, 0, 0, 0, 0, 0, 0, 0, 0, 0, 0, 0, 0, 0, 0, 0] (.seq (.seq (.reg [⟨some 12, none, .mv (.t 5)⟩, ⟨some 13, none, .mv (.t 0)⟩, ⟨some 14, none, .len false (.t 13)⟩, ⟨some 15, none, .bin .lss false (.t 12) (.t 14)⟩]) (.cond (.t 15) .skip (.exit 0))) (.seq (.block 1 (.seq (.reg [⟨some 18, none, .mv (.t 0)⟩, ⟨some 19, none, .mv (.t 5)⟩, ⟨some 20, none, .iaddr 2 (.t 18) (.t 19)⟩, ⟨some 21, none, .load true 2 (.t 20)⟩, ⟨some 22, none, .mv (.t 1)⟩, ⟨some 23, none, .call 18 [(.t 21), (.t 22)]⟩, ⟨some 1, none, .mv (.t 23)⟩]) (.seq (.reg [⟨some 24, none, .mv (.t 1)⟩, ⟨some 25, none, .bin .lss false (.t 24) (.c (.int .i64 0))⟩]) (.cond (.t 25) (.seq (.reg [⟨some 4, none, .mv (.c (.int .i64 (-(0 + 1))))⟩]) .ret) .skip)))) (.reg [⟨some 16, none, .mv (.t 5)⟩, ⟨some 17, none, .bin .add false (.t 16) (.c (.int .i64 1))⟩, ⟨some 5, none, .mv (.t 17)⟩])))))) (.seq (.reg [⟨some 26, none, .mv (.t 1)⟩, ⟨some 4, none, .mv (.t 26)⟩]) .ret)))))
theorem k_laws_szTermS : codeOf Tryz.prog 43 = some ⟨27, c_laws_szTermS, [(.tmp 4)]⟩ := by kernel_rfl
theorem m_laws_szTermS : modes 43 = ⟨[], .asis, none, false⟩ := by unfold modes; rfl
abbrev SzT_Term (x : Tm) : Prop := D.fits x.d → ∀ left : Int, 0 ≤ left → left ≤ 1048576 → E 18 [x.sv, .int .i64 left] [] = some (.int .i64 (szR left x.bulk), [])
abbrev SzTS_Term (xs : List Tm) : Prop := D.fit (.arr (xs.map Tm.d)) → ∀ left : Int, 0 ≤ left → left ≤ 1048576 → E 43 [.arr (xs.map Tm.d), .int .i64 left] [] = some (.int .i64 (szR left (xs.length + Tm.sumB xs : Nat)), [])
set_option maxHeartbeats 1000000 in
theorem szTS_Term_of (xs : List Tm) (h : ∀ x ∈ xs, SzT_Term x) : SzTS_Term xs := by
  intro hfit left h0 h1
  simp only [D.fit, List.length_map] at hfit
  have q0 := szR_spec left (xs.length + Tm.sumB xs)
  refine E_walk k_laws_szTermS m_laws_szTermS (of_decide_eq_true rfl) ?_
  simp (disch := omega) only [c_laws_szTermS, go_sem, go_cond, zA, zB, zC, zD, zE, zF, zG, zH, ↓reduceIte, zI, reduceCtorEq, zJ, zK]
  repeat' (refine boolP_split (fun hq => ?_) (fun hq => ?_) <;> (first | replace hq := dec_iff.1 hq | replace hq := dec_not.1 hq) <;> (try simp (disch := omega) only [go_sem, go_cond, zA, zB, zC, zD, zE, zF, zG, zH, ↓reduceIte, zI, reduceCtorEq, zJ, zK]))
  · omega
  refine go_loop (α := Int × Int) (fun a => ⟨slots 27 0 [(0, .arr (xs.map Tm.d)), (1, .int .i64 a.2), (5, .int .i64 a.1)], []⟩) (fun a => ∃ k : Nat, a.1 = k ∧ k ≤ xs.length ∧ 0 ≤ a.2 ∧ a.2 ≤ 1048576 ∧ szR a.2 (Tm.sumB (xs.drop k)) = szR left (xs.length + Tm.sumB xs : Nat)) (fun a => xs.length - a.1.toNat) (0, left - xs.length) ⟨0, rfl, Nat.zero_le _, by omega, by omega, ?_⟩ (by simp (disch := omega) only [go_sem, go_cond, zA, zB, zC, zD, zE, zF, zG, zH, ↓reduceIte, zI, reduceCtorEq, zJ, zK]) ?_
  · have q1 := szR_spec (left - xs.length) (Tm.sumB xs)
    rw [List.drop_zero]
    dsimp only
    omega
  · rintro ⟨i, l⟩ ⟨k, hi, hk, hl0, hl1, hs⟩
    dsimp only at hi hl0 hl1 hs
    rcases Nat.lt_or_ge k xs.length with hlt | hge
    · have hg := get_at Tm.d hlt
      rw [Tm.d_eq] at hg
      have hd : Tm.sumB (xs.drop k) = xs[k].bulk + Tm.sumB (xs.drop (k + 1)) := by rw [List.drop_eq_getElem_cons hlt, Tm.sumB]
      rw [hd] at hs
      have hc := h xs[k] (List.getElem_mem hlt) (D.fitss_mem hfit.2 _ (List.getElem_mem hlt)) l hl0 hl1
      have q1 := szR_spec l xs[k].bulk
      have q2 := szR_spec l (xs[k].bulk + Tm.sumB (xs.drop (k + 1)))
      have q3 := szR_spec (l - xs[k].bulk) (Tm.sumB (xs.drop (k + 1)))
      have hn : i.toNat = k := by omega
      simp (disch := omega) only [go_sem, go_cond, zA, zB, zC, zD, zE, zF, zG, zH, ↓reduceIte, zI, reduceCtorEq, zJ, zK, hn, hg, hc, m_laws_szTerm]
      repeat' (refine boolP_split (fun hq => ?_) (fun hq => ?_) <;> (first | replace hq := dec_iff.1 hq | replace hq := dec_not.1 hq) <;> (try simp (disch := omega) only [go_sem, go_cond, zA, zB, zC, zD, zE, zF, zG, zH, ↓reduceIte, zI, reduceCtorEq, zJ, zK]))
      · omega
      · refine ⟨(i + 1, l - xs[k].bulk), ⟨k + 1, by dsimp only; omega, hlt, by dsimp only; omega, by dsimp only; omega, by dsimp only; omega⟩, by dsimp only; omega, ?_⟩
        have e : szR l xs[k].bulk = l - xs[k].bulk := by omega
        simp only [e, and_self]
    · have hd : xs.drop k = [] := List.drop_eq_nil_of_le hge
      rw [hd] at hs
      have q1 := szR_spec l (Tm.sumB [])
      simp only [Tm.sumB] at hs q1
      simp (disch := omega) only [go_sem, go_cond, zA, zB, zC, zD, zE, zF, zG, zH, ↓reduceIte, zI, reduceCtorEq, zJ, zK]
      omega
set_option maxHeartbeats 1000000 in
theorem szT_Term_of (x : Tm) (h_args : SzTS_Term x.args) : SzT_Term x := by
  intro hfit left h0 h1
  rw [Tm.d_eq] at hfit
  simp only [D.fits, D.fit] at hfit
  replace h_args := h_args (by simp only [D.fit, List.length_map]; simp only [List.length_map] at hfit; simp only [hfit, and_self])
  have q := szR_spec left x.bulk
  have qb := Tm.bulk_eq x
  have q0 := szR_spec (left - (x.name.size : Int)) ((x.args.length + Tm.sumB x.args))
  refine E_walk k_laws_szTerm m_laws_szTerm (of_decide_eq_true rfl) ?_
  simp (disch := omega) only [c_laws_szTerm, go_sem, go_cond, zA, zB, zC, zD, zE, zF, zG, zH, ↓reduceIte, zI, reduceCtorEq, zJ, zK, h_args, m_laws_szTermS]
  repeat' (refine boolP_split (fun hq => ?_) (fun hq => ?_) <;> (first | replace hq := dec_iff.1 hq | replace hq := dec_not.1 hq) <;> (try simp (disch := omega) only [go_sem, go_cond, zA, zB, zC, zD, zE, zF, zG, zH, ↓reduceIte, zI, reduceCtorEq, zJ, zK, h_args, m_laws_szTermS]))
  all_goals omega
theorem szT_Term (x : Tm) : SzT_Term x := szT_Term_of x (szTS_Term_of x.args fun y hy => szT_Term y)
termination_by SizeOf.sizeOf x
decreasing_by exact Tm.lt_of_mem hy
def c_laws_szFormula : SC := (.seq (.reg [⟨some 2, none, .boxv 27 5 (.t 0)⟩, ⟨some 4, none, .mv (.c (.int .i64 0))⟩]) (.seq (.reg [⟨some 5, none, .faddr 1 (.t 2)⟩, ⟨some 6, none, .load true 2 (.t 5)⟩, ⟨some 7, none, .mv (.t 1)⟩, ⟨some 8, none, .call 18 [(.t 6), (.t 7)]⟩, ⟨some 1, none, .mv (.t 8)⟩]) (.seq (.seq (.reg [⟨some 9, none, .mv (.t 1)⟩, ⟨some 10, none, .bin .lss false (.t 9) (.c (.int .i64 0))⟩]) (.cond (.t 10) (.seq (.reg [⟨some 4, none, .mv (.c (.int .i64 (-(0 + 1))))⟩]) .ret) .skip)) (.seq (.reg [⟨some 11, none, .mv (.t 1)⟩, ⟨some 12, none, .faddr 3 (.t 2)⟩, ⟨some 13, none, .load false 1 (.t 12)⟩, ⟨some 14, none, .len true (.t 13)⟩, ⟨some 15, none, .bin .sub false (.t 11) (.t 14)⟩, ⟨some 1, none, .mv (.t 15)⟩]) (.seq (.seq (.reg [⟨some 16, none, .mv (.t 1)⟩, ⟨some 17, none, .bin .lss false (.t 16) (.c (.int .i64 0))⟩]) (.cond (.t 17) (.seq (.reg [⟨some 4, none, .mv (.c (.int .i64 (-(0 + 1))))⟩]) .ret) .skip)) (.seq (.reg [⟨some 18, none, .faddr 4 (.t 2)⟩, ⟨some 19, none, .load false 1 (.t 18)⟩, ⟨some 20, none, .mv (.t 1)⟩, ⟨some 21, none, .call 19 [(.t 19), (.t 20)]⟩, ⟨some 1, none, .mv (.t 21)⟩]) (.seq (.seq (.reg [⟨some 22, none, .mv (.t 1)⟩, ⟨some 23, none, .bin .lss false (.t 22) (.c (.int .i64 0))⟩]) (.cond (.t 23) (.seq (.reg [⟨some 4, none, .mv (.c (.int .i64 (-(0 + 1))))⟩]) .ret) .skip)) (.seq (.reg [⟨some 24, none, .mv (.t 1)⟩, ⟨some 4, none, .mv (.t 24)⟩]) .ret))))))))
theorem k_laws_szFormula : codeOf Tryz.prog 5 = some ⟨25, c_laws_szFormula, [(.tmp 4)]⟩ := by kernel_rfl
theorem m_laws_szFormula : modes 5 = ⟨[], .asis, none, false⟩ := by unfold modes; rfl
def c_laws_szFormulaS : SC := (.seq (.reg [⟨some 4, none, .mv (.c (.int .i64 0))⟩]) (.seq (.reg [⟨some 6, none, .mv (.t 1)⟩, ⟨some 7, none, .mv (.t 0)⟩, ⟨some 8, none, .len false (.t 7)⟩, ⟨some 9, none, .bin .sub false (.t 6) (.t 8)⟩, ⟨some 1, none, .mv (.t 9)⟩]) (.seq (.seq (.reg [⟨some 10, none, .mv (.t 1)⟩, ⟨some 11, none, .bin .lss false (.t 10) (.c (.int .i64 0))⟩]) (.cond (.t 11) (.seq (.reg [⟨some 4, none, .mv (.c (.int .i64 (-(0 + 1))))⟩]) .ret) .skip)) (.seq (.seq (.reg [⟨some 5, none, .mv (.c (.int .i64 0))⟩]) (.block 0 (.loop [1, 1, 0, 0, 0, 1, 0, 0, 0, 0, 0, 0, 0, 0, 0, 0, 0, 0, 0, 0, 0, 0, 0, 0, 0, 0, 0] (.seq (.seq (.reg [⟨some 12, none, .mv (.t 5)⟩, ⟨some 13, none, .mv (.t 0)⟩, ⟨some 14, none, .len false (.t 13)⟩, ⟨some 15, none, .bin .lss false (.t 12) (.t 14)⟩]) (.cond (.t 15) .skip (.exit 0))) (.seq (.block 1 (.seq (.reg [⟨some 18, none, .mv (.t 0)⟩, ⟨some 19, none, .mv (.t 5)⟩, ⟨some 20, none, .iaddr 5 (.t 18) (.t 19)⟩, ⟨some 21, none, .load true 5 (.t 20)⟩, ⟨some 22, none, .mv (.t 1)⟩, ⟨some 23, none, .call 5 [(.t 21), (.t 22)]⟩, ⟨some 1, none, .mv (.t 23)⟩]) (.seq (.reg [⟨some 24, none, .mv (.t 1)⟩, ⟨some 25, none, .bin .lss false (.t 24) (.c (.int .i64 0))⟩]) (.cond (.t 25) (.seq (.reg [⟨some 4, none, .mv (.c (.int .i64 (-(0 + 1))))⟩]) .ret) .skip)))) (.reg [⟨some 16, none, .mv (.t 5)⟩, ⟨some 17, none, .bin .add false (.t 16) (.c (.int .i64 1))⟩, ⟨some 5, none, .mv (.t 17)⟩])))))) (.seq (.reg [⟨some 26, none, .mv (.t 1)⟩, ⟨some 4, none, .mv (.t 26)⟩]) .ret)))))
theorem k_laws_szFormulaS : codeOf Tryz.prog 19 = some ⟨27, c_laws_szFormulaS, [(.tmp 4)]⟩ := by kernel_rfl
theorem m_laws_szFormulaS : modes 19 = ⟨[], .asis, none, false⟩ := by unfold modes; rfl
abbrev SzT_Formula (x : Fm) : Prop := D.fits x.d → ∀ left : Int, 0 ≤ left → left ≤ 1048576 → E 5 [x.sv, .int .i64 left] [] = some (.int .i64 (szR left x.bulk), [])
abbrev SzTS_Formula (xs : List Fm) : Prop := D.fit (.arr (xs.map Fm.d)) → ∀ left : Int, 0 ≤ left → left ≤ 1048576 → E 19 [.arr (xs.map Fm.d), .int .i64 left] [] = some (.int .i64 (szR left (xs.length + Fm.sumB xs : Nat)), [])
set_option maxHeartbeats 1000000 in
theorem szTS_Formula_of (xs : List Fm) (h : ∀ x ∈ xs, SzT_Formula x) : SzTS_Formula xs := by
  intro hfit left h0 h1
  simp only [D.fit, List.length_map] at hfit
  have q0 := szR_spec left (xs.length + Fm.sumB xs)
  refine E_walk k_laws_szFormulaS m_laws_szFormulaS (of_decide_eq_true rfl) ?_
  simp (disch := omega) only [c_laws_szFormulaS, go_sem, go_cond, zA, zB, zC, zD, zE, zF, zG, zH, ↓reduceIte, zI, reduceCtorEq, zJ, zK]
  repeat' (refine boolP_split (fun hq => ?_) (fun hq => ?_) <;> (first | replace hq := dec_iff.1 hq | replace hq := dec_not.1 hq) <;> (try simp (disch := omega) only [go_sem, go_cond, zA, zB, zC, zD, zE, zF, zG, zH, ↓reduceIte, zI, reduceCtorEq, zJ, zK]))
  · omega
  refine go_loop (α := Int × Int) (fun a => ⟨slots 27 0 [(0, .arr (xs.map Fm.d)), (1, .int .i64 a.2), (5, .int .i64 a.1)], []⟩) (fun a => ∃ k : Nat, a.1 = k ∧ k ≤ xs.length ∧ 0 ≤ a.2 ∧ a.2 ≤ 1048576 ∧ szR a.2 (Fm.sumB (xs.drop k)) = szR left (xs.length + Fm.sumB xs : Nat)) (fun a => xs.length - a.1.toNat) (0, left - xs.length) ⟨0, rfl, Nat.zero_le _, by omega, by omega, ?_⟩ (by simp (disch := omega) only [go_sem, go_cond, zA, zB, zC, zD, zE, zF, zG, zH, ↓reduceIte, zI, reduceCtorEq, zJ, zK]) ?_
  · have q1 := szR_spec (left - xs.length) (Fm.sumB xs)
    rw [List.drop_zero]
    dsimp only
    omega
  · rintro ⟨i, l⟩ ⟨k, hi, hk, hl0, hl1, hs⟩
    dsimp only at hi hl0 hl1 hs
    rcases Nat.lt_or_ge k xs.length with hlt | hge
    · have hg := get_at Fm.d hlt
      rw [Fm.d_eq] at hg
      have hd : Fm.sumB (xs.drop k) = xs[k].bulk + Fm.sumB (xs.drop (k + 1)) := by rw [List.drop_eq_getElem_cons hlt, Fm.sumB]
      rw [hd] at hs
      have hc := h xs[k] (List.getElem_mem hlt) (D.fitss_mem hfit.2 _ (List.getElem_mem hlt)) l hl0 hl1
      have q1 := szR_spec l xs[k].bulk
      have q2 := szR_spec l (xs[k].bulk + Fm.sumB (xs.drop (k + 1)))
      have q3 := szR_spec (l - xs[k].bulk) (Fm.sumB (xs.drop (k + 1)))
      have hn : i.toNat = k := by omega
      simp (disch := omega) only [go_sem, go_cond, zA, zB, zC, zD, zE, zF, zG, zH, ↓reduceIte, zI, reduceCtorEq, zJ, zK, hn, hg, hc, m_laws_szFormula]
      repeat' (refine boolP_split (fun hq => ?_) (fun hq => ?_) <;> (first | replace hq := dec_iff.1 hq | replace hq := dec_not.1 hq) <;> (try simp (disch := omega) only [go_sem, go_cond, zA, zB, zC, zD, zE, zF, zG, zH, ↓reduceIte, zI, reduceCtorEq, zJ, zK]))
      · omega
      · refine ⟨(i + 1, l - xs[k].bulk), ⟨k + 1, by dsimp only; omega, hlt, by dsimp only; omega, by dsimp only; omega, by dsimp only; omega⟩, by dsimp only; omega, ?_⟩
        have e : szR l xs[k].bulk = l - xs[k].bulk := by omega
        simp only [e, and_self]
    · have hd : xs.drop k = [] := List.drop_eq_nil_of_le hge
      rw [hd] at hs
      have q1 := szR_spec l (Fm.sumB [])
      simp only [Fm.sumB] at hs q1
      simp (disch := omega) only [go_sem, go_cond, zA, zB, zC, zD, zE, zF, zG, zH, ↓reduceIte, zI, reduceCtorEq, zJ, zK]
      omega
set_option maxHeartbeats 1000000 in
theorem szT_Formula_of (x : Fm) (h_atom : SzT_Term x.atom) (h_parts : SzTS_Formula x.parts) : SzT_Formula x := by
  intro hfit left h0 h1
  rw [Fm.d_eq] at hfit
  simp only [D.fits, D.fit] at hfit
  replace h_atom := h_atom (by rw [Tm.d_eq]; simp only [D.fits, D.fit, hfit, and_self])
  replace h_parts := h_parts (by simp only [D.fit, List.length_map]; simp only [List.length_map] at hfit; simp only [hfit, and_self])
  have q := szR_spec left x.bulk
  have qb := Fm.bulk_eq x
  have q0 := szR_spec left (x.atom.bulk)
  have q41 := szR_spec ((szR left (x.atom.bulk : Nat)) - (x.var.size : Int)) ((x.parts.length + Fm.sumB x.parts))
  refine E_walk k_laws_szFormula m_laws_szFormula (of_decide_eq_true rfl) ?_
  simp (disch := omega) only [c_laws_szFormula, go_sem, go_cond, zA, zB, zC, zD, zE, zF, zG, zH, ↓reduceIte, zI, reduceCtorEq, zJ, zK, h_atom, m_laws_szTerm, h_parts, m_laws_szFormulaS]
  repeat' (refine boolP_split (fun hq => ?_) (fun hq => ?_) <;> (first | replace hq := dec_iff.1 hq | replace hq := dec_not.1 hq) <;> (try simp (disch := omega) only [go_sem, go_cond, zA, zB, zC, zD, zE, zF, zG, zH, ↓reduceIte, zI, reduceCtorEq, zJ, zK, h_atom, m_laws_szTerm, h_parts, m_laws_szFormulaS]))
  all_goals omega
theorem szT_Formula (x : Fm) : SzT_Formula x := szT_Formula_of x (szT_Term x.atom) (szTS_Formula_of x.parts fun y hy => szT_Formula y)
termination_by SizeOf.sizeOf x
decreasing_by exact Fm.lt_of_mem hy
def c_laws_toTerm : SC := (.seq (.reg [⟨some 1, none, .boxv 24 2 (.t 0)⟩, ⟨(some 2), none, (.alloc 31 [(.str ⟨#[]⟩), .nil])⟩]) (.seq (.reg [⟨(some 3), none, (.alloc 31 [(.str ⟨#[]⟩), .nil])⟩]) (.seq (.reg [⟨some 4, none, .faddr 0 (.t 1)⟩, ⟨some 5, none, .load false 1 (.t 4)⟩, ⟨some 6, none, .faddr 0 (.t 3)⟩, ⟨none, none, (.store 1 (.t 6) (.t 5))⟩]) (.seq (.reg [⟨some 7, none, .faddr 1 (.t 1)⟩, ⟨some 8, none, .load false 1 (.t 7)⟩, ⟨some 9, none, .call 48 [(.t 8)]⟩, ⟨some 10, none, .faddr 1 (.t 3)⟩, ⟨none, none, (.store 1 (.t 10) (.t 9))⟩]) (.seq (.reg [⟨some 11, none, .load true 2 (.t 3)⟩, ⟨none, none, (.store 2 (.t 2) (.t 11))⟩]) .ret)))))
theorem k_laws_toTerm : codeOf Tryz.prog 22 = some ⟨12, c_laws_toTerm, [(.cell 2 true 2)]⟩ := by kernel_rfl
theorem m_laws_toTerm : modes 22 = ⟨[], .asis, none, false⟩ := by unfold modes; rfl
def c_laws_toTermS : SC := (.seq (.reg [⟨some 2, none, .mv (.c .nil)⟩]) (.seq (.reg [⟨some 5, none, .mv (.t 0)⟩, ⟨some 6, none, .len false (.t 5)⟩, ⟨(some 7), none, (.mkslice 31 2 40 [(.str ⟨#[]⟩), .nil] (.t 6))⟩, ⟨some 3, none, .mv (.t 7)⟩]) (.seq (.seq (.reg [⟨some 4, none, .mv (.c (.int .i64 0))⟩]) (.block 0 (.loop [1, 0, 0, 1, 1, 0, 0, 0, 0, 0, 0, 0, 0, 0, 0, 0, 0, 0, 0, 0, 0, 0, 0] (.seq (.seq (.reg [⟨some 8, none, .mv (.t 4)⟩, ⟨some 9, none, .mv (.t 0)⟩, ⟨some 10, none, .len false (.t 9)⟩, ⟨some 11, none, .bin .lss false (.t 8) (.t 10)⟩]) (.cond (.t 11) .skip (.exit 0))) (.seq (.block 1 (.reg [⟨some 14, none, .mv (.t 3)⟩, ⟨some 15, none, .mv (.t 4)⟩, ⟨some 16, none, .mv (.t 0)⟩, ⟨some 17, none, .mv (.t 4)⟩, ⟨some 18, none, .iaddr 2 (.t 16) (.t 17)⟩, ⟨some 19, none, .load true 2 (.t 18)⟩, ⟨some 20, none, .call 22 [(.t 19)]⟩, ⟨some 21, none, .iaddr 2 (.t 14) (.t 15)⟩, ⟨none, none, (.store 2 (.t 21) (.t 20))⟩])) (.reg [⟨some 12, none, .mv (.t 4)⟩, ⟨some 13, none, .bin .add false (.t 12) (.c (.int .i64 1))⟩, ⟨some 4, none, .mv (.t 13)⟩])))))) (.seq (.reg [⟨some 22, none, .mv (.t 3)⟩, ⟨some 2, none, .mv (.t 22)⟩]) .ret))))
theorem k_laws_toTermS : codeOf Tryz.prog 48 = some ⟨23, c_laws_toTermS, [(.tmp 2)]⟩ := by kernel_rfl
theorem m_laws_toTermS : modes 48 = ⟨[], .asis, none, false⟩ := by unfold modes; rfl
abbrev ToT_Term (x : Tm) : Prop := x.bulk ≤ 1048576 → E 22 [x.sv] [] = some (x.osv, x.obs)
abbrev ToTS_Term (xs : List Tm) : Prop := xs.length + Tm.sumB xs ≤ 1048576 → E 48 [.arr (xs.map Tm.d)] [] = some (.ref 0, [.row 31 2 (xs.map Tm.o)])
set_option maxHeartbeats 1000000 in
theorem toTS_Term_of (xs : List Tm) (h : ∀ x ∈ xs, ToT_Term x) : ToTS_Term xs := by
  intro hb
  refine E_walk k_laws_toTermS m_laws_toTermS (of_decide_eq_true rfl) ?_
  simp (disch := omega) only [c_laws_toTermS, go_sem, go_cond, zA, zB, zC, zD, zE, zF, zG, zH, ↓reduceIte, zI, reduceCtorEq, zJ, zK]
  refine go_loop (α := Int) (fun i => ⟨slots 23 0 [(0, .arr (xs.map Tm.d)), (3, .ref 0), (4, .int .i64 i)], [.row 31 2 (fillR Tm.o [.str ⟨#[]⟩, .ow []] xs i.toNat)]⟩) (fun i => ∃ k : Nat, i = k ∧ k ≤ xs.length) (fun i => xs.length - i.toNat) 0 ⟨0, rfl, Nat.zero_le _⟩ (by simp (disch := omega) only [go_sem, go_cond, zA, zB, zC, zD, zE, zF, zG, zH, ↓reduceIte, zI, reduceCtorEq, zJ, zK, fillR_zero, Int.toNat_zero]) ?_
  · rintro i ⟨k, rfl, hk⟩
    obtain ⟨i, hi⟩ : ∃ i : Int, i = (k : Int) := ⟨_, rfl⟩
    rw [← hi]
    have hn : i.toNat = k := by omega
    have hn1 : (i + 1).toNat = k + 1 := by omega
    rcases Nat.lt_or_ge k xs.length with hlt | hge
    · have hg := get_at Tm.d hlt
      rw [Tm.d_eq] at hg
      have hz := fillR_get Tm.o [.str ⟨#[]⟩, .ow []] hlt
      have hle := Tm.bulk_le xs k hlt
      have hc := h xs[k] (List.getElem_mem hlt) (by omega)
      have hs := fillR_set Tm.o [.str ⟨#[]⟩, .ow []] hlt
      rw [Tm.o_eq] at hs
      simp (disch := omega) only [go_sem, go_cond, zA, zB, zC, zD, zE, zF, zG, zH, ↓reduceIte, zI, reduceCtorEq, zJ, zK, hn, hg, hc, hz, fillR_len, m_laws_toTerm, Tm.osv, Tm.obs]
      refine ⟨i + 1, ⟨k + 1, by omega, hlt⟩, by omega, ?_⟩
      simp (disch := omega) only [go_sem, go_cond, zA, zB, zC, zD, zE, zF, zG, zH, ↓reduceIte, zI, reduceCtorEq, zJ, zK, hn1, hs]
    · obtain rfl : k = xs.length := by omega
      simp (disch := omega) only [go_sem, go_cond, zA, zB, zC, zD, zE, zF, zG, zH, ↓reduceIte, zI, reduceCtorEq, zJ, zK, hn, fillR_end]
set_option maxHeartbeats 1000000 in
theorem toT_Term_of (x : Tm) (h_args : ToTS_Term x.args) : ToT_Term x := by
  intro hb
  have qb := Tm.bulk_eq x
  replace h_args := h_args (by omega)
  refine E_walk k_laws_toTerm m_laws_toTerm (of_decide_eq_true rfl) ?_
  simp (disch := omega) only [c_laws_toTerm, go_sem, go_cond, zA, zB, zC, zD, zE, zF, zG, zH, ↓reduceIte, zI, reduceCtorEq, zJ, zK, h_args, m_laws_toTermS]
theorem toT_Term (x : Tm) : ToT_Term x := toT_Term_of x (toTS_Term_of x.args fun y hy => toT_Term y)
termination_by SizeOf.sizeOf x
decreasing_by exact Tm.lt_of_mem hy
def c_laws_toFormula : SC := (.seq (.reg [⟨some 1, none, .boxv 27 5 (.t 0)⟩, ⟨(some 2), none, (.alloc 34 [(.int .i64 0), (.str ⟨#[]⟩), .nil, (.str ⟨#[]⟩), .nil])⟩]) (.seq (.reg [⟨(some 3), none, (.alloc 34 [(.int .i64 0), (.str ⟨#[]⟩), .nil, (.str ⟨#[]⟩), .nil])⟩]) (.seq (.reg [⟨some 4, none, .faddr 0 (.t 1)⟩, ⟨some 5, none, .load false 1 (.t 4)⟩, ⟨some 6, none, .faddr 0 (.t 3)⟩, ⟨none, none, (.store 1 (.t 6) (.t 5))⟩]) (.seq (.reg [⟨some 7, none, .faddr 1 (.t 1)⟩, ⟨some 8, none, .load true 2 (.t 7)⟩, ⟨some 9, none, .call 22 [(.t 8)]⟩, ⟨some 10, none, .faddr 1 (.t 3)⟩, ⟨none, none, (.store 2 (.t 10) (.t 9))⟩]) (.seq (.reg [⟨some 11, none, .faddr 3 (.t 1)⟩, ⟨some 12, none, .load false 1 (.t 11)⟩, ⟨some 13, none, .faddr 3 (.t 3)⟩, ⟨none, none, (.store 1 (.t 13) (.t 12))⟩]) (.seq (.reg [⟨some 14, none, .faddr 4 (.t 1)⟩, ⟨some 15, none, .load false 1 (.t 14)⟩, ⟨some 16, none, .call 23 [(.t 15)]⟩, ⟨some 17, none, .faddr 4 (.t 3)⟩, ⟨none, none, (.store 1 (.t 17) (.t 16))⟩]) (.seq (.reg [⟨some 18, none, .load true 5 (.t 3)⟩, ⟨none, none, (.store 5 (.t 2) (.t 18))⟩]) .ret)))))))
theorem k_laws_toFormula : codeOf Tryz.prog 7 = some ⟨19, c_laws_toFormula, [(.cell 2 true 5)]⟩ := by kernel_rfl
theorem m_laws_toFormula : modes 7 = ⟨[], .asis, none, false⟩ := by unfold modes; rfl
def c_laws_toFormulaS : SC := (.seq (.reg [⟨some 2, none, .mv (.c .nil)⟩]) (.seq (.reg [⟨some 5, none, .mv (.t 0)⟩, ⟨some 6, none, .len false (.t 5)⟩, ⟨(some 7), none, (.mkslice 34 5 88 [(.int .i64 0), (.str ⟨#[]⟩), .nil, (.str ⟨#[]⟩), .nil] (.t 6))⟩, ⟨some 3, none, .mv (.t 7)⟩]) (.seq (.seq (.reg [⟨some 4, none, .mv (.c (.int .i64 0))⟩]) (.block 0 (.loop [1, 0, 0, 1, 1, 0, 0, 0, 0, 0, 0, 0, 0, 0, 0, 0, 0, 0, 0, 0, 0, 0, 0] (.seq (.seq (.reg [⟨some 8, none, .mv (.t 4)⟩, ⟨some 9, none, .mv (.t 0)⟩, ⟨some 10, none, .len false (.t 9)⟩, ⟨some 11, none, .bin .lss false (.t 8) (.t 10)⟩]) (.cond (.t 11) .skip (.exit 0))) (.seq (.block 1 (.reg [⟨some 14, none, .mv (.t 3)⟩, ⟨some 15, none, .mv (.t 4)⟩, ⟨some 16, none, .mv (.t 0)⟩, ⟨some 17, none, .mv (.t 4)⟩, ⟨some 18, none, .iaddr 5 (.t 16) (.t 17)⟩, ⟨some 19, none, .load true 5 (.t 18)⟩, ⟨some 20, none, .call 7 [(.t 19)]⟩, ⟨some 21, none, .iaddr 5 (.t 14) (.t 15)⟩, ⟨none, none, (.store 5 (.t 21) (.t 20))⟩])) (.reg [⟨some 12, none, .mv (.t 4)⟩, ⟨some 13, none, .bin .add false (.t 12) (.c (.int .i64 1))⟩, ⟨some 4, none, .mv (.t 13)⟩])))))) (.seq (.reg [⟨some 22, none, .mv (.t 3)⟩, ⟨some 2, none, .mv (.t 22)⟩]) .ret))))
theorem k_laws_toFormulaS : codeOf Tryz.prog 23 = some ⟨23, c_laws_toFormulaS, [(.tmp 2)]⟩ := by kernel_rfl
theorem m_laws_toFormulaS : modes 23 = ⟨[], .asis, none, false⟩ := by unfold modes; rfl
abbrev ToT_Formula (x : Fm) : Prop := x.bulk ≤ 1048576 → E 7 [x.sv] [] = some (x.osv, x.obs)
abbrev ToTS_Formula (xs : List Fm) : Prop := xs.length + Fm.sumB xs ≤ 1048576 → E 23 [.arr (xs.map Fm.d)] [] = some (.ref 0, [.row 34 5 (xs.map Fm.o)])
set_option maxHeartbeats 1000000 in
theorem toTS_Formula_of (xs : List Fm) (h : ∀ x ∈ xs, ToT_Formula x) : ToTS_Formula xs := by
  intro hb
  refine E_walk k_laws_toFormulaS m_laws_toFormulaS (of_decide_eq_true rfl) ?_
  simp (disch := omega) only [c_laws_toFormulaS, go_sem, go_cond, zA, zB, zC, zD, zE, zF, zG, zH, ↓reduceIte, zI, reduceCtorEq, zJ, zK]
  refine go_loop (α := Int) (fun i => ⟨slots 23 0 [(0, .arr (xs.map Fm.d)), (3, .ref 0), (4, .int .i64 i)], [.row 34 5 (fillR Fm.o [.int 0, .str ⟨#[]⟩, .ow [], .str ⟨#[]⟩, .ow []] xs i.toNat)]⟩) (fun i => ∃ k : Nat, i = k ∧ k ≤ xs.length) (fun i => xs.length - i.toNat) 0 ⟨0, rfl, Nat.zero_le _⟩ (by simp (disch := omega) only [go_sem, go_cond, zA, zB, zC, zD, zE, zF, zG, zH, ↓reduceIte, zI, reduceCtorEq, zJ, zK, fillR_zero, Int.toNat_zero]) ?_
  · rintro i ⟨k, rfl, hk⟩
    obtain ⟨i, hi⟩ : ∃ i : Int, i = (k : Int) := ⟨_, rfl⟩
    rw [← hi]
    have hn : i.toNat = k := by omega
    have hn1 : (i + 1).toNat = k + 1 := by omega
    rcases Nat.lt_or_ge k xs.length with hlt | hge
    · have hg := get_at Fm.d hlt
      rw [Fm.d_eq] at hg
      have hz := fillR_get Fm.o [.int 0, .str ⟨#[]⟩, .ow [], .str ⟨#[]⟩, .ow []] hlt
      have hle := Fm.bulk_le xs k hlt
      have hc := h xs[k] (List.getElem_mem hlt) (by omega)
      have hs := fillR_set Fm.o [.int 0, .str ⟨#[]⟩, .ow [], .str ⟨#[]⟩, .ow []] hlt
      rw [Fm.o_eq] at hs
      simp (disch := omega) only [go_sem, go_cond, zA, zB, zC, zD, zE, zF, zG, zH, ↓reduceIte, zI, reduceCtorEq, zJ, zK, hn, hg, hc, hz, fillR_len, m_laws_toFormula, Fm.osv, Fm.obs]
      refine ⟨i + 1, ⟨k + 1, by omega, hlt⟩, by omega, ?_⟩
      simp (disch := omega) only [go_sem, go_cond, zA, zB, zC, zD, zE, zF, zG, zH, ↓reduceIte, zI, reduceCtorEq, zJ, zK, hn1, hs]
    · obtain rfl : k = xs.length := by omega
      simp (disch := omega) only [go_sem, go_cond, zA, zB, zC, zD, zE, zF, zG, zH, ↓reduceIte, zI, reduceCtorEq, zJ, zK, hn, fillR_end]
set_option maxHeartbeats 1000000 in
theorem toT_Formula_of (x : Fm) (h_atom : ToT_Term x.atom) (h_parts : ToTS_Formula x.parts) : ToT_Formula x := by
  intro hb
  have qb := Fm.bulk_eq x
  replace h_atom := h_atom (by omega)
  replace h_parts := h_parts (by omega)
  refine E_walk k_laws_toFormula m_laws_toFormula (of_decide_eq_true rfl) ?_
  simp (disch := omega) only [c_laws_toFormula, go_sem, go_cond, zA, zB, zC, zD, zE, zF, zG, zH, ↓reduceIte, zI, reduceCtorEq, zJ, zK, h_atom, m_laws_toTerm, h_parts, m_laws_toFormulaS]
theorem toT_Formula (x : Fm) : ToT_Formula x := toT_Formula_of x (toT_Term x.atom) (toTS_Formula_of x.parts fun y hy => toT_Formula y)
termination_by SizeOf.sizeOf x
decreasing_by exact Fm.lt_of_mem hy
def c_laws_eqTerm : SC := (.seq (.reg [⟨some 2, none, .boxv 31 2 (.t 0)⟩, ⟨some 3, none, .boxv 31 2 (.t 1)⟩, ⟨some 4, none, .mv (.c (.bool false))⟩]) (.seq (.seq (.reg [⟨some 5, none, .faddr 0 (.t 2)⟩, ⟨some 6, none, .load false 1 (.t 5)⟩, ⟨some 7, none, .faddr 0 (.t 3)⟩, ⟨some 8, none, .load false 1 (.t 7)⟩, ⟨some 9, none, .bin .neq false (.t 6) (.t 8)⟩]) (.cond (.t 9) (.seq (.reg [⟨some 4, none, .mv (.c (.bool false))⟩]) .ret) .skip)) (.seq (.seq (.reg [⟨some 10, none, .faddr 1 (.t 2)⟩, ⟨some 11, none, .load false 1 (.t 10)⟩, ⟨some 12, none, .faddr 1 (.t 3)⟩, ⟨some 13, none, .load false 1 (.t 12)⟩, ⟨some 14, none, .call 52 [(.t 11), (.t 13)]⟩, ⟨some 15, none, .un .not (.t 14)⟩]) (.cond (.t 15) (.seq (.reg [⟨some 4, none, .mv (.c (.bool false))⟩]) .ret) .skip)) (.seq (.reg [⟨some 4, none, .mv (.c (.bool true))⟩]) .ret))))
theorem k_laws_eqTerm : codeOf Tryz.prog 27 = some ⟨16, c_laws_eqTerm, [(.tmp 4)]⟩ := by kernel_rfl
theorem m_laws_eqTerm : modes 27 = ⟨[], .asis, none, false⟩ := by unfold modes; rfl
def c_laws_eqTermS : SC := (.seq (.reg [⟨some 4, none, .mv (.c (.bool false))⟩]) (.seq (.seq (.reg [⟨some 6, none, .mv (.t 0)⟩, ⟨some 7, none, .len false (.t 6)⟩, ⟨some 8, none, .mv (.t 1)⟩, ⟨some 9, none, .len false (.t 8)⟩, ⟨some 10, none, .bin .neq false (.t 7) (.t 9)⟩]) (.cond (.t 10) (.seq (.reg [⟨some 4, none, .mv (.c (.bool false))⟩]) .ret) .skip)) (.seq (.seq (.reg [⟨some 5, none, .mv (.c (.int .i64 0))⟩]) (.block 0 (.loop [1, 1, 0, 0, 0, 1, 0, 0, 0, 0, 0, 0, 0, 0, 0, 0, 0, 0, 0, 0, 0, 0, 0, 0, 0, 0, 0] (.seq (.seq (.reg [⟨some 11, none, .mv (.t 5)⟩, ⟨some 12, none, .mv (.t 0)⟩, ⟨some 13, none, .len false (.t 12)⟩, ⟨some 14, none, .bin .lss false (.t 11) (.t 13)⟩]) (.cond (.t 14) .skip (.exit 0))) (.seq (.block 1 (.seq (.dreg [[], [], [0, 1], [2, 0, 1], [], [], [4, 5], [6, 4, 5], [3, 2, 0, 1, 7, 6, 4, 5], [8, 3, 2, 0, 1, 7, 6, 4, 5]] [⟨some 17, none, .mv (.t 0)⟩, ⟨some 18, none, .mv (.t 5)⟩, ⟨some 19, none, .iaddr 2 (.t 17) (.t 18)⟩, ⟨some 20, none, .load true 2 (.t 19)⟩, ⟨some 21, none, .mv (.t 1)⟩, ⟨some 22, none, .mv (.t 5)⟩, ⟨some 23, none, .iaddr 2 (.t 21) (.t 22)⟩, ⟨some 24, none, .load true 2 (.t 23)⟩, ⟨some 25, none, .call 27 [(.t 20), (.t 24)]⟩, ⟨some 26, none, .un .not (.t 25)⟩]) (.cond (.t 26) (.seq (.reg [⟨some 4, none, .mv (.c (.bool false))⟩]) .ret) .skip))) (.reg [⟨some 15, none, .mv (.t 5)⟩, ⟨some 16, none, .bin .add false (.t 15) (.c (.int .i64 1))⟩, ⟨some 5, none, .mv (.t 16)⟩])))))) (.seq (.reg [⟨some 4, none, .mv (.c (.bool true))⟩]) .ret))))
theorem k_laws_eqTermS : codeOf Tryz.prog 52 = some ⟨27, c_laws_eqTermS, [(.tmp 4)]⟩ := by kernel_rfl
theorem m_laws_eqTermS : modes 52 = ⟨[], .asis, none, false⟩ := by unfold modes; rfl
abbrev EqT_Term (x : Tm) : Prop := x.bulk ≤ 1048576 → E 27 [x.sv, x.sv] [] = some (.bool true, [])
abbrev EqTS_Term (xs : List Tm) : Prop := xs.length + Tm.sumB xs ≤ 1048576 → E 52 [.arr (xs.map Tm.d), .arr (xs.map Tm.d)] [] = some (.bool true, [])
set_option maxHeartbeats 1000000 in
theorem eqTS_Term_of (xs : List Tm) (h : ∀ x ∈ xs, EqT_Term x) : EqTS_Term xs := by
  intro hb
  refine E_walk k_laws_eqTermS m_laws_eqTermS (of_decide_eq_true rfl) ?_
  simp (disch := omega) only [c_laws_eqTermS, go_sem, go_cond, zA, zB, zC, zD, zE, zF, zG, zH, ↓reduceIte, zI, reduceCtorEq, zJ, zK]
  refine go_loop (α := Int) (fun i => ⟨slots 27 0 [(0, .arr (xs.map Tm.d)), (1, .arr (xs.map Tm.d)), (5, .int .i64 i)], []⟩) (fun i => ∃ k : Nat, i = k ∧ k ≤ xs.length) (fun i => xs.length - i.toNat) 0 ⟨0, rfl, Nat.zero_le _⟩ (by simp (disch := omega) only [go_sem, go_cond, zA, zB, zC, zD, zE, zF, zG, zH, ↓reduceIte, zI, reduceCtorEq, zJ, zK]) ?_
  · rintro i ⟨k, rfl, hk⟩
    obtain ⟨i, hi⟩ : ∃ i : Int, i = (k : Int) := ⟨_, rfl⟩
    rw [← hi]
    have hn : i.toNat = k := by omega
    rcases Nat.lt_or_ge k xs.length with hlt | hge
    · have hg := get_at Tm.d hlt
      rw [Tm.d_eq] at hg
      have hle := Tm.bulk_le xs k hlt
      have hc := h xs[k] (List.getElem_mem hlt) (by omega)
      simp (disch := omega) only [go_sem, go_cond, zA, zB, zC, zD, zE, zF, zG, zH, ↓reduceIte, zI, reduceCtorEq, zJ, zK, hn, hg, hc, m_laws_eqTerm]
      refine ⟨i + 1, ⟨k + 1, by omega, hlt⟩, by omega, ?_⟩
      trivial
    · obtain rfl : k = xs.length := by omega
      simp (disch := omega) only [go_sem, go_cond, zA, zB, zC, zD, zE, zF, zG, zH, ↓reduceIte, zI, reduceCtorEq, zJ, zK, hn]
set_option maxHeartbeats 1000000 in
theorem eqT_Term_of (x : Tm) (h_args : EqTS_Term x.args) : EqT_Term x := by
  intro hb
  have qb := Tm.bulk_eq x
  replace h_args := h_args (by omega)
  refine E_walk k_laws_eqTerm m_laws_eqTerm (of_decide_eq_true rfl) ?_
  simp (disch := omega) only [c_laws_eqTerm, go_sem, go_cond, zA, zB, zC, zD, zE, zF, zG, zH, ↓reduceIte, zI, reduceCtorEq, zJ, zK, h_args, m_laws_eqTermS, dec_refl]
theorem eqT_Term (x : Tm) : EqT_Term x := eqT_Term_of x (eqTS_Term_of x.args fun y hy => eqT_Term y)
termination_by SizeOf.sizeOf x
decreasing_by exact Tm.lt_of_mem hy
def c_laws_eqFormula : SC := (.seq (.reg [⟨some 2, none, .boxv 34 5 (.t 0)⟩, ⟨some 3, none, .boxv 34 5 (.t 1)⟩, ⟨some 4, none, .mv (.c (.bool false))⟩]) (.seq (.seq (.reg [⟨some 5, none, .faddr 0 (.t 2)⟩, ⟨some 6, none, .load false 1 (.t 5)⟩, ⟨some 7, none, .faddr 0 (.t 3)⟩, ⟨some 8, none, .load false 1 (.t 7)⟩, ⟨some 9, none, .bin .neq false (.t 6) (.t 8)⟩]) (.cond (.t 9) (.seq (.reg [⟨some 4, none, .mv (.c (.bool false))⟩]) .ret) .skip)) (.seq (.seq (.reg [⟨some 10, none, .faddr 1 (.t 2)⟩, ⟨some 11, none, .load true 2 (.t 10)⟩, ⟨some 12, none, .faddr 1 (.t 3)⟩, ⟨some 13, none, .load true 2 (.t 12)⟩, ⟨some 14, none, .call 27 [(.t 11), (.t 13)]⟩, ⟨some 15, none, .un .not (.t 14)⟩]) (.cond (.t 15) (.seq (.reg [⟨some 4, none, .mv (.c (.bool false))⟩]) .ret) .skip)) (.seq (.seq (.reg [⟨some 16, none, .faddr 3 (.t 2)⟩, ⟨some 17, none, .load false 1 (.t 16)⟩, ⟨some 18, none, .faddr 3 (.t 3)⟩, ⟨some 19, none, .load false 1 (.t 18)⟩, ⟨some 20, none, .bin .neq false (.t 17) (.t 19)⟩]) (.cond (.t 20) (.seq (.reg [⟨some 4, none, .mv (.c (.bool false))⟩]) .ret) .skip)) (.seq (.seq (.reg [⟨some 21, none, .faddr 4 (.t 2)⟩, ⟨some 22, none, .load false 1 (.t 21)⟩, ⟨some 23, none, .faddr 4 (.t 3)⟩, ⟨some 24, none, .load false 1 (.t 23)⟩, ⟨some 25, none, .call 28 [(.t 22), (.t 24)]⟩, ⟨some 26, none, .un .not (.t 25)⟩]) (.cond (.t 26) (.seq (.reg [⟨some 4, none, .mv (.c (.bool false))⟩]) .ret) .skip)) (.seq (.reg [⟨some 4, none, .mv (.c (.bool true))⟩]) .ret))))))
theorem k_laws_eqFormula : codeOf Tryz.prog 9 = some ⟨27, c_laws_eqFormula, [(.tmp 4)]⟩ := by kernel_rfl
theorem m_laws_eqFormula : modes 9 = ⟨[], .asis, none, false⟩ := by unfold modes; rfl
def c_laws_eqFormulaS : SC := (.seq (.reg [⟨some 4, none, .mv (.c (.bool false))⟩]) (.seq (.seq (.reg [⟨some 6, none, .mv (.t 0)⟩, ⟨some 7, none, .len false (.t 6)⟩, ⟨some 8, none, .mv (.t 1)⟩, ⟨some 9, none, .len false (.t 8)⟩, ⟨some 10, none, .bin .neq false (.t 7) (.t 9)⟩]) (.cond (.t 10) (.seq (.reg [⟨some 4, none, .mv (.c (.bool false))⟩]) .ret) .skip)) (.seq (.seq (.reg [⟨some 5, none, .mv (.c (.int .i64 0))⟩]) (.block 0 (.loop [1, 1, 0, 0, 0, 1, 0, 0, 0, 0, 0, 0, 0, 0, 0, 0, 0, 0, 0, 0, 0, 0, 0, 0, 0, 0, 0] (.seq (.seq (.reg [⟨some 11, none, .mv (.t 5)⟩, ⟨some 12, none, .mv (.t 0)⟩, ⟨some 13, none, .len false (.t 12)⟩, ⟨some 14, none, .bin .lss false (.t 11) (.t 13)⟩]) (.cond (.t 14) .skip (.exit 0))) (.seq (.block 1 (.seq (.dreg [[], [], [0, 1], [2, 0, 1], [], [], [4, 5], [6, 4, 5], [3, 2, 0, 1, 7, 6, 4, 5], [8, 3, 2, 0, 1, 7, 6, 4, 5]] [⟨some 17, none, .mv (.t 0)⟩, ⟨some 18, none, .mv (.t 5)⟩, ⟨some 19, none, .iaddr 5 (.t 17) (.t 18)⟩, ⟨some 20, none, .load true 5 (.t 19)⟩, ⟨some 21, none, .mv (.t 1)⟩, ⟨some 22, none, .mv (.t 5)⟩, ⟨some 23, none, .iaddr 5 (.t 21) (.t 22)⟩, ⟨some 24, none, .load true 5 (.t 23)⟩, ⟨some 25, none, .call 9 [(.t 20), (.t 24)]⟩, ⟨some 26, none, .un .not (.t 25)⟩]) (.cond (.t 26) (.seq (.reg [⟨some 4, none, .mv (.c (.bool false))⟩]) .ret) .skip))) (.reg [⟨some 15, none, .mv (.t 5)⟩, ⟨some 16, none, .bin .add false (.t 15) (.c (.int .i64 1))⟩, ⟨some 5, none, .mv (.t 16)⟩])))))) (.seq (.reg [⟨some 4, none, .mv (.c (.bool true))⟩]) .ret))))
theorem k_laws_eqFormulaS : codeOf Tryz.prog 28 = some ⟨27, c_laws_eqFormulaS, [(.tmp 4)]⟩ := by kernel_rfl
theorem m_laws_eqFormulaS : modes 28 = ⟨[], .asis, none, false⟩ := by unfold modes; rfl
abbrev EqT_Formula (x : Fm) : Prop := x.bulk ≤ 1048576 → E 9 [x.sv, x.sv] [] = some (.bool true, [])
abbrev EqTS_Formula (xs : List Fm) : Prop := xs.length + Fm.sumB xs ≤ 1048576 → E 28 [.arr (xs.map Fm.d), .arr (xs.map Fm.d)] [] = some (.bool true, [])
set_option maxHeartbeats 1000000 in
theorem eqTS_Formula_of (xs : List Fm) (h : ∀ x ∈ xs, EqT_Formula x) : EqTS_Formula xs := by
  intro hb
  refine E_walk k_laws_eqFormulaS m_laws_eqFormulaS (of_decide_eq_true rfl) ?_
  simp (disch := omega) only [c_laws_eqFormulaS, go_sem, go_cond, zA, zB, zC, zD, zE, zF, zG, zH, ↓reduceIte, zI, reduceCtorEq, zJ, zK]
  refine go_loop (α := Int) (fun i => ⟨slots 27 0 [(0, .arr (xs.map Fm.d)), (1, .arr (xs.map Fm.d)), (5, .int .i64 i)], []⟩) (fun i => ∃ k : Nat, i = k ∧ k ≤ xs.length) (fun i => xs.length - i.toNat) 0 ⟨0, rfl, Nat.zero_le _⟩ (by simp (disch := omega) only [go_sem, go_cond, zA, zB, zC, zD, zE, zF, zG, zH, ↓reduceIte, zI, reduceCtorEq, zJ, zK]) ?_
  · rintro i ⟨k, rfl, hk⟩
    obtain ⟨i, hi⟩ : ∃ i : Int, i = (k : Int) := ⟨_, rfl⟩
    rw [← hi]
    have hn : i.toNat = k := by omega
    rcases Nat.lt_or_ge k xs.length with hlt | hge
    · have hg := get_at Fm.d hlt
      rw [Fm.d_eq] at hg
      have hle := Fm.bulk_le xs k hlt
      have hc := h xs[k] (List.getElem_mem hlt) (by omega)
      simp (disch := omega) only [go_sem, go_cond, zA, zB, zC, zD, zE, zF, zG, zH, ↓reduceIte, zI, reduceCtorEq, zJ, zK, hn, hg, hc, m_laws_eqFormula]
      refine ⟨i + 1, ⟨k + 1, by omega, hlt⟩, by omega, ?_⟩
      trivial
    · obtain rfl : k = xs.length := by omega
      simp (disch := omega) only [go_sem, go_cond, zA, zB, zC, zD, zE, zF, zG, zH, ↓reduceIte, zI, reduceCtorEq, zJ, zK, hn]
set_option maxHeartbeats 1000000 in
theorem eqT_Formula_of (x : Fm) (h_atom : EqT_Term x.atom) (h_parts : EqTS_Formula x.parts) : EqT_Formula x := by
  intro hb
  have qb := Fm.bulk_eq x
  replace h_atom := h_atom (by omega)
  replace h_parts := h_parts (by omega)
  refine E_walk k_laws_eqFormula m_laws_eqFormula (of_decide_eq_true rfl) ?_
  simp (disch := omega) only [c_laws_eqFormula, go_sem, go_cond, zA, zB, zC, zD, zE, zF, zG, zH, ↓reduceIte, zI, reduceCtorEq, zJ, zK, h_atom, m_laws_eqTerm, h_parts, m_laws_eqFormulaS, dec_refl]
theorem eqT_Formula (x : Fm) : EqT_Formula x := eqT_Formula_of x (eqT_Term x.atom) (eqTS_Formula_of x.parts fun y hy => eqT_Formula y)
termination_by SizeOf.sizeOf x
decreasing_by exact Fm.lt_of_mem hy
def c_laws_FnExactSeparateVariables : SC := (.seq (.reg [⟨some 1, none, .boxv 27 5 (.t 0)⟩, ⟨some 2, none, .mv (.c (.bool false))⟩]) (.seq (.reg [⟨some 3, none, .mv (.c (.int .i64 1048576))⟩]) (.seq (.reg [⟨some 14, none, .load true 5 (.t 1)⟩, ⟨some 15, none, .mv (.t 3)⟩, ⟨some 16, none, .call 5 [(.t 14), (.t 15)]⟩, ⟨some 3, none, .mv (.t 16)⟩]) (.seq (.seq (.reg [⟨some 17, none, .mv (.t 3)⟩, ⟨some 18, none, .bin .lss false (.t 17) (.c (.int .i64 0))⟩]) (.cond (.t 18) (.seq (.reg [⟨some 2, none, .mv (.c (.bool true))⟩]) .ret) .skip)) (.seq (.reg [⟨some 20, none, .load true 5 (.t 1)⟩, ⟨some 21, none, .call 7 [(.t 20)]⟩, ⟨some 22, none, .call 6 [(.t 21)]⟩, ⟨some 19, none, .mv (.t 22)⟩, ⟨some 23, none, .ext (.t 19) 0⟩, ⟨some 24, none, .ext (.t 19) 1⟩, ⟨(some 4), none, (.alloc 34 [(.int .i64 0), (.str ⟨#[]⟩), .nil, (.str ⟨#[]⟩), .nil])⟩, ⟨none, none, (.store 5 (.t 4) (.t 23))⟩, ⟨some 5, none, .mv (.t 24)⟩]) (.seq (.reg [⟨some 25, none, .load true 5 (.t 1)⟩, ⟨some 26, none, .call 7 [(.t 25)]⟩, ⟨(some 6), none, (.alloc 34 [(.int .i64 0), (.str ⟨#[]⟩), .nil, (.str ⟨#[]⟩), .nil])⟩, ⟨none, none, (.store 5 (.t 6) (.t 26))⟩]) (.seq (.reg [⟨some 28, none, .load true 5 (.t 6)⟩, ⟨some 29, none, .call 8 [(.t 28)]⟩, ⟨some 27, none, .mv (.t 29)⟩, ⟨some 30, none, .ext (.t 27) 0⟩, ⟨some 31, none, .ext (.t 27) 1⟩, ⟨(some 7), none, (.alloc 34 [(.int .i64 0), (.str ⟨#[]⟩), .nil, (.str ⟨#[]⟩), .nil])⟩, ⟨none, none, (.store 5 (.t 7) (.t 30))⟩, ⟨some 8, none, .mv (.t 31)⟩]) (.seq (.seq (.reg [⟨some 32, none, .load true 5 (.t 7)⟩, ⟨some 33, none, .load true 5 (.t 4)⟩, ⟨some 34, none, .call 9 [(.t 32), (.t 33)]⟩, ⟨some 35, none, .un .not (.t 34)⟩, ⟨some 36, none, .mv (.t 35)⟩, ⟨(some 37), (some (36, false)), (.mv (.t 8))⟩, ⟨(some 38), (some (36, false)), (.mv (.t 5))⟩, ⟨(some 39), (some (36, false)), (.bin .neq true (.t 37) (.t 38))⟩, ⟨some 40, none, .pick (.t 36) (.c (.bool true)) (.t 39)⟩]) (.cond (.t 40) (.seq (.reg [⟨some 2, none, .mv (.c (.bool false))⟩]) .ret) .skip)) (.seq (.seq (.dreg [[], [], [1], [0, 2, 1], [3, 0, 2, 1]] [⟨some 41, none, .load true 5 (.t 6)⟩, ⟨some 42, none, .load true 5 (.t 1)⟩, ⟨some 43, none, .call 7 [(.t 42)]⟩, ⟨some 44, none, .call 9 [(.t 41), (.t 43)]⟩, ⟨some 45, none, .un .not (.t 44)⟩]) (.cond (.t 45) (.seq (.reg [⟨some 2, none, .mv (.c (.bool false))⟩]) .ret) .skip)) (.seq (.reg [⟨some 9, none, .mv (.c (.int .i64 1))⟩]) (.seq (.reg [⟨some 46, none, .load true 5 (.t 6)⟩, ⟨some 47, none, .mv (.t 9)⟩, ⟨some 48, none, .call 10 [(.t 46), (.t 47)]⟩, ⟨some 9, none, .mv (.t 48)⟩]) (.seq (.seq (.reg [⟨some 49, none, .mv (.t 9)⟩, ⟨some 50, none, .bin .lss false (.t 49) (.c (.int .i64 0))⟩, ⟨some 51, none, .mv (.t 50)⟩, ⟨(some 52), (some (51, false)), (.load true 5 (.t 7))⟩, ⟨(some 53), (some (51, false)), (.load true 5 (.t 4))⟩, ⟨(some 54), (some (51, false)), (.call 9 [(.t 52), (.t 53)])⟩, ⟨(some 55), (some (51, false)), (.un .not (.t 54))⟩, ⟨some 56, none, .pick (.t 51) (.c (.bool true)) (.t 55)⟩, ⟨some 57, none, .mv (.t 56)⟩, ⟨(some 58), (some (57, false)), (.mv (.t 8))⟩, ⟨(some 59), (some (57, false)), (.mv (.t 5))⟩, ⟨(some 60), (some (57, false)), (.bin .neq true (.t 58) (.t 59))⟩, ⟨some 61, none, .pick (.t 57) (.c (.bool true)) (.t 60)⟩]) (.cond (.t 61) (.seq (.reg [⟨some 2, none, .mv (.c (.bool false))⟩]) .ret) .skip)) (.seq (.reg [⟨some 10, none, .mv (.c (.int .i64 1))⟩]) (.seq (.reg [⟨some 62, none, .load true 5 (.t 7)⟩, ⟨some 63, none, .mv (.t 10)⟩, ⟨some 64, none, .call 10 [(.t 62), (.t 63)]⟩, ⟨some 10, none, .mv (.t 64)⟩]) (.seq (.reg [⟨some 11, none, .mv (.c (.int .i64 1))⟩]) (.seq (.reg [⟨some 65, none, .load true 5 (.t 7)⟩, ⟨some 66, none, .mv (.t 11)⟩, ⟨some 67, none, .call 11 [(.t 65), (.t 66)]⟩, ⟨some 11, none, .mv (.t 67)⟩]) (.seq (.seq (.reg [⟨some 68, none, .mv (.t 11)⟩, ⟨some 69, none, .bin .lss false (.t 68) (.c (.int .i64 0))⟩]) (.cond (.t 69) (.seq (.reg [⟨some 2, none, .mv (.c (.bool false))⟩]) .ret) .skip)) (.seq (.seq (.reg [⟨some 70, none, .mv (.t 11)⟩, ⟨some 71, none, .mv (.t 10)⟩, ⟨some 72, none, .bin .neq false (.t 70) (.t 71)⟩]) (.cond (.t 72) (.seq (.reg [⟨some 2, none, .mv (.c (.bool false))⟩]) .ret) .skip)) (.seq (.reg [⟨some 74, none, .load true 5 (.t 1)⟩, ⟨some 75, none, .call 7 [(.t 74)]⟩, ⟨some 76, none, .call 8 [(.t 75)]⟩, ⟨some 73, none, .mv (.t 76)⟩, ⟨some 77, none, .ext (.t 73) 0⟩, ⟨some 78, none, .ext (.t 73) 1⟩, ⟨(some 12), none, (.alloc 34 [(.int .i64 0), (.str ⟨#[]⟩), .nil, (.str ⟨#[]⟩), .nil])⟩, ⟨none, none, (.store 5 (.t 12) (.t 77))⟩, ⟨some 13, none, .mv (.t 78)⟩]) (.seq (.seq (.reg [⟨some 79, none, .load true 5 (.t 12)⟩, ⟨some 80, none, .load true 5 (.t 4)⟩, ⟨some 81, none, .call 9 [(.t 79), (.t 80)]⟩, ⟨some 82, none, .un .not (.t 81)⟩, ⟨some 83, none, .mv (.t 82)⟩, ⟨(some 84), (some (83, false)), (.mv (.t 13))⟩, ⟨(some 85), (some (83, false)), (.mv (.t 5))⟩, ⟨(some 86), (some (83, false)), (.bin .neq true (.t 84) (.t 85))⟩, ⟨some 87, none, .pick (.t 83) (.c (.bool true)) (.t 86)⟩]) (.cond (.t 87) (.seq (.reg [⟨some 2, none, .mv (.c (.bool false))⟩]) .ret) .skip)) (.seq (.reg [⟨some 11, none, .mv (.c (.int .i64 1))⟩]) (.seq (.reg [⟨some 88, none, .load true 5 (.t 7)⟩, ⟨some 89, none, .mv (.t 11)⟩, ⟨some 90, none, .call 11 [(.t 88), (.t 89)]⟩, ⟨some 11, none, .mv (.t 90)⟩]) (.seq (.seq (.reg [⟨some 91, none, .mv (.t 11)⟩, ⟨some 92, none, .bin .lss false (.t 91) (.c (.int .i64 0))⟩]) (.cond (.t 92) (.seq (.reg [⟨some 2, none, .mv (.c (.bool false))⟩]) .ret) .skip)) (.seq (.seq (.reg [⟨some 93, none, .mv (.t 11)⟩, ⟨some 94, none, .mv (.t 10)⟩, ⟨some 95, none, .bin .neq false (.t 93) (.t 94)⟩]) (.cond (.t 95) (.seq (.reg [⟨some 2, none, .mv (.c (.bool false))⟩]) .ret) .skip)) (.seq (.reg [⟨some 2, none, .mv (.c (.bool true))⟩]) .ret)))))))))))))))))))))))))
theorem k_laws_FnExactSeparateVariables : codeOf Tryz.prog 3 = some ⟨96, c_laws_FnExactSeparateVariables, [(.tmp 2)]⟩ := by kernel_rfl
theorem m_laws_FnExactSeparateVariables : modes 3 = ⟨[], .asis, none, false⟩ := by unfold modes; rfl
theorem Fm.zero_bulk : Fm.zero.bulk = 0 := by
  rw [Fm.bulk_eq]
  show Tm.zero.bulk + 0 + (0 + Fm.sumB []) = _
  rw [Tm.bulk_eq, Fm.sumB]
  show (0 + (0 + Tm.sumB [])) + 0 + 0 = _
  rw [Tm.sumB]
theorem sepTo_bulk (x : Fm) : (sepTo x).bulk ≤ 1048576 := by
  unfold sepTo
  cases h : sepOk x with
  | false => rw [cond_false, Fm.zero_bulk]; omega
  | true =>
    rw [cond_true]
    unfold sepOk at h
    rw [Bool.and_eq_true] at h
    have h2 := h.2
    unfold Fm.valid at h2
    rw [Bool.and_eq_true, decide_eq_true_eq] at h2
    have := Fm.forms_bulk _ h2.2
    omega
set_option maxHeartbeats 8000000 in
theorem law36_E (x : Fm) (hfx : D.fits x.d) : E 3 [x.sv] [] = some (.bool true, []) := by
  have s0 := szT_Formula x hfx 1048576 (by omega) (by omega)
  have q0 := szR_spec 1048576 x.bulk
  obtain ⟨l0, hl0⟩ : ∃ l, l = szR 1048576 (x.bulk : Nat) := ⟨_, rfl⟩
  rw [← hl0] at s0 q0
  rcases Int.lt_or_le l0 0 with h0 | h0_0
  · refine E_walk k_laws_FnExactSeparateVariables m_laws_FnExactSeparateVariables (of_decide_eq_true rfl) ?_
    simp (disch := omega) only [c_laws_FnExactSeparateVariables, go_sem, go_cond, zA, zB, zC, zD, zE, zF, zG, zH, ↓reduceIte, zI, reduceCtorEq, zJ, zK, s0, m_laws_szFormula]
  have hb_x : x.bulk ≤ 1048576 := by omega
  have t_x := toT_Formula x hb_x
  obtain ⟨htx, hnx⟩ := Fm.bulk_tame x hb_x
  have a1 := l9SeparateVariables_E x htx (by omega)
  have a2 := separateVariables_E x htx (by omega)
  have hb_r := sepTo_bulk x
  obtain ⟨r, hr_r⟩ : ∃ r, r = sepTo x := ⟨_, rfl⟩
  rw [← hr_r] at a1 a2 hb_r
  obtain ⟨o, hr_o⟩ : ∃ r, r = sepOk x := ⟨_, rfl⟩
  rw [← hr_o] at a1 a2
  have eq_x := eqT_Formula x (by omega)
  have be_x := Fm.bulk_eq x
  have be_x_atom := Tm.bulk_eq x.atom
  have w_x_atom_args := Tm.wtS_bulk x.atom.args
  have w_x_parts := Fm.wtS_bulk x.parts
  have eq_r := eqT_Formula r (by omega)
  have be_r := Fm.bulk_eq r
  have be_r_atom := Tm.bulk_eq r.atom
  have w_r_atom_args := Tm.wtS_bulk r.atom.args
  have w_r_parts := Fm.wtS_bulk r.parts
  have k_x_0 := Tm.mkS_end x.atom.args (1)
  have k_x_1 := Fm.mkS_end x.parts ((Tm.mkS x.atom.args (1)).2)
  have m_x := markT_Formula x (1) (.row 31 2 (x.atom.args.map Tm.o)) (.row 34 5 (x.parts.map Fm.o)) (by omega) (by omega) rfl rfl
  obtain ⟨n_x, hn_x⟩ : ∃ n1, n1 = (x.mkr (1)).2 := ⟨_, rfl⟩
  have hn'_x : n_x = (Fm.mkS x.parts ((Tm.mkS x.atom.args (1)).2)).2 := hn_x
  rw [← hn_x] at m_x
  have k_r_0 := Tm.mkS_end r.atom.args (1)
  have k_r_1 := Fm.mkS_end r.parts ((Tm.mkS r.atom.args (1)).2)
  have m_r := markT_Formula r (1) (.row 31 2 (r.atom.args.map Tm.o)) (.row 34 5 (r.parts.map Fm.o)) (by omega) (by omega) rfl rfl
  have hd_r := heldT_Formula r (1) (by omega) (by omega)
  obtain ⟨n_r, hn_r⟩ : ∃ n1, n1 = (r.mkr (1)).2 := ⟨_, rfl⟩
  have hn'_r : n_r = (Fm.mkS r.parts ((Tm.mkS r.atom.args (1)).2)).2 := hn_r
  rw [← hn_r] at m_r hd_r
  refine E_walk k_laws_FnExactSeparateVariables m_laws_FnExactSeparateVariables (of_decide_eq_true rfl) ?_
  simp (disch := omega) only [c_laws_FnExactSeparateVariables, go_sem, zA, zB, zC, zD, zE, zF, zG, zH, ↓reduceIte, zI, reduceCtorEq, zJ, zK, s0, t_x, a1, a2, eq_x, eq_r, m_x, hd_r, m_r, dec_refl, m_laws_szFormula, m_laws_toFormula, m_laws_eqFormula, m_laws_markFormula, m_laws_heldFormula, m_spec_SeparateVariables, m_impl_SeparateVariables, Fm.osv, Fm.obs, Tm.osv, Tm.obs, Tm.erss, Tm.noss, Fm.erss, Fm.noss]
  repeat ((first | (refine go_condT ?_ ?_; (focus (simp (disch := omega) only [go_sem, zA, zB, zC, zD, zE, zF, zG, zH, ↓reduceIte, zI, reduceCtorEq, zJ, zK, s0, t_x, a1, a2, eq_x, eq_r, m_x, hd_r, m_r, dec_refl, m_laws_szFormula, m_laws_toFormula, m_laws_eqFormula, m_laws_markFormula, m_laws_heldFormula, m_spec_SeparateVariables, m_impl_SeparateVariables, Fm.osv, Fm.obs, Tm.osv, Tm.obs, Tm.erss, Tm.noss, Fm.erss, Fm.noss]; done))) | (refine go_condF ?_ ?_; (focus (simp (disch := omega) only [go_sem, zA, zB, zC, zD, zE, zF, zG, zH, ↓reduceIte, zI, reduceCtorEq, zJ, zK, s0, t_x, a1, a2, eq_x, eq_r, m_x, hd_r, m_r, dec_refl, m_laws_szFormula, m_laws_toFormula, m_laws_eqFormula, m_laws_markFormula, m_laws_heldFormula, m_spec_SeparateVariables, m_impl_SeparateVariables, Fm.osv, Fm.obs, Tm.osv, Tm.obs, Tm.erss, Tm.noss, Fm.erss, Fm.noss]; done)))); (try simp (disch := omega) only [go_sem, zA, zB, zC, zD, zE, zF, zG, zH, ↓reduceIte, zI, reduceCtorEq, zJ, zK, s0, t_x, a1, a2, eq_x, eq_r, m_x, hd_r, m_r, dec_refl, m_laws_szFormula, m_laws_toFormula, m_laws_eqFormula, m_laws_markFormula, m_laws_heldFormula, m_spec_SeparateVariables, m_impl_SeparateVariables, Fm.osv, Fm.obs, Tm.osv, Tm.obs, Tm.erss, Tm.noss, Fm.erss, Fm.noss]))
end Go.Proofs.YtihclcmgbkkhfaaGreatDoor
set_option maxRecDepth 100000
set_option linter.unusedSimpArgs false
set_option linter.unusedVariables false
namespace Go.Proofs.YtihclcmgbkkhfaaGreatDoor
open Go.RowKit Go.ChangeShapes Go.WideShapes Go.ChangeAt Go.Deep
section
variable {H : Type} {enc : TypeId × Value → H} {P : Program} {w : World} {base : Nat} {spare : Nat → Bool} {held : Bool}
theorem addr_add_plain {b o k : Nat} : (⟨b, o, none⟩ : Addr).add k = ⟨b, o + k, none⟩ := by
  unfold Addr.add; split
  · subst_vars; rfl
  · rfl
theorem cell_lt {a : Addr} {v : Value} (h : w.cell? a = some v) : a.block < w.heap.size := by
  unfold World.cell? at h
  cases hb : w.heap[a.block]? with
  | none => rw [hb] at h; cases h
  | some o => exact (Array.getElem?_eq_some_iff.1 hb).1
end
section
variable {H : Type} {enc : TypeId × Value → H} {w : World} {base : Nat} {spare : Nat → Bool} {held : Bool}
end
end Go.Proofs.YtihclcmgbkkhfaaGreatDoor
set_option maxRecDepth 100000
set_option linter.unusedSimpArgs false
set_option linter.unusedVariables false
namespace Go.Proofs.YtihclcmgbkkhfaaGreatDoor
open Go.RowKit Go.ChangeShapes Go.WideShapes Go.ChangeAt Go.Deep
section
variable {H : Type} {enc : TypeId × Value → H} {P : Program} {w : World} {base : Nat} {spare : Nat → Bool} {held : Bool}
theorem open_sl' {t e : TypeId} {fuel : Nat} {v : Value} {x : DataW H × List MemPlace} (sz : Nat) (hsz : P.cellsOf e = sz) (h0 : 0 < sz) (ht : P.underlying t = some (.slice e)) (h : DataW.trod enc P w base spare held fuel t [v] = some x) :
    ∃ (a : Option Addr) (len cap : Nat) (f : Nat → Nat → Value), v = .slice a len cap ∧ len ≤ cap ∧ cap ≤ 9223372036854775807 ∧ SlA w 0 sz len f a ∧
      ∀ i, i < len → ∃ n x', n < fuel ∧ DataW.trod enc P w base spare held n e ((List.range sz).map (f i)) = some x' := by
  rcases DataW.trod_slice ht h with ⟨hcs, _⟩ | ⟨a, len, cap, elems, rest, n, hf, hcs, hx, hb, hl, hm, hlen, hel, _, _⟩
  · simp only [List.cons.injEq, and_true] at hcs
    exact ⟨none, 0, 0, fun _ _ => undef, hcs, Nat.le_refl _, by omega, .inl rfl, fun i hi => absurd hi (by omega)⟩
  · have hi : ∀ i, i < len → ∃ cs' x', w.cells? base (a.add (i * sz)) sz = some cs' ∧ DataW.trod enc P w base spare held n e cs' = some x' := by
      intro i hi
      have h1 := hel i hi
      rw [hsz, List.getElem?_eq_getElem (by omega)] at h1
      obtain ⟨cs', h2, h3⟩ := Option.bind_eq_some_iff.1 h1
      exact ⟨cs', _, h2, h3⟩
    have hcell : ∀ i j, i < len → j < sz → ∃ v, w.cell? (a.add (i * sz + j)) = some v := by
      intro i j hil hj
      obtain ⟨cs', x', hc, _⟩ := hi i hil
      obtain ⟨_, hcl, hat⟩ := World.cells?_some hc
      have h1 := hat j hj
      rw [Go.Deep.add_add, List.getElem?_eq_getElem (by omega)] at h1
      exact ⟨_, h1⟩
    simp only [List.cons.injEq, and_true] at hcs
    refine ⟨some a, len, cap, fun i j => (w.cell? (a.add (i * sz + j))).getD undef, hcs, hl, hm, ?_, ?_⟩
    · rcases Nat.eq_zero_or_pos len with h | h
      · exact .inl h
      · obtain ⟨v, hv⟩ := hcell 0 0 h h0
        rw [Nat.zero_mul, Nat.zero_add] at hv
        have hsp : a.spot = none := by simpa [Addr.add] using World.cell?_spot hv
        have hlt := cell_lt hv
        obtain ⟨b, off, spot⟩ := a
        simp only at hsp
        subst hsp
        refine .inr ⟨b, off, rfl, Nat.zero_le _, by simpa [Addr.add] using hlt, fun i j hil hj => ?_⟩
        obtain ⟨v', hv'⟩ := hcell i j hil hj
        rw [addr_add_plain] at hv'
        show _ = some ((w.cell? ((⟨b, off, none⟩ : Addr).add (i * sz + j))).getD undef)
        rw [addr_add_plain, Nat.add_assoc, hv']
        rfl
    · intro i hil
      obtain ⟨cs', x', hc, ht'⟩ := hi i hil
      obtain ⟨_, hcl, hat⟩ := World.cells?_some hc
      refine ⟨n, x', by omega, ?_⟩
      have hcs' : (List.range sz).map (fun j => (w.cell? (a.add (i * sz + j))).getD undef) = cs' := by
        apply List.ext_getElem?
        intro j
        by_cases hj : j < sz
        · rw [List.getElem?_map, List.getElem?_range hj]
          have h1 := hat j hj
          rw [Go.Deep.add_add] at h1
          rw [List.getElem?_eq_getElem (by omega : j < cs'.length)] at h1 ⊢
          simp [h1]
        · rw [List.getElem?_eq_none (by simp; omega), List.getElem?_eq_none (by omega)]
      rw [hcs']
      exact ht'
theorem open_st' {t : TypeId} {fs : Array Field} {fuel : Nat} {cs : List Value} {x : DataW H × List MemPlace} (ht : P.underlying t = some (.struct fs)) (h : DataW.trod enc P w base spare held fuel t cs = some x) :
    ∃ n, n < fuel ∧ cs.length = P.cellsOf t ∧ ∀ (i : Nat) (f : Field), fs[i]? = some f → ∃ y, DataW.trod enc P w base spare held n f.type ((cs.drop f.offset).take (P.cellsOf f.type)) = some y := by
  obtain ⟨xs, n, hn, hx, hlen, hxl, hf⟩ := DataW.trod_struct ht h
  refine ⟨n, by omega, hlen, fun i f hi => ?_⟩
  have hil : i < fs.size := (Array.getElem?_eq_some_iff.1 hi).1
  have h1 := hf i f hi
  rw [List.getElem?_eq_getElem (by omega : i < xs.length)] at h1
  exact ⟨_, h1⟩
end
inductive Lvs (w : World) : List D → List Value → Prop
  | nil : Lvs w [] []
  | cons {d : D} {v : Value} {ds : List D} {vs : List Value} (h : DAt w d v) (hs : Lvs w ds vs) : Lvs w (d :: ds) (v :: vs)
theorem Lvs.len {w : World} {ds : List D} {vs : List Value} (h : Lvs w ds vs) : ds.length = vs.length := by
  induction h with
  | nil => rfl
  | cons h hs ih => simp [ih]
theorem Lvs.get {w : World} {ds : List D} {vs : List Value} (h : Lvs w ds vs) : ∀ j (h1 : j < ds.length) (h2 : j < vs.length), DAt w ds[j] vs[j] := by
  induction h with
  | nil => intro j h1; simp at h1
  | cons h hs ih =>
    intro j h1 h2
    cases j with
    | zero => exact h
    | succ j => exact ih j (by simpa using h1) (by simpa using h2)
theorem open_arr {α : Type} [Inhabited α] (dd : α → List D) {w : World} {m len cap : Nat} {f : Nat → Nat → Value} {a : Option Addr} (hl : len ≤ cap) (hm : cap ≤ 9223372036854775807) (hS : SlA w 0 m len f a)
    (hel : ∀ i, i < len → ∃ X : α, Lvs w (dd X) ((List.range m).map (f i))) : ∃ xs : List α, DAt w (.arr (xs.map dd)) (.slice a len cap) := by
  obtain ⟨g, hg⟩ : ∃ g : Nat → α, ∀ i, i < len → Lvs w (dd (g i)) ((List.range m).map (f i)) :=
    ⟨fun i => if h : i < len then (hel i h).choose else default, fun i hi => by simp only [hi, dif_pos]; exact (hel i hi).choose_spec⟩
  refine ⟨(List.range len).map g, ?_⟩
  have hlen : (((List.range len).map g).map dd).length = len := by simp
  have := DAt.arr_mk (w := w) (es := ((List.range len).map g).map dd) (sz := m) (cap := cap) (a := a) (f := f) (by rw [hlen]; exact hl) hm (by rw [hlen]; exact hS) (fun i hi => by
    rw [hlen] at hi
    have := (hg i hi).len
    simpa using this) (fun i j hi hj => by
    rw [hlen] at hi
    have h1 := hg i hi
    have h2 := h1.len
    simp only [List.length_map, List.length_range] at h2
    simp only [List.getElem_map, List.getElem_range] at hj ⊢
    have := h1.get j hj (by simp; omega)
    simpa using this)
  rw [hlen] at this
  exact this
instance : Inhabited Tm := ⟨Tm.zero⟩
instance : Inhabited Fm := ⟨Fm.zero⟩
section
variable {H : Type} {enc : TypeId × Value → H} {w : World} {base : Nat} {spare : Nat → Bool} {held : Bool}
end
end Go.Proofs.YtihclcmgbkkhfaaGreatDoor
set_option maxRecDepth 100000
set_option linter.unusedSimpArgs false
set_option linter.unusedVariables false
namespace Go.Proofs.YtihclcmgbkkhfaaGreatDoor
open Go.RowKit
theorem DRep.lt_ {own : Bool} {w : World} {S : Nat → Prop} {d : D} {v : Value} (h : DRep own w S d v) : DRep own w (fun b => S b ∧ b < w.heap.size) d v := by
  induction h with
  | int S n => exact .int _ n
  | bool S b => exact .bool _ b
  | str S s h => exact .str _ s h
  | arr S sz es a cap f Sub h1 h2 h3 h4 h5 h6 h7 ih =>
    refine .arr _ sz es a cap f (fun i j x => Sub i j x ∧ x < w.heap.size) h1 h2 ?_ h4 (fun i j x h => ⟨h5 i j x h.1, h.2⟩) (fun ho i j i' j' x h h' => h6 ho i j i' j' x h.1 h'.1) ih
    rcases h3 with h3 | ⟨b, off, ha, hS, hl, hc, ho⟩
    · exact .inl h3
    · exact .inr ⟨b, off, ha, ⟨hS, hl⟩, hl, hc, fun h => ⟨fun i j hx => (ho h).1 i j hx.1, (ho h).2⟩⟩
theorem Fun.yes {f : FuncId} {args : List SV} (h : Fun Tryz.prog f args [] (.bool true) []) {w : World} {vs : List Value} (hgl : GL w fun b => b < w.heap.size) (hvs : RepVs w (fun b => b < w.heap.size) (fun _ => none) args vs) : Calls Tryz.prog f vs.toArray w (Ret w (.bool true)) := by
  have nl : ∀ g, ¬ (geto [] g).live := fun g hg => by simp [geto, Ob.live] at hg
  refine (h w (fun b => b < w.heap.size) (fun _ => none) (fun _ _ => False) vs ⟨fun b hb => hb, fun g hg => absurd hg (nl g), fun g b hg => absurd hg (nl g), fun g b hg => absurd hg (nl g), fun g g' b hg => absurd hg (nl g), fun g _ => rfl, hgl⟩ hvs).mono ?_
  rintro e w' ⟨v, I', V', B', rfl, hr, hp⟩
  simp only [RepV] at hr
  subst hr
  exact ⟨rfl, hp.fr.os, hp.fr.tape, hp.fr.output, hp.fr.size, fun b hb => hp.fr.block b hb fun ⟨g, hg, _⟩ => absurd hg (nl g)⟩
theorem lvs_cons {w : World} {d : D} {ds : List D} {v : Value} {vs : List Value} (h : Lvs w (d :: ds) (v :: vs)) : DAt w d v ∧ Lvs w ds vs := by
  cases h with
  | cons h1 h2 => exact ⟨h1, h2⟩
theorem DAt.rep_sv {w : World} {d : D} {v : Value} (h : DAt w d v) : RepV w (fun b => b < w.heap.size) (fun _ => none) d.sv v :=
  D.rep_sv ((DRep.lt_ h).up fun b hb => hb.2)
theorem Lvs.reps {w : World} {ds : List D} {vs : List Value} (h : Lvs w ds vs) : RepVs w (fun b => b < w.heap.size) (fun _ => none) (ds.map D.sv) vs := by
  induction h with
  | nil => simp [RepVs]
  | cons h hs ih => simp only [List.map_cons, RepVs]; exact ⟨_, _, rfl, h.rep_sv, ih⟩
theorem Lvs.agg {w : World} {ds : List D} {vs : List Value} (h : Lvs w ds vs) : RepV w (fun b => b < w.heap.size) (fun _ => none) (.agg (ds.map D.sv)) (.agg vs.toArray) := by
  simp only [RepV]; exact ⟨vs, rfl, h.reps⟩
theorem Lvs.fits {w : World} {ds : List D} {vs : List Value} (h : Lvs w ds vs) : D.fits ds := by
  induction h with
  | nil => trivial
  | cons h hs ih => exact ⟨DRep.fit h, ih⟩
theorem DAt.fit {w : World} {d : D} {v : Value} (h : DAt w d v) : D.fit d := DRep.fit h
theorem args_nil {w : World} {I : Nat → Prop} {V : Nat → Option Value} : RepVs w I V [] [] := by simp [RepVs]
theorem args_more {w : World} {I : Nat → Prop} {V : Nat → Option Value} {x : SV} {xs : List SV} {v : Value} {vs : List Value} (h : RepV w I V x v) (hs : RepVs w I V xs vs) : RepVs w I V (x :: xs) (v :: vs) := by
  simp only [RepVs]; exact ⟨v, vs, rfl, h, hs⟩
section
variable {H : Type} {enc : TypeId × Value → H} {w : World} {base : Nat} {spare : Nat → Bool} {held : Bool}
theorem opn_Term_of {fuel : Nat} (ih : ∀ n, n < fuel → ∀ v x, DataW.trod enc Tryz.prog w base spare held n 22 [v] = some x → ∃ xs : List Tm, DAt w (.arr (xs.map Tm.d)) v) {cs : List Value} {x : DataW H × List MemPlace} (h : DataW.trod enc Tryz.prog w base spare held fuel 24 cs = some x) : ∃ X : Tm, Lvs w X.d cs := by
  obtain ⟨n, hn, hlen, hf⟩ := open_st' Tryz.underlying24 h
  rw [show Tryz.prog.cellsOf 24 = 2 by kernel_rfl] at hlen
  match cs, hlen with
  | [c0, c1], _ =>
    obtain ⟨y0, k0⟩ := hf 0 _ rfl
    have e0 : (([c0, c1].drop 0).take (Tryz.prog.cellsOf 9)) = [c0] := by rw [show Tryz.prog.cellsOf 9 = 1 by kernel_rfl]; rfl
    obtain ⟨z0, q0, _, s0⟩ := DataW.trod_string Tryz.underlying9 k0
    have q0' : c0 = .string z0 := by
      have : [c0] = [.string z0] := by rw [← e0]; exact q0
      simpa using this
    obtain ⟨y1, k1⟩ := hf 1 _ rfl
    have e1 : (([c0, c1].drop 1).take (Tryz.prog.cellsOf 22)) = [c1] := by rw [show Tryz.prog.cellsOf 22 = 1 by kernel_rfl]; rfl
    have k1' : DataW.trod enc Tryz.prog w base spare held n 22 [c1] = some y1 := by rw [← e1]; exact k1
    obtain ⟨z1, g1⟩ := ih n hn c1 y1 k1'
    subst q0'
    exact ⟨.mk z0 z1, by rw [Tm.d_eq]; exact (.cons (.str _ z0 s0) (.cons g1 .nil))⟩
theorem opnS_Term_all : ∀ (fuel : Nat) (v : Value) (x : DataW H × List MemPlace), DataW.trod enc Tryz.prog w base spare held fuel 22 [v] = some x → ∃ xs : List Tm, DAt w (.arr (xs.map Tm.d)) v := by
  intro fuel
  induction fuel using Nat.strongRecOn with
  | _ fuel ih =>
    intro v x h
    obtain ⟨a, len, cap, f, rfl, hl, hm, hS, hr⟩ := open_sl' (P := Tryz.prog) 2 (by kernel_rfl) (by omega) Tryz.underlying22 h
    exact open_arr Tm.d hl hm hS fun i hi => by
      obtain ⟨n, x', hn, h1⟩ := hr i hi
      exact opn_Term_of (fun n' hn' => ih n' (by omega)) h1
theorem opn_Term {fuel : Nat} {cs : List Value} {x : DataW H × List MemPlace} (h : DataW.trod enc Tryz.prog w base spare held fuel 24 cs = some x) : ∃ X : Tm, Lvs w X.d cs :=
  opn_Term_of (fun n _ => opnS_Term_all n) h
theorem opn_Formula_of {fuel : Nat} (ih : ∀ n, n < fuel → ∀ v x, DataW.trod enc Tryz.prog w base spare held n 25 [v] = some x → ∃ xs : List Fm, DAt w (.arr (xs.map Fm.d)) v) {cs : List Value} {x : DataW H × List MemPlace} (h : DataW.trod enc Tryz.prog w base spare held fuel 27 cs = some x) : ∃ X : Fm, Lvs w X.d cs := by
  obtain ⟨n, hn, hlen, hf⟩ := open_st' Tryz.underlying27 h
  rw [show Tryz.prog.cellsOf 27 = 5 by kernel_rfl] at hlen
  match cs, hlen with
  | [c0, c1, c2, c3, c4], _ =>
    obtain ⟨y0, k0⟩ := hf 0 _ rfl
    have e0 : (([c0, c1, c2, c3, c4].drop 0).take (Tryz.prog.cellsOf 3)) = [c0] := by rw [show Tryz.prog.cellsOf 3 = 1 by kernel_rfl]; rfl
    obtain ⟨z0, q0, _, _⟩ := DataW.trod_int Tryz.underlying3 k0
    have q0' : c0 = .int .i64 z0 := by
      have : [c0] = [.int .i64 z0] := by rw [← e0]; exact q0
      simpa using this
    obtain ⟨y1, k1⟩ := hf 1 _ rfl
    have e1 : (([c0, c1, c2, c3, c4].drop 1).take (Tryz.prog.cellsOf 24)) = [c1, c2] := by rw [show Tryz.prog.cellsOf 24 = 2 by kernel_rfl]; rfl
    have k1' : DataW.trod enc Tryz.prog w base spare held n 24 [c1, c2] = some y1 := by rw [← e1]; exact k1
    obtain ⟨z1, g1⟩ := opn_Term k1'
    rw [Tm.d_eq] at g1
    obtain ⟨g1_0, g1⟩ := lvs_cons g1
    obtain ⟨g1_1, g1⟩ := lvs_cons g1
    obtain ⟨y2, k2⟩ := hf 2 _ rfl
    have e2 : (([c0, c1, c2, c3, c4].drop 3).take (Tryz.prog.cellsOf 9)) = [c3] := by rw [show Tryz.prog.cellsOf 9 = 1 by kernel_rfl]; rfl
    obtain ⟨z2, q2, _, s2⟩ := DataW.trod_string Tryz.underlying9 k2
    have q2' : c3 = .string z2 := by
      have : [c3] = [.string z2] := by rw [← e2]; exact q2
      simpa using this
    obtain ⟨y3, k3⟩ := hf 3 _ rfl
    have e3 : (([c0, c1, c2, c3, c4].drop 4).take (Tryz.prog.cellsOf 25)) = [c4] := by rw [show Tryz.prog.cellsOf 25 = 1 by kernel_rfl]; rfl
    have k3' : DataW.trod enc Tryz.prog w base spare held n 25 [c4] = some y3 := by rw [← e3]; exact k3
    obtain ⟨z3, g3⟩ := ih n hn c4 y3 k3'
    subst q0' q2'
    exact ⟨.mk z0 z1 z2 z3, by rw [Fm.d_eq]; exact (.cons (.int _ z0) (.cons g1_0 (.cons g1_1 (.cons (.str _ z2 s2) (.cons g3 .nil)))))⟩
theorem opnS_Formula_all : ∀ (fuel : Nat) (v : Value) (x : DataW H × List MemPlace), DataW.trod enc Tryz.prog w base spare held fuel 25 [v] = some x → ∃ xs : List Fm, DAt w (.arr (xs.map Fm.d)) v := by
  intro fuel
  induction fuel using Nat.strongRecOn with
  | _ fuel ih =>
    intro v x h
    obtain ⟨a, len, cap, f, rfl, hl, hm, hS, hr⟩ := open_sl' (P := Tryz.prog) 5 (by kernel_rfl) (by omega) Tryz.underlying25 h
    exact open_arr Fm.d hl hm hS fun i hi => by
      obtain ⟨n, x', hn, h1⟩ := hr i hi
      exact opn_Formula_of (fun n' hn' => ih n' (by omega)) h1
theorem opn_Formula {fuel : Nat} {cs : List Value} {x : DataW H × List MemPlace} (h : DataW.trod enc Tryz.prog w base spare held fuel 27 cs = some x) : ∃ X : Fm, Lvs w X.d cs :=
  opn_Formula_of (fun n _ => opnS_Formula_all n) h
end
end Go.Proofs.YtihclcmgbkkhfaaGreatDoor
