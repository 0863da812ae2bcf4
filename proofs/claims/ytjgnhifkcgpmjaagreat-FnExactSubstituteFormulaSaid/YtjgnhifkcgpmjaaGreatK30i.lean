/-
  This text tells what substituting a variable in a formula answers in the reference. No condition.
-/
import Derived.Test.YtjgnhifkcgpmjaaGreatK30f
import Derived.Test.YtjgnhifkcgpmjaaGreatK30g
import Derived.Test.YtjgnhifkcgpmjaaGreatK30h
set_option maxRecDepth 100000
set_option linter.unusedSimpArgs false
set_option linter.unusedVariables false
namespace Go.Proofs.YtjgnhifkcgpmjaaGreat
open Go.RowKit

def c_spec_l4Put : SC := (.seq (.reg [⟨(some 3), none, (.boxv 93 1 (.t 0))⟩, ⟨(some 5), none, (.boxv 31 2 (.t 2))⟩, ⟨(some 6), none, (.alloc 93 [.nil])⟩]) (.seq (.seq (.reg [⟨(some 9), none, (.faddr 0 (.t 5))⟩, ⟨(some 10), none, (.load false 1 (.t 9))⟩, ⟨(some 11), none, (.mv (.t 1))⟩, ⟨(some 12), none, (.bin .eql false (.t 10) (.t 11))⟩]) (.cond (.t 12) (.seq (.reg [⟨(some 13), none, (.load true 1 (.t 3))⟩, ⟨none, none, (.store 1 (.t 6) (.t 13))⟩]) .ret) .skip)) (.seq (.reg [⟨(some 7), none, (.mv (.c (.int .i64 0)))⟩]) (.seq (.block 0 (.loop [0, 1, 0, 1, 0, 1, 1, 1, 0, 0, 0, 0, 0, 0, 0, 0, 0, 0, 0, 0, 0, 0, 0, 0, 0, 0, 0, 0, 0, 0, 0, 0, 0, 0, 0, 0, 0, 0, 0, 0, 0, 0, 0, 0, 0, 0, 0, 0, 0, 0, 0] (.seq (.seq (.reg [⟨(some 14), none, (.mv (.t 7))⟩, ⟨(some 15), none, (.faddr 0 (.t 3))⟩, ⟨(some 16), none, (.load false 1 (.t 15))⟩, ⟨(some 17), none, (.len false (.t 16))⟩, ⟨(some 18), none, (.bin .lss false (.t 14) (.t 17))⟩, ⟨(some 19), none, (.mv (.t 18))⟩, ⟨(some 20), (some (19, true)), (.faddr 0 (.t 3))⟩, ⟨(some 21), (some (19, true)), (.load false 1 (.t 20))⟩, ⟨(some 22), (some (19, true)), (.mv (.t 7))⟩, ⟨(some 23), (some (19, true)), (.iaddr 3 (.t 21) (.t 22))⟩, ⟨(some 24), (some (19, true)), (.faddr 0 (.t 23))⟩, ⟨(some 25), (some (19, true)), (.load false 1 (.t 24))⟩, ⟨(some 26), (some (19, true)), (.mv (.t 1))⟩, ⟨(some 27), (some (19, true)), (.bin .lss false (.t 25) (.t 26))⟩, ⟨(some 28), none, (.pick (.t 19) (.t 27) (.c (.bool false)))⟩]) (.cond (.t 28) .skip (.exit 0))) (.block 1 (.reg [⟨(some 29), none, (.mv (.t 7))⟩, ⟨(some 30), none, (.bin .add false (.t 29) (.c (.int .i64 1)))⟩, ⟨(some 7), none, (.mv (.t 30))⟩]))))) (.seq (.reg [⟨(some 31), none, (.mkrow 101 3 [(.str ⟨#[]⟩), (.str ⟨#[]⟩), .nil] 0 [])⟩, ⟨(some 32), none, (.faddr 0 (.t 3))⟩, ⟨(some 33), none, (.load false 1 (.t 32))⟩, ⟨(some 34), none, (.mv (.t 7))⟩, ⟨(some 35), none, (.slice false 3 (.t 33) none (some (.t 34)))⟩, ⟨(some 36), none, (.append 101 3 56 [(.str ⟨#[]⟩), (.str ⟨#[]⟩), .nil] (.t 31) (.t 35))⟩, ⟨(some 8), none, (.mv (.t 36))⟩]) (.seq (.reg [⟨(some 37), none, (.mv (.t 8))⟩, ⟨(some 38), none, (.mv (.t 1))⟩, ⟨(some 39), none, (.load true 2 (.t 5))⟩, ⟨(some 40), none, (.call 89 [(.t 39)])⟩, ⟨(some 41), none, (.build [(.str ⟨#[]⟩), (.str ⟨#[]⟩), .nil] [(0, (1, (.t 38))), (1, (2, (.t 40)))])⟩, ⟨(some 42), none, (.mkrow 101 3 [(.str ⟨#[]⟩), (.str ⟨#[]⟩), .nil] 1 [(0, (.t 41))])⟩, ⟨(some 43), none, (.append 101 3 56 [(.str ⟨#[]⟩), (.str ⟨#[]⟩), .nil] (.t 37) (.t 42))⟩, ⟨(some 8), none, (.mv (.t 43))⟩]) (.seq (.reg [⟨(some 44), none, (.mv (.t 8))⟩, ⟨(some 45), none, (.faddr 0 (.t 3))⟩, ⟨(some 46), none, (.load false 1 (.t 45))⟩, ⟨(some 47), none, (.mv (.t 7))⟩, ⟨(some 48), none, (.slice false 3 (.t 46) (some (.t 47)) none)⟩, ⟨(some 49), none, (.append 101 3 56 [(.str ⟨#[]⟩), (.str ⟨#[]⟩), .nil] (.t 44) (.t 48))⟩, ⟨(some 50), none, (.build [.nil] [(0, (1, (.t 49)))])⟩, ⟨none, none, (.store 1 (.t 6) (.t 50))⟩]) .ret)))))))
theorem k_spec_l4Put : codeOf Tryz.prog 71 = some ⟨51, c_spec_l4Put, [(.cell 6 true 1)]⟩ := by kernel_rfl
theorem m_spec_l4Put : modes 71 = ⟨[], .frz, none, false⟩ := by unfold modes; rfl

def c_spec_l8Put : SC := (.seq (.reg [⟨(some 3), none, (.boxv 34 5 (.t 0))⟩, ⟨(some 5), none, (.boxv 31 2 (.t 2))⟩, ⟨(some 6), none, (.alloc 34 [(.int .i64 0), (.str ⟨#[]⟩), .nil, (.str ⟨#[]⟩), .nil])⟩, ⟨(some 7), none, (.mv (.c (.bool false)))⟩]) (.seq (.reg [⟨(some 12), none, (.faddr 0 (.t 3))⟩, ⟨(some 13), none, (.load false 1 (.t 12))⟩, ⟨(some 14), none, (.faddr 3 (.t 3))⟩, ⟨(some 15), none, (.load false 1 (.t 14))⟩, ⟨(some 16), none, (.build [(.int .i64 0), (.str ⟨#[]⟩), .nil, (.str ⟨#[]⟩), .nil] [(0, (1, (.t 13))), (3, (1, (.t 15)))])⟩, ⟨(some 8), none, (.alloc 34 [(.int .i64 0), (.str ⟨#[]⟩), .nil, (.str ⟨#[]⟩), .nil])⟩, ⟨none, none, (.store 5 (.t 8) (.t 16))⟩]) (.seq (.seq (.reg [⟨(some 17), none, (.faddr 0 (.t 3))⟩, ⟨(some 18), none, (.load false 1 (.t 17))⟩, ⟨(some 19), none, (.bin .eql false (.t 18) (.c (.int .i64 3)))⟩]) (.cond (.t 19) (.seq (.dreg [[], [], [], [0, 1, 2], [], [4], [3, 0, 1, 2, 5, 4], [0, 1, 2, 3, 4, 5, 6], [7, 0, 1, 2, 3, 4, 5, 6]] [⟨(some 20), none, (.build [.nil] [])⟩, ⟨(some 21), none, (.mv (.t 1))⟩, ⟨(some 22), none, (.load true 2 (.t 5))⟩, ⟨(some 23), none, (.call 71 [(.t 20), (.t 21), (.t 22)])⟩, ⟨(some 24), none, (.faddr 1 (.t 3))⟩, ⟨(some 25), none, (.load true 2 (.t 24))⟩, ⟨(some 26), none, (.call 70 [(.t 23), (.t 25)])⟩, ⟨(some 27), none, (.faddr 1 (.t 8))⟩, ⟨none, none, (.store 2 (.t 27) (.t 26))⟩]) (.seq (.dreg [[], [], [1], [2, 1], [0, 3, 2, 1], [3, 2, 1, 4, 0]] [⟨(some 28), none, (.load true 5 (.t 8))⟩, ⟨(some 29), none, (.faddr 1 (.t 8))⟩, ⟨(some 30), none, (.load true 2 (.t 29))⟩, ⟨(some 31), none, (.call 72 [(.t 30)])⟩, ⟨none, none, (.store 5 (.t 6) (.t 28))⟩, ⟨(some 7), none, (.mv (.t 31))⟩]) .ret)) .skip)) (.seq (.seq (.reg [⟨(some 32), none, (.faddr 0 (.t 3))⟩, ⟨(some 33), none, (.load false 1 (.t 32))⟩, ⟨(some 34), none, (.bin .eql false (.t 33) (.c (.int .i64 8)))⟩, ⟨(some 35), none, (.mv (.t 34))⟩, ⟨(some 36), (some (35, false)), (.faddr 0 (.t 3))⟩, ⟨(some 37), (some (35, false)), (.load false 1 (.t 36))⟩, ⟨(some 38), (some (35, false)), (.bin .eql false (.t 37) (.c (.int .i64 9)))⟩, ⟨(some 39), none, (.pick (.t 35) (.c (.bool true)) (.t 38))⟩]) (.cond (.t 39) (.seq (.seq (.reg [⟨(some 40), none, (.faddr 3 (.t 3))⟩, ⟨(some 41), none, (.load false 1 (.t 40))⟩, ⟨(some 42), none, (.mv (.t 1))⟩, ⟨(some 43), none, (.bin .eql false (.t 41) (.t 42))⟩, ⟨(some 44), none, (.mv (.t 43))⟩, ⟨(some 45), (some (44, false)), (.faddr 4 (.t 3))⟩, ⟨(some 46), (some (44, false)), (.load false 1 (.t 45))⟩, ⟨(some 47), (some (44, false)), (.iaddr 5 (.t 46) (.c (.int .i64 0)))⟩, ⟨(some 48), (some (44, false)), (.load true 5 (.t 47))⟩, ⟨(some 49), (some (44, false)), (.call 57 [(.t 48)])⟩, ⟨(some 50), (some (44, false)), (.mv (.t 1))⟩, ⟨(some 51), (some (44, false)), (.call 73 [(.t 49), (.t 50)])⟩, ⟨(some 52), (some (44, false)), (.un .not (.t 51))⟩, ⟨(some 53), none, (.pick (.t 44) (.c (.bool true)) (.t 52))⟩]) (.cond (.t 53) (.seq (.reg [⟨(some 54), none, (.load true 5 (.t 3))⟩, ⟨(some 55), none, (.call 56 [(.t 54)])⟩, ⟨none, none, (.store 5 (.t 6) (.t 55))⟩, ⟨(some 7), none, (.mv (.c (.bool true)))⟩]) .ret) .skip)) (.seq (.dreg [[], [0], [], [2], [1, 0, 3, 2]] [⟨(some 56), none, (.load true 2 (.t 5))⟩, ⟨(some 57), none, (.call 74 [(.t 56)])⟩, ⟨(some 58), none, (.faddr 3 (.t 3))⟩, ⟨(some 59), none, (.load false 1 (.t 58))⟩, ⟨(some 60), none, (.call 73 [(.t 57), (.t 59)])⟩]) (.cond (.t 60) (.seq (.reg [⟨(some 61), none, (.load true 5 (.t 8))⟩, ⟨none, none, (.store 5 (.t 6) (.t 61))⟩, ⟨(some 7), none, (.mv (.c (.bool false)))⟩]) .ret) .skip))) .skip)) (.seq (.seq (.reg [⟨(some 9), none, (.mv (.c (.int .i64 0)))⟩]) (.block 0 (.loop [0, 1, 0, 1, 0, 1, 1, 0, 1, 1, 0, 0, 0, 0, 0, 0, 0, 0, 0, 0, 0, 0, 0, 0, 0, 0, 0, 0, 0, 0, 0, 0, 0, 0, 0, 0, 0, 0, 0, 0, 0, 0, 0, 0, 0, 0, 0, 0, 0, 0, 0, 0, 0, 0, 0, 0, 0, 0, 0, 0, 0, 0, 0, 0, 0, 0, 0, 0, 0, 0, 0, 0, 0, 0, 0, 0, 0, 0, 0, 0, 0, 0, 0, 0, 0, 0, 0, 0, 0, 0] (.seq (.seq (.reg [⟨(some 62), none, (.mv (.t 9))⟩, ⟨(some 63), none, (.faddr 4 (.t 3))⟩, ⟨(some 64), none, (.load false 1 (.t 63))⟩, ⟨(some 65), none, (.len false (.t 64))⟩, ⟨(some 66), none, (.bin .lss false (.t 62) (.t 65))⟩]) (.cond (.t 66) .skip (.exit 0))) (.seq (.block 1 (.seq (.dreg [[], [0], [], [1, 0, 2], [3, 1, 0, 2], [], [], [4, 3, 1, 0, 2, 5, 6], [7, 4, 3, 1, 0, 2, 5, 6], [8, 7, 4, 3, 1, 0, 2, 5, 6], [8, 7, 4, 3, 1, 0, 2, 5, 6], [], [11, 9, 8, 7, 4, 3, 1, 0, 2, 5, 6], [10, 8, 7, 4, 3, 1, 0, 2, 5, 6, 12, 11, 9]] [⟨(some 70), none, (.faddr 4 (.t 3))⟩, ⟨(some 71), none, (.load false 1 (.t 70))⟩, ⟨(some 72), none, (.mv (.t 9))⟩, ⟨(some 73), none, (.iaddr 5 (.t 71) (.t 72))⟩, ⟨(some 74), none, (.load true 5 (.t 73))⟩, ⟨(some 75), none, (.mv (.t 1))⟩, ⟨(some 76), none, (.load true 2 (.t 5))⟩, ⟨(some 77), none, (.call 39 [(.t 74), (.t 75), (.t 76)])⟩, ⟨(some 69), none, (.mv (.t 77))⟩, ⟨(some 78), none, (.ext (.t 69) 0)⟩, ⟨(some 79), none, (.ext (.t 69) 1)⟩, ⟨(some 10), none, (.alloc 34 [(.int .i64 0), (.str ⟨#[]⟩), .nil, (.str ⟨#[]⟩), .nil])⟩, ⟨none, none, (.store 5 (.t 10) (.t 78))⟩, ⟨(some 11), none, (.mv (.t 79))⟩]) (.seq (.seq (.reg [⟨(some 80), none, (.mv (.t 11))⟩, ⟨(some 81), none, (.un .not (.t 80))⟩]) (.cond (.t 81) (.seq (.reg [⟨(some 82), none, (.load true 5 (.t 8))⟩, ⟨none, none, (.store 5 (.t 6) (.t 82))⟩, ⟨(some 7), none, (.mv (.c (.bool false)))⟩]) .ret) .skip)) (.reg [⟨(some 83), none, (.faddr 4 (.t 8))⟩, ⟨(some 84), none, (.load false 1 (.t 83))⟩, ⟨(some 85), none, (.load true 5 (.t 10))⟩, ⟨(some 86), none, (.mkrow 34 5 [(.int .i64 0), (.str ⟨#[]⟩), .nil, (.str ⟨#[]⟩), .nil] 1 [(0, (.t 85))])⟩, ⟨(some 87), none, (.append 34 5 88 [(.int .i64 0), (.str ⟨#[]⟩), .nil, (.str ⟨#[]⟩), .nil] (.t 84) (.t 86))⟩, ⟨(some 88), none, (.faddr 4 (.t 8))⟩, ⟨none, none, (.store 1 (.t 88) (.t 87))⟩])))) (.reg [⟨(some 67), none, (.mv (.t 9))⟩, ⟨(some 68), none, (.bin .add false (.t 67) (.c (.int .i64 1)))⟩, ⟨(some 9), none, (.mv (.t 68))⟩])))))) (.seq (.reg [⟨(some 89), none, (.load true 5 (.t 8))⟩, ⟨none, none, (.store 5 (.t 6) (.t 89))⟩, ⟨(some 7), none, (.mv (.c (.bool true)))⟩]) .ret))))))
theorem k_spec_l8Put : codeOf Tryz.prog 39 = some ⟨90, c_spec_l8Put, [(.cell 6 true 5), (.tmp 7)]⟩ := by kernel_rfl
theorem m_spec_l8Put : modes 39 = ⟨[], .frz, none, false⟩ := by unfold modes; rfl

noncomputable def oneB (n : ByteArray) (t : Tm) : List Bd := bif dec (t.name = n) then [] else [⟨n, t⟩]
theorem valid_names' {x : Tm} (h : x.valid = true) : x.names = true := by
  unfold Tm.valid at h
  rw [Bool.and_eq_true] at h
  exact h.2
theorem valid_small' {x : Tm} (h : x.valid = true) : x.nodes ≤ 30 := by
  unfold Tm.valid Tm.small at h
  rw [Bool.and_eq_true, Bool.and_eq_true, decide_eq_true_eq] at h
  exact h.1.1
theorem single_okF {n : ByteArray} {t : Tm} (ht : t.valid = true) : okF (Sb.mk [⟨n, t⟩]).look := fun m u h => by
  rw [single_look] at h
  split at h
  · obtain rfl := Option.some.inj h; exact ⟨valid_names' ht, valid_small' ht⟩
  · cases h
theorem Fm.subSL_map (n : ByteArray) (t : Tm) : ∀ xs : List Fm, (Fm.subSL n t xs).2 = true → (Fm.subSL n t xs).1 = xs.map fun y => (y.subS n t).1
  | [], _ => rfl
  | x :: xs, h => by
    rw [Fm.subSL] at h ⊢
    cases hx : (x.subS n t).2 with
    | true =>
      rw [hx] at h
      simp only [cond_true] at h ⊢
      rw [Fm.subSL_map n t xs h]; rfl
    | false =>
      rw [hx] at h
      cases h
set_option maxHeartbeats 4000000 in
theorem l4PutO_E (n : ByteArray) (t : Tm) (ht : t.nodes ≤ 1099511627776) : E 71 [.agg [.arr []], .str n, t.sv] [] = some (.agg [.arr ((oneB n t).map Bd.d)], []) := by
  have ho := l2Own_E t ht
  have htv : t.sv = .agg [.str t.name, .arr (t.args.map Tm.d)] := rfl
  unfold oneB
  cases hq : dec (t.name = n) with
  | true =>
    simp only [cond_true, List.map_nil]
    refine E_walk k_spec_l4Put m_spec_l4Put (of_decide_eq_true rfl) ?_
    simp (disch := omega) only [c_spec_l4Put, go_sem, go_cond, Nat.reduceAdd, Nat.reduceSub, Nat.reduceLT, Nat.reduceLeDiff, Nat.reduceEqDiff, Nat.reduceBEq, Nat.reduceBneDiff, Nat.reduceMul, ↓reduceIte, Int.reduceToNat, reduceCtorEq, Int.reduceNeg, Int.reduceAdd, hq]
  | false =>
    simp only [cond_false, List.map_cons, List.map_nil]
    have hbd : Bd.d ⟨n, t⟩ = [.str n, .str t.name, .arr (t.args.map Tm.d)] := rfl
    rw [hbd]
    have hz : dec ((0 : Int) < 0) = false := dec_f (by omega)
    refine E_walk k_spec_l4Put m_spec_l4Put (of_decide_eq_true rfl) ?_
    simp (disch := omega) only [c_spec_l4Put, go_sem, go_cond, Nat.reduceAdd, Nat.reduceSub, Nat.reduceLT, Nat.reduceLeDiff, Nat.reduceEqDiff, Nat.reduceBEq, Nat.reduceBneDiff, Nat.reduceMul, ↓reduceIte, Int.reduceToNat, reduceCtorEq, Int.reduceNeg, Int.reduceAdd, hq]
    refine go_loop (α := Int) (fun a => ⟨slots 51 0 [(1, .str n), (3, .ptr 0 0), (5, .ptr 1 0), (6, .ptr 2 0), (7, .int .i64 a)], [.box 93 [.arr []], .box 31 [.str t.name, .arr (t.args.map Tm.d)], .box 93 [.nil]]⟩) (fun a => ∃ k : Nat, a = k ∧ k ≤ (([] : List Bd)).length) (fun a => (([] : List Bd)).length - (a).toNat) 0 ⟨0, rfl, Nat.zero_le _⟩ (by simp (disch := omega) only [go_sem, go_cond, Nat.reduceAdd, Nat.reduceSub, Nat.reduceLT, Nat.reduceLeDiff, Nat.reduceEqDiff, Nat.reduceBEq, Nat.reduceBneDiff, Nat.reduceMul, ↓reduceIte, Int.reduceToNat, reduceCtorEq, Int.reduceNeg, Int.reduceAdd]) ?_
    rintro i ⟨k, hi, hk⟩
    have hni : i.toNat = k := by omega
    have hni1 : (i + 1).toNat = k + 1 := by omega
    rcases Nat.lt_or_ge k (([] : List Bd)).length with hlt | hge
    · simp at hlt
    · obtain rfl : i = 0 := by simp at hk; omega
      simp (disch := omega) only [go_sem, go_cond, Nat.reduceAdd, Nat.reduceSub, Nat.reduceLT, Nat.reduceLeDiff, Nat.reduceEqDiff, Nat.reduceBEq, Nat.reduceBneDiff, Nat.reduceMul, ↓reduceIte, Int.reduceToNat, reduceCtorEq, Int.reduceNeg, Int.reduceAdd, hni, hz, ho, Int.toNat_zero, m_spec_l2Own]
abbrev SpuC (n : ByteArray) (t : Tm) (x : Fm) : Prop := E 39 [x.sv, .str n, t.sv] [] = some (.tup [(x.subS n t).1.sv, .bool (x.subS n t).2], [])
set_option maxHeartbeats 8000000 in
theorem l8Put_of (n : ByteArray) (t : Tm) (hn : varB n = true) (ht : t.valid = true) (x : Fm) (hx : x.forms = true) (hsz : x.nodes ≤ 40) (hta0 : x.tame) (ih : ∀ y ∈ x.parts, SpuC n t y) : SpuC n t x := by
  have hfo := Fm.forms_form hx
  have hvn := Fm.vn_le x hx
  have hnd := Fm.nodes_eq x
  have hpl := Fm.length_le x.parts
  have hat := Fm.atom_le hfo
  have htn := valid_small' ht
  have hS := Fm.subS_eq n t x
  have h10 : ((1 : Int) = 0) = False := by simp
  have hxs : x.sv = .agg [.int .i64 x.op, .str x.atom.name, .arr (x.atom.args.map Tm.d), .str x.var, .arr (x.parts.map Fm.d)] := rfl
  have htv : t.sv = .agg [.str t.name, .arr (t.args.map Tm.d)] := rfl
  unfold SpuC
  cases h3 : dec (x.op = 3) with
  | true =>
    rw [h3] at hS
    simp only [cond_true] at hS
    have hpu := l4PutO_E n t (by omega)
    have has : x.atom.sv = .agg [.str x.atom.name, .arr (x.atom.args.map Tm.d)] := rfl
    have hap : E 70 [(Sb.mk (oneB n t)).sv, x.atom.sv] [] = some ((x.atom.ap (Sb.mk [⟨n, t⟩]).look).sv, []) := by
      unfold oneB
      by_cases hq : t.name = n
      · rw [dec_t hq, cond_true]
        have h1 := l4Apply_F ⟨[]⟩ empty_fine ⟨by simp, fun y hy => by cases hy⟩ x.atom (by omega)
        have hte : t = .mk n [] := by
          have hv : varB t.name = true := by rw [hq]; exact hn
          have ha := Tm.names_var (valid_names' ht) hv
          obtain ⟨m, a⟩ := t
          simp only [Tm.name, Tm.args] at hq ha
          rw [hq, ha]
        rw [hte, ap_self]
        exact h1
      · rw [dec_f hq, cond_false]
        exact l4Apply_F ⟨[⟨n, t⟩]⟩ (single_fine t hn) ⟨by simp, fun y hy => by
          have e : y = ⟨n, t⟩ := by simpa using hy
          rw [e]
          show t.nodes ≤ _
          omega⟩ x.atom (by omega)
    have han := Tm.ap_nodes (single_okF (n := n) ht) x.atom
    have hla := l2Atom_E (x.atom.ap (Sb.mk [⟨n, t⟩]).look) (by omega)
    rw [hS]
    dsimp only
    generalize x.atom.ap (Sb.mk [⟨n, t⟩]).look = a' at *
    have hsa : (Sb.mk (oneB n t)).sv = .agg [.arr ((oneB n t).map Bd.d)] := rfl
    have hsr : (Fm.mk x.op a' x.var []).sv = .agg [.int .i64 x.op, .str a'.name, .arr (a'.args.map Tm.d), .str x.var, .arr []] := rfl
    rw [hsa] at hap
    rw [hsr]
    refine E_walk k_spec_l8Put m_spec_l8Put (of_decide_eq_true rfl) ?_
    simp (disch := omega) only [c_spec_l8Put, go_sem, Nat.reduceAdd, Nat.reduceSub, Nat.reduceLT, Nat.reduceLeDiff, Nat.reduceEqDiff, Nat.reduceBEq, Nat.reduceBneDiff, Nat.reduceMul, ↓reduceIte, Int.reduceToNat, reduceCtorEq, Int.reduceNeg, Int.reduceAdd, h3, hpu, hap, hla, m_spec_l4Put, m_spec_l4Apply, m_spec_l2Atom]
    repeat (first | (refine go_condT ?_ ?_; (focus (simp (disch := omega) only [go_sem, Nat.reduceAdd, Nat.reduceSub, Nat.reduceLT, Nat.reduceLeDiff, Nat.reduceEqDiff, Nat.reduceBEq, Nat.reduceBneDiff, Nat.reduceMul, ↓reduceIte, Int.reduceToNat, reduceCtorEq, Int.reduceNeg, Int.reduceAdd, h3, hpu, hap, hla, m_spec_l4Put, m_spec_l4Apply, m_spec_l2Atom]; done)); (try simp (disch := omega) only [go_sem, Nat.reduceAdd, Nat.reduceSub, Nat.reduceLT, Nat.reduceLeDiff, Nat.reduceEqDiff, Nat.reduceBEq, Nat.reduceBneDiff, Nat.reduceMul, ↓reduceIte, Int.reduceToNat, reduceCtorEq, Int.reduceNeg, Int.reduceAdd, h3, hpu, hap, hla, m_spec_l4Put, m_spec_l4Apply, m_spec_l2Atom])) | (refine go_condF ?_ ?_; (focus (simp (disch := omega) only [go_sem, Nat.reduceAdd, Nat.reduceSub, Nat.reduceLT, Nat.reduceLeDiff, Nat.reduceEqDiff, Nat.reduceBEq, Nat.reduceBneDiff, Nat.reduceMul, ↓reduceIte, Int.reduceToNat, reduceCtorEq, Int.reduceNeg, Int.reduceAdd, h3, hpu, hap, hla, m_spec_l4Put, m_spec_l4Apply, m_spec_l2Atom]; done)); (try simp (disch := omega) only [go_sem, Nat.reduceAdd, Nat.reduceSub, Nat.reduceLT, Nat.reduceLeDiff, Nat.reduceEqDiff, Nat.reduceBEq, Nat.reduceBneDiff, Nat.reduceMul, ↓reduceIte, Int.reduceToNat, reduceCtorEq, Int.reduceNeg, Int.reduceAdd, h3, hpu, hap, hla, m_spec_l4Put, m_spec_l4Apply, m_spec_l2Atom])) | fail)
  | false =>
    rw [h3] at hS
    simp only [cond_false] at hS
    obtain ⟨ps, hps⟩ : ∃ ps, ps = x.parts.map fun y => (y.subS n t).1 := ⟨_, rfl⟩
    cases hq : qB x.op with
    | false =>
      have hst : x.stays n = false := by unfold Fm.stays; rw [hq]; rfl
      rw [hst, hq] at hS
      simp only [Bool.false_and, cond_false] at hS
      have o8 : dec (x.op = 8) = false := by unfold qB at hq; rw [Bool.or_eq_false_iff] at hq; exact hq.1
      have o9 : dec (x.op = 9) = false := by unfold qB at hq; rw [Bool.or_eq_false_iff] at hq; exact hq.2
      rw [hS]
      refine E_walk k_spec_l8Put m_spec_l8Put (of_decide_eq_true rfl) ?_
      simp (disch := omega) only [c_spec_l8Put, go_sem, Nat.reduceAdd, Nat.reduceSub, Nat.reduceLT, Nat.reduceLeDiff, Nat.reduceEqDiff, Nat.reduceBEq, Nat.reduceBneDiff, Nat.reduceMul, ↓reduceIte, Int.reduceToNat, reduceCtorEq, Int.reduceNeg, Int.reduceAdd, h3, o8, o9]
      repeat (first | (refine go_condT ?_ ?_; (focus (simp (disch := omega) only [go_sem, Nat.reduceAdd, Nat.reduceSub, Nat.reduceLT, Nat.reduceLeDiff, Nat.reduceEqDiff, Nat.reduceBEq, Nat.reduceBneDiff, Nat.reduceMul, ↓reduceIte, Int.reduceToNat, reduceCtorEq, Int.reduceNeg, Int.reduceAdd, h3, o8, o9]; done)); (try simp (disch := omega) only [go_sem, Nat.reduceAdd, Nat.reduceSub, Nat.reduceLT, Nat.reduceLeDiff, Nat.reduceEqDiff, Nat.reduceBEq, Nat.reduceBneDiff, Nat.reduceMul, ↓reduceIte, Int.reduceToNat, reduceCtorEq, Int.reduceNeg, Int.reduceAdd, h3, o8, o9])) | (refine go_condF ?_ ?_; (focus (simp (disch := omega) only [go_sem, Nat.reduceAdd, Nat.reduceSub, Nat.reduceLT, Nat.reduceLeDiff, Nat.reduceEqDiff, Nat.reduceBEq, Nat.reduceBneDiff, Nat.reduceMul, ↓reduceIte, Int.reduceToNat, reduceCtorEq, Int.reduceNeg, Int.reduceAdd, h3, o8, o9]; done)); (try simp (disch := omega) only [go_sem, Nat.reduceAdd, Nat.reduceSub, Nat.reduceLT, Nat.reduceLeDiff, Nat.reduceEqDiff, Nat.reduceBEq, Nat.reduceBneDiff, Nat.reduceMul, ↓reduceIte, Int.reduceToNat, reduceCtorEq, Int.reduceNeg, Int.reduceAdd, h3, o8, o9])) | fail)
      refine go_loop (α := Int) (fun a => ⟨slots 90 0 [(1, .str n), (3, .ptr 0 0), (5, .ptr 1 0), (6, .ptr 2 0), (8, .ptr 3 0), (9, .int .i64 a)], (if a = 0 then [.box 34 [.int .i64 x.op, .str x.atom.name, .arr (x.atom.args.map Tm.d), .str x.var, .arr (x.parts.map Fm.d)], .box 31 [.str t.name, .arr (t.args.map Tm.d)], .box 34 [.int .i64 0, .str ⟨#[]⟩, .nil, .str ⟨#[]⟩, .nil], .box 34 [.int .i64 x.op, .str ⟨#[]⟩, .nil, .str x.var, .nil]] else [.box 34 [.int .i64 x.op, .str x.atom.name, .arr (x.atom.args.map Tm.d), .str x.var, .arr (x.parts.map Fm.d)], .box 31 [.str t.name, .arr (t.args.map Tm.d)], .box 34 [.int .i64 0, .str ⟨#[]⟩, .nil, .str ⟨#[]⟩, .nil], .box 34 [.int .i64 x.op, .str ⟨#[]⟩, .nil, .str x.var, .ref 4], .row 34 5 ((ps.take a.toNat).map Fm.osh)])⟩) (fun a => ∃ k : Nat, a = k ∧ k ≤ (x.parts).length ∧ Fm.subSL n t x.parts = (ps.take k ++ (Fm.subSL n t (x.parts.drop k)).1, (Fm.subSL n t (x.parts.drop k)).2)) (fun a => (x.parts).length - (a).toNat) 0 ⟨0, rfl, Nat.zero_le _, by rw [List.take_zero, List.nil_append, List.drop_zero]⟩ (by simp (disch := omega) only [go_sem, go_cond, Nat.reduceAdd, Nat.reduceSub, Nat.reduceLT, Nat.reduceLeDiff, Nat.reduceEqDiff, Nat.reduceBEq, Nat.reduceBneDiff, Nat.reduceMul, ↓reduceIte, Int.reduceToNat, reduceCtorEq, Int.reduceNeg, Int.reduceAdd, eq_self, if_true]) ?_
      rintro i ⟨k, hi, hk, hR⟩
      have hni : i.toNat = k := by omega
      have hni1 : (i + 1).toNat = k + 1 := by omega
      rcases Nat.lt_or_ge k (x.parts).length with hlt | hge
      · have hgt := get_at Fm.d hlt
        rw [Fm.d_eq] at hgt
        have hc := ih x.parts[k] (List.getElem_mem hlt)
        have hltm : k < ps.length := by rw [hps, List.length_map]; exact hlt
        have hse := map_snoc Fm.osh hltm
        have hpk : ps[k] = (x.parts[k].subS n t).1 := by simp only [hps, List.getElem_map]
        rw [hpk, Fm.osh_eq] at hse
        rw [List.drop_eq_getElem_cons hlt, Fm.subSL] at hR
        have htk : ps.take (k + 1) = ps.take k ++ [(x.parts[k].subS n t).1] := by rw [List.take_succ_eq_append_getElem hltm, hpk]
        have htl : (ps.take k).length = k := by rw [List.length_take]; omega
        have hfk := Fm.osh_full (ps.take k)
        have hek := Fm.osh_er (ps.take k)
        unfold SpuC at hc
        cases hok : (x.parts[k].subS n t).2 with
        | false =>
          rw [hok] at hc hR
          simp only [cond_false, List.append_nil] at hR
          rw [hR]
          dsimp only
          have hsvk : (Fm.mk x.op (.mk ⟨#[]⟩ []) x.var (ps.take k)).sv = .agg [.int .i64 x.op, .str ⟨#[]⟩, .arr [], .str x.var, .arr ((ps.take k).map Fm.d)] := rfl
          rw [hsvk]
          rcases Nat.eq_zero_or_pos k with h0 | h0
          · subst h0
            obtain rfl : i = 0 := hi
            rw [List.take_zero, List.map_nil]
            simp (disch := omega) only [go_sem, go_cond, Nat.reduceAdd, Nat.reduceSub, Nat.reduceLT, Nat.reduceLeDiff, Nat.reduceEqDiff, Nat.reduceBEq, Nat.reduceBneDiff, Nat.reduceMul, ↓reduceIte, Int.reduceToNat, reduceCtorEq, Int.reduceNeg, Int.reduceAdd, hni, hgt, hc, m_spec_l8Put, eq_self, if_true]
          · have hi0 : (i = 0) = False := by simp; omega
            simp (disch := omega) only [go_sem, go_cond, Nat.reduceAdd, Nat.reduceSub, Nat.reduceLT, Nat.reduceLeDiff, Nat.reduceEqDiff, Nat.reduceBEq, Nat.reduceBneDiff, Nat.reduceMul, ↓reduceIte, Int.reduceToNat, reduceCtorEq, Int.reduceNeg, Int.reduceAdd, hni, hgt, hc, m_spec_l8Put, hi0, if_false, htl, hfk, hek]
        | true =>
          rw [hok] at hc hR
          simp only [cond_true] at hR
          have hR' : Fm.subSL n t x.parts = (ps.take (k + 1) ++ (Fm.subSL n t (x.parts.drop (k + 1))).1, (Fm.subSL n t (x.parts.drop (k + 1))).2) := by
            rw [hR, htk, List.append_assoc]; rfl
          rcases Nat.eq_zero_or_pos k with h0 | h0
          · subst h0
            obtain rfl : i = 0 := hi
            rw [List.take_zero, List.map_nil, List.nil_append] at hse
            simp (disch := omega) only [go_sem, go_cond, Nat.reduceAdd, Nat.reduceSub, Nat.reduceLT, Nat.reduceLeDiff, Nat.reduceEqDiff, Nat.reduceBEq, Nat.reduceBneDiff, Nat.reduceMul, ↓reduceIte, Int.reduceToNat, reduceCtorEq, Int.reduceNeg, Int.reduceAdd, hni, hgt, hc, m_spec_l8Put, eq_self, if_true]
            refine ⟨1, ⟨1, rfl, hlt, hR'⟩, by omega, ?_⟩
            simp (disch := omega) only [go_sem, go_cond, Nat.reduceAdd, Nat.reduceSub, Nat.reduceLT, Nat.reduceLeDiff, Nat.reduceEqDiff, Nat.reduceBEq, Nat.reduceBneDiff, Nat.reduceMul, ↓reduceIte, Int.reduceToNat, reduceCtorEq, Int.reduceNeg, Int.reduceAdd, h10, if_false, hse]
          · have hi0 : (i = 0) = False := by simp; omega
            have hi1 : (i + 1 = 0) = False := by simp; omega
            simp (disch := omega) only [go_sem, go_cond, Nat.reduceAdd, Nat.reduceSub, Nat.reduceLT, Nat.reduceLeDiff, Nat.reduceEqDiff, Nat.reduceBEq, Nat.reduceBneDiff, Nat.reduceMul, ↓reduceIte, Int.reduceToNat, reduceCtorEq, Int.reduceNeg, Int.reduceAdd, hni, hgt, hc, m_spec_l8Put, hi0, if_false, htl, hfk, hek]
            refine ⟨i + 1, ⟨k + 1, by omega, hlt, hR'⟩, by omega, ?_⟩
            simp (disch := omega) only [go_sem, go_cond, Nat.reduceAdd, Nat.reduceSub, Nat.reduceLT, Nat.reduceLeDiff, Nat.reduceEqDiff, Nat.reduceBEq, Nat.reduceBneDiff, Nat.reduceMul, ↓reduceIte, Int.reduceToNat, reduceCtorEq, Int.reduceNeg, Int.reduceAdd, hni1, hi1, if_false, hse]
      · obtain rfl : k = x.parts.length := by omega
        have hta : ps.take x.parts.length = ps := List.take_of_length_le (by rw [hps, List.length_map]; omega)
        have hfu := Fm.osh_full ps
        have her := Fm.osh_er ps
        rw [List.drop_eq_nil_of_le hge, Fm.subSL, List.append_nil, hta] at hR
        rw [hR]
        dsimp only
        have hsvk : (Fm.mk x.op (.mk ⟨#[]⟩ []) x.var ps).sv = .agg [.int .i64 x.op, .str ⟨#[]⟩, .arr [], .str x.var, .arr (ps.map Fm.d)] := rfl
        rw [hsvk]
        rcases Nat.eq_zero_or_pos x.parts.length with h0 | h0
        · have hx : x.parts = [] := List.eq_nil_of_length_eq_zero h0
          have hp0 : ps = [] := by rw [hps, hx]; rfl
          obtain rfl : i = 0 := by omega
          rw [hp0, List.map_nil]
          simp (disch := omega) only [go_sem, go_cond, Nat.reduceAdd, Nat.reduceSub, Nat.reduceLT, Nat.reduceLeDiff, Nat.reduceEqDiff, Nat.reduceBEq, Nat.reduceBneDiff, Nat.reduceMul, ↓reduceIte, Int.reduceToNat, reduceCtorEq, Int.reduceNeg, Int.reduceAdd, hni, hx, eq_self, if_true, List.map_nil, List.length_nil]
        · have hi0 : (i = 0) = False := by simp; omega
          simp (disch := omega) only [go_sem, go_cond, Nat.reduceAdd, Nat.reduceSub, Nat.reduceLT, Nat.reduceLeDiff, Nat.reduceEqDiff, Nat.reduceBEq, Nat.reduceBneDiff, Nat.reduceMul, ↓reduceIte, Int.reduceToNat, reduceCtorEq, Int.reduceNeg, Int.reduceAdd, hni, hi0, if_false, hta, hfu, her]
      
    | true =>
      obtain ⟨hvv, p, hp⟩ := Fm.form_quant hfo hq
      have hst := Fm.stays_part n hfo hq hp
      have hpm : p ∈ x.parts := by rw [hp]; simp
      have hl0 : 0 < x.parts.length := by rw [hp]; simp
      have hp0 : x.parts[0] = p := by simp only [hp, List.getElem_cons_zero]
      have hg0 := get_at Fm.d hl0
      rw [hp0, Fm.d_eq] at hg0
      have hpf := Fm.forms_part hx hpm
      have hpn := Fm.nodes_mem hpm
      have hpv := Fm.vn_le p hpf
      have hfr := l8Free_E p hpf (by omega) (by omega)
      have hps' : p.sv = .agg [.int .i64 p.op, .str p.atom.name, .arr (p.atom.args.map Tm.d), .str p.var, .arr (p.parts.map Fm.d)] := rfl
      have hfl : p.free.length ≤ 1048576 := by
        have h1 := insA_len (p.fv []) []
        have h2 := Fm.fv_len p []
        simp only [List.length_nil] at h1
        show (insA [] (p.fv [])).length ≤ _
        omega
      have hin := l2In_E p.free n (by omega)
      have em : dec (n ∈ p.free) = dec (n ∈ p.fv []) := dec_ii (Fm.free_mem p n)
      rw [em] at hin
      have hva := l2Vars_E t (by omega)
      have hvl := insA_len t.vs []
      have hvl2 := Tm.vs_len t
      simp only [List.length_nil] at hvl
      have hin2 := l2In_E (insA [] t.vs) x.var (by omega)
      have em2 : dec (x.var ∈ insA [] t.vs) = dec (x.var ∈ t.vs) := dec_ii (by rw [insA_mem]; simp)
      rw [em2] at hin2
      have how := l8Own_E x hta0 (by omega)
      rw [hst, hq] at hS
      simp only [Bool.true_and] at hS
      unfold qB at hq
      cases hv : dec (x.var = n) with
      | true =>
        rw [hv] at hS
        simp only [Bool.true_or, cond_true] at hS
        rw [hS]
        dsimp only
        cases o8 : dec (x.op = 8) with
        | true =>
          refine E_walk k_spec_l8Put m_spec_l8Put (of_decide_eq_true rfl) ?_
          simp (disch := omega) only [c_spec_l8Put, go_sem, Nat.reduceAdd, Nat.reduceSub, Nat.reduceLT, Nat.reduceLeDiff, Nat.reduceEqDiff, Nat.reduceBEq, Nat.reduceBneDiff, Nat.reduceMul, ↓reduceIte, Int.reduceToNat, reduceCtorEq, Int.reduceNeg, Int.reduceAdd, h3, o8, hq, hv, hg0, hfr, hin, how, Int.toNat_zero, m_spec_l8Free, m_spec_l2In, m_spec_l8Own]
          repeat (first | (refine go_condT ?_ ?_; (focus (simp (disch := omega) only [go_sem, Nat.reduceAdd, Nat.reduceSub, Nat.reduceLT, Nat.reduceLeDiff, Nat.reduceEqDiff, Nat.reduceBEq, Nat.reduceBneDiff, Nat.reduceMul, ↓reduceIte, Int.reduceToNat, reduceCtorEq, Int.reduceNeg, Int.reduceAdd, h3, o8, hq, hv, hg0, hfr, hin, how, Int.toNat_zero, m_spec_l8Free, m_spec_l2In, m_spec_l8Own]; done)); (try simp (disch := omega) only [go_sem, Nat.reduceAdd, Nat.reduceSub, Nat.reduceLT, Nat.reduceLeDiff, Nat.reduceEqDiff, Nat.reduceBEq, Nat.reduceBneDiff, Nat.reduceMul, ↓reduceIte, Int.reduceToNat, reduceCtorEq, Int.reduceNeg, Int.reduceAdd, h3, o8, hq, hv, hg0, hfr, hin, how, Int.toNat_zero, m_spec_l8Free, m_spec_l2In, m_spec_l8Own])) | (refine go_condF ?_ ?_; (focus (simp (disch := omega) only [go_sem, Nat.reduceAdd, Nat.reduceSub, Nat.reduceLT, Nat.reduceLeDiff, Nat.reduceEqDiff, Nat.reduceBEq, Nat.reduceBneDiff, Nat.reduceMul, ↓reduceIte, Int.reduceToNat, reduceCtorEq, Int.reduceNeg, Int.reduceAdd, h3, o8, hq, hv, hg0, hfr, hin, how, Int.toNat_zero, m_spec_l8Free, m_spec_l2In, m_spec_l8Own]; done)); (try simp (disch := omega) only [go_sem, Nat.reduceAdd, Nat.reduceSub, Nat.reduceLT, Nat.reduceLeDiff, Nat.reduceEqDiff, Nat.reduceBEq, Nat.reduceBneDiff, Nat.reduceMul, ↓reduceIte, Int.reduceToNat, reduceCtorEq, Int.reduceNeg, Int.reduceAdd, h3, o8, hq, hv, hg0, hfr, hin, how, Int.toNat_zero, m_spec_l8Free, m_spec_l2In, m_spec_l8Own])) | fail)
        | false =>
          rw [o8, Bool.false_or] at hq
          refine E_walk k_spec_l8Put m_spec_l8Put (of_decide_eq_true rfl) ?_
          simp (disch := omega) only [c_spec_l8Put, go_sem, Nat.reduceAdd, Nat.reduceSub, Nat.reduceLT, Nat.reduceLeDiff, Nat.reduceEqDiff, Nat.reduceBEq, Nat.reduceBneDiff, Nat.reduceMul, ↓reduceIte, Int.reduceToNat, reduceCtorEq, Int.reduceNeg, Int.reduceAdd, h3, o8, hq, hv, hg0, hfr, hin, how, Int.toNat_zero, m_spec_l8Free, m_spec_l2In, m_spec_l8Own]
          repeat (first | (refine go_condT ?_ ?_; (focus (simp (disch := omega) only [go_sem, Nat.reduceAdd, Nat.reduceSub, Nat.reduceLT, Nat.reduceLeDiff, Nat.reduceEqDiff, Nat.reduceBEq, Nat.reduceBneDiff, Nat.reduceMul, ↓reduceIte, Int.reduceToNat, reduceCtorEq, Int.reduceNeg, Int.reduceAdd, h3, o8, hq, hv, hg0, hfr, hin, how, Int.toNat_zero, m_spec_l8Free, m_spec_l2In, m_spec_l8Own]; done)); (try simp (disch := omega) only [go_sem, Nat.reduceAdd, Nat.reduceSub, Nat.reduceLT, Nat.reduceLeDiff, Nat.reduceEqDiff, Nat.reduceBEq, Nat.reduceBneDiff, Nat.reduceMul, ↓reduceIte, Int.reduceToNat, reduceCtorEq, Int.reduceNeg, Int.reduceAdd, h3, o8, hq, hv, hg0, hfr, hin, how, Int.toNat_zero, m_spec_l8Free, m_spec_l2In, m_spec_l8Own])) | (refine go_condF ?_ ?_; (focus (simp (disch := omega) only [go_sem, Nat.reduceAdd, Nat.reduceSub, Nat.reduceLT, Nat.reduceLeDiff, Nat.reduceEqDiff, Nat.reduceBEq, Nat.reduceBneDiff, Nat.reduceMul, ↓reduceIte, Int.reduceToNat, reduceCtorEq, Int.reduceNeg, Int.reduceAdd, h3, o8, hq, hv, hg0, hfr, hin, how, Int.toNat_zero, m_spec_l8Free, m_spec_l2In, m_spec_l8Own]; done)); (try simp (disch := omega) only [go_sem, Nat.reduceAdd, Nat.reduceSub, Nat.reduceLT, Nat.reduceLeDiff, Nat.reduceEqDiff, Nat.reduceBEq, Nat.reduceBneDiff, Nat.reduceMul, ↓reduceIte, Int.reduceToNat, reduceCtorEq, Int.reduceNeg, Int.reduceAdd, h3, o8, hq, hv, hg0, hfr, hin, how, Int.toNat_zero, m_spec_l8Free, m_spec_l2In, m_spec_l8Own])) | fail)
      | false =>
        rw [hv] at hS
        simp only [Bool.false_or] at hS
        cases hf : dec (n ∈ p.fv []) with
        | false =>
          rw [hf] at hS hin
          simp only [Bool.not_false, cond_true] at hS
          rw [hS]
          dsimp only
          cases o8 : dec (x.op = 8) with
          | true =>
            refine E_walk k_spec_l8Put m_spec_l8Put (of_decide_eq_true rfl) ?_
            simp (disch := omega) only [c_spec_l8Put, go_sem, Nat.reduceAdd, Nat.reduceSub, Nat.reduceLT, Nat.reduceLeDiff, Nat.reduceEqDiff, Nat.reduceBEq, Nat.reduceBneDiff, Nat.reduceMul, ↓reduceIte, Int.reduceToNat, reduceCtorEq, Int.reduceNeg, Int.reduceAdd, h3, o8, hq, hv, hg0, hfr, hin, how, Int.toNat_zero, m_spec_l8Free, m_spec_l2In, m_spec_l8Own]
            repeat (first | (refine go_condT ?_ ?_; (focus (simp (disch := omega) only [go_sem, Nat.reduceAdd, Nat.reduceSub, Nat.reduceLT, Nat.reduceLeDiff, Nat.reduceEqDiff, Nat.reduceBEq, Nat.reduceBneDiff, Nat.reduceMul, ↓reduceIte, Int.reduceToNat, reduceCtorEq, Int.reduceNeg, Int.reduceAdd, h3, o8, hq, hv, hg0, hfr, hin, how, Int.toNat_zero, m_spec_l8Free, m_spec_l2In, m_spec_l8Own]; done)); (try simp (disch := omega) only [go_sem, Nat.reduceAdd, Nat.reduceSub, Nat.reduceLT, Nat.reduceLeDiff, Nat.reduceEqDiff, Nat.reduceBEq, Nat.reduceBneDiff, Nat.reduceMul, ↓reduceIte, Int.reduceToNat, reduceCtorEq, Int.reduceNeg, Int.reduceAdd, h3, o8, hq, hv, hg0, hfr, hin, how, Int.toNat_zero, m_spec_l8Free, m_spec_l2In, m_spec_l8Own])) | (refine go_condF ?_ ?_; (focus (simp (disch := omega) only [go_sem, Nat.reduceAdd, Nat.reduceSub, Nat.reduceLT, Nat.reduceLeDiff, Nat.reduceEqDiff, Nat.reduceBEq, Nat.reduceBneDiff, Nat.reduceMul, ↓reduceIte, Int.reduceToNat, reduceCtorEq, Int.reduceNeg, Int.reduceAdd, h3, o8, hq, hv, hg0, hfr, hin, how, Int.toNat_zero, m_spec_l8Free, m_spec_l2In, m_spec_l8Own]; done)); (try simp (disch := omega) only [go_sem, Nat.reduceAdd, Nat.reduceSub, Nat.reduceLT, Nat.reduceLeDiff, Nat.reduceEqDiff, Nat.reduceBEq, Nat.reduceBneDiff, Nat.reduceMul, ↓reduceIte, Int.reduceToNat, reduceCtorEq, Int.reduceNeg, Int.reduceAdd, h3, o8, hq, hv, hg0, hfr, hin, how, Int.toNat_zero, m_spec_l8Free, m_spec_l2In, m_spec_l8Own])) | fail)
          | false =>
            rw [o8, Bool.false_or] at hq
            refine E_walk k_spec_l8Put m_spec_l8Put (of_decide_eq_true rfl) ?_
            simp (disch := omega) only [c_spec_l8Put, go_sem, Nat.reduceAdd, Nat.reduceSub, Nat.reduceLT, Nat.reduceLeDiff, Nat.reduceEqDiff, Nat.reduceBEq, Nat.reduceBneDiff, Nat.reduceMul, ↓reduceIte, Int.reduceToNat, reduceCtorEq, Int.reduceNeg, Int.reduceAdd, h3, o8, hq, hv, hg0, hfr, hin, how, Int.toNat_zero, m_spec_l8Free, m_spec_l2In, m_spec_l8Own]
            repeat (first | (refine go_condT ?_ ?_; (focus (simp (disch := omega) only [go_sem, Nat.reduceAdd, Nat.reduceSub, Nat.reduceLT, Nat.reduceLeDiff, Nat.reduceEqDiff, Nat.reduceBEq, Nat.reduceBneDiff, Nat.reduceMul, ↓reduceIte, Int.reduceToNat, reduceCtorEq, Int.reduceNeg, Int.reduceAdd, h3, o8, hq, hv, hg0, hfr, hin, how, Int.toNat_zero, m_spec_l8Free, m_spec_l2In, m_spec_l8Own]; done)); (try simp (disch := omega) only [go_sem, Nat.reduceAdd, Nat.reduceSub, Nat.reduceLT, Nat.reduceLeDiff, Nat.reduceEqDiff, Nat.reduceBEq, Nat.reduceBneDiff, Nat.reduceMul, ↓reduceIte, Int.reduceToNat, reduceCtorEq, Int.reduceNeg, Int.reduceAdd, h3, o8, hq, hv, hg0, hfr, hin, how, Int.toNat_zero, m_spec_l8Free, m_spec_l2In, m_spec_l8Own])) | (refine go_condF ?_ ?_; (focus (simp (disch := omega) only [go_sem, Nat.reduceAdd, Nat.reduceSub, Nat.reduceLT, Nat.reduceLeDiff, Nat.reduceEqDiff, Nat.reduceBEq, Nat.reduceBneDiff, Nat.reduceMul, ↓reduceIte, Int.reduceToNat, reduceCtorEq, Int.reduceNeg, Int.reduceAdd, h3, o8, hq, hv, hg0, hfr, hin, how, Int.toNat_zero, m_spec_l8Free, m_spec_l2In, m_spec_l8Own]; done)); (try simp (disch := omega) only [go_sem, Nat.reduceAdd, Nat.reduceSub, Nat.reduceLT, Nat.reduceLeDiff, Nat.reduceEqDiff, Nat.reduceBEq, Nat.reduceBneDiff, Nat.reduceMul, ↓reduceIte, Int.reduceToNat, reduceCtorEq, Int.reduceNeg, Int.reduceAdd, h3, o8, hq, hv, hg0, hfr, hin, how, Int.toNat_zero, m_spec_l8Free, m_spec_l2In, m_spec_l8Own])) | fail)
        | true =>
          rw [hf] at hS hin
          simp only [Bool.not_true, cond_false] at hS
          cases ho : dec (x.var ∈ t.vs) with
          | true =>
            rw [ho] at hS hin2
            simp only [cond_true] at hS
            rw [hS]
            have hsr : (Fm.mk x.op (.mk ⟨#[]⟩ []) x.var []).sv = .agg [.int .i64 x.op, .str ⟨#[]⟩, .arr [], .str x.var, .arr []] := rfl
            dsimp only
            rw [hsr]
            cases o8 : dec (x.op = 8) with
            | true =>
              refine E_walk k_spec_l8Put m_spec_l8Put (of_decide_eq_true rfl) ?_
              simp (disch := omega) only [c_spec_l8Put, go_sem, Nat.reduceAdd, Nat.reduceSub, Nat.reduceLT, Nat.reduceLeDiff, Nat.reduceEqDiff, Nat.reduceBEq, Nat.reduceBneDiff, Nat.reduceMul, ↓reduceIte, Int.reduceToNat, reduceCtorEq, Int.reduceNeg, Int.reduceAdd, h3, o8, hq, hv, hg0, hfr, hin, hva, hin2, Int.toNat_zero, m_spec_l8Free, m_spec_l2In, m_spec_l2Vars]
              repeat (first | (refine go_condT ?_ ?_; (focus (simp (disch := omega) only [go_sem, Nat.reduceAdd, Nat.reduceSub, Nat.reduceLT, Nat.reduceLeDiff, Nat.reduceEqDiff, Nat.reduceBEq, Nat.reduceBneDiff, Nat.reduceMul, ↓reduceIte, Int.reduceToNat, reduceCtorEq, Int.reduceNeg, Int.reduceAdd, h3, o8, hq, hv, hg0, hfr, hin, hva, hin2, Int.toNat_zero, m_spec_l8Free, m_spec_l2In, m_spec_l2Vars]; done)); (try simp (disch := omega) only [go_sem, Nat.reduceAdd, Nat.reduceSub, Nat.reduceLT, Nat.reduceLeDiff, Nat.reduceEqDiff, Nat.reduceBEq, Nat.reduceBneDiff, Nat.reduceMul, ↓reduceIte, Int.reduceToNat, reduceCtorEq, Int.reduceNeg, Int.reduceAdd, h3, o8, hq, hv, hg0, hfr, hin, hva, hin2, Int.toNat_zero, m_spec_l8Free, m_spec_l2In, m_spec_l2Vars])) | (refine go_condF ?_ ?_; (focus (simp (disch := omega) only [go_sem, Nat.reduceAdd, Nat.reduceSub, Nat.reduceLT, Nat.reduceLeDiff, Nat.reduceEqDiff, Nat.reduceBEq, Nat.reduceBneDiff, Nat.reduceMul, ↓reduceIte, Int.reduceToNat, reduceCtorEq, Int.reduceNeg, Int.reduceAdd, h3, o8, hq, hv, hg0, hfr, hin, hva, hin2, Int.toNat_zero, m_spec_l8Free, m_spec_l2In, m_spec_l2Vars]; done)); (try simp (disch := omega) only [go_sem, Nat.reduceAdd, Nat.reduceSub, Nat.reduceLT, Nat.reduceLeDiff, Nat.reduceEqDiff, Nat.reduceBEq, Nat.reduceBneDiff, Nat.reduceMul, ↓reduceIte, Int.reduceToNat, reduceCtorEq, Int.reduceNeg, Int.reduceAdd, h3, o8, hq, hv, hg0, hfr, hin, hva, hin2, Int.toNat_zero, m_spec_l8Free, m_spec_l2In, m_spec_l2Vars])) | fail)
            | false =>
              rw [o8, Bool.false_or] at hq
              refine E_walk k_spec_l8Put m_spec_l8Put (of_decide_eq_true rfl) ?_
              simp (disch := omega) only [c_spec_l8Put, go_sem, Nat.reduceAdd, Nat.reduceSub, Nat.reduceLT, Nat.reduceLeDiff, Nat.reduceEqDiff, Nat.reduceBEq, Nat.reduceBneDiff, Nat.reduceMul, ↓reduceIte, Int.reduceToNat, reduceCtorEq, Int.reduceNeg, Int.reduceAdd, h3, o8, hq, hv, hg0, hfr, hin, hva, hin2, Int.toNat_zero, m_spec_l8Free, m_spec_l2In, m_spec_l2Vars]
              repeat (first | (refine go_condT ?_ ?_; (focus (simp (disch := omega) only [go_sem, Nat.reduceAdd, Nat.reduceSub, Nat.reduceLT, Nat.reduceLeDiff, Nat.reduceEqDiff, Nat.reduceBEq, Nat.reduceBneDiff, Nat.reduceMul, ↓reduceIte, Int.reduceToNat, reduceCtorEq, Int.reduceNeg, Int.reduceAdd, h3, o8, hq, hv, hg0, hfr, hin, hva, hin2, Int.toNat_zero, m_spec_l8Free, m_spec_l2In, m_spec_l2Vars]; done)); (try simp (disch := omega) only [go_sem, Nat.reduceAdd, Nat.reduceSub, Nat.reduceLT, Nat.reduceLeDiff, Nat.reduceEqDiff, Nat.reduceBEq, Nat.reduceBneDiff, Nat.reduceMul, ↓reduceIte, Int.reduceToNat, reduceCtorEq, Int.reduceNeg, Int.reduceAdd, h3, o8, hq, hv, hg0, hfr, hin, hva, hin2, Int.toNat_zero, m_spec_l8Free, m_spec_l2In, m_spec_l2Vars])) | (refine go_condF ?_ ?_; (focus (simp (disch := omega) only [go_sem, Nat.reduceAdd, Nat.reduceSub, Nat.reduceLT, Nat.reduceLeDiff, Nat.reduceEqDiff, Nat.reduceBEq, Nat.reduceBneDiff, Nat.reduceMul, ↓reduceIte, Int.reduceToNat, reduceCtorEq, Int.reduceNeg, Int.reduceAdd, h3, o8, hq, hv, hg0, hfr, hin, hva, hin2, Int.toNat_zero, m_spec_l8Free, m_spec_l2In, m_spec_l2Vars]; done)); (try simp (disch := omega) only [go_sem, Nat.reduceAdd, Nat.reduceSub, Nat.reduceLT, Nat.reduceLeDiff, Nat.reduceEqDiff, Nat.reduceBEq, Nat.reduceBneDiff, Nat.reduceMul, ↓reduceIte, Int.reduceToNat, reduceCtorEq, Int.reduceNeg, Int.reduceAdd, h3, o8, hq, hv, hg0, hfr, hin, hva, hin2, Int.toNat_zero, m_spec_l8Free, m_spec_l2In, m_spec_l2Vars])) | fail)
          | false =>
            rw [ho] at hS hin2
            simp only [cond_false] at hS
            rw [hS]
            cases o8 : dec (x.op = 8) with
            | true =>
              refine E_walk k_spec_l8Put m_spec_l8Put (of_decide_eq_true rfl) ?_
              simp (disch := omega) only [c_spec_l8Put, go_sem, Nat.reduceAdd, Nat.reduceSub, Nat.reduceLT, Nat.reduceLeDiff, Nat.reduceEqDiff, Nat.reduceBEq, Nat.reduceBneDiff, Nat.reduceMul, ↓reduceIte, Int.reduceToNat, reduceCtorEq, Int.reduceNeg, Int.reduceAdd, h3, o8, hq, hv, hg0, hfr, hin, hva, hin2, Int.toNat_zero, m_spec_l8Free, m_spec_l2In, m_spec_l2Vars]
              repeat (first | (refine go_condT ?_ ?_; (focus (simp (disch := omega) only [go_sem, Nat.reduceAdd, Nat.reduceSub, Nat.reduceLT, Nat.reduceLeDiff, Nat.reduceEqDiff, Nat.reduceBEq, Nat.reduceBneDiff, Nat.reduceMul, ↓reduceIte, Int.reduceToNat, reduceCtorEq, Int.reduceNeg, Int.reduceAdd, h3, o8, hq, hv, hg0, hfr, hin, hva, hin2, Int.toNat_zero, m_spec_l8Free, m_spec_l2In, m_spec_l2Vars]; done)); (try simp (disch := omega) only [go_sem, Nat.reduceAdd, Nat.reduceSub, Nat.reduceLT, Nat.reduceLeDiff, Nat.reduceEqDiff, Nat.reduceBEq, Nat.reduceBneDiff, Nat.reduceMul, ↓reduceIte, Int.reduceToNat, reduceCtorEq, Int.reduceNeg, Int.reduceAdd, h3, o8, hq, hv, hg0, hfr, hin, hva, hin2, Int.toNat_zero, m_spec_l8Free, m_spec_l2In, m_spec_l2Vars])) | (refine go_condF ?_ ?_; (focus (simp (disch := omega) only [go_sem, Nat.reduceAdd, Nat.reduceSub, Nat.reduceLT, Nat.reduceLeDiff, Nat.reduceEqDiff, Nat.reduceBEq, Nat.reduceBneDiff, Nat.reduceMul, ↓reduceIte, Int.reduceToNat, reduceCtorEq, Int.reduceNeg, Int.reduceAdd, h3, o8, hq, hv, hg0, hfr, hin, hva, hin2, Int.toNat_zero, m_spec_l8Free, m_spec_l2In, m_spec_l2Vars]; done)); (try simp (disch := omega) only [go_sem, Nat.reduceAdd, Nat.reduceSub, Nat.reduceLT, Nat.reduceLeDiff, Nat.reduceEqDiff, Nat.reduceBEq, Nat.reduceBneDiff, Nat.reduceMul, ↓reduceIte, Int.reduceToNat, reduceCtorEq, Int.reduceNeg, Int.reduceAdd, h3, o8, hq, hv, hg0, hfr, hin, hva, hin2, Int.toNat_zero, m_spec_l8Free, m_spec_l2In, m_spec_l2Vars])) | fail)
              refine go_loop (α := Int) (fun a => ⟨slots 90 0 [(1, .str n), (3, .ptr 0 0), (5, .ptr 1 0), (6, .ptr 2 0), (8, .ptr 3 0), (9, .int .i64 a)], (if a = 0 then [.box 34 [.int .i64 x.op, .str x.atom.name, .arr (x.atom.args.map Tm.d), .str x.var, .arr (x.parts.map Fm.d)], .box 31 [.str t.name, .arr (t.args.map Tm.d)], .box 34 [.int .i64 0, .str ⟨#[]⟩, .nil, .str ⟨#[]⟩, .nil], .box 34 [.int .i64 x.op, .str ⟨#[]⟩, .nil, .str x.var, .nil]] else [.box 34 [.int .i64 x.op, .str x.atom.name, .arr (x.atom.args.map Tm.d), .str x.var, .arr (x.parts.map Fm.d)], .box 31 [.str t.name, .arr (t.args.map Tm.d)], .box 34 [.int .i64 0, .str ⟨#[]⟩, .nil, .str ⟨#[]⟩, .nil], .box 34 [.int .i64 x.op, .str ⟨#[]⟩, .nil, .str x.var, .ref 4], .row 34 5 ((ps.take a.toNat).map Fm.osh)])⟩) (fun a => ∃ k : Nat, a = k ∧ k ≤ (x.parts).length ∧ Fm.subSL n t x.parts = (ps.take k ++ (Fm.subSL n t (x.parts.drop k)).1, (Fm.subSL n t (x.parts.drop k)).2)) (fun a => (x.parts).length - (a).toNat) 0 ⟨0, rfl, Nat.zero_le _, by rw [List.take_zero, List.nil_append, List.drop_zero]⟩ (by simp (disch := omega) only [go_sem, go_cond, Nat.reduceAdd, Nat.reduceSub, Nat.reduceLT, Nat.reduceLeDiff, Nat.reduceEqDiff, Nat.reduceBEq, Nat.reduceBneDiff, Nat.reduceMul, ↓reduceIte, Int.reduceToNat, reduceCtorEq, Int.reduceNeg, Int.reduceAdd, eq_self, if_true]) ?_
              rintro i ⟨k, hi, hk, hR⟩
              have hni : i.toNat = k := by omega
              have hni1 : (i + 1).toNat = k + 1 := by omega
              rcases Nat.lt_or_ge k (x.parts).length with hlt | hge
              · have hgt := get_at Fm.d hlt
                rw [Fm.d_eq] at hgt
                have hc := ih x.parts[k] (List.getElem_mem hlt)
                have hltm : k < ps.length := by rw [hps, List.length_map]; exact hlt
                have hse := map_snoc Fm.osh hltm
                have hpk : ps[k] = (x.parts[k].subS n t).1 := by simp only [hps, List.getElem_map]
                rw [hpk, Fm.osh_eq] at hse
                rw [List.drop_eq_getElem_cons hlt, Fm.subSL] at hR
                have htk : ps.take (k + 1) = ps.take k ++ [(x.parts[k].subS n t).1] := by rw [List.take_succ_eq_append_getElem hltm, hpk]
                have htl : (ps.take k).length = k := by rw [List.length_take]; omega
                have hfk := Fm.osh_full (ps.take k)
                have hek := Fm.osh_er (ps.take k)
                unfold SpuC at hc
                cases hok : (x.parts[k].subS n t).2 with
                | false =>
                  rw [hok] at hc hR
                  simp only [cond_false, List.append_nil] at hR
                  rw [hR]
                  dsimp only
                  have hsvk : (Fm.mk x.op (.mk ⟨#[]⟩ []) x.var (ps.take k)).sv = .agg [.int .i64 x.op, .str ⟨#[]⟩, .arr [], .str x.var, .arr ((ps.take k).map Fm.d)] := rfl
                  rw [hsvk]
                  rcases Nat.eq_zero_or_pos k with h0 | h0
                  · subst h0
                    obtain rfl : i = 0 := hi
                    rw [List.take_zero, List.map_nil]
                    simp (disch := omega) only [go_sem, go_cond, Nat.reduceAdd, Nat.reduceSub, Nat.reduceLT, Nat.reduceLeDiff, Nat.reduceEqDiff, Nat.reduceBEq, Nat.reduceBneDiff, Nat.reduceMul, ↓reduceIte, Int.reduceToNat, reduceCtorEq, Int.reduceNeg, Int.reduceAdd, hni, hgt, hc, m_spec_l8Put, eq_self, if_true]
                  · have hi0 : (i = 0) = False := by simp; omega
                    simp (disch := omega) only [go_sem, go_cond, Nat.reduceAdd, Nat.reduceSub, Nat.reduceLT, Nat.reduceLeDiff, Nat.reduceEqDiff, Nat.reduceBEq, Nat.reduceBneDiff, Nat.reduceMul, ↓reduceIte, Int.reduceToNat, reduceCtorEq, Int.reduceNeg, Int.reduceAdd, hni, hgt, hc, m_spec_l8Put, hi0, if_false, htl, hfk, hek]
                | true =>
                  rw [hok] at hc hR
                  simp only [cond_true] at hR
                  have hR' : Fm.subSL n t x.parts = (ps.take (k + 1) ++ (Fm.subSL n t (x.parts.drop (k + 1))).1, (Fm.subSL n t (x.parts.drop (k + 1))).2) := by
                    rw [hR, htk, List.append_assoc]; rfl
                  rcases Nat.eq_zero_or_pos k with h0 | h0
                  · subst h0
                    obtain rfl : i = 0 := hi
                    rw [List.take_zero, List.map_nil, List.nil_append] at hse
                    simp (disch := omega) only [go_sem, go_cond, Nat.reduceAdd, Nat.reduceSub, Nat.reduceLT, Nat.reduceLeDiff, Nat.reduceEqDiff, Nat.reduceBEq, Nat.reduceBneDiff, Nat.reduceMul, ↓reduceIte, Int.reduceToNat, reduceCtorEq, Int.reduceNeg, Int.reduceAdd, hni, hgt, hc, m_spec_l8Put, eq_self, if_true]
                    refine ⟨1, ⟨1, rfl, hlt, hR'⟩, by omega, ?_⟩
                    simp (disch := omega) only [go_sem, go_cond, Nat.reduceAdd, Nat.reduceSub, Nat.reduceLT, Nat.reduceLeDiff, Nat.reduceEqDiff, Nat.reduceBEq, Nat.reduceBneDiff, Nat.reduceMul, ↓reduceIte, Int.reduceToNat, reduceCtorEq, Int.reduceNeg, Int.reduceAdd, h10, if_false, hse]
                  · have hi0 : (i = 0) = False := by simp; omega
                    have hi1 : (i + 1 = 0) = False := by simp; omega
                    simp (disch := omega) only [go_sem, go_cond, Nat.reduceAdd, Nat.reduceSub, Nat.reduceLT, Nat.reduceLeDiff, Nat.reduceEqDiff, Nat.reduceBEq, Nat.reduceBneDiff, Nat.reduceMul, ↓reduceIte, Int.reduceToNat, reduceCtorEq, Int.reduceNeg, Int.reduceAdd, hni, hgt, hc, m_spec_l8Put, hi0, if_false, htl, hfk, hek]
                    refine ⟨i + 1, ⟨k + 1, by omega, hlt, hR'⟩, by omega, ?_⟩
                    simp (disch := omega) only [go_sem, go_cond, Nat.reduceAdd, Nat.reduceSub, Nat.reduceLT, Nat.reduceLeDiff, Nat.reduceEqDiff, Nat.reduceBEq, Nat.reduceBneDiff, Nat.reduceMul, ↓reduceIte, Int.reduceToNat, reduceCtorEq, Int.reduceNeg, Int.reduceAdd, hni1, hi1, if_false, hse]
              · obtain rfl : k = x.parts.length := by omega
                have hta : ps.take x.parts.length = ps := List.take_of_length_le (by rw [hps, List.length_map]; omega)
                have hfu := Fm.osh_full ps
                have her := Fm.osh_er ps
                rw [List.drop_eq_nil_of_le hge, Fm.subSL, List.append_nil, hta] at hR
                rw [hR]
                dsimp only
                have hsvk : (Fm.mk x.op (.mk ⟨#[]⟩ []) x.var ps).sv = .agg [.int .i64 x.op, .str ⟨#[]⟩, .arr [], .str x.var, .arr (ps.map Fm.d)] := rfl
                rw [hsvk]
                rcases Nat.eq_zero_or_pos x.parts.length with h0 | h0
                · have hx : x.parts = [] := List.eq_nil_of_length_eq_zero h0
                  have hp0 : ps = [] := by rw [hps, hx]; rfl
                  obtain rfl : i = 0 := by omega
                  rw [hp0, List.map_nil]
                  exfalso
                  omega
                · have hi0 : (i = 0) = False := by simp; omega
                  simp (disch := omega) only [go_sem, go_cond, Nat.reduceAdd, Nat.reduceSub, Nat.reduceLT, Nat.reduceLeDiff, Nat.reduceEqDiff, Nat.reduceBEq, Nat.reduceBneDiff, Nat.reduceMul, ↓reduceIte, Int.reduceToNat, reduceCtorEq, Int.reduceNeg, Int.reduceAdd, hni, hi0, if_false, hta, hfu, her]
              
            | false =>
              rw [o8, Bool.false_or] at hq
              refine E_walk k_spec_l8Put m_spec_l8Put (of_decide_eq_true rfl) ?_
              simp (disch := omega) only [c_spec_l8Put, go_sem, Nat.reduceAdd, Nat.reduceSub, Nat.reduceLT, Nat.reduceLeDiff, Nat.reduceEqDiff, Nat.reduceBEq, Nat.reduceBneDiff, Nat.reduceMul, ↓reduceIte, Int.reduceToNat, reduceCtorEq, Int.reduceNeg, Int.reduceAdd, h3, o8, hq, hv, hg0, hfr, hin, hva, hin2, Int.toNat_zero, m_spec_l8Free, m_spec_l2In, m_spec_l2Vars]
              repeat (first | (refine go_condT ?_ ?_; (focus (simp (disch := omega) only [go_sem, Nat.reduceAdd, Nat.reduceSub, Nat.reduceLT, Nat.reduceLeDiff, Nat.reduceEqDiff, Nat.reduceBEq, Nat.reduceBneDiff, Nat.reduceMul, ↓reduceIte, Int.reduceToNat, reduceCtorEq, Int.reduceNeg, Int.reduceAdd, h3, o8, hq, hv, hg0, hfr, hin, hva, hin2, Int.toNat_zero, m_spec_l8Free, m_spec_l2In, m_spec_l2Vars]; done)); (try simp (disch := omega) only [go_sem, Nat.reduceAdd, Nat.reduceSub, Nat.reduceLT, Nat.reduceLeDiff, Nat.reduceEqDiff, Nat.reduceBEq, Nat.reduceBneDiff, Nat.reduceMul, ↓reduceIte, Int.reduceToNat, reduceCtorEq, Int.reduceNeg, Int.reduceAdd, h3, o8, hq, hv, hg0, hfr, hin, hva, hin2, Int.toNat_zero, m_spec_l8Free, m_spec_l2In, m_spec_l2Vars])) | (refine go_condF ?_ ?_; (focus (simp (disch := omega) only [go_sem, Nat.reduceAdd, Nat.reduceSub, Nat.reduceLT, Nat.reduceLeDiff, Nat.reduceEqDiff, Nat.reduceBEq, Nat.reduceBneDiff, Nat.reduceMul, ↓reduceIte, Int.reduceToNat, reduceCtorEq, Int.reduceNeg, Int.reduceAdd, h3, o8, hq, hv, hg0, hfr, hin, hva, hin2, Int.toNat_zero, m_spec_l8Free, m_spec_l2In, m_spec_l2Vars]; done)); (try simp (disch := omega) only [go_sem, Nat.reduceAdd, Nat.reduceSub, Nat.reduceLT, Nat.reduceLeDiff, Nat.reduceEqDiff, Nat.reduceBEq, Nat.reduceBneDiff, Nat.reduceMul, ↓reduceIte, Int.reduceToNat, reduceCtorEq, Int.reduceNeg, Int.reduceAdd, h3, o8, hq, hv, hg0, hfr, hin, hva, hin2, Int.toNat_zero, m_spec_l8Free, m_spec_l2In, m_spec_l2Vars])) | fail)
              refine go_loop (α := Int) (fun a => ⟨slots 90 0 [(1, .str n), (3, .ptr 0 0), (5, .ptr 1 0), (6, .ptr 2 0), (8, .ptr 3 0), (9, .int .i64 a)], (if a = 0 then [.box 34 [.int .i64 x.op, .str x.atom.name, .arr (x.atom.args.map Tm.d), .str x.var, .arr (x.parts.map Fm.d)], .box 31 [.str t.name, .arr (t.args.map Tm.d)], .box 34 [.int .i64 0, .str ⟨#[]⟩, .nil, .str ⟨#[]⟩, .nil], .box 34 [.int .i64 x.op, .str ⟨#[]⟩, .nil, .str x.var, .nil]] else [.box 34 [.int .i64 x.op, .str x.atom.name, .arr (x.atom.args.map Tm.d), .str x.var, .arr (x.parts.map Fm.d)], .box 31 [.str t.name, .arr (t.args.map Tm.d)], .box 34 [.int .i64 0, .str ⟨#[]⟩, .nil, .str ⟨#[]⟩, .nil], .box 34 [.int .i64 x.op, .str ⟨#[]⟩, .nil, .str x.var, .ref 4], .row 34 5 ((ps.take a.toNat).map Fm.osh)])⟩) (fun a => ∃ k : Nat, a = k ∧ k ≤ (x.parts).length ∧ Fm.subSL n t x.parts = (ps.take k ++ (Fm.subSL n t (x.parts.drop k)).1, (Fm.subSL n t (x.parts.drop k)).2)) (fun a => (x.parts).length - (a).toNat) 0 ⟨0, rfl, Nat.zero_le _, by rw [List.take_zero, List.nil_append, List.drop_zero]⟩ (by simp (disch := omega) only [go_sem, go_cond, Nat.reduceAdd, Nat.reduceSub, Nat.reduceLT, Nat.reduceLeDiff, Nat.reduceEqDiff, Nat.reduceBEq, Nat.reduceBneDiff, Nat.reduceMul, ↓reduceIte, Int.reduceToNat, reduceCtorEq, Int.reduceNeg, Int.reduceAdd, eq_self, if_true]) ?_
              rintro i ⟨k, hi, hk, hR⟩
              have hni : i.toNat = k := by omega
              have hni1 : (i + 1).toNat = k + 1 := by omega
              rcases Nat.lt_or_ge k (x.parts).length with hlt | hge
              · have hgt := get_at Fm.d hlt
                rw [Fm.d_eq] at hgt
                have hc := ih x.parts[k] (List.getElem_mem hlt)
                have hltm : k < ps.length := by rw [hps, List.length_map]; exact hlt
                have hse := map_snoc Fm.osh hltm
                have hpk : ps[k] = (x.parts[k].subS n t).1 := by simp only [hps, List.getElem_map]
                rw [hpk, Fm.osh_eq] at hse
                rw [List.drop_eq_getElem_cons hlt, Fm.subSL] at hR
                have htk : ps.take (k + 1) = ps.take k ++ [(x.parts[k].subS n t).1] := by rw [List.take_succ_eq_append_getElem hltm, hpk]
                have htl : (ps.take k).length = k := by rw [List.length_take]; omega
                have hfk := Fm.osh_full (ps.take k)
                have hek := Fm.osh_er (ps.take k)
                unfold SpuC at hc
                cases hok : (x.parts[k].subS n t).2 with
                | false =>
                  rw [hok] at hc hR
                  simp only [cond_false, List.append_nil] at hR
                  rw [hR]
                  dsimp only
                  have hsvk : (Fm.mk x.op (.mk ⟨#[]⟩ []) x.var (ps.take k)).sv = .agg [.int .i64 x.op, .str ⟨#[]⟩, .arr [], .str x.var, .arr ((ps.take k).map Fm.d)] := rfl
                  rw [hsvk]
                  rcases Nat.eq_zero_or_pos k with h0 | h0
                  · subst h0
                    obtain rfl : i = 0 := hi
                    rw [List.take_zero, List.map_nil]
                    simp (disch := omega) only [go_sem, go_cond, Nat.reduceAdd, Nat.reduceSub, Nat.reduceLT, Nat.reduceLeDiff, Nat.reduceEqDiff, Nat.reduceBEq, Nat.reduceBneDiff, Nat.reduceMul, ↓reduceIte, Int.reduceToNat, reduceCtorEq, Int.reduceNeg, Int.reduceAdd, hni, hgt, hc, m_spec_l8Put, eq_self, if_true]
                  · have hi0 : (i = 0) = False := by simp; omega
                    simp (disch := omega) only [go_sem, go_cond, Nat.reduceAdd, Nat.reduceSub, Nat.reduceLT, Nat.reduceLeDiff, Nat.reduceEqDiff, Nat.reduceBEq, Nat.reduceBneDiff, Nat.reduceMul, ↓reduceIte, Int.reduceToNat, reduceCtorEq, Int.reduceNeg, Int.reduceAdd, hni, hgt, hc, m_spec_l8Put, hi0, if_false, htl, hfk, hek]
                | true =>
                  rw [hok] at hc hR
                  simp only [cond_true] at hR
                  have hR' : Fm.subSL n t x.parts = (ps.take (k + 1) ++ (Fm.subSL n t (x.parts.drop (k + 1))).1, (Fm.subSL n t (x.parts.drop (k + 1))).2) := by
                    rw [hR, htk, List.append_assoc]; rfl
                  rcases Nat.eq_zero_or_pos k with h0 | h0
                  · subst h0
                    obtain rfl : i = 0 := hi
                    rw [List.take_zero, List.map_nil, List.nil_append] at hse
                    simp (disch := omega) only [go_sem, go_cond, Nat.reduceAdd, Nat.reduceSub, Nat.reduceLT, Nat.reduceLeDiff, Nat.reduceEqDiff, Nat.reduceBEq, Nat.reduceBneDiff, Nat.reduceMul, ↓reduceIte, Int.reduceToNat, reduceCtorEq, Int.reduceNeg, Int.reduceAdd, hni, hgt, hc, m_spec_l8Put, eq_self, if_true]
                    refine ⟨1, ⟨1, rfl, hlt, hR'⟩, by omega, ?_⟩
                    simp (disch := omega) only [go_sem, go_cond, Nat.reduceAdd, Nat.reduceSub, Nat.reduceLT, Nat.reduceLeDiff, Nat.reduceEqDiff, Nat.reduceBEq, Nat.reduceBneDiff, Nat.reduceMul, ↓reduceIte, Int.reduceToNat, reduceCtorEq, Int.reduceNeg, Int.reduceAdd, h10, if_false, hse]
                  · have hi0 : (i = 0) = False := by simp; omega
                    have hi1 : (i + 1 = 0) = False := by simp; omega
                    simp (disch := omega) only [go_sem, go_cond, Nat.reduceAdd, Nat.reduceSub, Nat.reduceLT, Nat.reduceLeDiff, Nat.reduceEqDiff, Nat.reduceBEq, Nat.reduceBneDiff, Nat.reduceMul, ↓reduceIte, Int.reduceToNat, reduceCtorEq, Int.reduceNeg, Int.reduceAdd, hni, hgt, hc, m_spec_l8Put, hi0, if_false, htl, hfk, hek]
                    refine ⟨i + 1, ⟨k + 1, by omega, hlt, hR'⟩, by omega, ?_⟩
                    simp (disch := omega) only [go_sem, go_cond, Nat.reduceAdd, Nat.reduceSub, Nat.reduceLT, Nat.reduceLeDiff, Nat.reduceEqDiff, Nat.reduceBEq, Nat.reduceBneDiff, Nat.reduceMul, ↓reduceIte, Int.reduceToNat, reduceCtorEq, Int.reduceNeg, Int.reduceAdd, hni1, hi1, if_false, hse]
              · obtain rfl : k = x.parts.length := by omega
                have hta : ps.take x.parts.length = ps := List.take_of_length_le (by rw [hps, List.length_map]; omega)
                have hfu := Fm.osh_full ps
                have her := Fm.osh_er ps
                rw [List.drop_eq_nil_of_le hge, Fm.subSL, List.append_nil, hta] at hR
                rw [hR]
                dsimp only
                have hsvk : (Fm.mk x.op (.mk ⟨#[]⟩ []) x.var ps).sv = .agg [.int .i64 x.op, .str ⟨#[]⟩, .arr [], .str x.var, .arr (ps.map Fm.d)] := rfl
                rw [hsvk]
                rcases Nat.eq_zero_or_pos x.parts.length with h0 | h0
                · have hx : x.parts = [] := List.eq_nil_of_length_eq_zero h0
                  have hp0 : ps = [] := by rw [hps, hx]; rfl
                  obtain rfl : i = 0 := by omega
                  rw [hp0, List.map_nil]
                  exfalso
                  omega
                · have hi0 : (i = 0) = False := by simp; omega
                  simp (disch := omega) only [go_sem, go_cond, Nat.reduceAdd, Nat.reduceSub, Nat.reduceLT, Nat.reduceLeDiff, Nat.reduceEqDiff, Nat.reduceBEq, Nat.reduceBneDiff, Nat.reduceMul, ↓reduceIte, Int.reduceToNat, reduceCtorEq, Int.reduceNeg, Int.reduceAdd, hni, hi0, if_false, hta, hfu, her]
              
theorem l8Put_E (n : ByteArray) (t : Tm) (hn : varB n = true) (ht : t.valid = true) (x : Fm) (hx : x.forms = true) (hsz : x.nodes ≤ 40) (hta0 : x.tame) : SpuC n t x :=
  l8Put_of n t hn ht x hx hsz hta0 fun y hy => l8Put_E n t hn ht y (Fm.forms_part hx hy) (by have := Fm.nodes_mem hy; have := Fm.nodes_eq x; omega) (Fm.tame_part hta0 hy)
termination_by SizeOf.sizeOf x
decreasing_by exact Fm.lt_of_mem hy
end Go.Proofs.YtjgnhifkcgpmjaaGreat
