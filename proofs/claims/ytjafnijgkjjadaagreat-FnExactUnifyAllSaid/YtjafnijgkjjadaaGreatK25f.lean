/-
  This text tells what unifying answers in the program. No condition.
-/
import Derived.Test.YtjafnijgkjjadaaGreatK25e
set_option maxRecDepth 100000
set_option linter.unusedSimpArgs false
set_option linter.unusedVariables false
namespace Go.Proofs.YtjafnijgkjjadaaGreat
open Go.RowKit

def c_impl_unify : SC := (.seq (.reg [⟨(some 2), none, (.boxv 33 2 (.t 0))⟩, ⟨(some 3), none, (.boxv 33 2 (.t 1))⟩, ⟨(some 4), none, (.alloc 28 [.nil])⟩, ⟨(some 5), none, (.mv (.c (.bool false)))⟩]) (.seq (.reg [⟨(some 17), none, (.build [.nil] [])⟩, ⟨(some 6), none, (.alloc 28 [.nil])⟩, ⟨none, none, (.store 1 (.t 6) (.t 17))⟩]) (.seq (.reg [⟨(some 18), none, (.load true 2 (.t 2))⟩, ⟨(some 19), none, (.load true 2 (.t 3))⟩, ⟨(some 20), none, (.build [(.str ⟨#[]⟩), .nil, (.str ⟨#[]⟩), .nil] [(0, (2, (.t 18))), (2, (2, (.t 19)))])⟩, ⟨(some 21), none, (.mkrow 62 4 [(.str ⟨#[]⟩), .nil, (.str ⟨#[]⟩), .nil] 1 [(0, (.t 20))])⟩, ⟨(some 7), none, (.mv (.t 21))⟩]) (.seq (.block 0 (.loop [0, 0, 0, 0, 1, 0, 1, 1, 0, 0, 0, 0, 0, 0, 0, 0, 0, 0, 0, 0, 0, 0, 0, 0, 0, 0, 0, 0, 0, 0, 0, 0, 0, 0, 0, 0, 0, 0, 0, 0, 0, 0, 0, 0, 0, 0, 0, 0, 0, 0, 0, 0, 0, 0, 0, 0, 0, 0, 0, 0, 0, 0, 0, 0, 0, 0, 0, 0, 0, 0, 0, 0, 0, 0, 0, 0, 0, 0, 0, 0, 0, 0, 0, 0, 0, 0, 0, 0, 0, 0, 0, 0, 0, 0, 0, 0, 0, 0, 0, 0, 0, 0, 0, 0, 0, 0, 0, 0, 0, 0, 0, 0, 0, 0, 0, 0, 0, 0, 0, 0, 0, 0, 0] (.seq (.seq (.reg [⟨(some 22), none, (.mv (.t 7))⟩, ⟨(some 23), none, (.len false (.t 22))⟩, ⟨(some 24), none, (.bin .gtr false (.t 23) (.c (.int .i64 0)))⟩]) (.cond (.t 24) .skip (.exit 0))) (.block 1 (.seq (.dreg [[], [], [1], [2, 1], [3, 2, 1], [0, 4, 3, 2, 1], [5, 0, 4, 3, 2, 1], [6, 5, 0, 4, 3, 2, 1], [6, 5, 0, 4, 3, 2, 1], [], [9, 7, 6, 5, 0, 4, 3, 2, 1], [8, 6, 5, 0, 4, 3, 2, 1, 10, 9, 7]] [⟨(some 26), none, (.load true 1 (.t 6))⟩, ⟨(some 27), none, (.mv (.t 7))⟩, ⟨(some 28), none, (.iaddr 4 (.t 27) (.c (.int .i64 0)))⟩, ⟨(some 29), none, (.faddr 0 (.t 28))⟩, ⟨(some 30), none, (.load true 2 (.t 29))⟩, ⟨(some 31), none, (.call 33 [(.t 26), (.t 30)])⟩, ⟨(some 25), none, (.mv (.t 31))⟩, ⟨(some 32), none, (.ext (.t 25) 0)⟩, ⟨(some 33), none, (.ext (.t 25) 1)⟩, ⟨(some 8), none, (.alloc 33 [(.str ⟨#[]⟩), .nil])⟩, ⟨none, none, (.store 2 (.t 8) (.t 32))⟩, ⟨(some 9), none, (.mv (.t 33))⟩]) (.seq (.dreg [[], [], [1], [2, 1], [3, 2, 1], [0, 4, 3, 2, 1], [5, 0, 4, 3, 2, 1], [6, 5, 0, 4, 3, 2, 1], [6, 5, 0, 4, 3, 2, 1], [], [9, 7, 6, 5, 0, 4, 3, 2, 1], [8, 6, 5, 0, 4, 3, 2, 1, 10, 9, 7]] [⟨(some 35), none, (.load true 1 (.t 6))⟩, ⟨(some 36), none, (.mv (.t 7))⟩, ⟨(some 37), none, (.iaddr 4 (.t 36) (.c (.int .i64 0)))⟩, ⟨(some 38), none, (.faddr 2 (.t 37))⟩, ⟨(some 39), none, (.load true 2 (.t 38))⟩, ⟨(some 40), none, (.call 33 [(.t 35), (.t 39)])⟩, ⟨(some 34), none, (.mv (.t 40))⟩, ⟨(some 41), none, (.ext (.t 34) 0)⟩, ⟨(some 42), none, (.ext (.t 34) 1)⟩, ⟨(some 10), none, (.alloc 33 [(.str ⟨#[]⟩), .nil])⟩, ⟨none, none, (.store 2 (.t 10) (.t 41))⟩, ⟨(some 11), none, (.mv (.t 42))⟩]) (.seq (.reg [⟨(some 43), none, (.mv (.t 7))⟩, ⟨(some 44), none, (.slice false 4 (.t 43) (some (.c (.int .i64 1))) none)⟩, ⟨(some 7), none, (.mv (.t 44))⟩]) (.block 2 (.seq (.reg [⟨(some 69), none, (.mv (.t 9))⟩, ⟨(some 70), none, (.un .not (.t 69))⟩, ⟨(some 71), none, (.mv (.t 70))⟩, ⟨(some 72), (some (71, false)), (.mv (.t 11))⟩, ⟨(some 73), (some (71, false)), (.un .not (.t 72))⟩, ⟨(some 74), none, (.pick (.t 71) (.c (.bool true)) (.t 73))⟩, ⟨(some 68), none, (.mv (.t 74))⟩]) (.cond (.t 68) (.seq (.reg [⟨(some 75), none, (.build [.nil] [])⟩, ⟨none, none, (.store 1 (.t 4) (.t 75))⟩, ⟨(some 5), none, (.mv (.c (.bool false)))⟩]) .ret) (.seq (.reg [⟨(some 77), none, (.load true 2 (.t 8))⟩, ⟨(some 78), none, (.load true 2 (.t 10))⟩, ⟨(some 79), none, (.call 44 [(.t 77), (.t 78)])⟩, ⟨(some 76), none, (.mv (.t 79))⟩]) (.cond (.t 76) .skip (.seq (.reg [⟨(some 81), none, (.load true 2 (.t 8))⟩, ⟨(some 82), none, (.call 45 [(.t 81)])⟩, ⟨(some 83), none, (.mv (.t 82))⟩, ⟨(some 84), (some (83, false)), (.load true 2 (.t 10))⟩, ⟨(some 85), (some (83, false)), (.call 45 [(.t 84)])⟩, ⟨(some 86), none, (.pick (.t 83) (.c (.bool true)) (.t 85))⟩, ⟨(some 80), none, (.mv (.t 86))⟩]) (.cond (.t 80) (.seq (.reg [⟨(some 88), none, (.load true 2 (.t 8))⟩, ⟨(some 89), none, (.load true 2 (.t 10))⟩, ⟨(some 90), none, (.build [(.str ⟨#[]⟩), .nil, (.str ⟨#[]⟩), .nil] [(0, (2, (.t 88))), (2, (2, (.t 89)))])⟩, ⟨(some 91), none, (.call 46 [(.t 90)])⟩, ⟨(some 87), none, (.mv (.t 91))⟩, ⟨(some 92), none, (.ext (.t 87) 0)⟩, ⟨(some 93), none, (.ext (.t 87) 1)⟩, ⟨(some 12), none, (.alloc 28 [.nil])⟩, ⟨none, none, (.store 1 (.t 12) (.t 92))⟩, ⟨(some 13), none, (.mv (.t 93))⟩]) (.seq (.seq (.reg [⟨(some 94), none, (.mv (.t 13))⟩, ⟨(some 95), none, (.un .not (.t 94))⟩]) (.cond (.t 95) (.seq (.reg [⟨(some 96), none, (.build [.nil] [])⟩, ⟨none, none, (.store 1 (.t 4) (.t 96))⟩, ⟨(some 5), none, (.mv (.c (.bool false)))⟩]) .ret) .skip)) (.seq (.reg [⟨(some 98), none, (.load true 1 (.t 6))⟩, ⟨(some 99), none, (.load true 1 (.t 12))⟩, ⟨(some 100), none, (.call 34 [(.t 98), (.t 99)])⟩, ⟨(some 97), none, (.mv (.t 100))⟩, ⟨(some 101), none, (.ext (.t 97) 0)⟩, ⟨(some 102), none, (.ext (.t 97) 1)⟩, ⟨none, none, (.store 1 (.t 6) (.t 101))⟩, ⟨(some 13), none, (.mv (.t 102))⟩]) (.seq (.reg [⟨(some 103), none, (.mv (.t 13))⟩, ⟨(some 104), none, (.un .not (.t 103))⟩]) (.cond (.t 104) (.seq (.reg [⟨(some 105), none, (.build [.nil] [])⟩, ⟨none, none, (.store 1 (.t 4) (.t 105))⟩, ⟨(some 5), none, (.mv (.c (.bool false)))⟩]) .ret) .skip))))) (.seq (.reg [⟨(some 107), none, (.faddr 0 (.t 8))⟩, ⟨(some 108), none, (.load false 1 (.t 107))⟩, ⟨(some 109), none, (.faddr 0 (.t 10))⟩, ⟨(some 110), none, (.load false 1 (.t 109))⟩, ⟨(some 111), none, (.bin .neq false (.t 108) (.t 110))⟩, ⟨(some 112), none, (.mv (.t 111))⟩, ⟨(some 113), (some (112, false)), (.faddr 1 (.t 8))⟩, ⟨(some 114), (some (112, false)), (.load false 1 (.t 113))⟩, ⟨(some 115), (some (112, false)), (.len false (.t 114))⟩, ⟨(some 116), (some (112, false)), (.faddr 1 (.t 10))⟩, ⟨(some 117), (some (112, false)), (.load false 1 (.t 116))⟩, ⟨(some 118), (some (112, false)), (.len false (.t 117))⟩, ⟨(some 119), (some (112, false)), (.bin .neq false (.t 115) (.t 118))⟩, ⟨(some 120), none, (.pick (.t 112) (.c (.bool true)) (.t 119))⟩, ⟨(some 106), none, (.mv (.t 120))⟩]) (.cond (.t 106) (.seq (.reg [⟨(some 121), none, (.build [.nil] [])⟩, ⟨none, none, (.store 1 (.t 4) (.t 121))⟩, ⟨(some 5), none, (.mv (.c (.bool false)))⟩]) .ret) (.seq (.reg [⟨(some 45), none, (.mkrow 62 4 [(.str ⟨#[]⟩), .nil, (.str ⟨#[]⟩), .nil] 0 [])⟩, ⟨(some 14), none, (.mv (.t 45))⟩]) (.seq (.seq (.reg [⟨(some 46), none, (.faddr 1 (.t 8))⟩, ⟨(some 47), none, (.load false 1 (.t 46))⟩, ⟨(some 48), none, (.len false (.t 47))⟩, ⟨(some 49), none, (.mv (.c (.int .i64 0)))⟩]) (.block 3 (.loop [0, 0, 0, 0, 1, 0, 1, 1, 0, 0, 1, 0, 0, 0, 1, 0, 0, 0, 0, 0, 0, 0, 0, 0, 0, 0, 0, 0, 0, 0, 0, 0, 0, 0, 0, 0, 0, 0, 0, 0, 0, 0, 0, 0, 0, 0, 0, 1, 1, 1, 0, 0, 0, 0, 0, 0, 0, 0, 0, 0, 0, 0, 0, 0, 0, 0, 0, 0, 0, 0, 0, 0, 0, 0, 0, 0, 0, 0, 0, 0, 0, 0, 0, 0, 0, 0, 0, 0, 0, 0, 0, 0, 0, 0, 0, 0, 0, 0, 0, 0, 0, 0, 0, 0, 0, 0, 0, 0, 0, 0, 0, 0, 0, 0, 0, 0, 0, 0, 0, 0, 0, 0, 0] (.seq (.reg [⟨(some 50), none, (.bin .lss false (.t 49) (.t 48))⟩]) (.seq (.cond (.t 50) .skip (.exit 3)) (.seq (.block 4 (.seq (.reg [⟨(some 51), none, (.mv (.t 49))⟩, ⟨(some 52), none, (.iaddr 2 (.t 47) (.t 49))⟩, ⟨(some 53), none, (.load true 2 (.t 52))⟩, ⟨(some 16), none, (.alloc 33 [(.str ⟨#[]⟩), .nil])⟩, ⟨(some 15), none, (.mv (.t 51))⟩, ⟨none, none, (.store 2 (.t 16) (.t 53))⟩]) (.dreg [[], [], [], [2], [], [3, 2, 4], [5, 3, 2, 4], [1, 6, 5, 3, 2, 4], [7, 1, 6, 5, 3, 2, 4], [0, 8, 7, 1, 6, 5, 3, 2, 4], [9, 0, 8, 7, 1, 6, 5, 3, 2, 4]] [⟨(some 54), none, (.mv (.t 14))⟩, ⟨(some 55), none, (.load true 2 (.t 16))⟩, ⟨(some 56), none, (.faddr 1 (.t 10))⟩, ⟨(some 57), none, (.load false 1 (.t 56))⟩, ⟨(some 58), none, (.mv (.t 15))⟩, ⟨(some 59), none, (.iaddr 2 (.t 57) (.t 58))⟩, ⟨(some 60), none, (.load true 2 (.t 59))⟩, ⟨(some 61), none, (.build [(.str ⟨#[]⟩), .nil, (.str ⟨#[]⟩), .nil] [(0, (2, (.t 55))), (2, (2, (.t 60)))])⟩, ⟨(some 62), none, (.mkrow 62 4 [(.str ⟨#[]⟩), .nil, (.str ⟨#[]⟩), .nil] 1 [(0, (.t 61))])⟩, ⟨(some 63), none, (.append 62 4 80 [(.str ⟨#[]⟩), .nil, (.str ⟨#[]⟩), .nil] (.t 54) (.t 62))⟩, ⟨(some 14), none, (.mv (.t 63))⟩]))) (.reg [⟨(some 64), none, (.bin .add false (.t 49) (.c (.int .i64 1)))⟩, ⟨(some 49), none, (.mv (.t 64))⟩]))))))) (.reg [⟨(some 65), none, (.mv (.t 14))⟩, ⟨(some 66), none, (.mv (.t 7))⟩, ⟨(some 67), none, (.append 62 4 80 [(.str ⟨#[]⟩), .nil, (.str ⟨#[]⟩), .nil] (.t 65) (.t 66))⟩, ⟨(some 7), none, (.mv (.t 67))⟩]))))))))))))))))))) (.seq (.reg [⟨(some 122), none, (.load true 1 (.t 6))⟩, ⟨none, none, (.store 1 (.t 4) (.t 122))⟩, ⟨(some 5), none, (.mv (.c (.bool true)))⟩]) .ret)))))
theorem k_impl_unify : codeOf Tryz.prog 23 = some ⟨123, c_impl_unify, [(.cell 4 true 1), (.tmp 5)]⟩ := by kernel_rfl
theorem m_impl_unify : modes 23 = ⟨[], .own [some (67, 3), none], none, false⟩ := by unfold modes; rfl

set_option maxHeartbeats 16000000 in
theorem unify_E (a b : Tm) (ha : a.expr = true) (hb : b.expr = true) (n : Nat) (total : Option Sb) (hr : uRun n ⟨[]⟩ [(a, b)] = some total) : E 23 [a.sv, b.sv] [] = some (.tup [(uTo total).osv, .bool (uOk total)], (uTo total).obs) := by
  refine E_walk k_impl_unify m_impl_unify (of_decide_eq_true rfl) ?_
  simp (disch := omega) only [c_impl_unify, go_sem, Nat.reduceAdd, Nat.reduceSub, Nat.reduceLT, Nat.reduceLeDiff, Nat.reduceEqDiff, Nat.reduceBEq, Nat.reduceBneDiff, Nat.reduceMul, ↓reduceIte, Int.reduceToNat, reduceCtorEq, Int.reduceNeg, Int.reduceAdd]
  refine go_loop (α := Nat × Bool × Bool × Sb × List (Tm × Tm)) (fun a => ⟨slots 123 0 [(4, .ptr 0 0), (6, .ptr 1 0), (7, (bif a.2.2.1 then .ref 2 else .arr (a.2.2.2.2.map eqD)))], ([.box 28 [.nil], .box 28 [bif a.2.1 then .nil else .ref (bif a.2.2.1 then 3 else 2)]] ++ ((bif a.2.2.1 then [.row 62 4 (a.2.2.2.2.map eqO)] else []) ++ (bif a.2.1 then [] else [.row 67 3 (a.2.2.2.1.binds.map Bd.o)])))⟩) (fun a => uInv a.2.2.2.1 a.2.2.2.2 ∧ uRun a.1 a.2.2.2.1 a.2.2.2.2 = some total ∧ (a.2.1 = true → a.2.2.2.1.binds = [])) (fun a => a.1) (n, true, true, ⟨[]⟩, [(a, b)]) ⟨uInv.start ha hb, hr, fun _ => rfl⟩ (by simp (disch := omega) only [go_sem, Nat.reduceAdd, Nat.reduceSub, Nat.reduceLT, Nat.reduceLeDiff, Nat.reduceEqDiff, Nat.reduceBEq, Nat.reduceBneDiff, Nat.reduceMul, ↓reduceIte, Int.reduceToNat, reduceCtorEq, Int.reduceNeg, Int.reduceAdd]; rfl) ?_
  clear hr ha hb
  rintro ⟨n, sn, lo, s, l⟩ ⟨hinv, hrun, hsn⟩
  dsimp only at hinv hrun hsn
  have hs := hinv.ok
  have hst := ok_tame hs
  cases n with
  | zero => rw [uRun] at hrun; cases hrun
  | succ n =>
  cases l with
  | nil =>
    rw [uRun] at hrun
    obtain rfl := Option.some.inj hrun
    have hk : uTo (some s) = s := rfl
    rw [hk]
    cases sn with
    | true =>
      obtain rfl : s = ⟨[]⟩ := by obtain ⟨bs⟩ := s; have := hsn rfl; rw [show bs = [] from this]
      cases lo with
      | true =>
        simp (disch := omega) only [go_sem, Nat.reduceAdd, Nat.reduceSub, Nat.reduceLT, Nat.reduceLeDiff, Nat.reduceEqDiff, Nat.reduceBEq, Nat.reduceBneDiff, Nat.reduceMul, ↓reduceIte, Int.reduceToNat, reduceCtorEq, Int.reduceNeg, Int.reduceAdd, Sb.osv, Sb.obs, uOk, Option.isSome_some, List.map_nil]
        try rfl
      | false =>
        simp (disch := omega) only [go_sem, Nat.reduceAdd, Nat.reduceSub, Nat.reduceLT, Nat.reduceLeDiff, Nat.reduceEqDiff, Nat.reduceBEq, Nat.reduceBneDiff, Nat.reduceMul, ↓reduceIte, Int.reduceToNat, reduceCtorEq, Int.reduceNeg, Int.reduceAdd, Sb.osv, Sb.obs, uOk, Option.isSome_some, List.map_nil]
        try rfl
    | false =>
      cases lo with
      | true =>
        simp (disch := omega) only [go_sem, Nat.reduceAdd, Nat.reduceSub, Nat.reduceLT, Nat.reduceLeDiff, Nat.reduceEqDiff, Nat.reduceBEq, Nat.reduceBneDiff, Nat.reduceMul, ↓reduceIte, Int.reduceToNat, reduceCtorEq, Int.reduceNeg, Int.reduceAdd, Sb.osv, Sb.obs, uOk, Option.isSome_some, List.map_nil]
        try rfl
      | false =>
        simp (disch := omega) only [go_sem, Nat.reduceAdd, Nat.reduceSub, Nat.reduceLT, Nat.reduceLeDiff, Nat.reduceEqDiff, Nat.reduceBEq, Nat.reduceBneDiff, Nat.reduceMul, ↓reduceIte, Int.reduceToNat, reduceCtorEq, Int.reduceNeg, Int.reduceAdd, Sb.osv, Sb.obs, uOk, Option.isSome_some, List.map_nil]
        try rfl
  | cons p l =>
    have hp := hinv.ex p (by simp)
    have hni : (0 : Int).toNat = 0 := rfl
    have hcmb : (sn = true ∧ lo = true) ∨ (sn = true ∧ lo = false) ∨ (sn = false ∧ lo = true) ∨ (sn = false ∧ lo = false) := by cases sn <;> cases lo <;> simp
    rcases hcmb with ⟨rfl, rfl⟩ | ⟨rfl, rfl⟩ | ⟨rfl, rfl⟩ | ⟨rfl, rfl⟩
    · obtain rfl : s = ⟨[]⟩ := by obtain ⟨bs⟩ := s; have := hsn rfl; rw [show bs = [] from this]
      have hss : (Sb.sv ⟨[]⟩) = .agg [.arr []] := rfl
      obtain ⟨L, hL⟩ : ∃ L, L = (p :: l).map eqO := ⟨_, rfl⟩
      have h0 : L[(0 : Nat)]? = some [.str p.1.name, .sh (p.1.args.map Tm.d), .str p.2.name, .sh (p.2.args.map Tm.d)] := by rw [hL]; rfl
      have h00 : 0 < L.length := by rw [hL]; simp
      have hlen : L.length = l.length + 1 := by rw [hL]; simp
      have hfu : OT.fullss L = true := by rw [hL]; exact eqO_fu _
      obtain ⟨Ld, hLd⟩ : ∃ Ld, Ld = (p :: l).map eqD := ⟨_, rfl⟩
      have her : OT.erss L = Ld := by rw [hL, hLd]; exact eqO_er _
      have hdr : (Ld.take (l.length + 1)).drop 1 = l.map eqD := by rw [hLd, List.take_of_length_le (by simp)]; rfl
      simp only [cond_true, cond_false, ← hL]
      cases o1 : apOk ⟨[]⟩ p.1 with
      | false =>
        have hA := applied_no ⟨[]⟩ hs hst p.1 hp.1 o1
        rw [hss] at hA
        rw [uRun] at hrun
        simp only [o1, Bool.false_and, cond_false, Option.some.injEq] at hrun
        subst hrun
        cases o2 : apOk ⟨[]⟩ p.2 with
        | false =>
          have hB := applied_no ⟨[]⟩ hs hst p.2 hp.2 o2
          rw [hss] at hB
          simp (disch := omega) only [go_sem, Nat.reduceAdd, Nat.reduceSub, Nat.reduceLT, Nat.reduceLeDiff, Nat.reduceEqDiff, Nat.reduceBEq, Nat.reduceBneDiff, Nat.reduceMul, ↓reduceIte, Int.reduceToNat, reduceCtorEq, Int.reduceNeg, Int.reduceAdd, Tm.osv, Tm.obs, hni, h0, h00, hlen, hfu, her, hdr, hA, hB, m_impl_Substitution_applied, m_impl_EqualTerms, m_impl_isVar, m_impl_bindingOf, m_impl_composed]
          first | rfl | exact ⟨rfl, rfl⟩
        | true =>
          have hB := applied_yes ⟨[]⟩ hs hst p.2 hp.2 o2
          rw [hss] at hB
          simp (disch := omega) only [go_sem, Nat.reduceAdd, Nat.reduceSub, Nat.reduceLT, Nat.reduceLeDiff, Nat.reduceEqDiff, Nat.reduceBEq, Nat.reduceBneDiff, Nat.reduceMul, ↓reduceIte, Int.reduceToNat, reduceCtorEq, Int.reduceNeg, Int.reduceAdd, Tm.osv, Tm.obs, hni, h0, h00, hlen, hfu, her, hdr, hA, hB, m_impl_Substitution_applied, m_impl_EqualTerms, m_impl_isVar, m_impl_bindingOf, m_impl_composed]
          first | rfl | exact ⟨rfl, rfl⟩
      | true =>
        have hA := applied_yes ⟨[]⟩ hs hst p.1 hp.1 o1
        rw [hss] at hA
        have e1 := apOk_ex o1
        cases o2 : apOk ⟨[]⟩ p.2 with
        | false =>
          have hB := applied_no ⟨[]⟩ hs hst p.2 hp.2 o2
          rw [hss] at hB
          rw [uRun] at hrun
          simp only [o2, Bool.and_false, cond_false, Option.some.injEq] at hrun
          subst hrun
          simp (disch := omega) only [go_sem, Nat.reduceAdd, Nat.reduceSub, Nat.reduceLT, Nat.reduceLeDiff, Nat.reduceEqDiff, Nat.reduceBEq, Nat.reduceBneDiff, Nat.reduceMul, ↓reduceIte, Int.reduceToNat, reduceCtorEq, Int.reduceNeg, Int.reduceAdd, Tm.osv, Tm.obs, hni, h0, h00, hlen, hfu, her, hdr, hA, hB, m_impl_Substitution_applied, m_impl_EqualTerms, m_impl_isVar, m_impl_bindingOf, m_impl_composed]
          first | rfl | exact ⟨rfl, rfl⟩
        | true =>
          have hB := applied_yes ⟨[]⟩ hs hst p.2 hp.2 o2
          rw [hss] at hB
          have e2 := apOk_ex o2
          have n1 := Tm.expr_nodes e1
          have n2 := Tm.expr_nodes e2
          have hdec := hinv.dec o1 o2
          have hbind := hinv.bind o1 o2
          rw [uRun] at hrun
          simp only [o1, o2, Bool.and_self, cond_true] at hrun
          obtain ⟨x, hx⟩ : ∃ x, x = apTo ⟨[]⟩ p.1 := ⟨_, rfl⟩
          obtain ⟨y, hy⟩ : ∃ y, y = apTo ⟨[]⟩ p.2 := ⟨_, rfl⟩
          rw [← hx] at hA e1 n1 hrun hdec hbind
          rw [← hy] at hB e2 n2 hrun hdec hbind
          have hE := equalTerms_E x y (by omega) (by omega)
          have hV := isVar_E x (Tm.expr_cok e1)
          have hW := isVar_E y (Tm.expr_cok e2)
          have hxv : x.sv = .agg [.str x.name, .arr (x.args.map Tm.d)] := rfl
          have hyv : y.sv = .agg [.str y.name, .arr (y.args.map Tm.d)] := rfl
          cases o3 : dec (x = y) with
          | true =>
            rw [o3] at hE
            simp only [o3, cond_true] at hrun
            simp (disch := omega) only [go_sem, Nat.reduceAdd, Nat.reduceSub, Nat.reduceLT, Nat.reduceLeDiff, Nat.reduceEqDiff, Nat.reduceBEq, Nat.reduceBneDiff, Nat.reduceMul, ↓reduceIte, Int.reduceToNat, reduceCtorEq, Int.reduceNeg, Int.reduceAdd, Tm.osv, Tm.obs, hni, h0, h00, hlen, hfu, her, hdr, hA, hB, hE, m_impl_Substitution_applied, m_impl_EqualTerms, m_impl_isVar, m_impl_bindingOf, m_impl_composed]
            exact ⟨(n, true, false, ⟨[]⟩, l), ⟨hinv.pop, hrun, hsn⟩, by dsimp only; omega, by first | trivial | rfl | (simp only [cond_true, cond_false, List.cons_append, List.nil_append, and_self])⟩
          | false =>
            rw [o3] at hE
            simp only [o3, cond_false] at hrun
            cases o4 : varB x.name || varB y.name with
            | true =>
              have hO := bindingOf_E x y e1 e2 o4
              have hbsv : (Sb.mk [bndOf x y]).sv = .agg [.arr [[.str (bndOf x y).var, .str (bndOf x y).term.name, .arr ((bndOf x y).term.args.map Tm.d)]]] := rfl
              rw [hbsv] at hO
              simp only [o4, cond_true] at hrun
              have hvv : (varB x.name = true) ∨ (varB x.name = false ∧ varB y.name = true) := by
                cases h : varB x.name with
                | true => exact .inl rfl
                | false => rw [h, Bool.false_or] at o4; exact .inr ⟨rfl, o4⟩
              cases o5 : bndOk (bndOf x y) with
              | false =>
                rw [o5] at hO
                simp only [o5, Bool.false_and, cond_false, Option.some.injEq] at hrun
                subst hrun
                rcases hvv with v1 | ⟨v1, v2⟩
                · rw [v1] at hV
                  simp (disch := omega) only [go_sem, Nat.reduceAdd, Nat.reduceSub, Nat.reduceLT, Nat.reduceLeDiff, Nat.reduceEqDiff, Nat.reduceBEq, Nat.reduceBneDiff, Nat.reduceMul, ↓reduceIte, Int.reduceToNat, reduceCtorEq, Int.reduceNeg, Int.reduceAdd, Tm.osv, Tm.obs, hni, h0, h00, hlen, hfu, her, hdr, hA, hB, hE, hV, hW, hO, m_impl_Substitution_applied, m_impl_EqualTerms, m_impl_isVar, m_impl_bindingOf, m_impl_composed]
                  first | rfl | exact ⟨rfl, rfl⟩
                · rw [v1] at hV
                  rw [v2] at hW
                  simp (disch := omega) only [go_sem, Nat.reduceAdd, Nat.reduceSub, Nat.reduceLT, Nat.reduceLeDiff, Nat.reduceEqDiff, Nat.reduceBEq, Nat.reduceBneDiff, Nat.reduceMul, ↓reduceIte, Int.reduceToNat, reduceCtorEq, Int.reduceNeg, Int.reduceAdd, Tm.osv, Tm.obs, hni, h0, h00, hlen, hfu, her, hdr, hA, hB, hE, hV, hW, hO, m_impl_Substitution_applied, m_impl_EqualTerms, m_impl_isVar, m_impl_bindingOf, m_impl_composed]
                  first | rfl | exact ⟨rfl, rfl⟩
              | true =>
                rw [o5] at hO
                have o5' := o5
                unfold bndOk at o5'
                rw [Bool.and_eq_true] at o5'
                have hbt : (bndOf x y).term.nodes ≤ 1099511627776 := by
                  rcases bndOf_cases x y o4 with ⟨e, _⟩ | ⟨e, _⟩
                  · rw [e]; show y.nodes ≤ _; omega
                  · rw [e]; show x.nodes ≤ _; omega
                have hC := composed_E ⟨[]⟩ ⟨[bndOf x y]⟩ hs o5'.2 hst (one_tame hbt)
                rw [hss, hbsv] at hC
                cases o6 : cmpOk ⟨[]⟩ ⟨[bndOf x y]⟩ with
                | false =>
                  have e6 : cmpTo ⟨[]⟩ ⟨[bndOf x y]⟩ = ⟨[]⟩ := by unfold cmpTo; rw [o6]; rfl
                  rw [e6, o6] at hC
                  simp only [o5, o6, Bool.and_false, cond_false, Option.some.injEq] at hrun
                  subst hrun
                  rcases hvv with v1 | ⟨v1, v2⟩
                  · rw [v1] at hV
                    simp (disch := omega) only [go_sem, Nat.reduceAdd, Nat.reduceSub, Nat.reduceLT, Nat.reduceLeDiff, Nat.reduceEqDiff, Nat.reduceBEq, Nat.reduceBneDiff, Nat.reduceMul, ↓reduceIte, Int.reduceToNat, reduceCtorEq, Int.reduceNeg, Int.reduceAdd, Tm.osv, Tm.obs, hni, h0, h00, hlen, hfu, her, hdr, hA, hB, hE, hV, hW, hO, hC, Sb.osv, Sb.obs, m_impl_Substitution_applied, m_impl_EqualTerms, m_impl_isVar, m_impl_bindingOf, m_impl_composed]
                    first | rfl | exact ⟨rfl, rfl⟩
                  · rw [v1] at hV
                    rw [v2] at hW
                    simp (disch := omega) only [go_sem, Nat.reduceAdd, Nat.reduceSub, Nat.reduceLT, Nat.reduceLeDiff, Nat.reduceEqDiff, Nat.reduceBEq, Nat.reduceBneDiff, Nat.reduceMul, ↓reduceIte, Int.reduceToNat, reduceCtorEq, Int.reduceNeg, Int.reduceAdd, Tm.osv, Tm.obs, hni, h0, h00, hlen, hfu, her, hdr, hA, hB, hE, hV, hW, hO, hC, Sb.osv, Sb.obs, m_impl_Substitution_applied, m_impl_EqualTerms, m_impl_isVar, m_impl_bindingOf, m_impl_composed]
                    first | rfl | exact ⟨rfl, rfl⟩
                | true =>
                  have e6 : cmpTo ⟨[]⟩ ⟨[bndOf x y]⟩ = cmpS ⟨[]⟩ ⟨[bndOf x y]⟩ := by unfold cmpTo; rw [o6]; rfl
                  rw [e6, o6] at hC
                  simp only [o5, o6, Bool.and_self, cond_true] at hrun
                  obtain ⟨i1, _⟩ := hbind o4 o5 o6
                  obtain ⟨s2, hs2⟩ : ∃ s2, s2 = cmpS ⟨[]⟩ ⟨[bndOf x y]⟩ := ⟨_, rfl⟩
                  rw [← hs2] at hC hrun i1
                  rcases hvv with v1 | ⟨v1, v2⟩
                  · rw [v1] at hV
                    simp (disch := omega) only [go_sem, Nat.reduceAdd, Nat.reduceSub, Nat.reduceLT, Nat.reduceLeDiff, Nat.reduceEqDiff, Nat.reduceBEq, Nat.reduceBneDiff, Nat.reduceMul, ↓reduceIte, Int.reduceToNat, reduceCtorEq, Int.reduceNeg, Int.reduceAdd, Tm.osv, Tm.obs, hni, h0, h00, hlen, hfu, her, hdr, hA, hB, hE, hV, hW, hO, hC, Sb.osv, Sb.obs, m_impl_Substitution_applied, m_impl_EqualTerms, m_impl_isVar, m_impl_bindingOf, m_impl_composed]
                    exact ⟨(n, false, false, s2, l), ⟨i1, hrun, fun h => by cases h⟩, by dsimp only; omega, by first | trivial | rfl | (simp only [cond_true, cond_false, List.cons_append, List.nil_append, and_self])⟩
                  · rw [v1] at hV
                    rw [v2] at hW
                    simp (disch := omega) only [go_sem, Nat.reduceAdd, Nat.reduceSub, Nat.reduceLT, Nat.reduceLeDiff, Nat.reduceEqDiff, Nat.reduceBEq, Nat.reduceBneDiff, Nat.reduceMul, ↓reduceIte, Int.reduceToNat, reduceCtorEq, Int.reduceNeg, Int.reduceAdd, Tm.osv, Tm.obs, hni, h0, h00, hlen, hfu, her, hdr, hA, hB, hE, hV, hW, hO, hC, Sb.osv, Sb.obs, m_impl_Substitution_applied, m_impl_EqualTerms, m_impl_isVar, m_impl_bindingOf, m_impl_composed]
                    exact ⟨(n, false, false, s2, l), ⟨i1, hrun, fun h => by cases h⟩, by dsimp only; omega, by first | trivial | rfl | (simp only [cond_true, cond_false, List.cons_append, List.nil_append, and_self])⟩
            | false =>
              simp only [o4, cond_false] at hrun
              have o4' := o4
              rw [Bool.or_eq_false_iff] at o4'
              rw [o4'.1] at hV
              rw [o4'.2] at hW
              by_cases o7 : x.name = y.name
              · have q7 := eq_true o7
                by_cases o8 : x.args.length = y.args.length
                · have q8 : ((x.args.length : Int) = (y.args.length : Int)) = True := eq_true (by omega)
                  simp only [dec_t o7, dec_t o8, Bool.and_self, cond_true] at hrun
                  have i2 := hdec o4'.1
                  have hx1 := Tm.length_le x.args
                  have hx2 := Tm.nodes_eq x
                  have ll := hinv.pop.len
                  have hzl : (x.args.zip y.args).length = x.args.length := by rw [List.length_zip]; omega
                  simp (disch := omega) only [go_sem, Nat.reduceAdd, Nat.reduceSub, Nat.reduceLT, Nat.reduceLeDiff, Nat.reduceEqDiff, Nat.reduceBEq, Nat.reduceBneDiff, Nat.reduceMul, ↓reduceIte, Int.reduceToNat, reduceCtorEq, Int.reduceNeg, Int.reduceAdd, Tm.osv, Tm.obs, hni, h0, h00, hlen, hfu, her, hdr, hA, hB, hE, hV, hW, q7, q8, m_impl_Substitution_applied, m_impl_EqualTerms, m_impl_isVar, m_impl_bindingOf, m_impl_composed]
                  refine go_loop (α := Nat) (fun a => ⟨slots 123 0 [(4, .ptr 0 0), (6, .ptr 1 0), (7, .arr (l.map eqD)), (10, .ptr 2 0), (14, .ref 3), (47, .arr (x.args.map Tm.d)), (48, .int .i64 x.args.length), (49, .int .i64 (a : Int))], [.box 28 [.nil], .box 28 [.nil], .box 33 [.str y.name, .arr (y.args.map Tm.d)], .row 62 4 (((x.args.zip y.args).take a).map eqO)]⟩) (fun a => a ≤ x.args.length) (fun a => x.args.length - a) 0 (Nat.zero_le _) (by simp (disch := omega) only [go_sem, Nat.reduceAdd, Nat.reduceSub, Nat.reduceLT, Nat.reduceLeDiff, Nat.reduceEqDiff, Nat.reduceBEq, Nat.reduceBneDiff, Nat.reduceMul, ↓reduceIte, Int.reduceToNat, reduceCtorEq, Int.reduceNeg, Int.reduceAdd, List.take_zero, List.map_nil, m_impl_Substitution_applied, m_impl_EqualTerms, m_impl_isVar, m_impl_bindingOf, m_impl_composed]; rfl) ?_
                  intro k hk
                  have hni2 : ((k : Nat) : Int).toNat = k := Int.toNat_natCast k
                  have htl : ((x.args.zip y.args).take k).length = k := by rw [List.length_take]; omega
                  rcases Nat.lt_or_ge k x.args.length with hlt | hge
                  · have hg1 := get_at Tm.d hlt
                    have hlt2 : k < y.args.length := by omega
                    have hg2 := get_at Tm.d hlt2
                    rw [Tm.d_eq] at hg1 hg2
                    have hz := zip_take hlt hlt2
                    have hrow : ((x.args.zip y.args).take k).map eqO ++ [[OT.str x.args[k].name, .sh (x.args[k].args.map Tm.d), .str y.args[k].name, .sh (y.args[k].args.map Tm.d)]] = ((x.args.zip y.args).take (k + 1)).map eqO := by
                      rw [← hz, List.map_append]; rfl
                    simp (disch := omega) only [go_sem, Nat.reduceAdd, Nat.reduceSub, Nat.reduceLT, Nat.reduceLeDiff, Nat.reduceEqDiff, Nat.reduceBEq, Nat.reduceBneDiff, Nat.reduceMul, ↓reduceIte, Int.reduceToNat, reduceCtorEq, Int.reduceNeg, Int.reduceAdd, hni2, hg1, hg2, hrow, htl, List.length_map, m_impl_Substitution_applied, m_impl_EqualTerms, m_impl_isVar, m_impl_bindingOf, m_impl_composed]
                    refine ⟨k + 1, hlt, by omega, ?_⟩
                    simp only [Int.natCast_add, Int.natCast_one, and_self]
                  · obtain rfl : k = x.args.length := by omega
                    have hfull : (x.args.zip y.args).take x.args.length = x.args.zip y.args := List.take_of_length_le (by omega)
                    have hao := eqO_all l
                    have hot := eqD_ot l
                    have happ : (x.args.zip y.args).map eqO ++ l.map eqO = (x.args.zip y.args ++ l).map eqO := by rw [List.map_append]
                    rw [hfull] at htl
                    simp only [hfull]
                    simp (disch := omega) only [go_sem, Nat.reduceAdd, Nat.reduceSub, Nat.reduceLT, Nat.reduceLeDiff, Nat.reduceEqDiff, Nat.reduceBEq, Nat.reduceBneDiff, Nat.reduceMul, ↓reduceIte, Int.reduceToNat, reduceCtorEq, Int.reduceNeg, Int.reduceAdd, hni2, hao, hot, htl, happ, List.length_map, m_impl_Substitution_applied, m_impl_EqualTerms, m_impl_isVar, m_impl_bindingOf, m_impl_composed]
                    refine ⟨(n, true, true, ⟨[]⟩, x.args.zip y.args ++ l), ⟨i2, hrun, hsn⟩, by dsimp only; omega, ?_⟩
                    first | trivial | rfl | simp only [cond_true, cond_false, List.cons_append, List.nil_append, and_self]
                · have q8 : ((x.args.length : Int) = (y.args.length : Int)) = False := eq_false (by omega)
                  simp only [dec_t o7, dec_f o8, Bool.and_false, cond_false, Option.some.injEq] at hrun
                  subst hrun
                  simp (disch := omega) only [go_sem, Nat.reduceAdd, Nat.reduceSub, Nat.reduceLT, Nat.reduceLeDiff, Nat.reduceEqDiff, Nat.reduceBEq, Nat.reduceBneDiff, Nat.reduceMul, ↓reduceIte, Int.reduceToNat, reduceCtorEq, Int.reduceNeg, Int.reduceAdd, Tm.osv, Tm.obs, hni, h0, h00, hlen, hfu, her, hdr, hA, hB, hE, hV, hW, q7, q8, m_impl_Substitution_applied, m_impl_EqualTerms, m_impl_isVar, m_impl_bindingOf, m_impl_composed]
                  first | rfl | exact ⟨rfl, rfl⟩
              · have q7 := eq_false o7
                simp only [dec_f o7, Bool.false_and, cond_false, Option.some.injEq] at hrun
                subst hrun
                simp (disch := omega) only [go_sem, Nat.reduceAdd, Nat.reduceSub, Nat.reduceLT, Nat.reduceLeDiff, Nat.reduceEqDiff, Nat.reduceBEq, Nat.reduceBneDiff, Nat.reduceMul, ↓reduceIte, Int.reduceToNat, reduceCtorEq, Int.reduceNeg, Int.reduceAdd, Tm.osv, Tm.obs, hni, h0, h00, hlen, hfu, her, hdr, hA, hB, hE, hV, hW, q7, m_impl_Substitution_applied, m_impl_EqualTerms, m_impl_isVar, m_impl_bindingOf, m_impl_composed]
                first | rfl | exact ⟨rfl, rfl⟩
    · obtain rfl : s = ⟨[]⟩ := by obtain ⟨bs⟩ := s; have := hsn rfl; rw [show bs = [] from this]
      have hss : (Sb.sv ⟨[]⟩) = .agg [.arr []] := rfl
      obtain ⟨L, hL⟩ : ∃ L, L = (p :: l).map eqD := ⟨_, rfl⟩
      have h0 : L[(0 : Nat)]? = some [.str p.1.name, .arr (p.1.args.map Tm.d), .str p.2.name, .arr (p.2.args.map Tm.d)] := by rw [hL]; rfl
      have hlen : L.length = l.length + 1 := by rw [hL]; simp
      have hal : (L.all fun x => x.length == 4) = true := by rw [hL]; exact eqD_all _
      have hdr : (L.take (l.length + 1)).drop 1 = l.map eqD := by rw [hL, List.take_of_length_le (by simp)]; rfl
      simp only [cond_true, cond_false, ← hL]
      cases o1 : apOk ⟨[]⟩ p.1 with
      | false =>
        have hA := applied_no ⟨[]⟩ hs hst p.1 hp.1 o1
        rw [hss] at hA
        rw [uRun] at hrun
        simp only [o1, Bool.false_and, cond_false, Option.some.injEq] at hrun
        subst hrun
        cases o2 : apOk ⟨[]⟩ p.2 with
        | false =>
          have hB := applied_no ⟨[]⟩ hs hst p.2 hp.2 o2
          rw [hss] at hB
          simp (disch := omega) only [go_sem, Nat.reduceAdd, Nat.reduceSub, Nat.reduceLT, Nat.reduceLeDiff, Nat.reduceEqDiff, Nat.reduceBEq, Nat.reduceBneDiff, Nat.reduceMul, ↓reduceIte, Int.reduceToNat, reduceCtorEq, Int.reduceNeg, Int.reduceAdd, Tm.osv, Tm.obs, hni, h0, hlen, hal, hdr, hA, hB, m_impl_Substitution_applied, m_impl_EqualTerms, m_impl_isVar, m_impl_bindingOf, m_impl_composed]
          first | rfl | exact ⟨rfl, rfl⟩
        | true =>
          have hB := applied_yes ⟨[]⟩ hs hst p.2 hp.2 o2
          rw [hss] at hB
          simp (disch := omega) only [go_sem, Nat.reduceAdd, Nat.reduceSub, Nat.reduceLT, Nat.reduceLeDiff, Nat.reduceEqDiff, Nat.reduceBEq, Nat.reduceBneDiff, Nat.reduceMul, ↓reduceIte, Int.reduceToNat, reduceCtorEq, Int.reduceNeg, Int.reduceAdd, Tm.osv, Tm.obs, hni, h0, hlen, hal, hdr, hA, hB, m_impl_Substitution_applied, m_impl_EqualTerms, m_impl_isVar, m_impl_bindingOf, m_impl_composed]
          first | rfl | exact ⟨rfl, rfl⟩
      | true =>
        have hA := applied_yes ⟨[]⟩ hs hst p.1 hp.1 o1
        rw [hss] at hA
        have e1 := apOk_ex o1
        cases o2 : apOk ⟨[]⟩ p.2 with
        | false =>
          have hB := applied_no ⟨[]⟩ hs hst p.2 hp.2 o2
          rw [hss] at hB
          rw [uRun] at hrun
          simp only [o2, Bool.and_false, cond_false, Option.some.injEq] at hrun
          subst hrun
          simp (disch := omega) only [go_sem, Nat.reduceAdd, Nat.reduceSub, Nat.reduceLT, Nat.reduceLeDiff, Nat.reduceEqDiff, Nat.reduceBEq, Nat.reduceBneDiff, Nat.reduceMul, ↓reduceIte, Int.reduceToNat, reduceCtorEq, Int.reduceNeg, Int.reduceAdd, Tm.osv, Tm.obs, hni, h0, hlen, hal, hdr, hA, hB, m_impl_Substitution_applied, m_impl_EqualTerms, m_impl_isVar, m_impl_bindingOf, m_impl_composed]
          first | rfl | exact ⟨rfl, rfl⟩
        | true =>
          have hB := applied_yes ⟨[]⟩ hs hst p.2 hp.2 o2
          rw [hss] at hB
          have e2 := apOk_ex o2
          have n1 := Tm.expr_nodes e1
          have n2 := Tm.expr_nodes e2
          have hdec := hinv.dec o1 o2
          have hbind := hinv.bind o1 o2
          rw [uRun] at hrun
          simp only [o1, o2, Bool.and_self, cond_true] at hrun
          obtain ⟨x, hx⟩ : ∃ x, x = apTo ⟨[]⟩ p.1 := ⟨_, rfl⟩
          obtain ⟨y, hy⟩ : ∃ y, y = apTo ⟨[]⟩ p.2 := ⟨_, rfl⟩
          rw [← hx] at hA e1 n1 hrun hdec hbind
          rw [← hy] at hB e2 n2 hrun hdec hbind
          have hE := equalTerms_E x y (by omega) (by omega)
          have hV := isVar_E x (Tm.expr_cok e1)
          have hW := isVar_E y (Tm.expr_cok e2)
          have hxv : x.sv = .agg [.str x.name, .arr (x.args.map Tm.d)] := rfl
          have hyv : y.sv = .agg [.str y.name, .arr (y.args.map Tm.d)] := rfl
          cases o3 : dec (x = y) with
          | true =>
            rw [o3] at hE
            simp only [o3, cond_true] at hrun
            simp (disch := omega) only [go_sem, Nat.reduceAdd, Nat.reduceSub, Nat.reduceLT, Nat.reduceLeDiff, Nat.reduceEqDiff, Nat.reduceBEq, Nat.reduceBneDiff, Nat.reduceMul, ↓reduceIte, Int.reduceToNat, reduceCtorEq, Int.reduceNeg, Int.reduceAdd, Tm.osv, Tm.obs, hni, h0, hlen, hal, hdr, hA, hB, hE, m_impl_Substitution_applied, m_impl_EqualTerms, m_impl_isVar, m_impl_bindingOf, m_impl_composed]
            exact ⟨(n, true, false, ⟨[]⟩, l), ⟨hinv.pop, hrun, hsn⟩, by dsimp only; omega, by first | trivial | rfl | (simp only [cond_true, cond_false, List.cons_append, List.nil_append, and_self])⟩
          | false =>
            rw [o3] at hE
            simp only [o3, cond_false] at hrun
            cases o4 : varB x.name || varB y.name with
            | true =>
              have hO := bindingOf_E x y e1 e2 o4
              have hbsv : (Sb.mk [bndOf x y]).sv = .agg [.arr [[.str (bndOf x y).var, .str (bndOf x y).term.name, .arr ((bndOf x y).term.args.map Tm.d)]]] := rfl
              rw [hbsv] at hO
              simp only [o4, cond_true] at hrun
              have hvv : (varB x.name = true) ∨ (varB x.name = false ∧ varB y.name = true) := by
                cases h : varB x.name with
                | true => exact .inl rfl
                | false => rw [h, Bool.false_or] at o4; exact .inr ⟨rfl, o4⟩
              cases o5 : bndOk (bndOf x y) with
              | false =>
                rw [o5] at hO
                simp only [o5, Bool.false_and, cond_false, Option.some.injEq] at hrun
                subst hrun
                rcases hvv with v1 | ⟨v1, v2⟩
                · rw [v1] at hV
                  simp (disch := omega) only [go_sem, Nat.reduceAdd, Nat.reduceSub, Nat.reduceLT, Nat.reduceLeDiff, Nat.reduceEqDiff, Nat.reduceBEq, Nat.reduceBneDiff, Nat.reduceMul, ↓reduceIte, Int.reduceToNat, reduceCtorEq, Int.reduceNeg, Int.reduceAdd, Tm.osv, Tm.obs, hni, h0, hlen, hal, hdr, hA, hB, hE, hV, hW, hO, m_impl_Substitution_applied, m_impl_EqualTerms, m_impl_isVar, m_impl_bindingOf, m_impl_composed]
                  first | rfl | exact ⟨rfl, rfl⟩
                · rw [v1] at hV
                  rw [v2] at hW
                  simp (disch := omega) only [go_sem, Nat.reduceAdd, Nat.reduceSub, Nat.reduceLT, Nat.reduceLeDiff, Nat.reduceEqDiff, Nat.reduceBEq, Nat.reduceBneDiff, Nat.reduceMul, ↓reduceIte, Int.reduceToNat, reduceCtorEq, Int.reduceNeg, Int.reduceAdd, Tm.osv, Tm.obs, hni, h0, hlen, hal, hdr, hA, hB, hE, hV, hW, hO, m_impl_Substitution_applied, m_impl_EqualTerms, m_impl_isVar, m_impl_bindingOf, m_impl_composed]
                  first | rfl | exact ⟨rfl, rfl⟩
              | true =>
                rw [o5] at hO
                have o5' := o5
                unfold bndOk at o5'
                rw [Bool.and_eq_true] at o5'
                have hbt : (bndOf x y).term.nodes ≤ 1099511627776 := by
                  rcases bndOf_cases x y o4 with ⟨e, _⟩ | ⟨e, _⟩
                  · rw [e]; show y.nodes ≤ _; omega
                  · rw [e]; show x.nodes ≤ _; omega
                have hC := composed_E ⟨[]⟩ ⟨[bndOf x y]⟩ hs o5'.2 hst (one_tame hbt)
                rw [hss, hbsv] at hC
                cases o6 : cmpOk ⟨[]⟩ ⟨[bndOf x y]⟩ with
                | false =>
                  have e6 : cmpTo ⟨[]⟩ ⟨[bndOf x y]⟩ = ⟨[]⟩ := by unfold cmpTo; rw [o6]; rfl
                  rw [e6, o6] at hC
                  simp only [o5, o6, Bool.and_false, cond_false, Option.some.injEq] at hrun
                  subst hrun
                  rcases hvv with v1 | ⟨v1, v2⟩
                  · rw [v1] at hV
                    simp (disch := omega) only [go_sem, Nat.reduceAdd, Nat.reduceSub, Nat.reduceLT, Nat.reduceLeDiff, Nat.reduceEqDiff, Nat.reduceBEq, Nat.reduceBneDiff, Nat.reduceMul, ↓reduceIte, Int.reduceToNat, reduceCtorEq, Int.reduceNeg, Int.reduceAdd, Tm.osv, Tm.obs, hni, h0, hlen, hal, hdr, hA, hB, hE, hV, hW, hO, hC, Sb.osv, Sb.obs, m_impl_Substitution_applied, m_impl_EqualTerms, m_impl_isVar, m_impl_bindingOf, m_impl_composed]
                    first | rfl | exact ⟨rfl, rfl⟩
                  · rw [v1] at hV
                    rw [v2] at hW
                    simp (disch := omega) only [go_sem, Nat.reduceAdd, Nat.reduceSub, Nat.reduceLT, Nat.reduceLeDiff, Nat.reduceEqDiff, Nat.reduceBEq, Nat.reduceBneDiff, Nat.reduceMul, ↓reduceIte, Int.reduceToNat, reduceCtorEq, Int.reduceNeg, Int.reduceAdd, Tm.osv, Tm.obs, hni, h0, hlen, hal, hdr, hA, hB, hE, hV, hW, hO, hC, Sb.osv, Sb.obs, m_impl_Substitution_applied, m_impl_EqualTerms, m_impl_isVar, m_impl_bindingOf, m_impl_composed]
                    first | rfl | exact ⟨rfl, rfl⟩
                | true =>
                  have e6 : cmpTo ⟨[]⟩ ⟨[bndOf x y]⟩ = cmpS ⟨[]⟩ ⟨[bndOf x y]⟩ := by unfold cmpTo; rw [o6]; rfl
                  rw [e6, o6] at hC
                  simp only [o5, o6, Bool.and_self, cond_true] at hrun
                  obtain ⟨i1, _⟩ := hbind o4 o5 o6
                  obtain ⟨s2, hs2⟩ : ∃ s2, s2 = cmpS ⟨[]⟩ ⟨[bndOf x y]⟩ := ⟨_, rfl⟩
                  rw [← hs2] at hC hrun i1
                  rcases hvv with v1 | ⟨v1, v2⟩
                  · rw [v1] at hV
                    simp (disch := omega) only [go_sem, Nat.reduceAdd, Nat.reduceSub, Nat.reduceLT, Nat.reduceLeDiff, Nat.reduceEqDiff, Nat.reduceBEq, Nat.reduceBneDiff, Nat.reduceMul, ↓reduceIte, Int.reduceToNat, reduceCtorEq, Int.reduceNeg, Int.reduceAdd, Tm.osv, Tm.obs, hni, h0, hlen, hal, hdr, hA, hB, hE, hV, hW, hO, hC, Sb.osv, Sb.obs, m_impl_Substitution_applied, m_impl_EqualTerms, m_impl_isVar, m_impl_bindingOf, m_impl_composed]
                    exact ⟨(n, false, false, s2, l), ⟨i1, hrun, fun h => by cases h⟩, by dsimp only; omega, by first | trivial | rfl | (simp only [cond_true, cond_false, List.cons_append, List.nil_append, and_self])⟩
                  · rw [v1] at hV
                    rw [v2] at hW
                    simp (disch := omega) only [go_sem, Nat.reduceAdd, Nat.reduceSub, Nat.reduceLT, Nat.reduceLeDiff, Nat.reduceEqDiff, Nat.reduceBEq, Nat.reduceBneDiff, Nat.reduceMul, ↓reduceIte, Int.reduceToNat, reduceCtorEq, Int.reduceNeg, Int.reduceAdd, Tm.osv, Tm.obs, hni, h0, hlen, hal, hdr, hA, hB, hE, hV, hW, hO, hC, Sb.osv, Sb.obs, m_impl_Substitution_applied, m_impl_EqualTerms, m_impl_isVar, m_impl_bindingOf, m_impl_composed]
                    exact ⟨(n, false, false, s2, l), ⟨i1, hrun, fun h => by cases h⟩, by dsimp only; omega, by first | trivial | rfl | (simp only [cond_true, cond_false, List.cons_append, List.nil_append, and_self])⟩
            | false =>
              simp only [o4, cond_false] at hrun
              have o4' := o4
              rw [Bool.or_eq_false_iff] at o4'
              rw [o4'.1] at hV
              rw [o4'.2] at hW
              by_cases o7 : x.name = y.name
              · have q7 := eq_true o7
                by_cases o8 : x.args.length = y.args.length
                · have q8 : ((x.args.length : Int) = (y.args.length : Int)) = True := eq_true (by omega)
                  simp only [dec_t o7, dec_t o8, Bool.and_self, cond_true] at hrun
                  have i2 := hdec o4'.1
                  have hx1 := Tm.length_le x.args
                  have hx2 := Tm.nodes_eq x
                  have ll := hinv.pop.len
                  have hzl : (x.args.zip y.args).length = x.args.length := by rw [List.length_zip]; omega
                  simp (disch := omega) only [go_sem, Nat.reduceAdd, Nat.reduceSub, Nat.reduceLT, Nat.reduceLeDiff, Nat.reduceEqDiff, Nat.reduceBEq, Nat.reduceBneDiff, Nat.reduceMul, ↓reduceIte, Int.reduceToNat, reduceCtorEq, Int.reduceNeg, Int.reduceAdd, Tm.osv, Tm.obs, hni, h0, hlen, hal, hdr, hA, hB, hE, hV, hW, q7, q8, m_impl_Substitution_applied, m_impl_EqualTerms, m_impl_isVar, m_impl_bindingOf, m_impl_composed]
                  refine go_loop (α := Nat) (fun a => ⟨slots 123 0 [(4, .ptr 0 0), (6, .ptr 1 0), (7, .arr (l.map eqD)), (10, .ptr 2 0), (14, .ref 3), (47, .arr (x.args.map Tm.d)), (48, .int .i64 x.args.length), (49, .int .i64 (a : Int))], [.box 28 [.nil], .box 28 [.nil], .box 33 [.str y.name, .arr (y.args.map Tm.d)], .row 62 4 (((x.args.zip y.args).take a).map eqO)]⟩) (fun a => a ≤ x.args.length) (fun a => x.args.length - a) 0 (Nat.zero_le _) (by simp (disch := omega) only [go_sem, Nat.reduceAdd, Nat.reduceSub, Nat.reduceLT, Nat.reduceLeDiff, Nat.reduceEqDiff, Nat.reduceBEq, Nat.reduceBneDiff, Nat.reduceMul, ↓reduceIte, Int.reduceToNat, reduceCtorEq, Int.reduceNeg, Int.reduceAdd, List.take_zero, List.map_nil, m_impl_Substitution_applied, m_impl_EqualTerms, m_impl_isVar, m_impl_bindingOf, m_impl_composed]; rfl) ?_
                  intro k hk
                  have hni2 : ((k : Nat) : Int).toNat = k := Int.toNat_natCast k
                  have htl : ((x.args.zip y.args).take k).length = k := by rw [List.length_take]; omega
                  rcases Nat.lt_or_ge k x.args.length with hlt | hge
                  · have hg1 := get_at Tm.d hlt
                    have hlt2 : k < y.args.length := by omega
                    have hg2 := get_at Tm.d hlt2
                    rw [Tm.d_eq] at hg1 hg2
                    have hz := zip_take hlt hlt2
                    have hrow : ((x.args.zip y.args).take k).map eqO ++ [[OT.str x.args[k].name, .sh (x.args[k].args.map Tm.d), .str y.args[k].name, .sh (y.args[k].args.map Tm.d)]] = ((x.args.zip y.args).take (k + 1)).map eqO := by
                      rw [← hz, List.map_append]; rfl
                    simp (disch := omega) only [go_sem, Nat.reduceAdd, Nat.reduceSub, Nat.reduceLT, Nat.reduceLeDiff, Nat.reduceEqDiff, Nat.reduceBEq, Nat.reduceBneDiff, Nat.reduceMul, ↓reduceIte, Int.reduceToNat, reduceCtorEq, Int.reduceNeg, Int.reduceAdd, hni2, hg1, hg2, hrow, htl, List.length_map, m_impl_Substitution_applied, m_impl_EqualTerms, m_impl_isVar, m_impl_bindingOf, m_impl_composed]
                    refine ⟨k + 1, hlt, by omega, ?_⟩
                    simp only [Int.natCast_add, Int.natCast_one, and_self]
                  · obtain rfl : k = x.args.length := by omega
                    have hfull : (x.args.zip y.args).take x.args.length = x.args.zip y.args := List.take_of_length_le (by omega)
                    have hao := eqO_all l
                    have hot := eqD_ot l
                    have happ : (x.args.zip y.args).map eqO ++ l.map eqO = (x.args.zip y.args ++ l).map eqO := by rw [List.map_append]
                    rw [hfull] at htl
                    simp only [hfull]
                    simp (disch := omega) only [go_sem, Nat.reduceAdd, Nat.reduceSub, Nat.reduceLT, Nat.reduceLeDiff, Nat.reduceEqDiff, Nat.reduceBEq, Nat.reduceBneDiff, Nat.reduceMul, ↓reduceIte, Int.reduceToNat, reduceCtorEq, Int.reduceNeg, Int.reduceAdd, hni2, hao, hot, htl, happ, List.length_map, m_impl_Substitution_applied, m_impl_EqualTerms, m_impl_isVar, m_impl_bindingOf, m_impl_composed]
                    refine ⟨(n, true, true, ⟨[]⟩, x.args.zip y.args ++ l), ⟨i2, hrun, hsn⟩, by dsimp only; omega, ?_⟩
                    first | trivial | rfl | simp only [cond_true, cond_false, List.cons_append, List.nil_append, and_self]
                · have q8 : ((x.args.length : Int) = (y.args.length : Int)) = False := eq_false (by omega)
                  simp only [dec_t o7, dec_f o8, Bool.and_false, cond_false, Option.some.injEq] at hrun
                  subst hrun
                  simp (disch := omega) only [go_sem, Nat.reduceAdd, Nat.reduceSub, Nat.reduceLT, Nat.reduceLeDiff, Nat.reduceEqDiff, Nat.reduceBEq, Nat.reduceBneDiff, Nat.reduceMul, ↓reduceIte, Int.reduceToNat, reduceCtorEq, Int.reduceNeg, Int.reduceAdd, Tm.osv, Tm.obs, hni, h0, hlen, hal, hdr, hA, hB, hE, hV, hW, q7, q8, m_impl_Substitution_applied, m_impl_EqualTerms, m_impl_isVar, m_impl_bindingOf, m_impl_composed]
                  first | rfl | exact ⟨rfl, rfl⟩
              · have q7 := eq_false o7
                simp only [dec_f o7, Bool.false_and, cond_false, Option.some.injEq] at hrun
                subst hrun
                simp (disch := omega) only [go_sem, Nat.reduceAdd, Nat.reduceSub, Nat.reduceLT, Nat.reduceLeDiff, Nat.reduceEqDiff, Nat.reduceBEq, Nat.reduceBneDiff, Nat.reduceMul, ↓reduceIte, Int.reduceToNat, reduceCtorEq, Int.reduceNeg, Int.reduceAdd, Tm.osv, Tm.obs, hni, h0, hlen, hal, hdr, hA, hB, hE, hV, hW, q7, m_impl_Substitution_applied, m_impl_EqualTerms, m_impl_isVar, m_impl_bindingOf, m_impl_composed]
                first | rfl | exact ⟨rfl, rfl⟩
    · have hss : (Sb.sv s) = .agg [.arr (s.binds.map Bd.d)] := rfl
      obtain ⟨L, hL⟩ : ∃ L, L = (p :: l).map eqO := ⟨_, rfl⟩
      have h0 : L[(0 : Nat)]? = some [.str p.1.name, .sh (p.1.args.map Tm.d), .str p.2.name, .sh (p.2.args.map Tm.d)] := by rw [hL]; rfl
      have h00 : 0 < L.length := by rw [hL]; simp
      have hlen : L.length = l.length + 1 := by rw [hL]; simp
      have hfu : OT.fullss L = true := by rw [hL]; exact eqO_fu _
      obtain ⟨Ld, hLd⟩ : ∃ Ld, Ld = (p :: l).map eqD := ⟨_, rfl⟩
      have her : OT.erss L = Ld := by rw [hL, hLd]; exact eqO_er _
      have hdr : (Ld.take (l.length + 1)).drop 1 = l.map eqD := by rw [hLd, List.take_of_length_le (by simp)]; rfl
      simp only [cond_true, cond_false, ← hL]
      cases o1 : apOk s p.1 with
      | false =>
        have hA := applied_no s hs hst p.1 hp.1 o1
        rw [hss] at hA
        rw [uRun] at hrun
        simp only [o1, Bool.false_and, cond_false, Option.some.injEq] at hrun
        subst hrun
        cases o2 : apOk s p.2 with
        | false =>
          have hB := applied_no s hs hst p.2 hp.2 o2
          rw [hss] at hB
          simp (disch := omega) only [go_sem, Nat.reduceAdd, Nat.reduceSub, Nat.reduceLT, Nat.reduceLeDiff, Nat.reduceEqDiff, Nat.reduceBEq, Nat.reduceBneDiff, Nat.reduceMul, ↓reduceIte, Int.reduceToNat, reduceCtorEq, Int.reduceNeg, Int.reduceAdd, Tm.osv, Tm.obs, hni, Bd.erss, Bd.fus, h0, h00, hlen, hfu, her, hdr, hA, hB, m_impl_Substitution_applied, m_impl_EqualTerms, m_impl_isVar, m_impl_bindingOf, m_impl_composed]
          first | rfl | exact ⟨rfl, rfl⟩
        | true =>
          have hB := applied_yes s hs hst p.2 hp.2 o2
          rw [hss] at hB
          simp (disch := omega) only [go_sem, Nat.reduceAdd, Nat.reduceSub, Nat.reduceLT, Nat.reduceLeDiff, Nat.reduceEqDiff, Nat.reduceBEq, Nat.reduceBneDiff, Nat.reduceMul, ↓reduceIte, Int.reduceToNat, reduceCtorEq, Int.reduceNeg, Int.reduceAdd, Tm.osv, Tm.obs, hni, Bd.erss, Bd.fus, h0, h00, hlen, hfu, her, hdr, hA, hB, m_impl_Substitution_applied, m_impl_EqualTerms, m_impl_isVar, m_impl_bindingOf, m_impl_composed]
          first | rfl | exact ⟨rfl, rfl⟩
      | true =>
        have hA := applied_yes s hs hst p.1 hp.1 o1
        rw [hss] at hA
        have e1 := apOk_ex o1
        cases o2 : apOk s p.2 with
        | false =>
          have hB := applied_no s hs hst p.2 hp.2 o2
          rw [hss] at hB
          rw [uRun] at hrun
          simp only [o2, Bool.and_false, cond_false, Option.some.injEq] at hrun
          subst hrun
          simp (disch := omega) only [go_sem, Nat.reduceAdd, Nat.reduceSub, Nat.reduceLT, Nat.reduceLeDiff, Nat.reduceEqDiff, Nat.reduceBEq, Nat.reduceBneDiff, Nat.reduceMul, ↓reduceIte, Int.reduceToNat, reduceCtorEq, Int.reduceNeg, Int.reduceAdd, Tm.osv, Tm.obs, hni, Bd.erss, Bd.fus, h0, h00, hlen, hfu, her, hdr, hA, hB, m_impl_Substitution_applied, m_impl_EqualTerms, m_impl_isVar, m_impl_bindingOf, m_impl_composed]
          first | rfl | exact ⟨rfl, rfl⟩
        | true =>
          have hB := applied_yes s hs hst p.2 hp.2 o2
          rw [hss] at hB
          have e2 := apOk_ex o2
          have n1 := Tm.expr_nodes e1
          have n2 := Tm.expr_nodes e2
          have hdec := hinv.dec o1 o2
          have hbind := hinv.bind o1 o2
          rw [uRun] at hrun
          simp only [o1, o2, Bool.and_self, cond_true] at hrun
          obtain ⟨x, hx⟩ : ∃ x, x = apTo s p.1 := ⟨_, rfl⟩
          obtain ⟨y, hy⟩ : ∃ y, y = apTo s p.2 := ⟨_, rfl⟩
          rw [← hx] at hA e1 n1 hrun hdec hbind
          rw [← hy] at hB e2 n2 hrun hdec hbind
          have hE := equalTerms_E x y (by omega) (by omega)
          have hV := isVar_E x (Tm.expr_cok e1)
          have hW := isVar_E y (Tm.expr_cok e2)
          have hxv : x.sv = .agg [.str x.name, .arr (x.args.map Tm.d)] := rfl
          have hyv : y.sv = .agg [.str y.name, .arr (y.args.map Tm.d)] := rfl
          cases o3 : dec (x = y) with
          | true =>
            rw [o3] at hE
            simp only [o3, cond_true] at hrun
            simp (disch := omega) only [go_sem, Nat.reduceAdd, Nat.reduceSub, Nat.reduceLT, Nat.reduceLeDiff, Nat.reduceEqDiff, Nat.reduceBEq, Nat.reduceBneDiff, Nat.reduceMul, ↓reduceIte, Int.reduceToNat, reduceCtorEq, Int.reduceNeg, Int.reduceAdd, Tm.osv, Tm.obs, hni, Bd.erss, Bd.fus, h0, h00, hlen, hfu, her, hdr, hA, hB, hE, m_impl_Substitution_applied, m_impl_EqualTerms, m_impl_isVar, m_impl_bindingOf, m_impl_composed]
            exact ⟨(n, false, false, s, l), ⟨hinv.pop, hrun, hsn⟩, by dsimp only; omega, by first | trivial | rfl | (simp only [cond_true, cond_false, List.cons_append, List.nil_append, and_self])⟩
          | false =>
            rw [o3] at hE
            simp only [o3, cond_false] at hrun
            cases o4 : varB x.name || varB y.name with
            | true =>
              have hO := bindingOf_E x y e1 e2 o4
              have hbsv : (Sb.mk [bndOf x y]).sv = .agg [.arr [[.str (bndOf x y).var, .str (bndOf x y).term.name, .arr ((bndOf x y).term.args.map Tm.d)]]] := rfl
              rw [hbsv] at hO
              simp only [o4, cond_true] at hrun
              have hvv : (varB x.name = true) ∨ (varB x.name = false ∧ varB y.name = true) := by
                cases h : varB x.name with
                | true => exact .inl rfl
                | false => rw [h, Bool.false_or] at o4; exact .inr ⟨rfl, o4⟩
              cases o5 : bndOk (bndOf x y) with
              | false =>
                rw [o5] at hO
                simp only [o5, Bool.false_and, cond_false, Option.some.injEq] at hrun
                subst hrun
                rcases hvv with v1 | ⟨v1, v2⟩
                · rw [v1] at hV
                  simp (disch := omega) only [go_sem, Nat.reduceAdd, Nat.reduceSub, Nat.reduceLT, Nat.reduceLeDiff, Nat.reduceEqDiff, Nat.reduceBEq, Nat.reduceBneDiff, Nat.reduceMul, ↓reduceIte, Int.reduceToNat, reduceCtorEq, Int.reduceNeg, Int.reduceAdd, Tm.osv, Tm.obs, hni, Bd.erss, Bd.fus, h0, h00, hlen, hfu, her, hdr, hA, hB, hE, hV, hW, hO, m_impl_Substitution_applied, m_impl_EqualTerms, m_impl_isVar, m_impl_bindingOf, m_impl_composed]
                  first | rfl | exact ⟨rfl, rfl⟩
                · rw [v1] at hV
                  rw [v2] at hW
                  simp (disch := omega) only [go_sem, Nat.reduceAdd, Nat.reduceSub, Nat.reduceLT, Nat.reduceLeDiff, Nat.reduceEqDiff, Nat.reduceBEq, Nat.reduceBneDiff, Nat.reduceMul, ↓reduceIte, Int.reduceToNat, reduceCtorEq, Int.reduceNeg, Int.reduceAdd, Tm.osv, Tm.obs, hni, Bd.erss, Bd.fus, h0, h00, hlen, hfu, her, hdr, hA, hB, hE, hV, hW, hO, m_impl_Substitution_applied, m_impl_EqualTerms, m_impl_isVar, m_impl_bindingOf, m_impl_composed]
                  first | rfl | exact ⟨rfl, rfl⟩
              | true =>
                rw [o5] at hO
                have o5' := o5
                unfold bndOk at o5'
                rw [Bool.and_eq_true] at o5'
                have hbt : (bndOf x y).term.nodes ≤ 1099511627776 := by
                  rcases bndOf_cases x y o4 with ⟨e, _⟩ | ⟨e, _⟩
                  · rw [e]; show y.nodes ≤ _; omega
                  · rw [e]; show x.nodes ≤ _; omega
                have hC := composed_E s ⟨[bndOf x y]⟩ hs o5'.2 hst (one_tame hbt)
                rw [hss, hbsv] at hC
                cases o6 : cmpOk s ⟨[bndOf x y]⟩ with
                | false =>
                  have e6 : cmpTo s ⟨[bndOf x y]⟩ = ⟨[]⟩ := by unfold cmpTo; rw [o6]; rfl
                  rw [e6, o6] at hC
                  simp only [o5, o6, Bool.and_false, cond_false, Option.some.injEq] at hrun
                  subst hrun
                  rcases hvv with v1 | ⟨v1, v2⟩
                  · rw [v1] at hV
                    simp (disch := omega) only [go_sem, Nat.reduceAdd, Nat.reduceSub, Nat.reduceLT, Nat.reduceLeDiff, Nat.reduceEqDiff, Nat.reduceBEq, Nat.reduceBneDiff, Nat.reduceMul, ↓reduceIte, Int.reduceToNat, reduceCtorEq, Int.reduceNeg, Int.reduceAdd, Tm.osv, Tm.obs, hni, Bd.erss, Bd.fus, h0, h00, hlen, hfu, her, hdr, hA, hB, hE, hV, hW, hO, hC, Sb.osv, Sb.obs, m_impl_Substitution_applied, m_impl_EqualTerms, m_impl_isVar, m_impl_bindingOf, m_impl_composed]
                    first | rfl | exact ⟨rfl, rfl⟩
                  · rw [v1] at hV
                    rw [v2] at hW
                    simp (disch := omega) only [go_sem, Nat.reduceAdd, Nat.reduceSub, Nat.reduceLT, Nat.reduceLeDiff, Nat.reduceEqDiff, Nat.reduceBEq, Nat.reduceBneDiff, Nat.reduceMul, ↓reduceIte, Int.reduceToNat, reduceCtorEq, Int.reduceNeg, Int.reduceAdd, Tm.osv, Tm.obs, hni, Bd.erss, Bd.fus, h0, h00, hlen, hfu, her, hdr, hA, hB, hE, hV, hW, hO, hC, Sb.osv, Sb.obs, m_impl_Substitution_applied, m_impl_EqualTerms, m_impl_isVar, m_impl_bindingOf, m_impl_composed]
                    first | rfl | exact ⟨rfl, rfl⟩
                | true =>
                  have e6 : cmpTo s ⟨[bndOf x y]⟩ = cmpS s ⟨[bndOf x y]⟩ := by unfold cmpTo; rw [o6]; rfl
                  rw [e6, o6] at hC
                  simp only [o5, o6, Bool.and_self, cond_true] at hrun
                  obtain ⟨i1, _⟩ := hbind o4 o5 o6
                  obtain ⟨s2, hs2⟩ : ∃ s2, s2 = cmpS s ⟨[bndOf x y]⟩ := ⟨_, rfl⟩
                  rw [← hs2] at hC hrun i1
                  rcases hvv with v1 | ⟨v1, v2⟩
                  · rw [v1] at hV
                    simp (disch := omega) only [go_sem, Nat.reduceAdd, Nat.reduceSub, Nat.reduceLT, Nat.reduceLeDiff, Nat.reduceEqDiff, Nat.reduceBEq, Nat.reduceBneDiff, Nat.reduceMul, ↓reduceIte, Int.reduceToNat, reduceCtorEq, Int.reduceNeg, Int.reduceAdd, Tm.osv, Tm.obs, hni, Bd.erss, Bd.fus, h0, h00, hlen, hfu, her, hdr, hA, hB, hE, hV, hW, hO, hC, Sb.osv, Sb.obs, m_impl_Substitution_applied, m_impl_EqualTerms, m_impl_isVar, m_impl_bindingOf, m_impl_composed]
                    exact ⟨(n, false, false, s2, l), ⟨i1, hrun, fun h => by cases h⟩, by dsimp only; omega, by first | trivial | rfl | (simp only [cond_true, cond_false, List.cons_append, List.nil_append, and_self])⟩
                  · rw [v1] at hV
                    rw [v2] at hW
                    simp (disch := omega) only [go_sem, Nat.reduceAdd, Nat.reduceSub, Nat.reduceLT, Nat.reduceLeDiff, Nat.reduceEqDiff, Nat.reduceBEq, Nat.reduceBneDiff, Nat.reduceMul, ↓reduceIte, Int.reduceToNat, reduceCtorEq, Int.reduceNeg, Int.reduceAdd, Tm.osv, Tm.obs, hni, Bd.erss, Bd.fus, h0, h00, hlen, hfu, her, hdr, hA, hB, hE, hV, hW, hO, hC, Sb.osv, Sb.obs, m_impl_Substitution_applied, m_impl_EqualTerms, m_impl_isVar, m_impl_bindingOf, m_impl_composed]
                    exact ⟨(n, false, false, s2, l), ⟨i1, hrun, fun h => by cases h⟩, by dsimp only; omega, by first | trivial | rfl | (simp only [cond_true, cond_false, List.cons_append, List.nil_append, and_self])⟩
            | false =>
              simp only [o4, cond_false] at hrun
              have o4' := o4
              rw [Bool.or_eq_false_iff] at o4'
              rw [o4'.1] at hV
              rw [o4'.2] at hW
              by_cases o7 : x.name = y.name
              · have q7 := eq_true o7
                by_cases o8 : x.args.length = y.args.length
                · have q8 : ((x.args.length : Int) = (y.args.length : Int)) = True := eq_true (by omega)
                  simp only [dec_t o7, dec_t o8, Bool.and_self, cond_true] at hrun
                  have i2 := hdec o4'.1
                  have hx1 := Tm.length_le x.args
                  have hx2 := Tm.nodes_eq x
                  have ll := hinv.pop.len
                  have hzl : (x.args.zip y.args).length = x.args.length := by rw [List.length_zip]; omega
                  simp (disch := omega) only [go_sem, Nat.reduceAdd, Nat.reduceSub, Nat.reduceLT, Nat.reduceLeDiff, Nat.reduceEqDiff, Nat.reduceBEq, Nat.reduceBneDiff, Nat.reduceMul, ↓reduceIte, Int.reduceToNat, reduceCtorEq, Int.reduceNeg, Int.reduceAdd, Tm.osv, Tm.obs, hni, Bd.erss, Bd.fus, h0, h00, hlen, hfu, her, hdr, hA, hB, hE, hV, hW, q7, q8, m_impl_Substitution_applied, m_impl_EqualTerms, m_impl_isVar, m_impl_bindingOf, m_impl_composed]
                  refine go_loop (α := Nat) (fun a => ⟨slots 123 0 [(4, .ptr 0 0), (6, .ptr 1 0), (7, .arr (l.map eqD)), (10, .ptr 2 0), (14, .ref 3), (47, .arr (x.args.map Tm.d)), (48, .int .i64 x.args.length), (49, .int .i64 (a : Int))], [.box 28 [.nil], .box 28 [.ref 4], .box 33 [.str y.name, .arr (y.args.map Tm.d)], .row 62 4 (((x.args.zip y.args).take a).map eqO), .row 67 3 (s.binds.map Bd.o)]⟩) (fun a => a ≤ x.args.length) (fun a => x.args.length - a) 0 (Nat.zero_le _) (by simp (disch := omega) only [go_sem, Nat.reduceAdd, Nat.reduceSub, Nat.reduceLT, Nat.reduceLeDiff, Nat.reduceEqDiff, Nat.reduceBEq, Nat.reduceBneDiff, Nat.reduceMul, ↓reduceIte, Int.reduceToNat, reduceCtorEq, Int.reduceNeg, Int.reduceAdd, List.take_zero, List.map_nil, m_impl_Substitution_applied, m_impl_EqualTerms, m_impl_isVar, m_impl_bindingOf, m_impl_composed]; rfl) ?_
                  intro k hk
                  have hni2 : ((k : Nat) : Int).toNat = k := Int.toNat_natCast k
                  have htl : ((x.args.zip y.args).take k).length = k := by rw [List.length_take]; omega
                  rcases Nat.lt_or_ge k x.args.length with hlt | hge
                  · have hg1 := get_at Tm.d hlt
                    have hlt2 : k < y.args.length := by omega
                    have hg2 := get_at Tm.d hlt2
                    rw [Tm.d_eq] at hg1 hg2
                    have hz := zip_take hlt hlt2
                    have hrow : ((x.args.zip y.args).take k).map eqO ++ [[OT.str x.args[k].name, .sh (x.args[k].args.map Tm.d), .str y.args[k].name, .sh (y.args[k].args.map Tm.d)]] = ((x.args.zip y.args).take (k + 1)).map eqO := by
                      rw [← hz, List.map_append]; rfl
                    simp (disch := omega) only [go_sem, Nat.reduceAdd, Nat.reduceSub, Nat.reduceLT, Nat.reduceLeDiff, Nat.reduceEqDiff, Nat.reduceBEq, Nat.reduceBneDiff, Nat.reduceMul, ↓reduceIte, Int.reduceToNat, reduceCtorEq, Int.reduceNeg, Int.reduceAdd, hni2, hg1, hg2, hrow, htl, List.length_map, m_impl_Substitution_applied, m_impl_EqualTerms, m_impl_isVar, m_impl_bindingOf, m_impl_composed]
                    refine ⟨k + 1, hlt, by omega, ?_⟩
                    simp only [Int.natCast_add, Int.natCast_one, and_self]
                  · obtain rfl : k = x.args.length := by omega
                    have hfull : (x.args.zip y.args).take x.args.length = x.args.zip y.args := List.take_of_length_le (by omega)
                    have hao := eqO_all l
                    have hot := eqD_ot l
                    have happ : (x.args.zip y.args).map eqO ++ l.map eqO = (x.args.zip y.args ++ l).map eqO := by rw [List.map_append]
                    rw [hfull] at htl
                    simp only [hfull]
                    simp (disch := omega) only [go_sem, Nat.reduceAdd, Nat.reduceSub, Nat.reduceLT, Nat.reduceLeDiff, Nat.reduceEqDiff, Nat.reduceBEq, Nat.reduceBneDiff, Nat.reduceMul, ↓reduceIte, Int.reduceToNat, reduceCtorEq, Int.reduceNeg, Int.reduceAdd, hni2, hao, hot, htl, happ, List.length_map, m_impl_Substitution_applied, m_impl_EqualTerms, m_impl_isVar, m_impl_bindingOf, m_impl_composed]
                    refine ⟨(n, false, true, s, x.args.zip y.args ++ l), ⟨i2, hrun, hsn⟩, by dsimp only; omega, ?_⟩
                    first | trivial | rfl | simp only [cond_true, cond_false, List.cons_append, List.nil_append, and_self]
                · have q8 : ((x.args.length : Int) = (y.args.length : Int)) = False := eq_false (by omega)
                  simp only [dec_t o7, dec_f o8, Bool.and_false, cond_false, Option.some.injEq] at hrun
                  subst hrun
                  simp (disch := omega) only [go_sem, Nat.reduceAdd, Nat.reduceSub, Nat.reduceLT, Nat.reduceLeDiff, Nat.reduceEqDiff, Nat.reduceBEq, Nat.reduceBneDiff, Nat.reduceMul, ↓reduceIte, Int.reduceToNat, reduceCtorEq, Int.reduceNeg, Int.reduceAdd, Tm.osv, Tm.obs, hni, Bd.erss, Bd.fus, h0, h00, hlen, hfu, her, hdr, hA, hB, hE, hV, hW, q7, q8, m_impl_Substitution_applied, m_impl_EqualTerms, m_impl_isVar, m_impl_bindingOf, m_impl_composed]
                  first | rfl | exact ⟨rfl, rfl⟩
              · have q7 := eq_false o7
                simp only [dec_f o7, Bool.false_and, cond_false, Option.some.injEq] at hrun
                subst hrun
                simp (disch := omega) only [go_sem, Nat.reduceAdd, Nat.reduceSub, Nat.reduceLT, Nat.reduceLeDiff, Nat.reduceEqDiff, Nat.reduceBEq, Nat.reduceBneDiff, Nat.reduceMul, ↓reduceIte, Int.reduceToNat, reduceCtorEq, Int.reduceNeg, Int.reduceAdd, Tm.osv, Tm.obs, hni, Bd.erss, Bd.fus, h0, h00, hlen, hfu, her, hdr, hA, hB, hE, hV, hW, q7, m_impl_Substitution_applied, m_impl_EqualTerms, m_impl_isVar, m_impl_bindingOf, m_impl_composed]
                first | rfl | exact ⟨rfl, rfl⟩
    · have hss : (Sb.sv s) = .agg [.arr (s.binds.map Bd.d)] := rfl
      obtain ⟨L, hL⟩ : ∃ L, L = (p :: l).map eqD := ⟨_, rfl⟩
      have h0 : L[(0 : Nat)]? = some [.str p.1.name, .arr (p.1.args.map Tm.d), .str p.2.name, .arr (p.2.args.map Tm.d)] := by rw [hL]; rfl
      have hlen : L.length = l.length + 1 := by rw [hL]; simp
      have hal : (L.all fun x => x.length == 4) = true := by rw [hL]; exact eqD_all _
      have hdr : (L.take (l.length + 1)).drop 1 = l.map eqD := by rw [hL, List.take_of_length_le (by simp)]; rfl
      simp only [cond_true, cond_false, ← hL]
      cases o1 : apOk s p.1 with
      | false =>
        have hA := applied_no s hs hst p.1 hp.1 o1
        rw [hss] at hA
        rw [uRun] at hrun
        simp only [o1, Bool.false_and, cond_false, Option.some.injEq] at hrun
        subst hrun
        cases o2 : apOk s p.2 with
        | false =>
          have hB := applied_no s hs hst p.2 hp.2 o2
          rw [hss] at hB
          simp (disch := omega) only [go_sem, Nat.reduceAdd, Nat.reduceSub, Nat.reduceLT, Nat.reduceLeDiff, Nat.reduceEqDiff, Nat.reduceBEq, Nat.reduceBneDiff, Nat.reduceMul, ↓reduceIte, Int.reduceToNat, reduceCtorEq, Int.reduceNeg, Int.reduceAdd, Tm.osv, Tm.obs, hni, Bd.erss, Bd.fus, h0, hlen, hal, hdr, hA, hB, m_impl_Substitution_applied, m_impl_EqualTerms, m_impl_isVar, m_impl_bindingOf, m_impl_composed]
          first | rfl | exact ⟨rfl, rfl⟩
        | true =>
          have hB := applied_yes s hs hst p.2 hp.2 o2
          rw [hss] at hB
          simp (disch := omega) only [go_sem, Nat.reduceAdd, Nat.reduceSub, Nat.reduceLT, Nat.reduceLeDiff, Nat.reduceEqDiff, Nat.reduceBEq, Nat.reduceBneDiff, Nat.reduceMul, ↓reduceIte, Int.reduceToNat, reduceCtorEq, Int.reduceNeg, Int.reduceAdd, Tm.osv, Tm.obs, hni, Bd.erss, Bd.fus, h0, hlen, hal, hdr, hA, hB, m_impl_Substitution_applied, m_impl_EqualTerms, m_impl_isVar, m_impl_bindingOf, m_impl_composed]
          first | rfl | exact ⟨rfl, rfl⟩
      | true =>
        have hA := applied_yes s hs hst p.1 hp.1 o1
        rw [hss] at hA
        have e1 := apOk_ex o1
        cases o2 : apOk s p.2 with
        | false =>
          have hB := applied_no s hs hst p.2 hp.2 o2
          rw [hss] at hB
          rw [uRun] at hrun
          simp only [o2, Bool.and_false, cond_false, Option.some.injEq] at hrun
          subst hrun
          simp (disch := omega) only [go_sem, Nat.reduceAdd, Nat.reduceSub, Nat.reduceLT, Nat.reduceLeDiff, Nat.reduceEqDiff, Nat.reduceBEq, Nat.reduceBneDiff, Nat.reduceMul, ↓reduceIte, Int.reduceToNat, reduceCtorEq, Int.reduceNeg, Int.reduceAdd, Tm.osv, Tm.obs, hni, Bd.erss, Bd.fus, h0, hlen, hal, hdr, hA, hB, m_impl_Substitution_applied, m_impl_EqualTerms, m_impl_isVar, m_impl_bindingOf, m_impl_composed]
          first | rfl | exact ⟨rfl, rfl⟩
        | true =>
          have hB := applied_yes s hs hst p.2 hp.2 o2
          rw [hss] at hB
          have e2 := apOk_ex o2
          have n1 := Tm.expr_nodes e1
          have n2 := Tm.expr_nodes e2
          have hdec := hinv.dec o1 o2
          have hbind := hinv.bind o1 o2
          rw [uRun] at hrun
          simp only [o1, o2, Bool.and_self, cond_true] at hrun
          obtain ⟨x, hx⟩ : ∃ x, x = apTo s p.1 := ⟨_, rfl⟩
          obtain ⟨y, hy⟩ : ∃ y, y = apTo s p.2 := ⟨_, rfl⟩
          rw [← hx] at hA e1 n1 hrun hdec hbind
          rw [← hy] at hB e2 n2 hrun hdec hbind
          have hE := equalTerms_E x y (by omega) (by omega)
          have hV := isVar_E x (Tm.expr_cok e1)
          have hW := isVar_E y (Tm.expr_cok e2)
          have hxv : x.sv = .agg [.str x.name, .arr (x.args.map Tm.d)] := rfl
          have hyv : y.sv = .agg [.str y.name, .arr (y.args.map Tm.d)] := rfl
          cases o3 : dec (x = y) with
          | true =>
            rw [o3] at hE
            simp only [o3, cond_true] at hrun
            simp (disch := omega) only [go_sem, Nat.reduceAdd, Nat.reduceSub, Nat.reduceLT, Nat.reduceLeDiff, Nat.reduceEqDiff, Nat.reduceBEq, Nat.reduceBneDiff, Nat.reduceMul, ↓reduceIte, Int.reduceToNat, reduceCtorEq, Int.reduceNeg, Int.reduceAdd, Tm.osv, Tm.obs, hni, Bd.erss, Bd.fus, h0, hlen, hal, hdr, hA, hB, hE, m_impl_Substitution_applied, m_impl_EqualTerms, m_impl_isVar, m_impl_bindingOf, m_impl_composed]
            exact ⟨(n, false, false, s, l), ⟨hinv.pop, hrun, hsn⟩, by dsimp only; omega, by first | trivial | rfl | (simp only [cond_true, cond_false, List.cons_append, List.nil_append, and_self])⟩
          | false =>
            rw [o3] at hE
            simp only [o3, cond_false] at hrun
            cases o4 : varB x.name || varB y.name with
            | true =>
              have hO := bindingOf_E x y e1 e2 o4
              have hbsv : (Sb.mk [bndOf x y]).sv = .agg [.arr [[.str (bndOf x y).var, .str (bndOf x y).term.name, .arr ((bndOf x y).term.args.map Tm.d)]]] := rfl
              rw [hbsv] at hO
              simp only [o4, cond_true] at hrun
              have hvv : (varB x.name = true) ∨ (varB x.name = false ∧ varB y.name = true) := by
                cases h : varB x.name with
                | true => exact .inl rfl
                | false => rw [h, Bool.false_or] at o4; exact .inr ⟨rfl, o4⟩
              cases o5 : bndOk (bndOf x y) with
              | false =>
                rw [o5] at hO
                simp only [o5, Bool.false_and, cond_false, Option.some.injEq] at hrun
                subst hrun
                rcases hvv with v1 | ⟨v1, v2⟩
                · rw [v1] at hV
                  simp (disch := omega) only [go_sem, Nat.reduceAdd, Nat.reduceSub, Nat.reduceLT, Nat.reduceLeDiff, Nat.reduceEqDiff, Nat.reduceBEq, Nat.reduceBneDiff, Nat.reduceMul, ↓reduceIte, Int.reduceToNat, reduceCtorEq, Int.reduceNeg, Int.reduceAdd, Tm.osv, Tm.obs, hni, Bd.erss, Bd.fus, h0, hlen, hal, hdr, hA, hB, hE, hV, hW, hO, m_impl_Substitution_applied, m_impl_EqualTerms, m_impl_isVar, m_impl_bindingOf, m_impl_composed]
                  first | rfl | exact ⟨rfl, rfl⟩
                · rw [v1] at hV
                  rw [v2] at hW
                  simp (disch := omega) only [go_sem, Nat.reduceAdd, Nat.reduceSub, Nat.reduceLT, Nat.reduceLeDiff, Nat.reduceEqDiff, Nat.reduceBEq, Nat.reduceBneDiff, Nat.reduceMul, ↓reduceIte, Int.reduceToNat, reduceCtorEq, Int.reduceNeg, Int.reduceAdd, Tm.osv, Tm.obs, hni, Bd.erss, Bd.fus, h0, hlen, hal, hdr, hA, hB, hE, hV, hW, hO, m_impl_Substitution_applied, m_impl_EqualTerms, m_impl_isVar, m_impl_bindingOf, m_impl_composed]
                  first | rfl | exact ⟨rfl, rfl⟩
              | true =>
                rw [o5] at hO
                have o5' := o5
                unfold bndOk at o5'
                rw [Bool.and_eq_true] at o5'
                have hbt : (bndOf x y).term.nodes ≤ 1099511627776 := by
                  rcases bndOf_cases x y o4 with ⟨e, _⟩ | ⟨e, _⟩
                  · rw [e]; show y.nodes ≤ _; omega
                  · rw [e]; show x.nodes ≤ _; omega
                have hC := composed_E s ⟨[bndOf x y]⟩ hs o5'.2 hst (one_tame hbt)
                rw [hss, hbsv] at hC
                cases o6 : cmpOk s ⟨[bndOf x y]⟩ with
                | false =>
                  have e6 : cmpTo s ⟨[bndOf x y]⟩ = ⟨[]⟩ := by unfold cmpTo; rw [o6]; rfl
                  rw [e6, o6] at hC
                  simp only [o5, o6, Bool.and_false, cond_false, Option.some.injEq] at hrun
                  subst hrun
                  rcases hvv with v1 | ⟨v1, v2⟩
                  · rw [v1] at hV
                    simp (disch := omega) only [go_sem, Nat.reduceAdd, Nat.reduceSub, Nat.reduceLT, Nat.reduceLeDiff, Nat.reduceEqDiff, Nat.reduceBEq, Nat.reduceBneDiff, Nat.reduceMul, ↓reduceIte, Int.reduceToNat, reduceCtorEq, Int.reduceNeg, Int.reduceAdd, Tm.osv, Tm.obs, hni, Bd.erss, Bd.fus, h0, hlen, hal, hdr, hA, hB, hE, hV, hW, hO, hC, Sb.osv, Sb.obs, m_impl_Substitution_applied, m_impl_EqualTerms, m_impl_isVar, m_impl_bindingOf, m_impl_composed]
                    first | rfl | exact ⟨rfl, rfl⟩
                  · rw [v1] at hV
                    rw [v2] at hW
                    simp (disch := omega) only [go_sem, Nat.reduceAdd, Nat.reduceSub, Nat.reduceLT, Nat.reduceLeDiff, Nat.reduceEqDiff, Nat.reduceBEq, Nat.reduceBneDiff, Nat.reduceMul, ↓reduceIte, Int.reduceToNat, reduceCtorEq, Int.reduceNeg, Int.reduceAdd, Tm.osv, Tm.obs, hni, Bd.erss, Bd.fus, h0, hlen, hal, hdr, hA, hB, hE, hV, hW, hO, hC, Sb.osv, Sb.obs, m_impl_Substitution_applied, m_impl_EqualTerms, m_impl_isVar, m_impl_bindingOf, m_impl_composed]
                    first | rfl | exact ⟨rfl, rfl⟩
                | true =>
                  have e6 : cmpTo s ⟨[bndOf x y]⟩ = cmpS s ⟨[bndOf x y]⟩ := by unfold cmpTo; rw [o6]; rfl
                  rw [e6, o6] at hC
                  simp only [o5, o6, Bool.and_self, cond_true] at hrun
                  obtain ⟨i1, _⟩ := hbind o4 o5 o6
                  obtain ⟨s2, hs2⟩ : ∃ s2, s2 = cmpS s ⟨[bndOf x y]⟩ := ⟨_, rfl⟩
                  rw [← hs2] at hC hrun i1
                  rcases hvv with v1 | ⟨v1, v2⟩
                  · rw [v1] at hV
                    simp (disch := omega) only [go_sem, Nat.reduceAdd, Nat.reduceSub, Nat.reduceLT, Nat.reduceLeDiff, Nat.reduceEqDiff, Nat.reduceBEq, Nat.reduceBneDiff, Nat.reduceMul, ↓reduceIte, Int.reduceToNat, reduceCtorEq, Int.reduceNeg, Int.reduceAdd, Tm.osv, Tm.obs, hni, Bd.erss, Bd.fus, h0, hlen, hal, hdr, hA, hB, hE, hV, hW, hO, hC, Sb.osv, Sb.obs, m_impl_Substitution_applied, m_impl_EqualTerms, m_impl_isVar, m_impl_bindingOf, m_impl_composed]
                    exact ⟨(n, false, false, s2, l), ⟨i1, hrun, fun h => by cases h⟩, by dsimp only; omega, by first | trivial | rfl | (simp only [cond_true, cond_false, List.cons_append, List.nil_append, and_self])⟩
                  · rw [v1] at hV
                    rw [v2] at hW
                    simp (disch := omega) only [go_sem, Nat.reduceAdd, Nat.reduceSub, Nat.reduceLT, Nat.reduceLeDiff, Nat.reduceEqDiff, Nat.reduceBEq, Nat.reduceBneDiff, Nat.reduceMul, ↓reduceIte, Int.reduceToNat, reduceCtorEq, Int.reduceNeg, Int.reduceAdd, Tm.osv, Tm.obs, hni, Bd.erss, Bd.fus, h0, hlen, hal, hdr, hA, hB, hE, hV, hW, hO, hC, Sb.osv, Sb.obs, m_impl_Substitution_applied, m_impl_EqualTerms, m_impl_isVar, m_impl_bindingOf, m_impl_composed]
                    exact ⟨(n, false, false, s2, l), ⟨i1, hrun, fun h => by cases h⟩, by dsimp only; omega, by first | trivial | rfl | (simp only [cond_true, cond_false, List.cons_append, List.nil_append, and_self])⟩
            | false =>
              simp only [o4, cond_false] at hrun
              have o4' := o4
              rw [Bool.or_eq_false_iff] at o4'
              rw [o4'.1] at hV
              rw [o4'.2] at hW
              by_cases o7 : x.name = y.name
              · have q7 := eq_true o7
                by_cases o8 : x.args.length = y.args.length
                · have q8 : ((x.args.length : Int) = (y.args.length : Int)) = True := eq_true (by omega)
                  simp only [dec_t o7, dec_t o8, Bool.and_self, cond_true] at hrun
                  have i2 := hdec o4'.1
                  have hx1 := Tm.length_le x.args
                  have hx2 := Tm.nodes_eq x
                  have ll := hinv.pop.len
                  have hzl : (x.args.zip y.args).length = x.args.length := by rw [List.length_zip]; omega
                  simp (disch := omega) only [go_sem, Nat.reduceAdd, Nat.reduceSub, Nat.reduceLT, Nat.reduceLeDiff, Nat.reduceEqDiff, Nat.reduceBEq, Nat.reduceBneDiff, Nat.reduceMul, ↓reduceIte, Int.reduceToNat, reduceCtorEq, Int.reduceNeg, Int.reduceAdd, Tm.osv, Tm.obs, hni, Bd.erss, Bd.fus, h0, hlen, hal, hdr, hA, hB, hE, hV, hW, q7, q8, m_impl_Substitution_applied, m_impl_EqualTerms, m_impl_isVar, m_impl_bindingOf, m_impl_composed]
                  refine go_loop (α := Nat) (fun a => ⟨slots 123 0 [(4, .ptr 0 0), (6, .ptr 1 0), (7, .arr (l.map eqD)), (10, .ptr 2 0), (14, .ref 3), (47, .arr (x.args.map Tm.d)), (48, .int .i64 x.args.length), (49, .int .i64 (a : Int))], [.box 28 [.nil], .box 28 [.ref 4], .box 33 [.str y.name, .arr (y.args.map Tm.d)], .row 62 4 (((x.args.zip y.args).take a).map eqO), .row 67 3 (s.binds.map Bd.o)]⟩) (fun a => a ≤ x.args.length) (fun a => x.args.length - a) 0 (Nat.zero_le _) (by simp (disch := omega) only [go_sem, Nat.reduceAdd, Nat.reduceSub, Nat.reduceLT, Nat.reduceLeDiff, Nat.reduceEqDiff, Nat.reduceBEq, Nat.reduceBneDiff, Nat.reduceMul, ↓reduceIte, Int.reduceToNat, reduceCtorEq, Int.reduceNeg, Int.reduceAdd, List.take_zero, List.map_nil, m_impl_Substitution_applied, m_impl_EqualTerms, m_impl_isVar, m_impl_bindingOf, m_impl_composed]; rfl) ?_
                  intro k hk
                  have hni2 : ((k : Nat) : Int).toNat = k := Int.toNat_natCast k
                  have htl : ((x.args.zip y.args).take k).length = k := by rw [List.length_take]; omega
                  rcases Nat.lt_or_ge k x.args.length with hlt | hge
                  · have hg1 := get_at Tm.d hlt
                    have hlt2 : k < y.args.length := by omega
                    have hg2 := get_at Tm.d hlt2
                    rw [Tm.d_eq] at hg1 hg2
                    have hz := zip_take hlt hlt2
                    have hrow : ((x.args.zip y.args).take k).map eqO ++ [[OT.str x.args[k].name, .sh (x.args[k].args.map Tm.d), .str y.args[k].name, .sh (y.args[k].args.map Tm.d)]] = ((x.args.zip y.args).take (k + 1)).map eqO := by
                      rw [← hz, List.map_append]; rfl
                    simp (disch := omega) only [go_sem, Nat.reduceAdd, Nat.reduceSub, Nat.reduceLT, Nat.reduceLeDiff, Nat.reduceEqDiff, Nat.reduceBEq, Nat.reduceBneDiff, Nat.reduceMul, ↓reduceIte, Int.reduceToNat, reduceCtorEq, Int.reduceNeg, Int.reduceAdd, hni2, hg1, hg2, hrow, htl, List.length_map, m_impl_Substitution_applied, m_impl_EqualTerms, m_impl_isVar, m_impl_bindingOf, m_impl_composed]
                    refine ⟨k + 1, hlt, by omega, ?_⟩
                    simp only [Int.natCast_add, Int.natCast_one, and_self]
                  · obtain rfl : k = x.args.length := by omega
                    have hfull : (x.args.zip y.args).take x.args.length = x.args.zip y.args := List.take_of_length_le (by omega)
                    have hao := eqO_all l
                    have hot := eqD_ot l
                    have happ : (x.args.zip y.args).map eqO ++ l.map eqO = (x.args.zip y.args ++ l).map eqO := by rw [List.map_append]
                    rw [hfull] at htl
                    simp only [hfull]
                    simp (disch := omega) only [go_sem, Nat.reduceAdd, Nat.reduceSub, Nat.reduceLT, Nat.reduceLeDiff, Nat.reduceEqDiff, Nat.reduceBEq, Nat.reduceBneDiff, Nat.reduceMul, ↓reduceIte, Int.reduceToNat, reduceCtorEq, Int.reduceNeg, Int.reduceAdd, hni2, hao, hot, htl, happ, List.length_map, m_impl_Substitution_applied, m_impl_EqualTerms, m_impl_isVar, m_impl_bindingOf, m_impl_composed]
                    refine ⟨(n, false, true, s, x.args.zip y.args ++ l), ⟨i2, hrun, hsn⟩, by dsimp only; omega, ?_⟩
                    first | trivial | rfl | simp only [cond_true, cond_false, List.cons_append, List.nil_append, and_self]
                · have q8 : ((x.args.length : Int) = (y.args.length : Int)) = False := eq_false (by omega)
                  simp only [dec_t o7, dec_f o8, Bool.and_false, cond_false, Option.some.injEq] at hrun
                  subst hrun
                  simp (disch := omega) only [go_sem, Nat.reduceAdd, Nat.reduceSub, Nat.reduceLT, Nat.reduceLeDiff, Nat.reduceEqDiff, Nat.reduceBEq, Nat.reduceBneDiff, Nat.reduceMul, ↓reduceIte, Int.reduceToNat, reduceCtorEq, Int.reduceNeg, Int.reduceAdd, Tm.osv, Tm.obs, hni, Bd.erss, Bd.fus, h0, hlen, hal, hdr, hA, hB, hE, hV, hW, q7, q8, m_impl_Substitution_applied, m_impl_EqualTerms, m_impl_isVar, m_impl_bindingOf, m_impl_composed]
                  first | rfl | exact ⟨rfl, rfl⟩
              · have q7 := eq_false o7
                simp only [dec_f o7, Bool.false_and, cond_false, Option.some.injEq] at hrun
                subst hrun
                simp (disch := omega) only [go_sem, Nat.reduceAdd, Nat.reduceSub, Nat.reduceLT, Nat.reduceLeDiff, Nat.reduceEqDiff, Nat.reduceBEq, Nat.reduceBneDiff, Nat.reduceMul, ↓reduceIte, Int.reduceToNat, reduceCtorEq, Int.reduceNeg, Int.reduceAdd, Tm.osv, Tm.obs, hni, Bd.erss, Bd.fus, h0, hlen, hal, hdr, hA, hB, hE, hV, hW, q7, m_impl_Substitution_applied, m_impl_EqualTerms, m_impl_isVar, m_impl_bindingOf, m_impl_composed]
                first | rfl | exact ⟨rfl, rfl⟩
    
end Go.Proofs.YtjafnijgkjjadaaGreat
