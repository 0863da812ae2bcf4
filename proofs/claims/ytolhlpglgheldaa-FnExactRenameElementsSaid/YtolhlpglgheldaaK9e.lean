/-
  This text tells what renaming the elements of an interpretation answers in the program: the walk. No condition.
-/
import Derived.Test.YtolhlpglgheldaaK9d
open Nat renaming reduceAdd → zA, reduceSub → zB, reduceLT → zC, reduceLeDiff → zD, reduceEqDiff → zE, reduceBEq → zF, reduceBneDiff → zG, reduceMul → zH
open Int renaming reduceToNat → zI, reduceNeg → zJ, reduceAdd → zK
set_option maxRecDepth 100000
set_option linter.unusedSimpArgs false
set_option linter.unusedVariables false
namespace Go.Proofs.Ytolhlpglgheldaa
open Go.RowKit
def midT (s : Int) (p : List Int) (ts : List Tl) (k : Nat) (t : Tl) (j : Nat) : List Tl := (ts.take k).map (Tl.rn s p) ++ ⟨t.name, t.arity, t.pred, putV s p t j⟩ :: ts.drop (k + 1)
theorem midT_len {s : Int} {p : List Int} {ts : List Tl} {k : Nat} {t : Tl} {j : Nat} (h : k < ts.length) : (midT s p ts k t j).length = ts.length := by
  unfold midT
  simp
  omega
theorem midT_at {s : Int} {p : List Int} {ts : List Tl} {k : Nat} {t : Tl} {j : Nat} (h : k < ts.length) : ((midT s p ts k t j).map Tl.o)[k]? = some [OT.str t.name, OT.int t.arity, OT.bool t.pred, OT.ow ((putV s p t j).map fun n => [OT.int n])] := by
  have hl : ((ts.take k).map (Tl.rn s p)).length = k := by rw [List.length_map, List.length_take]; omega
  unfold midT
  rw [List.getElem?_map, List.getElem?_append_right (by omega), hl, Nat.sub_self]
  rfl
theorem midT_set {s : Int} {p : List Int} {ts : List Tl} {k : Nat} {t : Tl} {j : Nat} (h : k < ts.length) : ((midT s p ts k t j).map Tl.o).set k [OT.str t.name, OT.int t.arity, OT.bool t.pred, OT.ow (((putV s p t j).map fun n => [OT.int n]).set (dg s (pf p) t.arity.toNat j).toNat [OT.int (newV p t (t.vals.getD j 0))])] = (midT s p ts k t (j + 1)).map Tl.o := by
  have hl : ((ts.take k).map (Tl.rn s p)).length = k := by rw [List.length_map, List.length_take]; omega
  have e : ((putV s p t j).map fun n => [OT.int n]).set (dg s (pf p) t.arity.toNat j).toNat [OT.int (newV p t (t.vals.getD j 0))] = (putV s p t (j + 1)).map fun n => [OT.int n] := by
    show _ = ((scat _ _ (j + 1) t.vals).map fun n => [OT.int n])
    rw [scat, List.map_set]
    rfl
  rw [e]
  unfold midT
  have h := map_set_mid Tl.o ((ts.take k).map (Tl.rn s p)) (ts.drop (k + 1)) ⟨t.name, t.arity, t.pred, putV s p t j⟩ ⟨t.name, t.arity, t.pred, putV s p t (j + 1)⟩ hl
  rw [List.append_assoc] at h
  exact h
theorem midT_zero {s : Int} {p : List Int} {ts : List Tl} {k : Nat} (h : k < ts.length) : midT s p ts k ts[k] 0 = (ts.take k).map (Tl.rn s p) ++ ts.drop k := by
  unfold midT
  rw [List.drop_eq_getElem_cons h]
  rfl
theorem midT_end {s : Int} {p : List Int} {ts : List Tl} {k : Nat} (h : k < ts.length) (e : putV s p ts[k] ts[k].vals.length = (ts[k].rn s p).vals) : midT s p ts k ts[k] ts[k].vals.length = (ts.take (k + 1)).map (Tl.rn s p) ++ ts.drop (k + 1) := by
  unfold midT
  rw [e, List.take_succ_eq_append_getElem h, List.map_append, List.append_assoc]
  rfl
theorem putV_len (s : Int) (p : List Int) (t : Tl) (k : Nat) : (putV s p t k).length = t.vals.length := scat_len _ _ _ _
theorem newV_rn (p : List Int) (t : Tl) (v : Int) : newV p t v = bif t.pred then v else pf p v := rfl
set_option maxHeartbeats 32000000 in
theorem renameElements_E (m : Ip) (ht : m.tame) (hb : m.tables.length ≤ 1048576 ∧ ∀ t ∈ m.tables, t.vals.length ≤ 1048576) (p : List Int) (hp : p.length ≤ 1048576) : E 19 [m.sv, .arr (p.map fun s => [D.int s])] [] = some (.tup [.agg [.int .i64 (rnTo m p).size, .ref 0], .bool (rnOk m p)], [.tree ((rnTo m p).tables.map Tl.o) []]) := by
  have h1 := isValidInterpretation_E m ht
  cases hm : m.ok with
  | false =>
    rw [hm] at h1
    have e : rnOk m p = false := by unfold rnOk; rw [hm, Bool.false_and]
    unfold rnTo
    rw [e, cond_false]
    show E _ _ _ = some (SV.tup [.agg [.int .i64 0, .ref 0], .bool false], [Ob.tree [] []])
    refine E_walk k_impl_RenameElements m_impl_RenameElements (of_decide_eq_true rfl) ?_
    simp (disch := omega) only [c_impl_RenameElements, go_sem, go_cond, zA, zB, zC, zD, zE, zF, zG, zH, ↓reduceIte, zI, reduceCtorEq, zJ, zK, h1, m_impl_IsValidInterpretation, order, toTree]
    try first | rfl | exact ⟨rfl, rfl⟩
  | true =>
  rw [hm] at h1
  obtain ⟨⟨s1, s3⟩, htb, hvb⟩ := Ip.ok_parts hm
  cases hpl : dec ((p.length : Int) = m.size) with
  | false =>
    have e : rnOk m p = false := by unfold rnOk prmB; rw [hpl, Bool.false_and, Bool.and_false]
    unfold rnTo
    rw [e, cond_false]
    show E _ _ _ = some (SV.tup [.agg [.int .i64 0, .ref 0], .bool false], [Ob.tree [] []])
    have hpl' : ((p.length : Int) = m.size) = False := eq_false fun h => by rw [dec_t h] at hpl; cases hpl
    refine E_walk k_impl_RenameElements m_impl_RenameElements (of_decide_eq_true rfl) ?_
    simp (disch := omega) only [c_impl_RenameElements, go_sem, go_cond, zA, zB, zC, zD, zE, zF, zG, zH, ↓reduceIte, zI, reduceCtorEq, zJ, zK, h1, hpl, hpl', m_impl_IsValidInterpretation, order, toTree]
    try first | rfl | exact ⟨rfl, rfl⟩
  | true =>
  have hpl' : ((p.length : Int) = m.size) = True := eq_true (dec_iff.1 hpl)
  have hps : (p.length : Int) = m.size := dec_iff.1 hpl
  have hct := copyTables_E m.tables hb.1 hb.2
  obtain ⟨r, hr⟩ : ∃ r, r = rnTo m p := ⟨_, rfl⟩
  obtain ⟨o, ho⟩ : ∃ o, o = rnOk m p := ⟨_, rfl⟩
  rw [← hr, ← ho]
  refine E_walk k_impl_RenameElements m_impl_RenameElements (of_decide_eq_true rfl) ?_
  simp (disch := omega) only [c_impl_RenameElements, go_sem, go_cond, zA, zB, zC, zD, zE, zF, zG, zH, ↓reduceIte, zI, reduceCtorEq, zJ, zK, h1, hpl, hpl', m_impl_IsValidInterpretation, order, toTree]
  refine go_loop (α := Int) (fun i => ⟨slots 103 0 [(1, .arr (p.map fun s => [D.int s])), (2, .ptr 0 0), (4, .ptr 1 0), (27, .int .i64 m.size), (28, .int .i64 i)], [.box 40 [.int .i64 m.size, .arr (m.tables.map Tl.d)], .box 40 [.int .i64 0, .nil]]⟩) (fun i => ∃ k : Nat, i = k ∧ k ≤ p.length ∧ ∀ q, q < k → ((q : Nat) : Int) ∈ p) (fun i => p.length - i.toNat) 0 ⟨0, rfl, Nat.zero_le _, fun q hq => by omega⟩ (by simp (disch := omega) only [go_sem, go_cond, zA, zB, zC, zD, zE, zF, zG, zH, ↓reduceIte, zI, reduceCtorEq, zJ, zK]) ?_
  rintro i ⟨k, hi, hk, hR⟩
  have hcn := containsI_E p i (by omega)
  rcases Nat.lt_or_ge k p.length with hlt | hge
  · cases hc : dec (i ∈ p) with
    | false =>
      rw [hc] at hcn
      have e : rnOk m p = false := by
        unfold rnOk prmB
        rw [hpl, Bool.true_and, hm, Bool.true_and]
        refine Bool.eq_false_iff.2 fun h => ?_
        have := List.all_eq_true.1 h k (List.mem_range.2 hlt)
        rw [← hi, hc] at this
        cases this
      have e2 : r = ⟨0, []⟩ := by rw [hr]; unfold rnTo; rw [e]; rfl
      have e3 : r.size = 0 := by rw [e2]
      have e4 : r.tables = [] := by rw [e2]
      rw [ho, e, e3, e4, List.map_nil]
      simp (disch := omega) only [go_sem, go_cond, zA, zB, zC, zD, zE, zF, zG, zH, ↓reduceIte, zI, reduceCtorEq, zJ, zK, hcn, m_slices_Contains_int_int, order, toTree]
      try first | rfl | exact ⟨rfl, rfl⟩
    | true =>
      rw [hc] at hcn
      simp (disch := omega) only [go_sem, go_cond, zA, zB, zC, zD, zE, zF, zG, zH, ↓reduceIte, zI, reduceCtorEq, zJ, zK, hcn, m_slices_Contains_int_int, order, toTree]
      exact ⟨i + 1, ⟨k + 1, by omega, hlt, fun q hq => by
        by_cases e : q = k
        · subst e; rw [← hi]; exact dec_iff.1 hc
        · exact hR q (by omega)⟩, by omega, by first | trivial | rfl | exact ⟨rfl, rfl⟩⟩
  · obtain rfl : k = p.length := by omega
    have hprm : prmB m.size p = true := by
      unfold prmB
      rw [hpl, Bool.true_and, List.all_eq_true]
      exact fun q hq => dec_t (hR q (List.mem_range.1 hq))
    have e : rnOk m p = true := by unfold rnOk; rw [hm, hprm]; rfl
    have e2 : r = m.rn p := by rw [hr]; unfold rnTo; rw [e]; rfl
    rw [e] at ho
    have e3 : r.size = m.size := by rw [e2]; rfl
    have e4 : r.tables = m.tables.map (Tl.rn m.size p) := by rw [e2]; rfl
    rw [ho, e3, e4]
    clear hR hcn
    obtain ⟨_, hon, _, _⟩ := prm_on s3 hprm
    simp (disch := omega) only [go_sem, go_cond, zA, zB, zC, zD, zE, zF, zG, zH, ↓reduceIte, zI, reduceCtorEq, zJ, zK, hct, m_impl_copyTables]
    refine go_loop (α := Int) (fun i => ⟨slots 103 0 [(1, .arr (p.map fun s => [D.int s])), (2, .ptr 0 0), (4, .ptr 1 0), (7, .ptr 2 0), (44, .arr (m.tables.map Tl.d)), (45, .int .i64 m.tables.length), (46, .int .i64 i)], [.box 40 [.int .i64 m.size, .arr (m.tables.map Tl.d)], .box 40 [.int .i64 0, .nil], .box 40 [.int .i64 m.size, .ref 3], .tree (((m.tables.take i.toNat).map (Tl.rn m.size p) ++ m.tables.drop i.toNat).map Tl.o) []]⟩) (fun i => ∃ k : Nat, i = k ∧ k ≤ m.tables.length) (fun i => m.tables.length - i.toNat) 0 ⟨0, rfl, Nat.zero_le _⟩ (by simp (disch := omega) only [go_sem, go_cond, zA, zB, zC, zD, zE, zF, zG, zH, ↓reduceIte, zI, reduceCtorEq, zJ, zK, Int.toNat_zero, List.take_zero, List.map_nil, List.drop_zero, List.nil_append]) ?_
    rintro i ⟨k, hi, hk⟩
    have hni : i.toNat = k := by omega
    have hni1 : (i + 1).toNat = k + 1 := by omega
    rcases Nat.lt_or_ge k m.tables.length with hlt | hge
    · have hg := get_at Tl.d hlt
      rw [Tl.d_eq] at hg
      have hmz := midT_zero (s := m.size) (p := p) hlt
      have hta := tabsB_arity htb (List.getElem_mem hlt)
      have hvl := List.all_eq_true.1 hvb _ (List.getElem_mem hlt)
      unfold tlB at hvl
      rw [Bool.and_eq_true, dec_iff, List.all_eq_true] at hvl
      have hpe := putV_end (t := m.tables[k]) s1 s3 hprm hvl.1
      have hme := midT_end hlt hpe
      have hvb2 := hb.2 _ (List.getElem_mem hlt)
      obtain ⟨t, htt⟩ : ∃ t, t = m.tables[k] := ⟨_, rfl⟩
      rw [← htt] at hg hmz hta hvl hme hvb2
      clear hpe htt
      simp (disch := omega) only [go_sem, go_cond, zA, zB, zC, zD, zE, zF, zG, zH, ↓reduceIte, zI, reduceCtorEq, zJ, zK, hni, hg]
      refine go_loop (α := Int) (fun n => ⟨slots 103 0 [(1, .arr (p.map fun s => [D.int s])), (2, .ptr 0 0), (4, .ptr 1 0), (7, .ptr 2 0), (8, .int .i64 i), (9, .ptr 3 0), (44, .arr (m.tables.map Tl.d)), (45, .int .i64 m.tables.length), (46, .int .i64 i), (52, .arr (t.vals.map fun n => [D.int n])), (53, .int .i64 t.vals.length), (54, .int .i64 n)], [.box 40 [.int .i64 m.size, .arr (m.tables.map Tl.d)], .box 40 [.int .i64 0, .nil], .box 40 [.int .i64 m.size, .ref 4], .box 80 [.str t.name, .int .i64 t.arity, .bool t.pred, .arr (t.vals.map fun n => [D.int n])], .tree ((midT m.size p m.tables k t n.toNat).map Tl.o) []]⟩) (fun n => ∃ j : Nat, n = j ∧ j ≤ t.vals.length) (fun n => t.vals.length - n.toNat) 0 ⟨0, rfl, Nat.zero_le _⟩ (by simp (disch := omega) only [go_sem, go_cond, zA, zB, zC, zD, zE, zF, zG, zH, ↓reduceIte, zI, reduceCtorEq, zJ, zK, hni, hmz, Int.toNat_zero]) ?_
      rintro n ⟨j, hn, hj⟩
      have hnn : n.toNat = j := by omega
      have hnn1 : (n + 1).toNat = j + 1 := by omega
      rcases Nat.lt_or_ge j t.vals.length with hjl | hjg
      · have hgv := get_at (fun n => [D.int n]) hjl
        have hvr := inI_iff.1 (hvl.2 t.vals[j] (List.getElem_mem hjl))
        have hdr := dg_range s1 hon t.arity.toNat n (by omega) (by omega)
        have hP3 := pw_small s1 s3 (k := t.arity.toNat) (by omega)
        simp (disch := omega) only [go_sem, go_cond, zA, zB, zC, zD, zE, zF, zG, zH, ↓reduceIte, zI, reduceCtorEq, zJ, zK, hnn, hgv]
        refine go_loop (α := Int × Int × Int × Int) (fun a => ⟨slots 103 0 [(1, .arr (p.map fun s => [D.int s])), (2, .ptr 0 0), (4, .ptr 1 0), (7, .ptr 2 0), (8, .int .i64 i), (9, .ptr 3 0), (11, .int .i64 t.vals[j]), (12, .int .i64 a.2.1), (13, .int .i64 a.2.2.1), (14, .int .i64 a.2.2.2), (44, .arr (m.tables.map Tl.d)), (45, .int .i64 m.tables.length), (46, .int .i64 i), (52, .arr (t.vals.map fun n => [D.int n])), (53, .int .i64 t.vals.length), (54, .int .i64 n), (61, .int .i64 t.arity), (62, .int .i64 a.1)], [.box 40 [.int .i64 m.size, .arr (m.tables.map Tl.d)], .box 40 [.int .i64 0, .nil], .box 40 [.int .i64 m.size, .ref 4], .box 80 [.str t.name, .int .i64 t.arity, .bool t.pred, .arr (t.vals.map fun n => [D.int n])], .tree ((midT m.size p m.tables k t j).map Tl.o) []]⟩) (fun a => ∃ d : Nat, a.1 = d ∧ (d : Int) ≤ t.arity ∧ 1 ≤ a.2.2.1 ∧ a.2.2.1 * pw m.size (t.arity.toNat - d) = pw m.size t.arity.toNat ∧ 0 ≤ a.2.1 ∧ a.2.1 < a.2.2.1 ∧ 0 ≤ a.2.2.2 ∧ a.2.2.2 < pw m.size (t.arity.toNat - d) ∧ a.2.1 + a.2.2.1 * dg m.size (pf p) (t.arity.toNat - d) a.2.2.2 = dg m.size (pf p) t.arity.toNat n) (fun a => t.arity.toNat - a.1.toNat) (0, 0, 1, n) ⟨0, rfl, by (try dsimp only); omega, by (try dsimp only); omega, by (try dsimp only); rw [Nat.sub_zero, Int.one_mul], by (try dsimp only); omega, by (try dsimp only); omega, by (try dsimp only); omega, by (try dsimp only); rw [Nat.sub_zero]; omega, by (try dsimp only); rw [Nat.sub_zero, Int.one_mul, Int.zero_add]⟩ (by simp (disch := omega) only [go_sem, go_cond, zA, zB, zC, zD, zE, zF, zG, zH, ↓reduceIte, zI, reduceCtorEq, zJ, zK]) ?_
        rintro ⟨d, a, w, u⟩ ⟨d0, hd, hda, hw1, hwp, ha0, haw, hu0, hup, hD⟩
        dsimp only at hd hda hw1 hwp ha0 haw hu0 hup hD
        rcases Int.lt_or_le d t.arity with hdl | hdg
        · obtain ⟨b, hbb⟩ : ∃ b, t.arity.toNat - d0 = b + 1 := ⟨t.arity.toNat - d0 - 1, by omega⟩
          have hb2 : t.arity.toNat - (d0 + 1) = b := by omega
          rw [hbb, pw] at hwp hup
          rw [hbb, dg_step] at hD
          obtain ⟨u0, u1, m0, m1⟩ := div_in s1 hu0 hup
          obtain ⟨q0, q1⟩ := hon _ m0 m1
          have hpb := pw_small s1 s3 (k := b) (by omega)
          have hws : w * m.size * pw m.size b = pw m.size t.arity.toNat := by rw [← hwp, Int.mul_assoc, Int.mul_comm m.size]
          have k1 := Int.mul_nonneg (show 0 ≤ w by omega) q0
          have k2 : w * (pf p (u.tmod m.size) + 1) ≤ w * m.size := Int.mul_le_mul_of_nonneg_left (by omega) (by omega)
          rw [Int.mul_add, Int.mul_one] at k2
          have k3 : w * m.size * 1 ≤ w * m.size * pw m.size b := Int.mul_le_mul_of_nonneg_left (by omega) (by omega)
          rw [Int.mul_one, hws] at k3
          have hmi : (u.tmod m.size).toNat < p.length := by omega
          have hgp := get_at (fun s => [D.int s]) hmi
          have hpfe : p[(u.tmod m.size).toNat] = pf p (u.tmod m.size) := (getD_p hmi).symm
          rw [hpfe] at hgp
          have hsz0 : m.size ≠ 0 := by omega
          simp (disch := omega) only [go_sem, go_cond, zA, zB, zC, zD, zE, zF, zG, zH, ↓reduceIte, zI, reduceCtorEq, zJ, zK, hgp, hsz0]
          refine ⟨(d + 1, a + w * pf p (u.tmod m.size), w * m.size, u.tdiv m.size), ⟨d0 + 1, by dsimp only; omega, by omega, by dsimp only; omega, by dsimp only; rw [hb2]; exact hws, by dsimp only; omega, by dsimp only; omega, u0, by dsimp only; rw [hb2]; exact u1, by dsimp only; rw [hb2]; exact hD⟩, by dsimp only; omega, ?_⟩
          first | trivial | rfl | exact ⟨rfl, rfl⟩
        · have hz : t.arity.toNat - d0 = 0 := by omega
          rw [hz, dg, Int.mul_zero, Int.add_zero] at hD
          have hel := midT_len (s := m.size) (p := p) (t := t) (j := j) hlt
          have hga := midT_at (s := m.size) (p := p) (t := t) (j := j) hlt
          have hset := midT_set (s := m.size) (p := p) (t := t) (j := j) hlt
          have hpvl := putV_len m.size p t j
          rw [← hn, ← hD] at hset
          have hin : a.toNat < t.vals.length := by omega
          have hgs : ∀ x, ((List.map Tl.o (midT m.size p m.tables k t j)).set k x)[k]? = some x := fun x => List.getElem?_set_self (by rw [List.length_map, hel]; exact hlt)
          have hgv2 := get_at (fun s => [OT.int s]) (xs := putV m.size p t j) (k := a.toNat) (by omega)
          have hgd : t.vals.getD j 0 = t.vals[j] := getD_p hjl
          rw [hgd] at hset
          cases hpr : t.pred with
          | true =>
            rw [newV_rn, hpr, cond_true] at hset
            rw [hpr] at hga
            simp (disch := omega) only [go_sem, go_cond, zA, zB, zC, zD, zE, zF, zG, zH, ↓reduceIte, zI, reduceCtorEq, zJ, zK, hni, hnn, hpr, hga, hel, hgs, hgv2, hpvl, List.length_set, List.set_set]
            refine ⟨n + 1, ⟨j + 1, by omega, hjl⟩, by omega, ?_⟩
            simp (disch := omega) only [go_sem, go_cond, zA, zB, zC, zD, zE, zF, zG, zH, ↓reduceIte, zI, reduceCtorEq, zJ, zK, hnn1, hset, List.set_set]
          | false =>
            rw [newV_rn, hpr, cond_false] at hset
            rw [hpr] at hga
            unfold kinds at hvr
            rw [hpr, if_neg (by simp)] at hvr
            have hmi : (t.vals[j]).toNat < p.length := by omega
            have hgp := get_at (fun s => [D.int s]) hmi
            have hpfe : p[(t.vals[j]).toNat] = pf p t.vals[j] := (getD_p hmi).symm
            rw [hpfe] at hgp
            simp (disch := omega) only [go_sem, go_cond, zA, zB, zC, zD, zE, zF, zG, zH, ↓reduceIte, zI, reduceCtorEq, zJ, zK, hni, hnn, hpr, hgp, hga, hel, hgs, hgv2, hpvl, List.length_set, List.set_set]
            refine ⟨n + 1, ⟨j + 1, by omega, hjl⟩, by omega, ?_⟩
            simp (disch := omega) only [go_sem, go_cond, zA, zB, zC, zD, zE, zF, zG, zH, ↓reduceIte, zI, reduceCtorEq, zJ, zK, hnn1, hset, List.set_set]
      · obtain rfl : j = t.vals.length := by omega
        simp (disch := omega) only [go_sem, go_cond, zA, zB, zC, zD, zE, zF, zG, zH, ↓reduceIte, zI, reduceCtorEq, zJ, zK, hnn, hme]
        refine ⟨i + 1, ⟨k + 1, by omega, hlt⟩, by omega, ?_⟩
        simp (disch := omega) only [go_sem, go_cond, zA, zB, zC, zD, zE, zF, zG, zH, ↓reduceIte, zI, reduceCtorEq, zJ, zK, hni1, hme]
    · obtain rfl : k = m.tables.length := by omega
      have ht1 : m.tables.take m.tables.length = m.tables := List.take_length
      have ht2 : m.tables.drop m.tables.length = [] := List.drop_length
      simp (disch := omega) only [go_sem, go_cond, zA, zB, zC, zD, zE, zF, zG, zH, ↓reduceIte, zI, reduceCtorEq, zJ, zK, hni, ht1, ht2, List.append_nil, order, toTree]
      try first | rfl | exact ⟨rfl, rfl⟩
end Go.Proofs.Ytolhlpglgheldaa
