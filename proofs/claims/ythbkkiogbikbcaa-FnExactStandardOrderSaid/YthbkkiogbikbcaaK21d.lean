/-
  This text holds, one behind the other: This text tells what the variables of a term answer in both packages. No condition.
  This text tells what the variables of a term answer in the reference. No condition.
  This text holds plain laws of the order of names. No condition.
  This text holds plain laws of sorted names: putting one after the other at its place sorts. No condition.
  This text tells what the weights of an ordering answer, all weights being one. No condition.
  This text tells what ranks, precedence and the reference's weights answer. No condition.
  This text tells what the equality of terms answers in both packages. No condition.
  This text tells how often a name occurs in a term. No condition.
  This text tells what counting names, balance and the comparison of roots answer in the reference. No condition.
  This text tells which arguments differ first in both packages. No condition.
  This text tells what the reference's order of terms answers, all weights being one. No condition.
  This text tells what the program's order of terms answers, all weights being one. No condition.
  This text tells what comparing two terms by the program's order answers. No condition.
  This text tells what the reference's comparison by weights answers. No condition.
  This text tells whether a name is in a list of names, in the reference. No condition.
  This text tells what the reference's standard order answers: the ordering of the symbols of two terms is valid. No condition.
  This text tells what the program's standard order answers. No condition.
  This text holds a rule for runs of which a part of the answer is left open. No condition.
  This text tells what the standard order answers in both packages. No condition.
  This text tells what the laws' measuring functions answer. No condition.
  This text tells what the laws' copying functions answer. No condition.
-/
import Derived.Test.YthbkkiogbikbcaaK21c
set_option maxRecDepth 100000
set_option linter.unusedSimpArgs false
set_option linter.unusedVariables false
namespace Go.Proofs.Ythbkkiogbikbcaa
open Go.RowKit

/-! Plain: the variables of a term, in the order of the text. -/
mutual
noncomputable def Tm.vs : Tm → List ByteArray
  | .mk name args => bif varB name then [name] else Tm.vsL args
noncomputable def Tm.vsL : List Tm → List ByteArray
  | [] => []
  | x :: xs => Tm.vs x ++ Tm.vsL xs
end
theorem Tm.vs_eq (x : Tm) : x.vs = bif varB x.name then [x.name] else Tm.vsL x.args := by
  obtain ⟨n, a⟩ := x
  rw [Tm.vs]; rfl
theorem Tm.vsL_len : ∀ xs : List Tm, (∀ x ∈ xs, x.vs.length ≤ x.nodes) → (Tm.vsL xs).length ≤ Tm.nodeS xs
  | [], _ => by simp [Tm.vsL]
  | x :: xs, h => by
    have h1 := h x (by simp)
    have h2 := Tm.vsL_len xs fun y hy => h y (by simp [hy])
    rw [Tm.vsL, Tm.nodeS, List.length_append]; omega
theorem Tm.vs_len (x : Tm) : x.vs.length ≤ x.nodes := by
  have h := Tm.vsL_len x.args fun y hy => Tm.vs_len y
  rw [Tm.vs_eq, Tm.nodes_eq]
  cases varB x.name with
  | true => simp
  | false => simp only [cond_false]; omega
termination_by SizeOf.sizeOf x
decreasing_by exact Tm.lt_of_mem hy
/-- A name put behind a list, unless it is there. -/
noncomputable def addU (l : List ByteArray) (n : ByteArray) : List ByteArray := bif dec (n ∈ l) then l else l ++ [n]
theorem addU_len (l : List ByteArray) (n : ByteArray) : (addU l n).length ≤ l.length + 1 := by
  unfold addU
  cases dec (n ∈ l) <;> simp
theorem addU_mem {l : List ByteArray} {n m : ByteArray} : m ∈ addU l n ↔ m ∈ l ∨ m = n := by
  unfold addU
  by_cases h : n ∈ l
  · rw [dec_t h, cond_true]
    exact ⟨.inl, fun h' => h'.elim id fun e => e ▸ h⟩
  · rw [dec_f h, cond_false]
    simp
theorem addU_nodup {l : List ByteArray} {n : ByteArray} (h : l.Nodup) : (addU l n).Nodup := by
  unfold addU
  by_cases k : n ∈ l
  · rw [dec_t k]; exact h
  · rw [dec_f k, cond_false, List.nodup_append]
    exact ⟨h, by simp, fun a ha b hb e => by simp at hb; subst hb; subst e; exact k ha⟩
noncomputable def addA (l ns : List ByteArray) : List ByteArray := ns.foldl addU l
theorem addA_len : ∀ (ns l : List ByteArray), (addA l ns).length ≤ l.length + ns.length
  | [], l => by simp [addA]
  | n :: ns, l => by
    have h := addA_len ns (addU l n)
    have h2 := addU_len l n
    simp only [addA, List.foldl_cons, List.length_cons] at h ⊢
    omega
theorem addA_mem : ∀ {ns l : List ByteArray} {m : ByteArray}, m ∈ addA l ns ↔ m ∈ l ∨ m ∈ ns
  | [], l, m => by simp [addA]
  | n :: ns, l, m => by
    have h := addA_mem (ns := ns) (l := addU l n) (m := m)
    simp only [addA, List.foldl_cons] at h ⊢
    rw [h, addU_mem]
    simp only [List.mem_cons]
    exact or_assoc
theorem addA_nodup : ∀ {ns l : List ByteArray}, l.Nodup → (addA l ns).Nodup
  | [], l, h => h
  | n :: ns, l, h => addA_nodup (ns := ns) (addU_nodup h)
theorem addA_app (l a b : List ByteArray) : addA l (a ++ b) = addA (addA l a) b := List.foldl_append
def c_slices_Index_string_string : SC := (.seq (.reg [⟨(some 4), none, (.mv (.c (.int .i64 0)))⟩]) (.seq (.seq (.reg [⟨(some 6), none, (.mv (.t 0))⟩, ⟨(some 7), none, (.len false (.t 6))⟩, ⟨(some 8), none, (.mv (.c (.int .i64 0)))⟩]) (.block 0 (.loop [1, 1, 0, 0, 0, 0, 0, 1, 1, 0, 0, 0, 0, 0, 0, 0, 0, 0, 0] (.seq (.reg [⟨(some 9), none, (.bin .lss false (.t 8) (.t 7))⟩]) (.seq (.cond (.t 9) .skip (.exit 0)) (.seq (.block 1 (.seq (.reg [⟨(some 10), none, (.mv (.t 8))⟩, ⟨(some 5), none, (.mv (.t 10))⟩]) (.seq (.reg [⟨(some 11), none, (.mv (.t 1))⟩, ⟨(some 12), none, (.mv (.t 0))⟩, ⟨(some 13), none, (.mv (.t 5))⟩, ⟨(some 14), none, (.iaddr 1 (.t 12) (.t 13))⟩, ⟨(some 15), none, (.load false 1 (.t 14))⟩, ⟨(some 16), none, (.bin .eql false (.t 11) (.t 15))⟩]) (.cond (.t 16) (.seq (.reg [⟨(some 17), none, (.mv (.t 5))⟩, ⟨(some 4), none, (.mv (.t 17))⟩]) .ret) .skip)))) (.reg [⟨(some 18), none, (.bin .add false (.t 8) (.c (.int .i64 1)))⟩, ⟨(some 8), none, (.mv (.t 18))⟩]))))))) (.seq (.reg [⟨(some 4), none, (.mv (.c (.int .i64 (-(0 + 1)))))⟩]) .ret)))
theorem k_slices_Index_string_string : codeOf Try.prog 67 = some ⟨19, c_slices_Index_string_string, [(.tmp 4)]⟩ := by kernel_rfl
theorem m_slices_Index_string_string : modes 67 = ⟨[], .asis, none, false⟩ := by unfold modes; rfl

def c_slices_Contains_string_string : SC := (.seq (.reg [⟨(some 4), none, (.mv (.c (.bool false)))⟩]) (.seq (.reg [⟨(some 5), none, (.mv (.t 0))⟩, ⟨(some 6), none, (.mv (.t 1))⟩, ⟨(some 7), none, (.call 67 [(.t 5), (.t 6)])⟩, ⟨(some 8), none, (.bin .geq false (.t 7) (.c (.int .i64 0)))⟩, ⟨(some 4), none, (.mv (.t 8))⟩]) .ret))
theorem k_slices_Contains_string_string : codeOf Try.prog 44 = some ⟨9, c_slices_Contains_string_string, [(.tmp 4)]⟩ := by kernel_rfl
theorem m_slices_Contains_string_string : modes 44 = ⟨[], .asis, none, false⟩ := by unfold modes; rfl

theorem indexS_E (xs : List ByteArray) (n : ByteArray) (hl : xs.length ≤ 1099511627776) : E 67 [.arr (xs.map fun s => [D.str s]), .str n] [] = some (.int .i64 (idxP (fun s => dec (n = s)) xs 0), []) := by
  refine E_walk k_slices_Index_string_string m_slices_Index_string_string (of_decide_eq_true rfl) ?_
  simp (disch := omega) only [c_slices_Index_string_string, go_sem, Nat.reduceAdd, Nat.reduceSub, Nat.reduceLT, Nat.reduceLeDiff, Nat.reduceEqDiff, Nat.reduceBEq, Nat.reduceBneDiff, Nat.reduceMul, ↓reduceIte, Int.reduceToNat, reduceCtorEq, Int.reduceNeg, Int.reduceAdd]
  refine go_loop (α := Int) (fun a => ⟨slots 19 0 [(0, .arr (xs.map fun s => [D.str s])), (1, .str n), (7, .int .i64 xs.length), (8, .int .i64 a)], []⟩) (fun a => ∃ k : Nat, a = k ∧ k ≤ (xs).length ∧ idxP (fun s => dec (n = s)) (xs.drop k) a = idxP (fun s => dec (n = s)) xs 0) (fun a => (xs).length - (a).toNat) 0 ⟨0, rfl, Nat.zero_le _, by rw [List.drop_zero]⟩ (by simp (disch := omega) only [go_sem, Nat.reduceAdd, Nat.reduceSub, Nat.reduceLT, Nat.reduceLeDiff, Nat.reduceEqDiff, Nat.reduceBEq, Nat.reduceBneDiff, Nat.reduceMul, ↓reduceIte, Int.reduceToNat, reduceCtorEq, Int.reduceNeg, Int.reduceAdd]) ?_
  rintro i ⟨k, hi, hk, hR⟩
  have hni : i.toNat = k := by omega
  have hni1 : (i + 1).toNat = k + 1 := by omega
  rcases Nat.lt_or_ge k (xs).length with hlt | hge
  · have hg := get_at (fun s => [D.str s]) hlt
    rw [List.drop_eq_getElem_cons hlt, idxP] at hR
    cases hp : dec (n = xs[k]) with
    | true =>
      rw [hp] at hR
      simp (disch := omega) only [go_sem, Nat.reduceAdd, Nat.reduceSub, Nat.reduceLT, Nat.reduceLeDiff, Nat.reduceEqDiff, Nat.reduceBEq, Nat.reduceBneDiff, Nat.reduceMul, ↓reduceIte, Int.reduceToNat, reduceCtorEq, Int.reduceNeg, Int.reduceAdd, hni, hg, hp]
      simpa using hR
    | false =>
      rw [hp] at hR
      simp (disch := omega) only [go_sem, Nat.reduceAdd, Nat.reduceSub, Nat.reduceLT, Nat.reduceLeDiff, Nat.reduceEqDiff, Nat.reduceBEq, Nat.reduceBneDiff, Nat.reduceMul, ↓reduceIte, Int.reduceToNat, reduceCtorEq, Int.reduceNeg, Int.reduceAdd, hni, hg, hp]
      exact ⟨i + 1, ⟨k + 1, by omega, hlt, by simpa using hR⟩, by omega, by first | trivial | rfl⟩
  · rw [List.drop_eq_nil_of_le hge, idxP] at hR
    simp (disch := omega) only [go_sem, Nat.reduceAdd, Nat.reduceSub, Nat.reduceLT, Nat.reduceLeDiff, Nat.reduceEqDiff, Nat.reduceBEq, Nat.reduceBneDiff, Nat.reduceMul, ↓reduceIte, Int.reduceToNat, reduceCtorEq, Int.reduceNeg, Int.reduceAdd, hni]
    exact hR
theorem containsS_E (xs : List ByteArray) (n : ByteArray) (hl : xs.length ≤ 1099511627776) : E 44 [.arr (xs.map fun s => [D.str s]), .str n] [] = some (.bool (dec (n ∈ xs)), []) := by
  have h := indexS_E xs n hl
  have e : dec (n ∈ xs) = dec (0 ≤ idxP (fun s => dec (n = s)) xs 0) := by
    rw [idxP_any]
    by_cases hm : n ∈ xs
    · rw [dec_t hm]
      exact (List.any_eq_true.2 ⟨n, hm, dec_t rfl⟩).symm
    · rw [dec_f hm]
      refine Eq.symm (Bool.eq_false_iff.2 fun h => ?_)
      obtain ⟨x, h1, h2⟩ := List.any_eq_true.1 h
      have e := dec_iff.1 h2
      subst e
      exact hm h1
  rw [e]
  refine E_walk k_slices_Contains_string_string m_slices_Contains_string_string (of_decide_eq_true rfl) ?_
  simp (disch := omega) only [c_slices_Contains_string_string, go_sem, Nat.reduceAdd, Nat.reduceSub, Nat.reduceLT, Nat.reduceLeDiff, Nat.reduceEqDiff, Nat.reduceBEq, Nat.reduceBneDiff, Nat.reduceMul, ↓reduceIte, Int.reduceToNat, reduceCtorEq, Int.reduceNeg, Int.reduceAdd, h, m_slices_Index_string_string]
theorem addA_grow : ∀ (ns l : List ByteArray), l.length ≤ (addA l ns).length
  | [], l => by simp [addA]
  | n :: ns, l => by
    have h := addA_grow ns (addU l n)
    have h2 : l.length ≤ (addU l n).length := by unfold addU; cases dec (n ∈ l) <;> simp
    simp only [addA, List.foldl_cons] at h ⊢
    omega
def c_impl_collect : SC := (.seq (.reg [⟨(some 3), none, (.boxv 30 2 (.t 1))⟩, ⟨(some 4), none, (.mv (.c .nil))⟩]) (.seq (.seq (.reg [⟨(some 7), none, (.faddr 1 (.t 3))⟩, ⟨(some 8), none, (.load false 1 (.t 7))⟩, ⟨(some 9), none, (.len false (.t 8))⟩, ⟨(some 10), none, (.bin .eql false (.t 9) (.c (.int .i64 0)))⟩, ⟨(some 11), none, (.mv (.t 10))⟩, ⟨(some 12), (some (11, true)), (.load true 2 (.t 3))⟩, ⟨(some 13), (some (11, true)), (.call 84 [(.t 12)])⟩, ⟨(some 14), none, (.pick (.t 11) (.t 13) (.c (.bool false)))⟩]) (.cond (.t 14) (.seq (.seq (.reg [⟨(some 15), none, (.mv (.t 0))⟩, ⟨(some 16), none, (.faddr 0 (.t 3))⟩, ⟨(some 17), none, (.load false 1 (.t 16))⟩, ⟨(some 18), none, (.call 44 [(.t 15), (.t 17)])⟩, ⟨(some 19), none, (.un .not (.t 18))⟩]) (.cond (.t 19) (.reg [⟨(some 20), none, (.mv (.t 0))⟩, ⟨(some 21), none, (.faddr 0 (.t 3))⟩, ⟨(some 22), none, (.load false 1 (.t 21))⟩, ⟨(some 23), none, (.mkrow 9 1 [(.str ⟨#[]⟩)] 1 [(0, (.t 22))])⟩, ⟨(some 24), none, (.append 9 1 16 [(.str ⟨#[]⟩)] (.t 20) (.t 23))⟩, ⟨(some 0), none, (.mv (.t 24))⟩]) .skip)) (.seq (.reg [⟨(some 25), none, (.mv (.t 0))⟩, ⟨(some 4), none, (.mv (.t 25))⟩]) .ret)) .skip)) (.seq (.seq (.reg [⟨(some 26), none, (.faddr 1 (.t 3))⟩, ⟨(some 27), none, (.load false 1 (.t 26))⟩, ⟨(some 28), none, (.len false (.t 27))⟩, ⟨(some 29), none, (.mv (.c (.int .i64 0)))⟩]) (.block 0 (.loop [1, 0, 0, 0, 0, 0, 0, 0, 0, 0, 0, 0, 0, 0, 0, 0, 0, 0, 0, 0, 0, 0, 0, 0, 0, 0, 0, 1, 1, 1, 0, 0, 0, 0, 0, 0, 0, 0] (.seq (.reg [⟨(some 30), none, (.bin .lss false (.t 29) (.t 28))⟩]) (.seq (.cond (.t 30) .skip (.exit 0)) (.seq (.block 1 (.seq (.reg [⟨(some 31), none, (.iaddr 2 (.t 27) (.t 29))⟩, ⟨(some 32), none, (.load true 2 (.t 31))⟩, ⟨(some 6), none, (.alloc 30 [(.str ⟨#[]⟩), .nil])⟩, ⟨none, none, (.store 2 (.t 6) (.t 32))⟩]) (.reg [⟨(some 33), none, (.mv (.t 0))⟩, ⟨(some 34), none, (.load true 2 (.t 6))⟩, ⟨(some 35), none, (.call 96 [(.t 33), (.t 34)])⟩, ⟨(some 0), none, (.mv (.t 35))⟩]))) (.reg [⟨(some 36), none, (.bin .add false (.t 29) (.c (.int .i64 1)))⟩, ⟨(some 29), none, (.mv (.t 36))⟩]))))))) (.seq (.reg [⟨(some 37), none, (.mv (.t 0))⟩, ⟨(some 4), none, (.mv (.t 37))⟩]) .ret))))
theorem k_impl_collect : codeOf Try.prog 96 = some ⟨38, c_impl_collect, [(.tmp 4)]⟩ := by kernel_rfl
theorem m_impl_collect : modes 96 = ⟨[true], .asis, none, false⟩ := by unfold modes; rfl

abbrev ColC (x : Tm) : Prop := ∀ l : List ByteArray, l.length + x.nodes ≤ 1048576 → E 96 [.ref 0, x.sv] [.row 9 1 (l.map fun s => [OT.str s])] = some ((bif dec (l.length < (addA l x.vs).length) then .ref 1 else .ref 0), (bif dec (l.length < (addA l x.vs).length) then [.gone, .row 9 1 ((addA l x.vs).map fun s => [OT.str s])] else [.row 9 1 ((addA l x.vs).map fun s => [OT.str s])]))
set_option maxHeartbeats 4000000 in
theorem collect_of (x : Tm) (hx : x.names = true) (hc : x.cok = true) (ih : ∀ y ∈ x.args, ColC y) : ColC x := by
  intro l hn
  have hl := Tm.length_le x.args
  have hne := Tm.nodes_eq x
  have hv := isVar_E x hc
  have hvs := Tm.vs_eq x
  rcases Nat.eq_zero_or_pos x.args.length with h0 | h0
  · have hx0 : x.args = [] := List.eq_nil_of_length_eq_zero h0
    have hz : ((x.args.length : Int) = 0) = True := by rw [hx0]; simp
    cases hvv : varB x.name with
    | true =>
      rw [hvv] at hv hvs
      have h1 := containsS_E l x.name (by omega)
      rw [hvs]
      cases hm : dec (x.name ∈ l) with
      | true =>
        have e : addA l [x.name] = l := by simp only [addA, List.foldl_cons, List.foldl_nil, addU, hm, cond_true]
        rw [hm] at h1
        simp only [cond_true, e]
        refine E_walk k_impl_collect m_impl_collect (of_decide_eq_true rfl) ?_
        simp (disch := omega) only [c_impl_collect, go_sem, Nat.reduceAdd, Nat.reduceSub, Nat.reduceLT, Nat.reduceLeDiff, Nat.reduceEqDiff, Nat.reduceBEq, Nat.reduceBneDiff, Nat.reduceMul, ↓reduceIte, Int.reduceToNat, reduceCtorEq, Int.reduceNeg, Int.reduceAdd, hz, hv, h1, m_impl_isVar, m_slices_Contains_string_string]
      | false =>
        have e : addA l [x.name] = l ++ [x.name] := by simp only [addA, List.foldl_cons, List.foldl_nil, addU, hm, cond_false]
        have hg : l.length < (l ++ [x.name]).length := by simp
        rw [hm] at h1
        simp only [cond_true, e, dec_t hg]
        refine E_walk k_impl_collect m_impl_collect (of_decide_eq_true rfl) ?_
        simp (disch := omega) only [c_impl_collect, go_sem, Nat.reduceAdd, Nat.reduceSub, Nat.reduceLT, Nat.reduceLeDiff, Nat.reduceEqDiff, Nat.reduceBEq, Nat.reduceBneDiff, Nat.reduceMul, ↓reduceIte, Int.reduceToNat, reduceCtorEq, Int.reduceNeg, Int.reduceAdd, hz, hv, h1, m_impl_isVar, m_slices_Contains_string_string]
        simp only [List.map_append, List.map_cons, List.map_nil]
    | false =>
      rw [hvv] at hv hvs
      have e : addA l x.vs = l := by rw [hvs, hx0]; simp only [cond_false, Tm.vsL]; rfl
      rw [e]
      refine E_walk k_impl_collect m_impl_collect (of_decide_eq_true rfl) ?_
      simp (disch := omega) only [c_impl_collect, go_sem, Nat.reduceAdd, Nat.reduceSub, Nat.reduceLT, Nat.reduceLeDiff, Nat.reduceEqDiff, Nat.reduceBEq, Nat.reduceBneDiff, Nat.reduceMul, ↓reduceIte, Int.reduceToNat, reduceCtorEq, Int.reduceNeg, Int.reduceAdd, hz, hv, m_impl_isVar]
      refine go_loop (α := Int) (fun a => ⟨slots 38 0 [(0, .ref 0), (27, .arr (x.args.map Tm.d)), (28, .int .i64 x.args.length), (29, .int .i64 a)], [.row 9 1 (l.map fun s => [OT.str s])]⟩) (fun a => ∃ k : Nat, a = k ∧ k ≤ (x.args).length) (fun a => (x.args).length - (a).toNat) 0 ⟨0, rfl, Nat.zero_le _⟩ (by simp (disch := omega) only [go_sem, Nat.reduceAdd, Nat.reduceSub, Nat.reduceLT, Nat.reduceLeDiff, Nat.reduceEqDiff, Nat.reduceBEq, Nat.reduceBneDiff, Nat.reduceMul, ↓reduceIte, Int.reduceToNat, reduceCtorEq, Int.reduceNeg, Int.reduceAdd]) ?_
      rintro i ⟨k, hi, hk⟩
      have hni : i.toNat = k := by omega
      have hni1 : (i + 1).toNat = k + 1 := by omega
      rcases Nat.lt_or_ge k (x.args).length with hlt | hge
      · omega
      · simp (disch := omega) only [go_sem, Nat.reduceAdd, Nat.reduceSub, Nat.reduceLT, Nat.reduceLeDiff, Nat.reduceEqDiff, Nat.reduceBEq, Nat.reduceBneDiff, Nat.reduceMul, ↓reduceIte, Int.reduceToNat, reduceCtorEq, Int.reduceNeg, Int.reduceAdd, hni]
  · have hz : ((x.args.length : Int) = 0) = False := eq_false (by omega)
    have hvv : varB x.name = false := by
      cases h : varB x.name with
      | false => rfl
      | true => rw [Tm.names_var hx h] at h0; simp at h0
    rw [hvv] at hvs
    simp only [cond_false] at hvs
    rw [hvs]
    refine E_walk k_impl_collect m_impl_collect (of_decide_eq_true rfl) ?_
    simp (disch := omega) only [c_impl_collect, go_sem, Nat.reduceAdd, Nat.reduceSub, Nat.reduceLT, Nat.reduceLeDiff, Nat.reduceEqDiff, Nat.reduceBEq, Nat.reduceBneDiff, Nat.reduceMul, ↓reduceIte, Int.reduceToNat, reduceCtorEq, Int.reduceNeg, Int.reduceAdd, hz]
    refine go_loop (α := Int × (List ByteArray)) (fun a => ⟨slots 38 0 [(0, (bif dec (l.length < (a.2).length) then .ref 1 else .ref 0)), (27, .arr (x.args.map Tm.d)), (28, .int .i64 x.args.length), (29, .int .i64 (a.1))], (bif dec (l.length < (a.2).length) then [.gone, .row 9 1 ((a.2).map fun s => [OT.str s])] else [.row 9 1 ((a.2).map fun s => [OT.str s])])⟩) (fun a => ∃ k : Nat, a.1 = k ∧ k ≤ (x.args).length ∧ addA (a.2) (Tm.vsL (x.args.drop k)) = addA l (Tm.vsL x.args) ∧ (a.2).length + Tm.nodeS (x.args.drop k) ≤ 1048576 ∧ l.length ≤ (a.2).length) (fun a => (x.args).length - (a.1).toNat) (0, l) ⟨0, rfl, Nat.zero_le _, by rw [List.drop_zero], by rw [List.drop_zero]; dsimp only; omega, Nat.le_refl _⟩ (by simp (disch := omega) only [go_sem, Nat.reduceAdd, Nat.reduceSub, Nat.reduceLT, Nat.reduceLeDiff, Nat.reduceEqDiff, Nat.reduceBEq, Nat.reduceBneDiff, Nat.reduceMul, ↓reduceIte, Int.reduceToNat, reduceCtorEq, Int.reduceNeg, Int.reduceAdd]) ?_
    rintro ⟨i, acc⟩ ⟨k, hi, hk, hR⟩
    dsimp only at hi hR
    have hni : i.toNat = k := by omega
    have hni1 : (i + 1).toNat = k + 1 := by omega
    rcases Nat.lt_or_ge k (x.args).length with hlt | hge
    · have hg := get_at Tm.d hlt
      rw [Tm.d_eq] at hg
      obtain ⟨hR1, hR2, hR3⟩ := hR
      rw [List.drop_eq_getElem_cons hlt, Tm.vsL, addA_app] at hR1
      rw [List.drop_eq_getElem_cons hlt, Tm.nodeS] at hR2
      have hc := ih x.args[k] (List.getElem_mem hlt) acc (by omega)
      have hlen := addA_len x.args[k].vs acc
      have hgr := addA_grow x.args[k].vs acc
      have hvl := Tm.vs_len x.args[k]
      obtain ⟨acc2, ha2⟩ : ∃ a, a = addA acc x.args[k].vs := ⟨_, rfl⟩
      rw [← ha2] at hc hlen hgr hR1
      rcases Nat.lt_or_ge l.length acc.length with q1 | q1 <;> rcases Nat.lt_or_ge acc.length acc2.length with q2 | q2
      all_goals
        first
          | rw [dec_t q2] at hc
          | rw [dec_f (Nat.not_lt.2 q2)] at hc
        simp only [cond_true, cond_false] at hc
        simp (disch := omega) only [go_sem, Nat.reduceAdd, Nat.reduceSub, Nat.reduceLT, Nat.reduceLeDiff, Nat.reduceEqDiff, Nat.reduceBEq, Nat.reduceBneDiff, Nat.reduceMul, ↓reduceIte, Int.reduceToNat, reduceCtorEq, Int.reduceNeg, Int.reduceAdd, hni, hg, hc, m_impl_collect]
        refine ⟨(i + 1, acc2), ⟨k + 1, by dsimp only; omega, hlt, hR1, by dsimp only; omega, by dsimp only; omega⟩, by dsimp only; omega, ?_⟩
        first | done | simp (disch := omega) only [go_sem, Nat.reduceAdd, Nat.reduceSub, Nat.reduceLT, Nat.reduceLeDiff, Nat.reduceEqDiff, Nat.reduceBEq, Nat.reduceBneDiff, Nat.reduceMul, ↓reduceIte, Int.reduceToNat, reduceCtorEq, Int.reduceNeg, Int.reduceAdd]
    · rw [List.drop_eq_nil_of_le hge, Tm.vsL] at hR
      obtain ⟨hR1, hR2, hR3⟩ := hR
      have hR1 : acc = addA l (Tm.vsL x.args) := hR1
      rw [← hR1]
      rcases Nat.lt_or_ge l.length acc.length with q1 | q1
      · simp (disch := omega) only [go_sem, Nat.reduceAdd, Nat.reduceSub, Nat.reduceLT, Nat.reduceLeDiff, Nat.reduceEqDiff, Nat.reduceBEq, Nat.reduceBneDiff, Nat.reduceMul, ↓reduceIte, Int.reduceToNat, reduceCtorEq, Int.reduceNeg, Int.reduceAdd, hni]
      · simp (disch := omega) only [go_sem, Nat.reduceAdd, Nat.reduceSub, Nat.reduceLT, Nat.reduceLeDiff, Nat.reduceEqDiff, Nat.reduceBEq, Nat.reduceBneDiff, Nat.reduceMul, ↓reduceIte, Int.reduceToNat, reduceCtorEq, Int.reduceNeg, Int.reduceAdd, hni]
theorem collect_E (x : Tm) (hx : x.names = true) (hc : x.cok = true) : ColC x :=
  collect_of x hx hc fun y hy => collect_E y (Tm.names_arg hx hy) (by rw [Tm.cok_eq, Bool.and_eq_true] at hc; exact Tm.cokS_mem hc.2 hy)
termination_by SizeOf.sizeOf x
decreasing_by exact Tm.lt_of_mem hy
/-! The variables of a term, sorted. -/
noncomputable def srtB (l : List ByteArray) : List ByteArray := (srt (l.map (·.toList))).map fun x => ⟨x.toArray⟩
theorem srtB_perm (l : List ByteArray) : (srtB l).Perm l := by
  unfold srtB
  have h : (srt (l.map (·.toList))).Perm (l.map (·.toList)) := List.mergeSort_perm _ _
  have h2 := h.map fun x : List UInt8 => (⟨x.toArray⟩ : ByteArray)
  rw [List.map_map] at h2
  have e : ((fun x : List UInt8 => (⟨x.toArray⟩ : ByteArray)) ∘ fun x : ByteArray => x.toList) = id := by
    funext x
    exact bytes_back x
  rw [e, List.map_id] at h2
  exact h2
theorem m_slices_Sort_string_string : modes 25 = ⟨[true], .asis, some sortStr, false⟩ := by unfold modes; rfl
theorem sortS_E (l : List ByteArray) (hl : l.length ≤ 1099511627776) : E 25 [.ref 0] [.row 9 1 (l.map fun s => [OT.str s])] = some (.tup [], [.row 9 1 ((srtB l).map fun s => [OT.str s])]) := by
  rw [E_extO (g := sortStr) (congrArg FM.ext m_slices_Sort_string_string)]
  unfold sortStr
  simp only
  rw [dec_t ⟨by first | trivial | rfl, fun e he => by obtain ⟨s, _, rfl⟩ := List.mem_map.1 he; exact ⟨s, rfl⟩, by simpa using hl⟩, cond_true]
  have e1 : (l.map fun s => [OT.str s]).map (fun e => (keyB e).toList) = l.map (·.toList) := by rw [List.map_map]; rfl
  rw [e1]
  unfold srtB
  rw [List.map_map]
  rfl
def c_impl_variables : SC := (.seq (.reg [⟨(some 1), none, (.boxv 30 2 (.t 0))⟩, ⟨(some 2), none, (.mv (.c .nil))⟩]) (.seq (.reg [⟨(some 4), none, (.mkrow 9 1 [(.str ⟨#[]⟩)] 0 [])⟩, ⟨(some 5), none, (.load true 2 (.t 1))⟩, ⟨(some 6), none, (.call 96 [(.t 4), (.t 5)])⟩, ⟨(some 3), none, (.mv (.t 6))⟩]) (.seq (.reg [⟨(some 7), none, (.mv (.t 3))⟩, ⟨(some 8), none, (.call 25 [(.t 7)])⟩]) (.seq (.reg [⟨(some 9), none, (.mv (.t 3))⟩, ⟨(some 2), none, (.mv (.t 9))⟩]) .ret))))
theorem k_impl_variables : codeOf Try.prog 81 = some ⟨10, c_impl_variables, [(.tmp 2)]⟩ := by kernel_rfl
theorem m_impl_variables : modes 81 = ⟨[], .asis, none, false⟩ := by unfold modes; rfl

noncomputable def Tm.vars (x : Tm) : List ByteArray := srtB (addA [] x.vs)
theorem Tm.vars_mem (x : Tm) (n : ByteArray) : n ∈ x.vars ↔ n ∈ x.vs := by
  unfold Tm.vars
  rw [(srtB_perm _).mem_iff, addA_mem]
  simp
theorem variables_E (x : Tm) (hx : x.names = true) (hc : x.cok = true) (hn : x.nodes ≤ 1048576) : E 81 [x.sv] [] = some (.ref 0, [.row 9 1 (x.vars.map fun s => [OT.str s])]) := by
  have h1 := collect_E x hx hc [] (by simpa using hn)
  have hl := addA_len x.vs []
  have hv := Tm.vs_len x
  rw [List.length_nil, Nat.zero_add] at hl
  have h2 := sortS_E (addA [] x.vs) (by omega)
  rw [List.map_nil, List.length_nil] at h1
  unfold Tm.vars
  rcases Nat.lt_or_ge 0 (addA [] x.vs).length with q | q
  · rw [dec_t q] at h1
    simp only [cond_true] at h1
    refine E_walk k_impl_variables m_impl_variables (of_decide_eq_true rfl) ?_
    simp (disch := omega) only [c_impl_variables, go_sem, Nat.reduceAdd, Nat.reduceSub, Nat.reduceLT, Nat.reduceLeDiff, Nat.reduceEqDiff, Nat.reduceBEq, Nat.reduceBneDiff, Nat.reduceMul, ↓reduceIte, Int.reduceToNat, reduceCtorEq, Int.reduceNeg, Int.reduceAdd, h1, h2, m_impl_collect, m_slices_Sort_string_string]
  · rw [dec_f (by omega)] at h1
    simp only [cond_false] at h1
    refine E_walk k_impl_variables m_impl_variables (of_decide_eq_true rfl) ?_
    simp (disch := omega) only [c_impl_variables, go_sem, Nat.reduceAdd, Nat.reduceSub, Nat.reduceLT, Nat.reduceLeDiff, Nat.reduceEqDiff, Nat.reduceBEq, Nat.reduceBneDiff, Nat.reduceMul, ↓reduceIte, Int.reduceToNat, reduceCtorEq, Int.reduceNeg, Int.reduceAdd, h1, h2, m_impl_collect, m_slices_Sort_string_string]
end Go.Proofs.Ythbkkiogbikbcaa

set_option maxRecDepth 100000
set_option linter.unusedSimpArgs false
set_option linter.unusedVariables false
namespace Go.Proofs.Ythbkkiogbikbcaa
open Go.RowKit

/-- A name put at its place in an ascending list. -/
noncomputable def insU : List ByteArray → ByteArray → List ByteArray
  | [], n => [n]
  | x :: xs, n => bif strLt x n then x :: insU xs n else bif dec (x = n) then x :: xs else n :: x :: xs
noncomputable def lowS : List ByteArray → ByteArray → Nat
  | [], _ => 0
  | x :: xs, n => bif strLt x n then lowS xs n + 1 else 0
theorem insU_mem : ∀ {xs : List ByteArray} {n m : ByteArray}, m ∈ insU xs n ↔ m ∈ xs ∨ m = n
  | [], n, m => by simp [insU]
  | x :: xs, n, m => by
    rw [insU]
    cases strLt x n with
    | true => rw [cond_true, List.mem_cons, insU_mem, List.mem_cons, or_assoc]
    | false =>
      rw [cond_false]
      by_cases h : x = n
      · rw [dec_t h, cond_true]
        exact ⟨.inl, fun h' => h'.elim id fun e => by subst e; subst h; simp⟩
      · rw [dec_f h, cond_false, List.mem_cons]
        exact or_comm
theorem insU_len : ∀ (xs : List ByteArray) (n : ByteArray), (insU xs n).length ≤ xs.length + 1
  | [], n => by simp [insU]
  | x :: xs, n => by
    have h := insU_len xs n
    rw [insU]
    cases strLt x n with
    | true => simp only [cond_true, List.length_cons]; omega
    | false =>
      rw [cond_false]
      cases dec (x = n) with
      | true => simp only [cond_true, List.length_cons]; omega
      | false => simp only [cond_false, List.length_cons]; omega
theorem lowS_le : ∀ (xs : List ByteArray) (n : ByteArray), lowS xs n ≤ xs.length
  | [], n => by simp [lowS]
  | x :: xs, n => by
    have h := lowS_le xs n
    rw [lowS]
    cases strLt x n with
    | true => simp only [cond_true, List.length_cons]; omega
    | false => simp only [cond_false, List.length_cons]; omega
/-- Where the name goes. -/
theorem insU_there : ∀ {xs : List ByteArray} {n : ByteArray} (h : lowS xs n < xs.length), xs[lowS xs n] = n → insU xs n = xs
  | [], n, h, _ => by simp at h
  | x :: xs, n, h, e => by
    rw [insU]
    cases hq : strLt x n with
    | true =>
      simp only [lowS, hq, cond_true, List.length_cons, List.getElem_cons_succ] at h e
      rw [cond_true, insU_there (by omega) e]
    | false =>
      simp only [lowS, hq, cond_false, List.getElem_cons_zero] at e
      rw [cond_false, dec_t e]; rfl
theorem insU_new : ∀ {xs : List ByteArray} {n : ByteArray}, (∀ h : lowS xs n < xs.length, ¬ xs[lowS xs n] = n) → insU xs n = xs.take (lowS xs n) ++ n :: xs.drop (lowS xs n)
  | [], n, _ => by simp [insU, lowS]
  | x :: xs, n, h => by
    rw [insU]
    cases hq : strLt x n with
    | true =>
      simp only [lowS, hq, cond_true, List.length_cons, List.getElem_cons_succ] at h ⊢
      rw [insU_new fun h' => h (by omega)]
      simp
    | false =>
      simp only [lowS, hq, cond_false, List.getElem_cons_zero] at h ⊢
      rw [dec_f (h (by simp))]
      simp
theorem lowS_drop {xs : List ByteArray} {n : ByteArray} {k : Nat} (h : k + lowS (xs.drop k) n = lowS xs n) (hk : k < xs.length) : (strLt xs[k] n = true ∧ k + 1 + lowS (xs.drop (k + 1)) n = lowS xs n) ∨ (strLt xs[k] n = false ∧ k = lowS xs n) := by
  rw [List.drop_eq_getElem_cons hk, lowS] at h
  cases hq : strLt xs[k] n with
  | true => rw [hq, cond_true] at h; exact .inl ⟨rfl, by omega⟩
  | false => rw [hq, cond_false] at h; exact .inr ⟨rfl, by omega⟩
theorem ot_take (xs : List ByteArray) (k : Nat) : ((xs.map fun s => [D.str s]).take k).map (fun x => x.map D.ot) = (xs.take k).map fun s => [OT.str s] := by
  rw [← List.map_take, List.map_map]; rfl
theorem ot_drop (xs : List ByteArray) (k : Nat) : ((xs.map fun s => [D.str s]).drop k).map (fun x => x.map D.ot) = (xs.drop k).map fun s => [OT.str s] := by
  rw [← List.map_drop, List.map_map]; rfl
theorem al_strs (xs : List ByteArray) : ((xs.map fun s => [OT.str s]).all fun l => l.length == 1) = true := by
  rw [List.all_map, List.all_eq_true]
  intro x _; rfl
theorem al_dstrs (xs : List ByteArray) : ((xs.map fun s => [D.str s]).all fun l => l.length == 1) = true := by
  rw [List.all_map, List.all_eq_true]
  intro x _; rfl
def c_spec_l2Put : SC := (.seq (.reg [⟨(some 4), none, (.mv (.c .nil))⟩]) (.seq (.reg [⟨(some 5), none, (.mv (.c (.int .i64 0)))⟩]) (.seq (.block 0 (.loop [1, 1, 0, 0, 0, 1, 0, 0, 0, 0, 0, 0, 0, 0, 0, 0, 0, 0, 0, 0, 0, 0, 0, 0, 0, 0, 0, 0, 0, 0, 0, 0, 0, 0, 0, 0, 0, 0, 0, 0, 0, 0, 0, 0, 0] (.seq (.seq (.reg [⟨(some 6), none, (.mv (.t 5))⟩, ⟨(some 7), none, (.mv (.t 0))⟩, ⟨(some 8), none, (.len false (.t 7))⟩, ⟨(some 9), none, (.bin .lss false (.t 6) (.t 8))⟩, ⟨(some 10), none, (.mv (.t 9))⟩, ⟨(some 11), (some (10, true)), (.mv (.t 0))⟩, ⟨(some 12), (some (10, true)), (.mv (.t 5))⟩, ⟨(some 13), (some (10, true)), (.iaddr 1 (.t 11) (.t 12))⟩, ⟨(some 14), (some (10, true)), (.load false 1 (.t 13))⟩, ⟨(some 15), (some (10, true)), (.mv (.t 1))⟩, ⟨(some 16), (some (10, true)), (.bin .lss false (.t 14) (.t 15))⟩, ⟨(some 17), none, (.pick (.t 10) (.t 16) (.c (.bool false)))⟩]) (.cond (.t 17) .skip (.exit 0))) (.block 1 (.reg [⟨(some 18), none, (.mv (.t 5))⟩, ⟨(some 19), none, (.bin .add false (.t 18) (.c (.int .i64 1)))⟩, ⟨(some 5), none, (.mv (.t 19))⟩]))))) (.seq (.seq (.reg [⟨(some 20), none, (.mv (.t 5))⟩, ⟨(some 21), none, (.mv (.t 0))⟩, ⟨(some 22), none, (.len false (.t 21))⟩, ⟨(some 23), none, (.bin .lss false (.t 20) (.t 22))⟩, ⟨(some 24), none, (.mv (.t 23))⟩, ⟨(some 25), (some (24, true)), (.mv (.t 0))⟩, ⟨(some 26), (some (24, true)), (.mv (.t 5))⟩, ⟨(some 27), (some (24, true)), (.iaddr 1 (.t 25) (.t 26))⟩, ⟨(some 28), (some (24, true)), (.load false 1 (.t 27))⟩, ⟨(some 29), (some (24, true)), (.mv (.t 1))⟩, ⟨(some 30), (some (24, true)), (.bin .eql false (.t 28) (.t 29))⟩, ⟨(some 31), none, (.pick (.t 24) (.t 30) (.c (.bool false)))⟩]) (.cond (.t 31) (.seq (.reg [⟨(some 32), none, (.mv (.t 0))⟩, ⟨(some 4), none, (.mv (.t 32))⟩]) .ret) .skip)) (.seq (.dreg [[], [], [], [1, 2], [0, 3, 1, 2], [], [5], [4, 0, 3, 1, 2, 6, 5], [], [], [8, 9], [7, 4, 0, 3, 1, 2, 6, 5, 10, 8, 9], [11, 7, 4, 0, 3, 1, 2, 6, 5, 10, 8, 9]] [⟨(some 33), none, (.mkrow 9 1 [(.str ⟨#[]⟩)] 0 [])⟩, ⟨(some 34), none, (.mv (.t 0))⟩, ⟨(some 35), none, (.mv (.t 5))⟩, ⟨(some 36), none, (.slice false 1 (.t 34) none (some (.t 35)))⟩, ⟨(some 37), none, (.append 9 1 16 [(.str ⟨#[]⟩)] (.t 33) (.t 36))⟩, ⟨(some 38), none, (.mv (.t 1))⟩, ⟨(some 39), none, (.mkrow 9 1 [(.str ⟨#[]⟩)] 1 [(0, (.t 38))])⟩, ⟨(some 40), none, (.append 9 1 16 [(.str ⟨#[]⟩)] (.t 37) (.t 39))⟩, ⟨(some 41), none, (.mv (.t 0))⟩, ⟨(some 42), none, (.mv (.t 5))⟩, ⟨(some 43), none, (.slice false 1 (.t 41) (some (.t 42)) none)⟩, ⟨(some 44), none, (.append 9 1 16 [(.str ⟨#[]⟩)] (.t 40) (.t 43))⟩, ⟨(some 4), none, (.mv (.t 44))⟩]) .ret)))))
theorem k_spec_l2Put : codeOf Try.prog 32 = some ⟨45, c_spec_l2Put, [(.tmp 4)]⟩ := by kernel_rfl
theorem m_spec_l2Put : modes 32 = ⟨[], .frz, none, false⟩ := by unfold modes; rfl

set_option maxHeartbeats 4000000 in
theorem l2Put_E (xs : List ByteArray) (n : ByteArray) (hl : xs.length ≤ 1048576) : E 32 [.arr (xs.map fun s => [D.str s]), .str n] [] = some (.arr ((insU xs n).map fun s => [D.str s]), []) := by
  have e1 := ot_take xs (lowS xs n)
  have e2 := ot_drop xs (lowS xs n)
  have e3 := al_strs (xs.take (lowS xs n))
  have e4 := al_strs (xs.drop (lowS xs n))
  have e5 := al_dstrs xs
  have l1 := lowS_le xs n
  have e6 : (xs.map fun s => [D.str s]).take xs.length = xs.map fun s => [D.str s] := List.take_of_length_le (by simp)
  have e7 : (xs.take (lowS xs n)).length = lowS xs n := by rw [List.length_take]; omega
  have e8 : (xs.drop (lowS xs n)).length = xs.length - lowS xs n := List.length_drop
  have hf : ∀ ys : List ByteArray, ys = insU xs n → (ys.map fun s => [OT.str s]) = (insU xs n).map fun s => [OT.str s] := fun ys h => by rw [h]
  refine E_walk k_spec_l2Put m_spec_l2Put (of_decide_eq_true rfl) ?_
  simp (disch := omega) only [c_spec_l2Put, go_sem, Nat.reduceAdd, Nat.reduceSub, Nat.reduceLT, Nat.reduceLeDiff, Nat.reduceEqDiff, Nat.reduceBEq, Nat.reduceBneDiff, Nat.reduceMul, ↓reduceIte, Int.reduceToNat, reduceCtorEq, Int.reduceNeg, Int.reduceAdd]
  refine go_loop (α := Int) (fun a => ⟨slots 45 0 [(0, .arr (xs.map fun s => [D.str s])), (1, .str n), (5, .int .i64 a)], []⟩) (fun a => ∃ k : Nat, a = k ∧ k ≤ (xs).length ∧ k + lowS (xs.drop k) n = lowS xs n) (fun a => (xs).length - (a).toNat) 0 ⟨0, rfl, Nat.zero_le _, by rw [List.drop_zero, Nat.zero_add]⟩ (by simp (disch := omega) only [go_sem, Nat.reduceAdd, Nat.reduceSub, Nat.reduceLT, Nat.reduceLeDiff, Nat.reduceEqDiff, Nat.reduceBEq, Nat.reduceBneDiff, Nat.reduceMul, ↓reduceIte, Int.reduceToNat, reduceCtorEq, Int.reduceNeg, Int.reduceAdd]) ?_
  rintro i ⟨k, hi, hk, hR⟩
  have hni : i.toNat = k := by omega
  have hni1 : (i + 1).toNat = k + 1 := by omega
  rcases Nat.lt_or_ge k (xs).length with hlt | hge
  · have hg := get_at (fun s => [D.str s]) hlt
    rcases lowS_drop hR hlt with ⟨q, hR'⟩ | ⟨q, hk'⟩
    · simp (disch := omega) only [go_sem, Nat.reduceAdd, Nat.reduceSub, Nat.reduceLT, Nat.reduceLeDiff, Nat.reduceEqDiff, Nat.reduceBEq, Nat.reduceBneDiff, Nat.reduceMul, ↓reduceIte, Int.reduceToNat, reduceCtorEq, Int.reduceNeg, Int.reduceAdd, hni, hg, q]
      exact ⟨i + 1, ⟨k + 1, by omega, hlt, hR'⟩, by omega, by first | trivial | rfl⟩
    · subst hk'
      by_cases h0 : xs[lowS xs n] = n
      · have hi0 := insU_there hlt h0
        rw [hi0]
        simp (disch := omega) only [go_sem, Nat.reduceAdd, Nat.reduceSub, Nat.reduceLT, Nat.reduceLeDiff, Nat.reduceEqDiff, Nat.reduceBEq, Nat.reduceBneDiff, Nat.reduceMul, ↓reduceIte, Int.reduceToNat, reduceCtorEq, Int.reduceNeg, Int.reduceAdd, hni, hg, q, h0, e6, strLt_self, dec_refl]
      · have hi0 := insU_new (fun _ => h0)
        have hx : (xs.take (lowS xs n)).map (fun s => [OT.str s]) ++ ([[OT.str n]] ++ (xs.drop (lowS xs n)).map (fun s => [OT.str s])) = (insU xs n).map fun s => [OT.str s] := by rw [hi0]; simp
        have hx2 : (xs.take (lowS xs n)).map (fun s => [OT.str s]) ++ [[OT.str n]] ++ (xs.drop (lowS xs n)).map (fun s => [OT.str s]) = (insU xs n).map fun s => [OT.str s] := by rw [hi0]; simp
        simp (disch := omega) only [go_sem, Nat.reduceAdd, Nat.reduceSub, Nat.reduceLT, Nat.reduceLeDiff, Nat.reduceEqDiff, Nat.reduceBEq, Nat.reduceBneDiff, Nat.reduceMul, ↓reduceIte, Int.reduceToNat, reduceCtorEq, Int.reduceNeg, Int.reduceAdd, hni, hg, q, h0, e1, e2, e3, e4, e5, e6, e7, e8, hx2, List.length_append, Int.toNat_zero]
  · obtain rfl : k = xs.length := by omega
    have hk' : xs.length = lowS xs n := by rw [← hR, List.drop_eq_nil_of_le (Nat.le_refl _)]; simp [lowS]
    have hi0 := insU_new (xs := xs) (n := n) (fun h => by omega)
    have hx2 : (xs.take (lowS xs n)).map (fun s => [OT.str s]) ++ [[OT.str n]] ++ (xs.drop (lowS xs n)).map (fun s => [OT.str s]) = (insU xs n).map fun s => [OT.str s] := by rw [hi0]; simp
    rw [hk'] at hni
    simp (disch := omega) only [go_sem, Nat.reduceAdd, Nat.reduceSub, Nat.reduceLT, Nat.reduceLeDiff, Nat.reduceEqDiff, Nat.reduceBEq, Nat.reduceBneDiff, Nat.reduceMul, ↓reduceIte, Int.reduceToNat, reduceCtorEq, Int.reduceNeg, Int.reduceAdd, hni, e1, e2, e3, e4, e5, e6, e7, e8, hx2, List.length_append, Int.toNat_zero]
noncomputable def insA (l ns : List ByteArray) : List ByteArray := ns.foldl insU l
theorem insA_len : ∀ (ns l : List ByteArray), (insA l ns).length ≤ l.length + ns.length
  | [], l => by simp [insA]
  | n :: ns, l => by
    have h := insA_len ns (insU l n)
    have h2 := insU_len l n
    simp only [insA, List.foldl_cons, List.length_cons] at h ⊢
    omega
theorem insA_mem : ∀ {ns l : List ByteArray} {m : ByteArray}, m ∈ insA l ns ↔ m ∈ l ∨ m ∈ ns
  | [], l, m => by simp [insA]
  | n :: ns, l, m => by
    have h := insA_mem (ns := ns) (l := insU l n) (m := m)
    simp only [insA, List.foldl_cons] at h ⊢
    rw [h, insU_mem]
    simp only [List.mem_cons]
    exact or_assoc
theorem insA_app (l a b : List ByteArray) : insA l (a ++ b) = insA (insA l a) b := List.foldl_append
def c_spec_l2Into : SC := (.seq (.reg [⟨(some 3), none, (.boxv 30 2 (.t 1))⟩, ⟨(some 4), none, (.mv (.c .nil))⟩]) (.seq (.seq (.reg [⟨(some 6), none, (.faddr 0 (.t 3))⟩, ⟨(some 7), none, (.load false 1 (.t 6))⟩, ⟨(some 8), none, (.call 30 [(.t 7)])⟩]) (.cond (.t 8) (.seq (.reg [⟨(some 9), none, (.mv (.t 0))⟩, ⟨(some 10), none, (.faddr 0 (.t 3))⟩, ⟨(some 11), none, (.load false 1 (.t 10))⟩, ⟨(some 12), none, (.call 32 [(.t 9), (.t 11)])⟩, ⟨(some 4), none, (.mv (.t 12))⟩]) .ret) .skip)) (.seq (.seq (.reg [⟨(some 5), none, (.mv (.c (.int .i64 0)))⟩]) (.block 0 (.loop [1, 0, 0, 1, 0, 1, 0, 0, 0, 0, 0, 0, 0, 0, 0, 0, 0, 0, 0, 0, 0, 0, 0, 0, 0, 0, 0, 0] (.seq (.seq (.reg [⟨(some 13), none, (.mv (.t 5))⟩, ⟨(some 14), none, (.faddr 1 (.t 3))⟩, ⟨(some 15), none, (.load false 1 (.t 14))⟩, ⟨(some 16), none, (.len false (.t 15))⟩, ⟨(some 17), none, (.bin .lss false (.t 13) (.t 16))⟩]) (.cond (.t 17) .skip (.exit 0))) (.seq (.block 1 (.reg [⟨(some 20), none, (.mv (.t 0))⟩, ⟨(some 21), none, (.faddr 1 (.t 3))⟩, ⟨(some 22), none, (.load false 1 (.t 21))⟩, ⟨(some 23), none, (.mv (.t 5))⟩, ⟨(some 24), none, (.iaddr 2 (.t 22) (.t 23))⟩, ⟨(some 25), none, (.load true 2 (.t 24))⟩, ⟨(some 26), none, (.call 97 [(.t 20), (.t 25)])⟩, ⟨(some 0), none, (.mv (.t 26))⟩])) (.reg [⟨(some 18), none, (.mv (.t 5))⟩, ⟨(some 19), none, (.bin .add false (.t 18) (.c (.int .i64 1)))⟩, ⟨(some 5), none, (.mv (.t 19))⟩])))))) (.seq (.reg [⟨(some 27), none, (.mv (.t 0))⟩, ⟨(some 4), none, (.mv (.t 27))⟩]) .ret))))
theorem k_spec_l2Into : codeOf Try.prog 97 = some ⟨28, c_spec_l2Into, [(.tmp 4)]⟩ := by kernel_rfl
theorem m_spec_l2Into : modes 97 = ⟨[], .asis, none, false⟩ := by unfold modes; rfl

def c_spec_l2Vars : SC := (.seq (.reg [⟨(some 1), none, (.boxv 30 2 (.t 0))⟩, ⟨(some 2), none, (.mv (.c .nil))⟩]) (.seq (.reg [⟨(some 3), none, (.mkrow 9 1 [(.str ⟨#[]⟩)] 0 [])⟩, ⟨(some 4), none, (.load true 2 (.t 1))⟩, ⟨(some 5), none, (.call 97 [(.t 3), (.t 4)])⟩, ⟨(some 2), none, (.mv (.t 5))⟩]) .ret))
theorem k_spec_l2Vars : codeOf Try.prog 88 = some ⟨6, c_spec_l2Vars, [(.tmp 2)]⟩ := by kernel_rfl
theorem m_spec_l2Vars : modes 88 = ⟨[], .frz, none, false⟩ := by unfold modes; rfl

abbrev IntoC (x : Tm) : Prop := ∀ l : List ByteArray, l.length + x.nodes ≤ 1048576 → E 97 [.arr (l.map fun s => [D.str s]), x.sv] [] = some (.arr ((insA l x.vs).map fun s => [D.str s]), [])
set_option maxHeartbeats 4000000 in
theorem l2Into_of (x : Tm) (ih : ∀ y ∈ x.args, IntoC y) : IntoC x := by
  intro l hn
  have hl := Tm.length_le x.args
  have hne := Tm.nodes_eq x
  have hvs := Tm.vs_eq x
  have hp := l2Put_E l x.name (by omega)
  cases hvv : varB x.name with
  | true =>
    rw [hvv] at hvs
    have e : insA l x.vs = insU l x.name := by rw [hvs]; rfl
    rw [e]
    refine E_walk k_spec_l2Into m_spec_l2Into (of_decide_eq_true rfl) ?_
    simp (disch := omega) only [c_spec_l2Into, go_sem, Nat.reduceAdd, Nat.reduceSub, Nat.reduceLT, Nat.reduceLeDiff, Nat.reduceEqDiff, Nat.reduceBEq, Nat.reduceBneDiff, Nat.reduceMul, ↓reduceIte, Int.reduceToNat, reduceCtorEq, Int.reduceNeg, Int.reduceAdd, hvv, hp, m_spec_l2Var, l2Var_E, m_spec_l2Put]
  | false =>
    rw [hvv] at hvs
    simp only [cond_false] at hvs
    rw [hvs]
    refine E_walk k_spec_l2Into m_spec_l2Into (of_decide_eq_true rfl) ?_
    simp (disch := omega) only [c_spec_l2Into, go_sem, Nat.reduceAdd, Nat.reduceSub, Nat.reduceLT, Nat.reduceLeDiff, Nat.reduceEqDiff, Nat.reduceBEq, Nat.reduceBneDiff, Nat.reduceMul, ↓reduceIte, Int.reduceToNat, reduceCtorEq, Int.reduceNeg, Int.reduceAdd, hvv, m_spec_l2Var, l2Var_E]
    refine go_loop (α := Int × (List ByteArray)) (fun a => ⟨slots 28 0 [(0, .arr ((a.2).map fun s => [D.str s])), (3, .ptr 0 0), (5, .int .i64 (a.1))], [.box 30 [.str x.name, .arr (x.args.map Tm.d)]]⟩) (fun a => ∃ k : Nat, a.1 = k ∧ k ≤ (x.args).length ∧ insA (a.2) (Tm.vsL (x.args.drop k)) = insA l (Tm.vsL x.args) ∧ (a.2).length + Tm.nodeS (x.args.drop k) ≤ 1048576) (fun a => (x.args).length - (a.1).toNat) (0, l) ⟨0, rfl, Nat.zero_le _, by rw [List.drop_zero], by rw [List.drop_zero]; dsimp only; omega⟩ (by simp (disch := omega) only [go_sem, Nat.reduceAdd, Nat.reduceSub, Nat.reduceLT, Nat.reduceLeDiff, Nat.reduceEqDiff, Nat.reduceBEq, Nat.reduceBneDiff, Nat.reduceMul, ↓reduceIte, Int.reduceToNat, reduceCtorEq, Int.reduceNeg, Int.reduceAdd]) ?_
    rintro ⟨i, acc⟩ ⟨k, hi, hk, hR⟩
    dsimp only at hi hR
    have hni : i.toNat = k := by omega
    have hni1 : (i + 1).toNat = k + 1 := by omega
    rcases Nat.lt_or_ge k (x.args).length with hlt | hge
    · have hg := get_at Tm.d hlt
      rw [Tm.d_eq] at hg
      obtain ⟨hR1, hR2⟩ := hR
      rw [List.drop_eq_getElem_cons hlt, Tm.vsL, insA_app] at hR1
      rw [List.drop_eq_getElem_cons hlt, Tm.nodeS] at hR2
      have hc := ih x.args[k] (List.getElem_mem hlt) acc (by omega)
      have hlen := insA_len x.args[k].vs acc
      have hvl := Tm.vs_len x.args[k]
      simp (disch := omega) only [go_sem, Nat.reduceAdd, Nat.reduceSub, Nat.reduceLT, Nat.reduceLeDiff, Nat.reduceEqDiff, Nat.reduceBEq, Nat.reduceBneDiff, Nat.reduceMul, ↓reduceIte, Int.reduceToNat, reduceCtorEq, Int.reduceNeg, Int.reduceAdd, hni, hg, hc, m_spec_l2Into]
      exact ⟨(i + 1, insA acc x.args[k].vs), ⟨k + 1, by dsimp only; omega, hlt, hR1, by dsimp only; omega⟩, by dsimp only; omega, by first | trivial | rfl⟩
    · rw [List.drop_eq_nil_of_le hge, Tm.vsL] at hR
      obtain ⟨hR1, hR2⟩ := hR
      have hR1 : acc = insA l (Tm.vsL x.args) := hR1
      rw [← hR1]
      simp (disch := omega) only [go_sem, Nat.reduceAdd, Nat.reduceSub, Nat.reduceLT, Nat.reduceLeDiff, Nat.reduceEqDiff, Nat.reduceBEq, Nat.reduceBneDiff, Nat.reduceMul, ↓reduceIte, Int.reduceToNat, reduceCtorEq, Int.reduceNeg, Int.reduceAdd, hni]
theorem l2Into_E (x : Tm) : IntoC x := l2Into_of x fun y hy => l2Into_E y
termination_by SizeOf.sizeOf x
decreasing_by exact Tm.lt_of_mem hy
theorem l2Vars_E (x : Tm) (hn : x.nodes ≤ 1048576) : E 88 [x.sv] [] = some (.arr ((insA [] x.vs).map fun s => [D.str s]), []) := by
  have h := l2Into_E x [] (by simpa using hn)
  rw [List.map_nil] at h
  refine E_walk k_spec_l2Vars m_spec_l2Vars (of_decide_eq_true rfl) ?_
  simp (disch := omega) only [c_spec_l2Vars, go_sem, Nat.reduceAdd, Nat.reduceSub, Nat.reduceLT, Nat.reduceLeDiff, Nat.reduceEqDiff, Nat.reduceBEq, Nat.reduceBneDiff, Nat.reduceMul, ↓reduceIte, Int.reduceToNat, reduceCtorEq, Int.reduceNeg, Int.reduceAdd, h, m_spec_l2Into]
end Go.Proofs.Ythbkkiogbikbcaa

set_option maxRecDepth 100000
set_option linter.unusedSimpArgs false
set_option linter.unusedVariables false
namespace Go.Proofs.Ythbkkiogbikbcaa
open Go.RowKit

theorem less_irrefl : ∀ x : List UInt8, Op.bytesLess x x = false
  | [] => rfl
  | a :: x => by simp [Op.bytesLess, less_irrefl x]
theorem less_asymm : ∀ x y : List UInt8, Op.bytesLess x y = true → Op.bytesLess y x = false
  | [], [], h => by simp [Op.bytesLess] at h
  | [], _ :: _, _ => rfl
  | _ :: _, [], h => by simp [Op.bytesLess] at h
  | a :: x, b :: y, h => by
    simp only [Op.bytesLess, Bool.or_eq_true, decide_eq_true_eq, Bool.and_eq_true, beq_iff_eq] at h
    simp only [Op.bytesLess, Bool.or_eq_false_iff, decide_eq_false_iff_not]
    rcases h with h | ⟨rfl, h⟩
    · have h2 : ¬ b < a := by intro h3; exact absurd (UInt8.lt_trans h h3) (UInt8.lt_irrefl _)
      have h3 : (b == a) = false := by
        rw [beq_eq_false_iff_ne]; rintro rfl; exact UInt8.lt_irrefl _ h
      exact ⟨h2, by rw [h3]; rfl⟩
    · exact ⟨UInt8.lt_irrefl _, by rw [less_asymm x y h]; simp⟩
theorem less_total : ∀ x y : List UInt8, Op.bytesLess x y = false → Op.bytesLess y x = false → x = y
  | [], [], _, _ => rfl
  | [], _ :: _, h, _ => by simp [Op.bytesLess] at h
  | _ :: _, [], _, h => by simp [Op.bytesLess] at h
  | a :: x, b :: y, h, k => by
    simp only [Op.bytesLess, Bool.or_eq_false_iff, decide_eq_false_iff_not] at h k
    have hab : a = b := by
      have h1 := h.1; have h2 := k.1
      rw [UInt8.lt_iff_toNat_lt] at h1 h2
      exact UInt8.toNat_inj.1 (by omega)
    subst hab
    have h1 : Op.bytesLess x y = false := by simpa using h.2
    have h2 : Op.bytesLess y x = false := by simpa using k.2
    rw [less_total x y h1 h2]

theorem strLt_asymm {a b : ByteArray} (h : strLt a b = true) : strLt b a = false := less_asymm _ _ h
theorem strLt_total {a b : ByteArray} (h : strLt a b = false) (h' : strLt b a = false) : a = b := bytes_ext (less_total _ _ h h')
theorem strLe_eq (a b : ByteArray) : (strLt a b || dec (a = b)) = !strLt b a := by
  cases h : strLt b a with
  | false =>
    cases h2 : strLt a b with
    | false => rw [dec_t (strLt_total h2 h)]; rfl
    | true => rfl
  | true =>
    rw [strLt_asymm h, dec_f (by rintro rfl; rw [strLt_self] at h; cases h)]
    rfl

theorem less_trans : ∀ x y z : List UInt8, Op.bytesLess x y = true → Op.bytesLess y z = true → Op.bytesLess x z = true
  | _, _, [], _, h => by simp [Op.bytesLess] at h
  | [], [], _ :: _, h, _ => by simp [Op.bytesLess] at h
  | [], _ :: _, _ :: _, _, _ => rfl
  | _ :: _, [], _ :: _, h, _ => by simp [Op.bytesLess] at h
  | a :: x, b :: y, c :: z, h, k => by
    simp only [Op.bytesLess, Bool.or_eq_true, decide_eq_true_eq, Bool.and_eq_true, beq_iff_eq] at h k ⊢
    rcases h with h | ⟨rfl, h⟩
    · rcases k with k | ⟨rfl, k⟩
      · exact .inl (UInt8.lt_trans h k)
      · exact .inl h
    · rcases k with k | ⟨rfl, k⟩
      · exact .inl k
      · exact .inr ⟨rfl, less_trans x y z h k⟩
theorem strLt_trans {a b c : ByteArray} (h : strLt a b = true) (k : strLt b c = true) : strLt a c = true := less_trans _ _ _ h k
theorem strLt_ne {a b : ByteArray} (h : strLt a b = true) : ¬ a = b := by rintro rfl; rw [strLt_self] at h; cases h
theorem cmpB_neg (a b : ByteArray) : dec (cmpB a b < 0) = strLt a b := by
  unfold cmpB
  cases strLt a b
  · cases dec (a = b)
    · exact dec_f (by simp)
    · exact dec_f (by simp)
  · exact dec_t (by simp)
theorem cmpB_zero (a b : ByteArray) : dec (cmpB a b = 0) = dec (a = b) := by
  unfold cmpB
  cases h : strLt a b
  · cases h2 : dec (a = b)
    · exact dec_f (by simp)
    · exact dec_t (by simp)
  · rw [dec_f (strLt_ne h)]
    exact dec_f (by simp)

theorem wrap_u64 {n : Int} (h0 : 0 ≤ n) (h1 : n ≤ 18446744073709551615) : IntKind.u64.wrap n = n := inK_wrap (by
  have e1 : IntKind.u64.min = 0 := by decide
  have e2 : IntKind.u64.max = 18446744073709551615 := by decide
  unfold inK
  rw [e1, e2]
  exact ⟨h0, h1⟩)

end Go.Proofs.Ythbkkiogbikbcaa

set_option maxRecDepth 100000
set_option linter.unusedSimpArgs false
set_option linter.unusedVariables false
namespace Go.Proofs.Ythbkkiogbikbcaa
open Go.RowKit

theorem less_lt : ∀ x y : List UInt8, Op.bytesLess x y = true ↔ x < y
  | [], [] => by simp [Op.bytesLess]
  | [], b :: y => by simp [Op.bytesLess]
  | a :: x, [] => by simp [Op.bytesLess]
  | a :: x, b :: y => by
    have h := less_lt x y
    rw [List.cons_lt_cons_iff, ← h]
    simp only [Op.bytesLess, Bool.or_eq_true, decide_eq_true_eq, Bool.and_eq_true, beq_iff_eq]
theorem strLt_lt (a b : ByteArray) : strLt a b = true ↔ a.toList < b.toList := less_lt _ _
theorem insU_pair (n : ByteArray) : ∀ xs : List ByteArray, xs.Pairwise (fun x y => strLt x y = true) → (insU xs n).Pairwise fun x y => strLt x y = true
  | [], _ => by simp [insU]
  | x :: xs, h => by
    rw [insU]
    rw [List.pairwise_cons] at h
    cases hq : strLt x n with
    | true =>
      rw [cond_true, List.pairwise_cons]
      refine ⟨fun y hy => ?_, insU_pair n xs h.2⟩
      rcases insU_mem.1 hy with hy | rfl
      · exact h.1 y hy
      · exact hq
    | false =>
      rw [cond_false]
      by_cases he : x = n
      · rw [dec_t he, cond_true, List.pairwise_cons]; exact h
      · rw [dec_f he, cond_false, List.pairwise_cons, List.pairwise_cons]
        have hn : strLt n x = true := by
          cases hh : strLt n x with
          | true => rfl
          | false => exact absurd (strLt_total hq hh) he
        refine ⟨fun y hy => ?_, h⟩
        rcases List.mem_cons.1 hy with rfl | hy
        · exact hn
        · exact strLt_trans hn (h.1 y hy)
theorem insA_pair : ∀ (ns xs : List ByteArray), xs.Pairwise (fun x y => strLt x y = true) → (insA xs ns).Pairwise fun x y => strLt x y = true
  | [], xs, h => h
  | n :: ns, xs, h => insA_pair ns (insU xs n) (insU_pair n xs h)
theorem pair_nodup {xs : List ByteArray} (h : xs.Pairwise fun x y => strLt x y = true) : xs.Nodup :=
  h.imp fun {a b} hab e => by rw [e, strLt_self] at hab; cases hab
theorem srtB_pair (l : List ByteArray) : (srtB l).Pairwise fun x y => strLt y x = false := by
  unfold srtB srt
  rw [List.pairwise_map]
  have h := List.pairwise_mergeSort (le := fun x y : List UInt8 => decide (x ≤ y)) (fun a b c h k => by
    rw [decide_eq_true_eq] at h k ⊢; exact List.le_trans h k) (fun a b => by
    rw [Bool.or_eq_true, decide_eq_true_eq, decide_eq_true_eq]; exact List.le_total a b) (l.map (·.toList))
  refine h.imp fun {a b} hab => ?_
  rw [decide_eq_true_eq] at hab
  rw [Bool.eq_false_iff]
  intro hh
  have := (strLt_lt _ _).1 hh
  rw [ByteArray.toList_eq, ByteArray.toList_eq] at this
  exact absurd this (List.not_lt.2 hab)
/-- Sorting what was put together is putting one after the other at its place. -/
theorem srtB_insA (ns : List ByteArray) : srtB (addA [] ns) = insA [] ns := by
  have h1 := insA_pair ns [] List.Pairwise.nil
  have n1 := pair_nodup h1
  have n2 : (addA [] ns).Nodup := addA_nodup List.nodup_nil
  have hp : (srtB (addA [] ns)).Perm (insA [] ns) := (srtB_perm _).trans ((List.perm_ext_iff_of_nodup n2 n1).2 fun a => by rw [addA_mem, insA_mem])
  refine List.Perm.eq_of_pairwise (le := fun x y => strLt y x = false) (fun a b _ _ h k => strLt_total k h) (srtB_pair _) (h1.imp fun h => strLt_asymm h) hp
end Go.Proofs.Ythbkkiogbikbcaa

set_option maxRecDepth 100000
set_option linter.unusedSimpArgs false
set_option linter.unusedVariables false
namespace Go.Proofs.Ythbkkiogbikbcaa
open Go.RowKit

/-! The symbols of a term, in the order of the text. -/
mutual
noncomputable def Tm.sy : Tm → List ByteArray
  | .mk name args => bif varB name then Tm.syL args else name :: Tm.syL args
noncomputable def Tm.syL : List Tm → List ByteArray
  | [] => []
  | x :: xs => Tm.sy x ++ Tm.syL xs
end
theorem Tm.sy_eq (x : Tm) : x.sy = bif varB x.name then Tm.syL x.args else x.name :: Tm.syL x.args := by
  obtain ⟨n, a⟩ := x
  rw [Tm.sy]; rfl
theorem Tm.syL_mem {v : ByteArray} : ∀ {xs : List Tm}, v ∈ Tm.syL xs ↔ ∃ x ∈ xs, v ∈ x.sy
  | [] => by simp [Tm.syL]
  | x :: xs => by rw [Tm.syL, List.mem_append, Tm.syL_mem (xs := xs)]; simp
/-- All symbols of a term are among these. -/
def Tm.cov (syms : List ByteArray) (x : Tm) : Prop := ∀ n ∈ x.sy, n ∈ syms
theorem Tm.cov_arg {syms : List ByteArray} {x y : Tm} (h : x.cov syms) (hy : y ∈ x.args) : y.cov syms := fun n hn => h n (by
  rw [Tm.sy_eq]
  have hm := Tm.syL_mem.2 ⟨y, hy, hn⟩
  cases varB x.name with
  | true => exact hm
  | false => exact List.mem_cons_of_mem _ hm)
theorem Tm.cov_name {syms : List ByteArray} {x : Tm} (h : x.cov syms) (hv : varB x.name = false) : x.name ∈ syms := h _ (by rw [Tm.sy_eq, hv]; simp)
theorem idxP_bound {α : Type} (p : α → Bool) : ∀ (xs : List α) (i : Int), idxP p xs i = -1 ∨ (i ≤ idxP p xs i ∧ idxP p xs i < i + xs.length)
  | [], i => .inl (by rw [idxP])
  | x :: xs, i => by
    rw [idxP]
    have h := idxP_bound p xs (i + 1)
    cases p x with
    | true => simp only [if_true, List.length_cons]; exact .inr ⟨by omega, by omega⟩
    | false =>
      simp only [Bool.false_eq_true, if_false, List.length_cons]
      omega
/-- The place of a symbol. -/
noncomputable def rk (syms : List ByteArray) (n : ByteArray) : Int := idxP (fun s => dec (n = s)) syms 0
theorem rk_in {syms : List ByteArray} {n : ByteArray} (h : n ∈ syms) : ∃ k : Nat, rk syms n = k ∧ k < syms.length := by
  have h1 : dec (0 ≤ idxP (fun s => dec (n = s)) syms 0) = true := by
    rw [idxP_any]
    exact List.any_eq_true.2 ⟨n, h, dec_t rfl⟩
  have h2 := dec_iff.1 h1
  have h3 := idxP_bound (fun s => dec (n = s)) syms 0
  refine ⟨(rk syms n).toNat, ?_, ?_⟩ <;> unfold rk <;> omega
/-- An ordering whose weights are one. -/
abbrev osv1 (syms : List ByteArray) : SV := .agg [.arr (syms.map fun s => [D.str s]), .arr (syms.map fun _ => [D.int 1]), .int .i64 1]
def c_impl_Ordering_weight : SC := (.seq (.reg [⟨(some 2), none, (.boxv 43 3 (.t 0))⟩, ⟨(some 3), none, (.boxv 30 2 (.t 1))⟩, ⟨(some 4), none, (.mv (.c (.int .i64 0)))⟩]) (.seq (.seq (.reg [⟨(some 8), none, (.load true 2 (.t 3))⟩, ⟨(some 9), none, (.call 84 [(.t 8)])⟩]) (.cond (.t 9) (.seq (.reg [⟨(some 10), none, (.faddr 2 (.t 2))⟩, ⟨(some 11), none, (.load false 1 (.t 10))⟩, ⟨(some 4), none, (.mv (.t 11))⟩]) .ret) .skip)) (.seq (.dreg [[], [0], [], [2], [], [4], [3, 2, 5, 4], [1, 0, 6, 3, 2, 5, 4], [7, 1, 0, 6, 3, 2, 5, 4], [8, 7, 1, 0, 6, 3, 2, 5, 4]] [⟨(some 12), none, (.faddr 1 (.t 2))⟩, ⟨(some 13), none, (.load false 1 (.t 12))⟩, ⟨(some 14), none, (.faddr 0 (.t 2))⟩, ⟨(some 15), none, (.load false 1 (.t 14))⟩, ⟨(some 16), none, (.faddr 0 (.t 3))⟩, ⟨(some 17), none, (.load false 1 (.t 16))⟩, ⟨(some 18), none, (.call 67 [(.t 15), (.t 17)])⟩, ⟨(some 19), none, (.iaddr 1 (.t 13) (.t 18))⟩, ⟨(some 20), none, (.load false 1 (.t 19))⟩, ⟨(some 5), none, (.mv (.t 20))⟩]) (.seq (.seq (.reg [⟨(some 21), none, (.faddr 1 (.t 3))⟩, ⟨(some 22), none, (.load false 1 (.t 21))⟩, ⟨(some 23), none, (.len false (.t 22))⟩, ⟨(some 24), none, (.mv (.c (.int .i64 0)))⟩]) (.block 0 (.loop [0, 0, 1, 0, 0, 1, 0, 0, 0, 0, 0, 0, 0, 0, 0, 0, 0, 0, 0, 0, 0, 0, 1, 1, 1, 0, 0, 0, 0, 0, 0, 0, 0, 0, 0] (.seq (.reg [⟨(some 25), none, (.bin .lss false (.t 24) (.t 23))⟩]) (.seq (.cond (.t 25) .skip (.exit 0)) (.seq (.block 1 (.seq (.reg [⟨(some 26), none, (.iaddr 2 (.t 22) (.t 24))⟩, ⟨(some 27), none, (.load true 2 (.t 26))⟩, ⟨(some 7), none, (.alloc 30 [(.str ⟨#[]⟩), .nil])⟩, ⟨none, none, (.store 2 (.t 7) (.t 27))⟩]) (.reg [⟨(some 28), none, (.mv (.t 5))⟩, ⟨(some 29), none, (.load true 3 (.t 2))⟩, ⟨(some 30), none, (.load true 2 (.t 7))⟩, ⟨(some 31), none, (.call 83 [(.t 29), (.t 30)])⟩, ⟨(some 32), none, (.bin .add false (.t 28) (.t 31))⟩, ⟨(some 5), none, (.mv (.t 32))⟩]))) (.reg [⟨(some 33), none, (.bin .add false (.t 24) (.c (.int .i64 1)))⟩, ⟨(some 24), none, (.mv (.t 33))⟩]))))))) (.seq (.reg [⟨(some 34), none, (.mv (.t 5))⟩, ⟨(some 4), none, (.mv (.t 34))⟩]) .ret)))))
theorem k_impl_Ordering_weight : codeOf Try.prog 83 = some ⟨35, c_impl_Ordering_weight, [(.tmp 4)]⟩ := by kernel_rfl
theorem m_impl_Ordering_weight : modes 83 = ⟨[], .asis, none, false⟩ := by unfold modes; rfl

set_option maxHeartbeats 4000000 in
theorem weight_of (syms : List ByteArray) (hs : syms.length ≤ 1048576) (x : Tm) (hx : x.names = true) (hcov : x.cov syms) (hn : x.nodes ≤ 1099511627776) (ih : ∀ y ∈ x.args, E 83 [osv1 syms, y.sv] [] = some (.int .i64 (y.nodes : Nat), [])) : E 83 [osv1 syms, x.sv] [] = some (.int .i64 (x.nodes : Nat), []) := by
  have hv := isVar_E x (Tm.cok_names x hx)
  have hnd := Tm.nodes_eq x
  have hl := Tm.length_le x.args
  cases hvv : varB x.name with
  | true =>
    rw [hvv] at hv
    have ha := Tm.names_var hx hvv
    rw [ha, Tm.nodeS] at hnd
    rw [hnd]
    refine E_walk k_impl_Ordering_weight m_impl_Ordering_weight (of_decide_eq_true rfl) ?_
    simp (disch := omega) only [c_impl_Ordering_weight, go_sem, Nat.reduceAdd, Nat.reduceSub, Nat.reduceLT, Nat.reduceLeDiff, Nat.reduceEqDiff, Nat.reduceBEq, Nat.reduceBneDiff, Nat.reduceMul, ↓reduceIte, Int.reduceToNat, reduceCtorEq, Int.reduceNeg, Int.reduceAdd, hv, m_impl_isVar]
    try rfl
  | false =>
    rw [hvv] at hv
    obtain ⟨k0, hk1, hk2⟩ := rk_in (Tm.cov_name hcov hvv)
    have hi := indexS_E syms x.name (by omega)
    unfold rk at hk1
    rw [hk1] at hi
    have hw : (syms.map fun _ => [D.int 1])[k0]? = some [D.int 1] := by rw [List.getElem?_map, List.getElem?_eq_getElem hk2]; rfl
    have hk0 : ((k0 : Nat) : Int).toNat = k0 := Int.toNat_natCast k0
    have hxs : x.sv = .agg [.str x.name, .arr (x.args.map Tm.d)] := rfl
    refine E_walk k_impl_Ordering_weight m_impl_Ordering_weight (of_decide_eq_true rfl) ?_
    simp (disch := omega) only [c_impl_Ordering_weight, go_sem, Nat.reduceAdd, Nat.reduceSub, Nat.reduceLT, Nat.reduceLeDiff, Nat.reduceEqDiff, Nat.reduceBEq, Nat.reduceBneDiff, Nat.reduceMul, ↓reduceIte, Int.reduceToNat, reduceCtorEq, Int.reduceNeg, Int.reduceAdd, hv, hi, hw, hk0, m_impl_isVar, m_slices_Index_string_string]
    refine go_loop (α := Int × (Nat)) (fun a => ⟨slots 35 0 [(2, .ptr 0 0), (5, .int .i64 (((a.2) : Nat) : Int)), (22, .arr (x.args.map Tm.d)), (23, .int .i64 x.args.length), (24, .int .i64 (a.1))], [.box 43 [.arr (syms.map fun s => [D.str s]), .arr (syms.map fun _ => [D.int 1]), .int .i64 1]]⟩) (fun a => ∃ k : Nat, a.1 = k ∧ k ≤ (x.args).length ∧ (a.2) + Tm.nodeS (x.args.drop k) = x.nodes) (fun a => (x.args).length - (a.1).toNat) (0, 1) ⟨0, rfl, Nat.zero_le _, by rw [List.drop_zero]; exact hnd.symm⟩ (by simp (disch := omega) only [go_sem, Nat.reduceAdd, Nat.reduceSub, Nat.reduceLT, Nat.reduceLeDiff, Nat.reduceEqDiff, Nat.reduceBEq, Nat.reduceBneDiff, Nat.reduceMul, ↓reduceIte, Int.reduceToNat, reduceCtorEq, Int.reduceNeg, Int.reduceAdd, Int.natCast_one]) ?_
    rintro ⟨i, acc⟩ ⟨k, hi, hk, hR⟩
    dsimp only at hi hR
    have hni : i.toNat = k := by omega
    have hni1 : (i + 1).toNat = k + 1 := by omega
    rcases Nat.lt_or_ge k (x.args).length with hlt | hge
    · have hg := get_at Tm.d hlt
      rw [Tm.d_eq] at hg
      have hc := ih x.args[k] (List.getElem_mem hlt)
      have hnm := Tm.nodes_le x.args k hlt
      rw [List.drop_eq_getElem_cons hlt, Tm.nodeS] at hR
      simp (disch := omega) only [go_sem, Nat.reduceAdd, Nat.reduceSub, Nat.reduceLT, Nat.reduceLeDiff, Nat.reduceEqDiff, Nat.reduceBEq, Nat.reduceBneDiff, Nat.reduceMul, ↓reduceIte, Int.reduceToNat, reduceCtorEq, Int.reduceNeg, Int.reduceAdd, hni, hg, hc, m_impl_Ordering_weight]
      exact ⟨(i + 1, acc + x.args[k].nodes), ⟨k + 1, by dsimp only; omega, hlt, by omega⟩, by dsimp only; omega, by simp⟩
    · rw [List.drop_eq_nil_of_le hge, Tm.nodeS] at hR
      simp (disch := omega) only [go_sem, Nat.reduceAdd, Nat.reduceSub, Nat.reduceLT, Nat.reduceLeDiff, Nat.reduceEqDiff, Nat.reduceBEq, Nat.reduceBneDiff, Nat.reduceMul, ↓reduceIte, Int.reduceToNat, reduceCtorEq, Int.reduceNeg, Int.reduceAdd, hni]
      try omega
theorem weight_E (syms : List ByteArray) (hs : syms.length ≤ 1048576) (x : Tm) (hx : x.names = true) (hcov : x.cov syms) (hn : x.nodes ≤ 1099511627776) : E 83 [osv1 syms, x.sv] [] = some (.int .i64 (x.nodes : Nat), []) :=
  weight_of syms hs x hx hcov hn fun y hy => weight_E syms hs y (Tm.names_arg hx hy) (Tm.cov_arg hcov hy) (by have := Tm.nodes_mem hy; have := Tm.nodes_eq x; omega)
termination_by SizeOf.sizeOf x
decreasing_by exact Tm.lt_of_mem hy
end Go.Proofs.Ythbkkiogbikbcaa

set_option maxRecDepth 100000
set_option linter.unusedSimpArgs false
set_option linter.unusedVariables false
namespace Go.Proofs.Ythbkkiogbikbcaa
open Go.RowKit

def c_spec_l6Rank : SC := (.seq (.reg [⟨(some 2), none, (.boxv 43 3 (.t 0))⟩, ⟨(some 4), none, (.mv (.c (.int .i64 0)))⟩]) (.seq (.seq (.reg [⟨(some 5), none, (.mv (.c (.int .i64 0)))⟩]) (.block 0 (.loop [0, 1, 1, 0, 0, 1, 0, 0, 0, 0, 0, 0, 0, 0, 0, 0, 0, 0, 0, 0, 0] (.seq (.seq (.reg [⟨(some 6), none, (.mv (.t 5))⟩, ⟨(some 7), none, (.faddr 0 (.t 2))⟩, ⟨(some 8), none, (.load false 1 (.t 7))⟩, ⟨(some 9), none, (.len false (.t 8))⟩, ⟨(some 10), none, (.bin .lss false (.t 6) (.t 9))⟩]) (.cond (.t 10) .skip (.exit 0))) (.seq (.block 1 (.seq (.reg [⟨(some 13), none, (.faddr 0 (.t 2))⟩, ⟨(some 14), none, (.load false 1 (.t 13))⟩, ⟨(some 15), none, (.mv (.t 5))⟩, ⟨(some 16), none, (.iaddr 1 (.t 14) (.t 15))⟩, ⟨(some 17), none, (.load false 1 (.t 16))⟩, ⟨(some 18), none, (.mv (.t 1))⟩, ⟨(some 19), none, (.bin .eql false (.t 17) (.t 18))⟩]) (.cond (.t 19) (.seq (.reg [⟨(some 20), none, (.mv (.t 5))⟩, ⟨(some 4), none, (.mv (.t 20))⟩]) .ret) .skip))) (.reg [⟨(some 11), none, (.mv (.t 5))⟩, ⟨(some 12), none, (.bin .add false (.t 11) (.c (.int .i64 1)))⟩, ⟨(some 5), none, (.mv (.t 12))⟩])))))) (.seq (.reg [⟨(some 4), none, (.mv (.c (.int .i64 (-(0 + 1)))))⟩]) .ret)))
theorem k_spec_l6Rank : codeOf Try.prog 87 = some ⟨21, c_spec_l6Rank, [(.tmp 4)]⟩ := by kernel_rfl
theorem m_spec_l6Rank : modes 87 = ⟨[], .asis, none, false⟩ := by unfold modes; rfl

def c_spec_l6Weight : SC := (.seq (.reg [⟨(some 2), none, (.boxv 43 3 (.t 0))⟩, ⟨(some 3), none, (.boxv 30 2 (.t 1))⟩, ⟨(some 4), none, (.mv (.c (.int .i64 0)))⟩]) (.seq (.reg [⟨(some 7), none, (.faddr 2 (.t 2))⟩, ⟨(some 8), none, (.load false 1 (.t 7))⟩, ⟨(some 5), none, (.mv (.t 8))⟩]) (.seq (.seq (.reg [⟨(some 9), none, (.faddr 0 (.t 3))⟩, ⟨(some 10), none, (.load false 1 (.t 9))⟩, ⟨(some 11), none, (.call 30 [(.t 10)])⟩, ⟨(some 12), none, (.un .not (.t 11))⟩]) (.cond (.t 12) (.dreg [[], [0], [], [], [3], [2, 4, 3], [1, 0, 5, 2, 4, 3], [6, 1, 0, 5, 2, 4, 3], [7, 6, 1, 0, 5, 2, 4, 3]] [⟨(some 13), none, (.faddr 1 (.t 2))⟩, ⟨(some 14), none, (.load false 1 (.t 13))⟩, ⟨(some 15), none, (.load true 3 (.t 2))⟩, ⟨(some 16), none, (.faddr 0 (.t 3))⟩, ⟨(some 17), none, (.load false 1 (.t 16))⟩, ⟨(some 18), none, (.call 87 [(.t 15), (.t 17)])⟩, ⟨(some 19), none, (.iaddr 1 (.t 14) (.t 18))⟩, ⟨(some 20), none, (.load false 1 (.t 19))⟩, ⟨(some 5), none, (.mv (.t 20))⟩]) .skip)) (.seq (.seq (.reg [⟨(some 6), none, (.mv (.c (.int .i64 0)))⟩]) (.block 0 (.loop [0, 0, 1, 1, 0, 1, 1, 0, 0, 0, 0, 0, 0, 0, 0, 0, 0, 0, 0, 0, 0, 0, 0, 0, 0, 0, 0, 0, 0, 0, 0, 0, 0, 0, 0, 0, 0, 0] (.seq (.seq (.reg [⟨(some 21), none, (.mv (.t 6))⟩, ⟨(some 22), none, (.faddr 1 (.t 3))⟩, ⟨(some 23), none, (.load false 1 (.t 22))⟩, ⟨(some 24), none, (.len false (.t 23))⟩, ⟨(some 25), none, (.bin .lss false (.t 21) (.t 24))⟩]) (.cond (.t 25) .skip (.exit 0))) (.seq (.block 1 (.dreg [[], [], [], [2], [], [3, 2, 4], [5, 3, 2, 4], [1, 6, 5, 3, 2, 4], [0, 7, 1, 6, 5, 3, 2, 4], [8, 0, 7, 1, 6, 5, 3, 2, 4]] [⟨(some 28), none, (.mv (.t 5))⟩, ⟨(some 29), none, (.load true 3 (.t 2))⟩, ⟨(some 30), none, (.faddr 1 (.t 3))⟩, ⟨(some 31), none, (.load false 1 (.t 30))⟩, ⟨(some 32), none, (.mv (.t 6))⟩, ⟨(some 33), none, (.iaddr 2 (.t 31) (.t 32))⟩, ⟨(some 34), none, (.load true 2 (.t 33))⟩, ⟨(some 35), none, (.call 58 [(.t 29), (.t 34)])⟩, ⟨(some 36), none, (.bin .add false (.t 28) (.t 35))⟩, ⟨(some 5), none, (.mv (.t 36))⟩])) (.reg [⟨(some 26), none, (.mv (.t 6))⟩, ⟨(some 27), none, (.bin .add false (.t 26) (.c (.int .i64 1)))⟩, ⟨(some 6), none, (.mv (.t 27))⟩])))))) (.seq (.reg [⟨(some 37), none, (.mv (.t 5))⟩, ⟨(some 4), none, (.mv (.t 37))⟩]) .ret)))))
theorem k_spec_l6Weight : codeOf Try.prog 58 = some ⟨38, c_spec_l6Weight, [(.tmp 4)]⟩ := by kernel_rfl
theorem m_spec_l6Weight : modes 58 = ⟨[], .asis, none, false⟩ := by unfold modes; rfl

def c_impl_Ordering_precedes : SC := (.seq (.reg [⟨(some 3), none, (.boxv 43 3 (.t 0))⟩, ⟨(some 4), none, (.boxv 30 2 (.t 1))⟩, ⟨(some 5), none, (.boxv 30 2 (.t 2))⟩, ⟨(some 6), none, (.mv (.c (.bool false)))⟩]) (.seq (.dreg [[], [0], [], [2], [1, 0, 3, 2], [], [5], [], [7], [6, 5, 8, 7, 4, 1, 0, 3, 2], [4, 1, 0, 3, 2, 9, 6, 5, 8, 7], [9, 6, 5, 8, 7, 4, 1, 0, 3, 2, 10]] [⟨(some 9), none, (.faddr 0 (.t 3))⟩, ⟨(some 10), none, (.load false 1 (.t 9))⟩, ⟨(some 11), none, (.faddr 0 (.t 4))⟩, ⟨(some 12), none, (.load false 1 (.t 11))⟩, ⟨(some 13), none, (.call 67 [(.t 10), (.t 12)])⟩, ⟨(some 14), none, (.faddr 0 (.t 3))⟩, ⟨(some 15), none, (.load false 1 (.t 14))⟩, ⟨(some 16), none, (.faddr 0 (.t 5))⟩, ⟨(some 17), none, (.load false 1 (.t 16))⟩, ⟨(some 18), none, (.call 67 [(.t 15), (.t 17)])⟩, ⟨(some 7), none, (.mv (.t 13))⟩, ⟨(some 8), none, (.mv (.t 18))⟩]) (.seq (.reg [⟨(some 19), none, (.mv (.t 7))⟩, ⟨(some 20), none, (.mv (.t 8))⟩, ⟨(some 21), none, (.bin .lss false (.t 19) (.t 20))⟩, ⟨(some 22), none, (.mv (.t 21))⟩, ⟨(some 23), (some (22, false)), (.mv (.t 7))⟩, ⟨(some 24), (some (22, false)), (.mv (.t 8))⟩, ⟨(some 25), (some (22, false)), (.bin .eql false (.t 23) (.t 24))⟩, ⟨(some 26), (some (22, false)), (.mv (.t 25))⟩, ⟨(some 27), (some (26, true)), (.faddr 1 (.t 4))⟩, ⟨(some 28), (some (26, true)), (.load false 1 (.t 27))⟩, ⟨(some 29), (some (26, true)), (.len false (.t 28))⟩, ⟨(some 30), (some (26, true)), (.faddr 1 (.t 5))⟩, ⟨(some 31), (some (26, true)), (.load false 1 (.t 30))⟩, ⟨(some 32), (some (26, true)), (.len false (.t 31))⟩, ⟨(some 33), (some (26, true)), (.bin .lss false (.t 29) (.t 32))⟩, ⟨(some 34), (some (22, false)), (.pick (.t 26) (.t 33) (.c (.bool false)))⟩, ⟨(some 35), none, (.pick (.t 22) (.c (.bool true)) (.t 34))⟩, ⟨(some 6), none, (.mv (.t 35))⟩]) .ret)))
theorem k_impl_Ordering_precedes : codeOf Try.prog 85 = some ⟨36, c_impl_Ordering_precedes, [(.tmp 6)]⟩ := by kernel_rfl
theorem m_impl_Ordering_precedes : modes 85 = ⟨[], .asis, none, false⟩ := by unfold modes; rfl

theorem l6Rank_E (syms : List ByteArray) (n : ByteArray) (hl : syms.length ≤ 1099511627776) : E 87 [osv1 syms, .str n] [] = some (.int .i64 (rk syms n), []) := by
  refine E_walk k_spec_l6Rank m_spec_l6Rank (of_decide_eq_true rfl) ?_
  simp (disch := omega) only [c_spec_l6Rank, go_sem, Nat.reduceAdd, Nat.reduceSub, Nat.reduceLT, Nat.reduceLeDiff, Nat.reduceEqDiff, Nat.reduceBEq, Nat.reduceBneDiff, Nat.reduceMul, ↓reduceIte, Int.reduceToNat, reduceCtorEq, Int.reduceNeg, Int.reduceAdd]
  refine go_loop (α := Int) (fun a => ⟨slots 21 0 [(1, .str n), (2, .ptr 0 0), (5, .int .i64 a)], [.box 43 [.arr (syms.map fun s => [D.str s]), .arr (syms.map fun _ => [D.int 1]), .int .i64 1]]⟩) (fun a => ∃ k : Nat, a = k ∧ k ≤ (syms).length ∧ idxP (fun s => dec (n = s)) (syms.drop k) a = rk syms n) (fun a => (syms).length - (a).toNat) 0 ⟨0, rfl, Nat.zero_le _, by rw [List.drop_zero]; rfl⟩ (by simp (disch := omega) only [go_sem, Nat.reduceAdd, Nat.reduceSub, Nat.reduceLT, Nat.reduceLeDiff, Nat.reduceEqDiff, Nat.reduceBEq, Nat.reduceBneDiff, Nat.reduceMul, ↓reduceIte, Int.reduceToNat, reduceCtorEq, Int.reduceNeg, Int.reduceAdd]) ?_
  rintro i ⟨k, hi, hk, hR⟩
  have hni : i.toNat = k := by omega
  have hni1 : (i + 1).toNat = k + 1 := by omega
  rcases Nat.lt_or_ge k (syms).length with hlt | hge
  · have hg := get_at (fun s => [D.str s]) hlt
    rw [List.drop_eq_getElem_cons hlt, idxP] at hR
    by_cases hp : n = syms[k]
    · have hq : (syms[k] = n) = True := eq_true hp.symm
      rw [dec_t hp, if_pos rfl] at hR
      simp (disch := omega) only [go_sem, Nat.reduceAdd, Nat.reduceSub, Nat.reduceLT, Nat.reduceLeDiff, Nat.reduceEqDiff, Nat.reduceBEq, Nat.reduceBneDiff, Nat.reduceMul, ↓reduceIte, Int.reduceToNat, reduceCtorEq, Int.reduceNeg, Int.reduceAdd, hni, hg, hq]
      exact hR
    · have hq : (syms[k] = n) = False := eq_false fun e => hp e.symm
      rw [dec_f hp, if_neg (by simp)] at hR
      simp (disch := omega) only [go_sem, Nat.reduceAdd, Nat.reduceSub, Nat.reduceLT, Nat.reduceLeDiff, Nat.reduceEqDiff, Nat.reduceBEq, Nat.reduceBneDiff, Nat.reduceMul, ↓reduceIte, Int.reduceToNat, reduceCtorEq, Int.reduceNeg, Int.reduceAdd, hni, hg, hq]
      exact ⟨i + 1, ⟨k + 1, by omega, hlt, hR⟩, by omega, by first | trivial | rfl⟩
  · rw [List.drop_eq_nil_of_le hge, idxP] at hR
    simp (disch := omega) only [go_sem, Nat.reduceAdd, Nat.reduceSub, Nat.reduceLT, Nat.reduceLeDiff, Nat.reduceEqDiff, Nat.reduceBEq, Nat.reduceBneDiff, Nat.reduceMul, ↓reduceIte, Int.reduceToNat, reduceCtorEq, Int.reduceNeg, Int.reduceAdd, hni]
    exact hR
set_option maxHeartbeats 4000000 in
theorem l6Weight_of (syms : List ByteArray) (hs : syms.length ≤ 1048576) (x : Tm) (hx : x.names = true) (hcov : x.cov syms) (hn : x.nodes ≤ 1099511627776) (ih : ∀ y ∈ x.args, E 58 [osv1 syms, y.sv] [] = some (.int .i64 (y.nodes : Nat), [])) : E 58 [osv1 syms, x.sv] [] = some (.int .i64 (x.nodes : Nat), []) := by
  have hv := l2Var_E x.name
  have hnd := Tm.nodes_eq x
  have hl := Tm.length_le x.args
  have hxs : x.sv = .agg [.str x.name, .arr (x.args.map Tm.d)] := rfl
  have hor : varB x.name = true ∨ (varB x.name = false ∧ ∃ k0 : Nat, rk syms x.name = k0 ∧ k0 < syms.length) := by
    cases hvv : varB x.name with
    | true => exact .inl rfl
    | false => exact .inr ⟨rfl, rk_in (Tm.cov_name hcov hvv)⟩
  rcases hor with hvv | ⟨hvv, k0, hk1, hk2⟩
  case inl =>
    rw [hvv] at hv
    refine E_walk k_spec_l6Weight m_spec_l6Weight (of_decide_eq_true rfl) ?_
    simp (disch := omega) only [c_spec_l6Weight, go_sem, Nat.reduceAdd, Nat.reduceSub, Nat.reduceLT, Nat.reduceLeDiff, Nat.reduceEqDiff, Nat.reduceBEq, Nat.reduceBneDiff, Nat.reduceMul, ↓reduceIte, Int.reduceToNat, reduceCtorEq, Int.reduceNeg, Int.reduceAdd, hv, m_spec_l2Var]
    refine go_loop (α := Int × (Nat)) (fun a => ⟨slots 38 0 [(2, .ptr 0 0), (3, .ptr 1 0), (5, .int .i64 (((a.2) : Nat) : Int)), (6, .int .i64 (a.1))], [.box 43 [.arr (syms.map fun s => [D.str s]), .arr (syms.map fun _ => [D.int 1]), .int .i64 1], .box 30 [.str x.name, .arr (x.args.map Tm.d)]]⟩) (fun a => ∃ k : Nat, a.1 = k ∧ k ≤ (x.args).length ∧ (a.2) + Tm.nodeS (x.args.drop k) = x.nodes) (fun a => (x.args).length - (a.1).toNat) (0, 1) ⟨0, rfl, Nat.zero_le _, by rw [List.drop_zero]; exact hnd.symm⟩ (by simp (disch := omega) only [go_sem, Nat.reduceAdd, Nat.reduceSub, Nat.reduceLT, Nat.reduceLeDiff, Nat.reduceEqDiff, Nat.reduceBEq, Nat.reduceBneDiff, Nat.reduceMul, ↓reduceIte, Int.reduceToNat, reduceCtorEq, Int.reduceNeg, Int.reduceAdd, Int.natCast_one]) ?_
    rintro ⟨i, acc⟩ ⟨k, hi, hk, hR⟩
    dsimp only at hi hR
    have hni : i.toNat = k := by omega
    have hni1 : (i + 1).toNat = k + 1 := by omega
    rcases Nat.lt_or_ge k (x.args).length with hlt | hge
    · have hg := get_at Tm.d hlt
      rw [Tm.d_eq] at hg
      have hc := ih x.args[k] (List.getElem_mem hlt)
      have hnm := Tm.nodes_le x.args k hlt
      rw [List.drop_eq_getElem_cons hlt, Tm.nodeS] at hR
      simp (disch := omega) only [go_sem, Nat.reduceAdd, Nat.reduceSub, Nat.reduceLT, Nat.reduceLeDiff, Nat.reduceEqDiff, Nat.reduceBEq, Nat.reduceBneDiff, Nat.reduceMul, ↓reduceIte, Int.reduceToNat, reduceCtorEq, Int.reduceNeg, Int.reduceAdd, hni, hg, hc, m_spec_l6Weight]
      exact ⟨(i + 1, acc + x.args[k].nodes), ⟨k + 1, by dsimp only; omega, hlt, by omega⟩, by dsimp only; omega, by simp⟩
    · rw [List.drop_eq_nil_of_le hge, Tm.nodeS] at hR
      simp (disch := omega) only [go_sem, Nat.reduceAdd, Nat.reduceSub, Nat.reduceLT, Nat.reduceLeDiff, Nat.reduceEqDiff, Nat.reduceBEq, Nat.reduceBneDiff, Nat.reduceMul, ↓reduceIte, Int.reduceToNat, reduceCtorEq, Int.reduceNeg, Int.reduceAdd, hni]
      try omega
  case inr =>
    rw [hvv] at hv
    have hi := l6Rank_E syms x.name (by omega)
    rw [hk1] at hi
    have hw : (syms.map fun _ => [D.int 1])[k0]? = some [D.int 1] := by rw [List.getElem?_map, List.getElem?_eq_getElem hk2]; rfl
    have hk0 : ((k0 : Nat) : Int).toNat = k0 := Int.toNat_natCast k0
    refine E_walk k_spec_l6Weight m_spec_l6Weight (of_decide_eq_true rfl) ?_
    simp (disch := omega) only [c_spec_l6Weight, go_sem, Nat.reduceAdd, Nat.reduceSub, Nat.reduceLT, Nat.reduceLeDiff, Nat.reduceEqDiff, Nat.reduceBEq, Nat.reduceBneDiff, Nat.reduceMul, ↓reduceIte, Int.reduceToNat, reduceCtorEq, Int.reduceNeg, Int.reduceAdd, hv, hi, hw, hk0, m_spec_l2Var, m_spec_l6Rank]
    refine go_loop (α := Int × (Nat)) (fun a => ⟨slots 38 0 [(2, .ptr 0 0), (3, .ptr 1 0), (5, .int .i64 (((a.2) : Nat) : Int)), (6, .int .i64 (a.1))], [.box 43 [.arr (syms.map fun s => [D.str s]), .arr (syms.map fun _ => [D.int 1]), .int .i64 1], .box 30 [.str x.name, .arr (x.args.map Tm.d)]]⟩) (fun a => ∃ k : Nat, a.1 = k ∧ k ≤ (x.args).length ∧ (a.2) + Tm.nodeS (x.args.drop k) = x.nodes) (fun a => (x.args).length - (a.1).toNat) (0, 1) ⟨0, rfl, Nat.zero_le _, by rw [List.drop_zero]; exact hnd.symm⟩ (by simp (disch := omega) only [go_sem, Nat.reduceAdd, Nat.reduceSub, Nat.reduceLT, Nat.reduceLeDiff, Nat.reduceEqDiff, Nat.reduceBEq, Nat.reduceBneDiff, Nat.reduceMul, ↓reduceIte, Int.reduceToNat, reduceCtorEq, Int.reduceNeg, Int.reduceAdd, Int.natCast_one]) ?_
    rintro ⟨i, acc⟩ ⟨k, hi, hk, hR⟩
    dsimp only at hi hR
    have hni : i.toNat = k := by omega
    have hni1 : (i + 1).toNat = k + 1 := by omega
    rcases Nat.lt_or_ge k (x.args).length with hlt | hge
    · have hg := get_at Tm.d hlt
      rw [Tm.d_eq] at hg
      have hc := ih x.args[k] (List.getElem_mem hlt)
      have hnm := Tm.nodes_le x.args k hlt
      rw [List.drop_eq_getElem_cons hlt, Tm.nodeS] at hR
      simp (disch := omega) only [go_sem, Nat.reduceAdd, Nat.reduceSub, Nat.reduceLT, Nat.reduceLeDiff, Nat.reduceEqDiff, Nat.reduceBEq, Nat.reduceBneDiff, Nat.reduceMul, ↓reduceIte, Int.reduceToNat, reduceCtorEq, Int.reduceNeg, Int.reduceAdd, hni, hg, hc, m_spec_l6Weight]
      exact ⟨(i + 1, acc + x.args[k].nodes), ⟨k + 1, by dsimp only; omega, hlt, by omega⟩, by dsimp only; omega, by simp⟩
    · rw [List.drop_eq_nil_of_le hge, Tm.nodeS] at hR
      simp (disch := omega) only [go_sem, Nat.reduceAdd, Nat.reduceSub, Nat.reduceLT, Nat.reduceLeDiff, Nat.reduceEqDiff, Nat.reduceBEq, Nat.reduceBneDiff, Nat.reduceMul, ↓reduceIte, Int.reduceToNat, reduceCtorEq, Int.reduceNeg, Int.reduceAdd, hni]
      try omega
theorem l6Weight_E (syms : List ByteArray) (hs : syms.length ≤ 1048576) (x : Tm) (hx : x.names = true) (hcov : x.cov syms) (hn : x.nodes ≤ 1099511627776) : E 58 [osv1 syms, x.sv] [] = some (.int .i64 (x.nodes : Nat), []) :=
  l6Weight_of syms hs x hx hcov hn fun y hy => l6Weight_E syms hs y (Tm.names_arg hx hy) (Tm.cov_arg hcov hy) (by have := Tm.nodes_mem hy; have := Tm.nodes_eq x; omega)
termination_by SizeOf.sizeOf x
decreasing_by exact Tm.lt_of_mem hy
/-- Whether the root of a term stands ahead of another's. -/
noncomputable def preB2 (syms : List ByteArray) (s t : Tm) : Bool := dec (rk syms s.name < rk syms t.name) || (dec (rk syms s.name = rk syms t.name) && dec ((s.args.length : Int) < (t.args.length : Int)))
theorem precedes_E (syms : List ByteArray) (hs : syms.length ≤ 1099511627776) (s t : Tm) : E 85 [osv1 syms, s.sv, t.sv] [] = some (.bool (preB2 syms s t), []) := by
  have h1 := indexS_E syms s.name hs
  have h2 := indexS_E syms t.name hs
  unfold preB2 rk
  generalize idxP (fun x => dec (s.name = x)) syms 0 = a at *
  generalize idxP (fun x => dec (t.name = x)) syms 0 = b at *
  cases e1 : dec (a < b) with
  | true =>
    refine E_walk k_impl_Ordering_precedes m_impl_Ordering_precedes (of_decide_eq_true rfl) ?_
    simp (disch := omega) only [c_impl_Ordering_precedes, go_sem, Nat.reduceAdd, Nat.reduceSub, Nat.reduceLT, Nat.reduceLeDiff, Nat.reduceEqDiff, Nat.reduceBEq, Nat.reduceBneDiff, Nat.reduceMul, ↓reduceIte, Int.reduceToNat, reduceCtorEq, Int.reduceNeg, Int.reduceAdd, h1, h2, e1, m_slices_Index_string_string]
  | false =>
    cases e2 : dec (a = b) with
    | true =>
      refine E_walk k_impl_Ordering_precedes m_impl_Ordering_precedes (of_decide_eq_true rfl) ?_
      simp (disch := omega) only [c_impl_Ordering_precedes, go_sem, Nat.reduceAdd, Nat.reduceSub, Nat.reduceLT, Nat.reduceLeDiff, Nat.reduceEqDiff, Nat.reduceBEq, Nat.reduceBneDiff, Nat.reduceMul, ↓reduceIte, Int.reduceToNat, reduceCtorEq, Int.reduceNeg, Int.reduceAdd, h1, h2, e1, e2, m_slices_Index_string_string]
    | false =>
      refine E_walk k_impl_Ordering_precedes m_impl_Ordering_precedes (of_decide_eq_true rfl) ?_
      simp (disch := omega) only [c_impl_Ordering_precedes, go_sem, Nat.reduceAdd, Nat.reduceSub, Nat.reduceLT, Nat.reduceLeDiff, Nat.reduceEqDiff, Nat.reduceBEq, Nat.reduceBneDiff, Nat.reduceMul, ↓reduceIte, Int.reduceToNat, reduceCtorEq, Int.reduceNeg, Int.reduceAdd, h1, h2, e1, e2, m_slices_Index_string_string]
end Go.Proofs.Ythbkkiogbikbcaa

set_option maxRecDepth 100000
set_option linter.unusedSimpArgs false
set_option linter.unusedVariables false
namespace Go.Proofs.Ythbkkiogbikbcaa
open Go.RowKit

theorem dec_or {p q : Prop} : dec (p ∨ q) = (dec p || dec q) := by
  by_cases h : p
  · rw [dec_t h, dec_t (.inl h)]; rfl
  · rw [dec_f h, Bool.false_or]
    by_cases k : q
    · rw [dec_t k, dec_t (.inr k)]
    · rw [dec_f k, dec_f (fun x => x.elim h k)]
theorem dec_ii {p q : Prop} (h : p ↔ q) : dec p = dec q := by rw [propext h]
def c_slices_EqualFunc_impl_Term_impl_Term_impl_Term_impl_Term : SC := (.seq (.reg [⟨(some 6), none, (.mv (.c (.bool false)))⟩]) (.seq (.seq (.reg [⟨(some 10), none, (.mv (.t 0))⟩, ⟨(some 11), none, (.len false (.t 10))⟩, ⟨(some 12), none, (.mv (.t 1))⟩, ⟨(some 13), none, (.len false (.t 12))⟩, ⟨(some 14), none, (.bin .neq false (.t 11) (.t 13))⟩]) (.cond (.t 14) (.seq (.reg [⟨(some 6), none, (.mv (.c (.bool false)))⟩]) .ret) .skip)) (.seq (.seq (.reg [⟨(some 15), none, (.mv (.t 0))⟩, ⟨(some 16), none, (.len false (.t 15))⟩, ⟨(some 17), none, (.mv (.c (.int .i64 0)))⟩]) (.block 0 (.loop [0, 1, 1, 0, 0, 0, 0, 0, 0, 0, 0, 0, 0, 0, 0, 1, 1, 1, 0, 0, 0, 0, 0, 0, 0, 0, 0, 0, 0, 0, 0, 0] (.seq (.reg [⟨(some 18), none, (.bin .lss false (.t 17) (.t 16))⟩]) (.seq (.cond (.t 18) .skip (.exit 0)) (.seq (.block 1 (.seq (.reg [⟨(some 19), none, (.mv (.t 17))⟩, ⟨(some 20), none, (.iaddr 2 (.t 15) (.t 17))⟩, ⟨(some 21), none, (.load true 2 (.t 20))⟩, ⟨(some 8), none, (.alloc 30 [(.str ⟨#[]⟩), .nil])⟩, ⟨(some 7), none, (.mv (.t 19))⟩, ⟨none, none, (.store 2 (.t 8) (.t 21))⟩]) (.seq (.reg [⟨(some 22), none, (.mv (.t 1))⟩, ⟨(some 23), none, (.mv (.t 7))⟩, ⟨(some 24), none, (.iaddr 2 (.t 22) (.t 23))⟩, ⟨(some 25), none, (.load true 2 (.t 24))⟩, ⟨(some 9), none, (.alloc 30 [(.str ⟨#[]⟩), .nil])⟩, ⟨none, none, (.store 2 (.t 9) (.t 25))⟩]) (.seq (.reg [⟨(some 26), none, (.mv (.t 2))⟩, ⟨(some 27), none, (.load true 2 (.t 8))⟩, ⟨(some 28), none, (.load true 2 (.t 9))⟩, ⟨(some 29), none, (.callv (.t 26) [(.t 27), (.t 28)])⟩, ⟨(some 30), none, (.un .not (.t 29))⟩]) (.cond (.t 30) (.seq (.reg [⟨(some 6), none, (.mv (.c (.bool false)))⟩]) .ret) .skip))))) (.reg [⟨(some 31), none, (.bin .add false (.t 17) (.c (.int .i64 1)))⟩, ⟨(some 17), none, (.mv (.t 31))⟩]))))))) (.seq (.reg [⟨(some 6), none, (.mv (.c (.bool true)))⟩]) .ret))))
theorem k_slices_EqualFunc_impl_Term_impl_Term_impl_Term_impl_Term : codeOf Try.prog 43 = some ⟨32, c_slices_EqualFunc_impl_Term_impl_Term_impl_Term_impl_Term, [(.tmp 6)]⟩ := by kernel_rfl
theorem m_slices_EqualFunc_impl_Term_impl_Term_impl_Term_impl_Term : modes 43 = ⟨[], .asis, none, false⟩ := by unfold modes; rfl

def c_impl_EqualTerms : SC := (.seq (.reg [⟨(some 2), none, (.boxv 30 2 (.t 0))⟩, ⟨(some 3), none, (.boxv 30 2 (.t 1))⟩, ⟨(some 4), none, (.mv (.c (.bool false)))⟩]) (.seq (.reg [⟨(some 5), none, (.faddr 0 (.t 2))⟩, ⟨(some 6), none, (.load false 1 (.t 5))⟩, ⟨(some 7), none, (.faddr 0 (.t 3))⟩, ⟨(some 8), none, (.load false 1 (.t 7))⟩, ⟨(some 9), none, (.bin .eql false (.t 6) (.t 8))⟩, ⟨(some 10), none, (.mv (.t 9))⟩, ⟨(some 11), (some (10, true)), (.faddr 1 (.t 2))⟩, ⟨(some 12), (some (10, true)), (.load false 1 (.t 11))⟩, ⟨(some 13), (some (10, true)), (.faddr 1 (.t 3))⟩, ⟨(some 14), (some (10, true)), (.load false 1 (.t 13))⟩, ⟨(some 15), (some (10, true)), (.call 43 [(.t 12), (.t 14), (.c (.fn 23 []))])⟩, ⟨(some 16), none, (.pick (.t 10) (.t 15) (.c (.bool false)))⟩, ⟨(some 4), none, (.mv (.t 16))⟩]) .ret))
theorem k_impl_EqualTerms : codeOf Try.prog 23 = some ⟨17, c_impl_EqualTerms, [(.tmp 4)]⟩ := by kernel_rfl
theorem m_impl_EqualTerms : modes 23 = ⟨[], .asis, none, false⟩ := by unfold modes; rfl

theorem g_impl_EqualTerms : goFn Try.prog 23 = true := by kernel_rfl

def c_spec_l2Same : SC := (.seq (.reg [⟨(some 2), none, (.boxv 30 2 (.t 0))⟩, ⟨(some 3), none, (.boxv 30 2 (.t 1))⟩, ⟨(some 4), none, (.mv (.c (.bool false)))⟩]) (.seq (.seq (.reg [⟨(some 6), none, (.faddr 0 (.t 2))⟩, ⟨(some 7), none, (.load false 1 (.t 6))⟩, ⟨(some 8), none, (.faddr 0 (.t 3))⟩, ⟨(some 9), none, (.load false 1 (.t 8))⟩, ⟨(some 10), none, (.bin .neq false (.t 7) (.t 9))⟩, ⟨(some 11), none, (.mv (.t 10))⟩, ⟨(some 12), (some (11, false)), (.faddr 1 (.t 2))⟩, ⟨(some 13), (some (11, false)), (.load false 1 (.t 12))⟩, ⟨(some 14), (some (11, false)), (.len false (.t 13))⟩, ⟨(some 15), (some (11, false)), (.faddr 1 (.t 3))⟩, ⟨(some 16), (some (11, false)), (.load false 1 (.t 15))⟩, ⟨(some 17), (some (11, false)), (.len false (.t 16))⟩, ⟨(some 18), (some (11, false)), (.bin .neq false (.t 14) (.t 17))⟩, ⟨(some 19), none, (.pick (.t 11) (.c (.bool true)) (.t 18))⟩]) (.cond (.t 19) (.seq (.reg [⟨(some 4), none, (.mv (.c (.bool false)))⟩]) .ret) .skip)) (.seq (.seq (.reg [⟨(some 5), none, (.mv (.c (.int .i64 0)))⟩]) (.block 0 (.loop [0, 0, 1, 1, 0, 1, 0, 0, 0, 0, 0, 0, 0, 0, 0, 0, 0, 0, 0, 0, 0, 0, 0, 0, 0, 0, 0, 0, 0, 0, 0, 0, 0, 0, 0, 0, 0, 0, 0] (.seq (.seq (.reg [⟨(some 20), none, (.mv (.t 5))⟩, ⟨(some 21), none, (.faddr 1 (.t 2))⟩, ⟨(some 22), none, (.load false 1 (.t 21))⟩, ⟨(some 23), none, (.len false (.t 22))⟩, ⟨(some 24), none, (.bin .lss false (.t 20) (.t 23))⟩]) (.cond (.t 24) .skip (.exit 0))) (.seq (.block 1 (.seq (.dreg [[], [0], [], [1, 0, 2], [3, 1, 0, 2], [], [5], [], [6, 5, 7], [8, 6, 5, 7], [4, 3, 1, 0, 2, 9, 8, 6, 5, 7], [10, 4, 3, 1, 0, 2, 9, 8, 6, 5, 7]] [⟨(some 27), none, (.faddr 1 (.t 2))⟩, ⟨(some 28), none, (.load false 1 (.t 27))⟩, ⟨(some 29), none, (.mv (.t 5))⟩, ⟨(some 30), none, (.iaddr 2 (.t 28) (.t 29))⟩, ⟨(some 31), none, (.load true 2 (.t 30))⟩, ⟨(some 32), none, (.faddr 1 (.t 3))⟩, ⟨(some 33), none, (.load false 1 (.t 32))⟩, ⟨(some 34), none, (.mv (.t 5))⟩, ⟨(some 35), none, (.iaddr 2 (.t 33) (.t 34))⟩, ⟨(some 36), none, (.load true 2 (.t 35))⟩, ⟨(some 37), none, (.call 18 [(.t 31), (.t 36)])⟩, ⟨(some 38), none, (.un .not (.t 37))⟩]) (.cond (.t 38) (.seq (.reg [⟨(some 4), none, (.mv (.c (.bool false)))⟩]) .ret) .skip))) (.reg [⟨(some 25), none, (.mv (.t 5))⟩, ⟨(some 26), none, (.bin .add false (.t 25) (.c (.int .i64 1)))⟩, ⟨(some 5), none, (.mv (.t 26))⟩])))))) (.seq (.reg [⟨(some 4), none, (.mv (.c (.bool true)))⟩]) .ret))))
theorem k_spec_l2Same : codeOf Try.prog 18 = some ⟨39, c_spec_l2Same, [(.tmp 4)]⟩ := by kernel_rfl
theorem m_spec_l2Same : modes 18 = ⟨[], .asis, none, false⟩ := by unfold modes; rfl

theorem drop_eq_iff {α : Type} {xs ys : List α} {k : Nat} (hx : k < xs.length) (hy : k < ys.length) : xs.drop k = ys.drop k ↔ xs[k] = ys[k] ∧ xs.drop (k + 1) = ys.drop (k + 1) := by
  rw [List.drop_eq_getElem_cons hx, List.drop_eq_getElem_cons hy, List.cons.injEq]
set_option maxHeartbeats 1000000 in
theorem equalFunc_E (fid : Nat) (xs ys : List Tm) (hl : xs.length ≤ 1099511627776) (hl' : ys.length ≤ 1099511627776) (hg : goFn Try.prog fid = true) (hm : (modes fid).hand = []) (hE : ∀ x ∈ xs, ∀ y ∈ ys, E fid [x.sv, y.sv] [] = some (.bool (dec (x = y)), [])) : E 43 [.arr (xs.map Tm.d), .arr (ys.map Tm.d), .fn fid []] [] = some (.bool (dec (xs = ys)), []) := by
  by_cases hlen : xs.length = ys.length
  · have hq : ((xs.length : Int) = (ys.length : Int)) = True := by first | exact eq_true (by omega) | exact eq_false (by omega)
    refine E_walk k_slices_EqualFunc_impl_Term_impl_Term_impl_Term_impl_Term m_slices_EqualFunc_impl_Term_impl_Term_impl_Term_impl_Term (of_decide_eq_true rfl) ?_
    simp (disch := omega) only [c_slices_EqualFunc_impl_Term_impl_Term_impl_Term_impl_Term, go_sem, Nat.reduceAdd, Nat.reduceSub, Nat.reduceLT, Nat.reduceLeDiff, Nat.reduceEqDiff, Nat.reduceBEq, Nat.reduceBneDiff, Nat.reduceMul, ↓reduceIte, Int.reduceToNat, reduceCtorEq, Int.reduceNeg, Int.reduceAdd, hq]
    refine go_loop (α := Int) (fun a => ⟨slots 32 0 [(1, .arr (ys.map Tm.d)), (2, .fn fid []), (15, .arr (xs.map Tm.d)), (16, .int .i64 xs.length), (17, .int .i64 a)], []⟩) (fun a => ∃ k : Nat, a = k ∧ k ≤ (xs).length ∧ dec (xs.drop k = ys.drop k) = dec (xs = ys)) (fun a => (xs).length - (a).toNat) 0 ⟨0, rfl, Nat.zero_le _, by rw [List.drop_zero, List.drop_zero]⟩ (by simp (disch := omega) only [go_sem, Nat.reduceAdd, Nat.reduceSub, Nat.reduceLT, Nat.reduceLeDiff, Nat.reduceEqDiff, Nat.reduceBEq, Nat.reduceBneDiff, Nat.reduceMul, ↓reduceIte, Int.reduceToNat, reduceCtorEq, Int.reduceNeg, Int.reduceAdd]) ?_
    rintro i ⟨k, hi, hk, hR⟩
    have hni : i.toNat = k := by omega
    have hni1 : (i + 1).toNat = k + 1 := by omega
    rcases Nat.lt_or_ge k (xs).length with hlt | hge
    · have hgx := get_at Tm.d hlt
      rw [Tm.d_eq] at hgx
      have hlt' : k < ys.length := by omega
      have hgy := get_at Tm.d hlt'
      rw [Tm.d_eq] at hgy
      have hc := hE xs[k] (List.getElem_mem hlt) ys[k] (List.getElem_mem hlt')
      rw [dec_ii (drop_eq_iff hlt hlt')] at hR
      by_cases h0 : xs[k] = ys[k]
      · rw [dec_t h0] at hc
        rw [dec_ii (and_iff_right h0)] at hR
        simp (disch := omega) only [go_sem, Nat.reduceAdd, Nat.reduceSub, Nat.reduceLT, Nat.reduceLeDiff, Nat.reduceEqDiff, Nat.reduceBEq, Nat.reduceBneDiff, Nat.reduceMul, ↓reduceIte, Int.reduceToNat, reduceCtorEq, Int.reduceNeg, Int.reduceAdd, hni, hgx, hgy, hc, hg, hm]
        exact ⟨i + 1, ⟨k + 1, by omega, hlt, hR⟩, by omega, by first | trivial | rfl⟩
      · rw [dec_f h0] at hc
        rw [dec_f (fun h => h0 h.1)] at hR
        simp (disch := omega) only [go_sem, Nat.reduceAdd, Nat.reduceSub, Nat.reduceLT, Nat.reduceLeDiff, Nat.reduceEqDiff, Nat.reduceBEq, Nat.reduceBneDiff, Nat.reduceMul, ↓reduceIte, Int.reduceToNat, reduceCtorEq, Int.reduceNeg, Int.reduceAdd, hni, hgx, hgy, hc, hg, hm]
        exact hR
    · rw [List.drop_eq_nil_of_le hge, List.drop_eq_nil_of_le (by omega), dec_refl] at hR
      simp (disch := omega) only [go_sem, Nat.reduceAdd, Nat.reduceSub, Nat.reduceLT, Nat.reduceLeDiff, Nat.reduceEqDiff, Nat.reduceBEq, Nat.reduceBneDiff, Nat.reduceMul, ↓reduceIte, Int.reduceToNat, reduceCtorEq, Int.reduceNeg, Int.reduceAdd, hni]
      exact hR
  · have hq : ((xs.length : Int) = (ys.length : Int)) = False := by first | exact eq_true (by omega) | exact eq_false (by omega)
    have he : dec (xs = ys) = false := dec_f fun h => hlen (by rw [h])
    rw [he]
    refine E_walk k_slices_EqualFunc_impl_Term_impl_Term_impl_Term_impl_Term m_slices_EqualFunc_impl_Term_impl_Term_impl_Term_impl_Term (of_decide_eq_true rfl) ?_
    simp (disch := omega) only [c_slices_EqualFunc_impl_Term_impl_Term_impl_Term_impl_Term, go_sem, Nat.reduceAdd, Nat.reduceSub, Nat.reduceLT, Nat.reduceLeDiff, Nat.reduceEqDiff, Nat.reduceBEq, Nat.reduceBneDiff, Nat.reduceMul, ↓reduceIte, Int.reduceToNat, reduceCtorEq, Int.reduceNeg, Int.reduceAdd, hq]
theorem Tm.eq_iff (x y : Tm) : x = y ↔ x.name = y.name ∧ x.args = y.args := by
  obtain ⟨n, a⟩ := x
  obtain ⟨m, b⟩ := y
  rw [Tm.mk.injEq]; rfl
theorem equalTerms_of (x : Tm) (y : Tm) (hnx : x.nodes ≤ 1099511627776) (hny : y.nodes ≤ 1099511627776) (ih : ∀ x' ∈ x.args, ∀ y' : Tm, x'.nodes ≤ 1099511627776 → y'.nodes ≤ 1099511627776 → E 23 [x'.sv, y'.sv] [] = some (.bool (dec (x' = y')), [])) : E 23 [x.sv, y.sv] [] = some (.bool (dec (x = y)), []) := by
  have lx := Tm.length_le x.args
  have ly := Tm.length_le y.args
  have nx := Tm.nodes_eq x
  have ny := Tm.nodes_eq y
  have h6 := equalFunc_E 23 x.args y.args (by omega) (by omega) g_impl_EqualTerms (by rw [m_impl_EqualTerms]) fun x' hx' y' hy' => ih x' hx' y' (by have := Tm.nodes_mem hx'; omega) (by have := Tm.nodes_mem hy'; omega)
  rw [dec_ii (Tm.eq_iff x y)]
  by_cases h0 : x.name = y.name
  · rw [dec_ii (and_iff_right h0)]
    have hq : (x.name = y.name) = True := by simp [h0]
    refine E_walk k_impl_EqualTerms m_impl_EqualTerms (of_decide_eq_true rfl) ?_
    simp (disch := omega) only [c_impl_EqualTerms, go_sem, Nat.reduceAdd, Nat.reduceSub, Nat.reduceLT, Nat.reduceLeDiff, Nat.reduceEqDiff, Nat.reduceBEq, Nat.reduceBneDiff, Nat.reduceMul, ↓reduceIte, Int.reduceToNat, reduceCtorEq, Int.reduceNeg, Int.reduceAdd, hq, h6, m_slices_EqualFunc_impl_Term_impl_Term_impl_Term_impl_Term]
  · have hq : (x.name = y.name) = False := by simp [h0]
    rw [dec_f (fun h => h0 h.1)]
    refine E_walk k_impl_EqualTerms m_impl_EqualTerms (of_decide_eq_true rfl) ?_
    simp (disch := omega) only [c_impl_EqualTerms, go_sem, Nat.reduceAdd, Nat.reduceSub, Nat.reduceLT, Nat.reduceLeDiff, Nat.reduceEqDiff, Nat.reduceBEq, Nat.reduceBneDiff, Nat.reduceMul, ↓reduceIte, Int.reduceToNat, reduceCtorEq, Int.reduceNeg, Int.reduceAdd, hq]
theorem equalTerms_E (x y : Tm) (hnx : x.nodes ≤ 1099511627776) (hny : y.nodes ≤ 1099511627776) : E 23 [x.sv, y.sv] [] = some (.bool (dec (x = y)), []) :=
  equalTerms_of x y hnx hny fun x' hx' y' h h' => equalTerms_E x' y' h h'
termination_by SizeOf.sizeOf x
decreasing_by exact Tm.lt_of_mem hx'
set_option maxHeartbeats 1000000 in
theorem l2Same_of (x : Tm) (y : Tm) (hnx : x.nodes ≤ 1099511627776) (hny : y.nodes ≤ 1099511627776) (ih : ∀ x' ∈ x.args, ∀ y' : Tm, x'.nodes ≤ 1099511627776 → y'.nodes ≤ 1099511627776 → E 18 [x'.sv, y'.sv] [] = some (.bool (dec (x' = y')), [])) : E 18 [x.sv, y.sv] [] = some (.bool (dec (x = y)), []) := by
  have lx := Tm.length_le x.args
  have ly := Tm.length_le y.args
  have nx := Tm.nodes_eq x
  have ny := Tm.nodes_eq y
  rw [dec_ii (Tm.eq_iff x y)]
  by_cases h0 : x.name = y.name
  · rw [dec_ii (and_iff_right h0)]
    have hq : (x.name = y.name) = True := by simp [h0]
    by_cases hlen : x.args.length = y.args.length
    · have hq2 : ((x.args.length : Int) = (y.args.length : Int)) = True := by first | exact eq_true (by omega) | exact eq_false (by omega)
      refine E_walk k_spec_l2Same m_spec_l2Same (of_decide_eq_true rfl) ?_
      simp (disch := omega) only [c_spec_l2Same, go_sem, Nat.reduceAdd, Nat.reduceSub, Nat.reduceLT, Nat.reduceLeDiff, Nat.reduceEqDiff, Nat.reduceBEq, Nat.reduceBneDiff, Nat.reduceMul, ↓reduceIte, Int.reduceToNat, reduceCtorEq, Int.reduceNeg, Int.reduceAdd, hq, hq2]
      refine go_loop (α := Int) (fun a => ⟨slots 39 0 [(2, .ptr 0 0), (3, .ptr 1 0), (5, .int .i64 a)], [.box 30 [.str x.name, .arr (x.args.map Tm.d)], .box 30 [.str y.name, .arr (y.args.map Tm.d)]]⟩) (fun a => ∃ k : Nat, a = k ∧ k ≤ (x.args).length ∧ dec (x.args.drop k = y.args.drop k) = dec (x.args = y.args)) (fun a => (x.args).length - (a).toNat) 0 ⟨0, rfl, Nat.zero_le _, by rw [List.drop_zero, List.drop_zero]⟩ (by simp (disch := omega) only [go_sem, Nat.reduceAdd, Nat.reduceSub, Nat.reduceLT, Nat.reduceLeDiff, Nat.reduceEqDiff, Nat.reduceBEq, Nat.reduceBneDiff, Nat.reduceMul, ↓reduceIte, Int.reduceToNat, reduceCtorEq, Int.reduceNeg, Int.reduceAdd]) ?_
      rintro i ⟨k, hi, hk, hR⟩
      have hni : i.toNat = k := by omega
      have hni1 : (i + 1).toNat = k + 1 := by omega
      rcases Nat.lt_or_ge k (x.args).length with hlt | hge
      · have hgx := get_at Tm.d hlt
        rw [Tm.d_eq] at hgx
        have hlt' : k < y.args.length := by omega
        have hgy := get_at Tm.d hlt'
        rw [Tm.d_eq] at hgy
        have hc := ih x.args[k] (List.getElem_mem hlt) y.args[k] (by have := Tm.nodes_mem (List.getElem_mem hlt); omega) (by have := Tm.nodes_mem (List.getElem_mem hlt'); omega)
        rw [dec_ii (drop_eq_iff hlt hlt')] at hR
        by_cases h0 : x.args[k] = y.args[k]
        · rw [dec_t h0] at hc
          rw [dec_ii (and_iff_right h0)] at hR
          simp (disch := omega) only [go_sem, Nat.reduceAdd, Nat.reduceSub, Nat.reduceLT, Nat.reduceLeDiff, Nat.reduceEqDiff, Nat.reduceBEq, Nat.reduceBneDiff, Nat.reduceMul, ↓reduceIte, Int.reduceToNat, reduceCtorEq, Int.reduceNeg, Int.reduceAdd, hni, hgx, hgy, hc, m_spec_l2Same]
          exact ⟨i + 1, ⟨k + 1, by omega, hlt, hR⟩, by omega, by first | trivial | rfl⟩
        · rw [dec_f h0] at hc
          rw [dec_f (fun h => h0 h.1)] at hR
          simp (disch := omega) only [go_sem, Nat.reduceAdd, Nat.reduceSub, Nat.reduceLT, Nat.reduceLeDiff, Nat.reduceEqDiff, Nat.reduceBEq, Nat.reduceBneDiff, Nat.reduceMul, ↓reduceIte, Int.reduceToNat, reduceCtorEq, Int.reduceNeg, Int.reduceAdd, hni, hgx, hgy, hc, m_spec_l2Same]
          exact hR
      · rw [List.drop_eq_nil_of_le hge, List.drop_eq_nil_of_le (by omega), dec_refl] at hR
        simp (disch := omega) only [go_sem, Nat.reduceAdd, Nat.reduceSub, Nat.reduceLT, Nat.reduceLeDiff, Nat.reduceEqDiff, Nat.reduceBEq, Nat.reduceBneDiff, Nat.reduceMul, ↓reduceIte, Int.reduceToNat, reduceCtorEq, Int.reduceNeg, Int.reduceAdd, hni]
        exact hR
    · have hq2 : ((x.args.length : Int) = (y.args.length : Int)) = False := by first | exact eq_true (by omega) | exact eq_false (by omega)
      have he : dec (x.args = y.args) = false := dec_f fun h => hlen (by rw [h])
      rw [he]
      refine E_walk k_spec_l2Same m_spec_l2Same (of_decide_eq_true rfl) ?_
      simp (disch := omega) only [c_spec_l2Same, go_sem, Nat.reduceAdd, Nat.reduceSub, Nat.reduceLT, Nat.reduceLeDiff, Nat.reduceEqDiff, Nat.reduceBEq, Nat.reduceBneDiff, Nat.reduceMul, ↓reduceIte, Int.reduceToNat, reduceCtorEq, Int.reduceNeg, Int.reduceAdd, hq, hq2]
  · have hq : (x.name = y.name) = False := by simp [h0]
    rw [dec_f (fun h => h0 h.1)]
    refine E_walk k_spec_l2Same m_spec_l2Same (of_decide_eq_true rfl) ?_
    simp (disch := omega) only [c_spec_l2Same, go_sem, Nat.reduceAdd, Nat.reduceSub, Nat.reduceLT, Nat.reduceLeDiff, Nat.reduceEqDiff, Nat.reduceBEq, Nat.reduceBneDiff, Nat.reduceMul, ↓reduceIte, Int.reduceToNat, reduceCtorEq, Int.reduceNeg, Int.reduceAdd, hq]
theorem l2Same_E (x y : Tm) (hnx : x.nodes ≤ 1099511627776) (hny : y.nodes ≤ 1099511627776) : E 18 [x.sv, y.sv] [] = some (.bool (dec (x = y)), []) :=
  l2Same_of x y hnx hny fun x' hx' y' h h' => l2Same_E x' y' h h'
termination_by SizeOf.sizeOf x
decreasing_by exact Tm.lt_of_mem hx'
end Go.Proofs.Ythbkkiogbikbcaa

set_option maxRecDepth 100000
set_option linter.unusedSimpArgs false
set_option linter.unusedVariables false
namespace Go.Proofs.Ythbkkiogbikbcaa
open Go.RowKit

def c_impl_countName : SC := (.seq (.reg [⟨(some 2), none, (.boxv 30 2 (.t 0))⟩, ⟨(some 4), none, (.mv (.c (.int .i64 0)))⟩]) (.seq (.reg [⟨(some 5), none, (.mv (.c (.int .i64 0)))⟩]) (.seq (.seq (.reg [⟨(some 8), none, (.faddr 0 (.t 2))⟩, ⟨(some 9), none, (.load false 1 (.t 8))⟩, ⟨(some 10), none, (.mv (.t 1))⟩, ⟨(some 11), none, (.bin .eql false (.t 9) (.t 10))⟩]) (.cond (.t 11) (.reg [⟨(some 5), none, (.mv (.c (.int .i64 1)))⟩]) .skip)) (.seq (.seq (.reg [⟨(some 12), none, (.faddr 1 (.t 2))⟩, ⟨(some 13), none, (.load false 1 (.t 12))⟩, ⟨(some 14), none, (.len false (.t 13))⟩, ⟨(some 15), none, (.mv (.c (.int .i64 0)))⟩]) (.block 0 (.loop [0, 1, 0, 0, 0, 1, 0, 0, 0, 0, 0, 0, 0, 1, 1, 1, 0, 0, 0, 0, 0, 0, 0, 0, 0, 0] (.seq (.reg [⟨(some 16), none, (.bin .lss false (.t 15) (.t 14))⟩]) (.seq (.cond (.t 16) .skip (.exit 0)) (.seq (.block 1 (.seq (.reg [⟨(some 17), none, (.iaddr 2 (.t 13) (.t 15))⟩, ⟨(some 18), none, (.load true 2 (.t 17))⟩, ⟨(some 7), none, (.alloc 30 [(.str ⟨#[]⟩), .nil])⟩, ⟨none, none, (.store 2 (.t 7) (.t 18))⟩]) (.reg [⟨(some 19), none, (.mv (.t 5))⟩, ⟨(some 20), none, (.load true 2 (.t 7))⟩, ⟨(some 21), none, (.mv (.t 1))⟩, ⟨(some 22), none, (.call 82 [(.t 20), (.t 21)])⟩, ⟨(some 23), none, (.bin .add false (.t 19) (.t 22))⟩, ⟨(some 5), none, (.mv (.t 23))⟩]))) (.reg [⟨(some 24), none, (.bin .add false (.t 15) (.c (.int .i64 1)))⟩, ⟨(some 15), none, (.mv (.t 24))⟩]))))))) (.seq (.reg [⟨(some 25), none, (.mv (.t 5))⟩, ⟨(some 4), none, (.mv (.t 25))⟩]) .ret)))))
theorem k_impl_countName : codeOf Try.prog 82 = some ⟨26, c_impl_countName, [(.tmp 4)]⟩ := by kernel_rfl
theorem m_impl_countName : modes 82 = ⟨[], .asis, none, false⟩ := by unfold modes; rfl

mutual
/-- How often a name occurs. -/
noncomputable def Tm.cnt (n : ByteArray) : Tm → Nat
  | .mk name args => (bif dec (name = n) then 1 else 0) + Tm.cntL n args
noncomputable def Tm.cntL (n : ByteArray) : List Tm → Nat
  | [] => 0
  | x :: xs => Tm.cnt n x + Tm.cntL n xs
end
theorem Tm.cnt_eq (n : ByteArray) (x : Tm) : x.cnt n = (bif dec (x.name = n) then 1 else 0) + Tm.cntL n x.args := by
  obtain ⟨a, b⟩ := x
  rw [Tm.cnt]; rfl
theorem Tm.cntL_le (n : ByteArray) : ∀ xs : List Tm, (∀ x ∈ xs, x.cnt n ≤ x.nodes) → Tm.cntL n xs ≤ Tm.nodeS xs
  | [], _ => by rw [Tm.cntL]; omega
  | x :: xs, h => by
    have h1 := h x (by simp)
    have h2 := Tm.cntL_le n xs fun y hy => h y (by simp [hy])
    rw [Tm.cntL, Tm.nodeS]; omega
theorem Tm.cnt_le (n : ByteArray) (x : Tm) : x.cnt n ≤ x.nodes := by
  have h := Tm.cntL_le n x.args fun y hy => Tm.cnt_le n y
  rw [Tm.cnt_eq, Tm.nodes_eq]
  cases dec (x.name = n) with
  | true => simp only [cond_true]; omega
  | false => simp only [cond_false]; omega
termination_by SizeOf.sizeOf x
decreasing_by exact Tm.lt_of_mem hy
theorem Tm.cntL_pos {n : ByteArray} : ∀ {xs : List Tm}, 0 < Tm.cntL n xs ↔ ∃ x ∈ xs, 0 < x.cnt n
  | [] => by rw [Tm.cntL]; simp
  | x :: xs => by
    have h := Tm.cntL_pos (n := n) (xs := xs)
    rw [Tm.cntL]
    constructor
    · intro hp
      rcases Nat.eq_zero_or_pos (x.cnt n) with h0 | h0
      · obtain ⟨y, h1, h2⟩ := h.1 (by omega)
        exact ⟨y, by simp [h1], h2⟩
      · exact ⟨x, by simp, h0⟩
    · rintro ⟨y, h1, h2⟩
      rcases List.mem_cons.1 h1 with rfl | h1
      · omega
      · have := h.2 ⟨y, h1, h2⟩; omega
set_option maxHeartbeats 4000000 in
theorem countName_of (x : Tm) (n : ByteArray) (hn : x.nodes ≤ 1099511627776) (ih : ∀ y ∈ x.args, E 82 [y.sv, .str n] [] = some (.int .i64 (y.cnt n : Nat), [])) : E 82 [x.sv, .str n] [] = some (.int .i64 (x.cnt n : Nat), []) := by
  have hx := Tm.nodes_eq x
  have hl := Tm.length_le x.args
  have hle := Tm.cnt_le n x
  have hc0 := Tm.cnt_eq n x
  have hsv : x.sv = .agg [.str x.name, .arr (x.args.map Tm.d)] := rfl
  rw [hsv]
  obtain ⟨c0, hc0'⟩ : ∃ c0 : Nat, c0 = bif dec (x.name = n) then 1 else 0 := ⟨_, rfl⟩
  rw [← hc0'] at hc0
  by_cases he : x.name = n
  all_goals
    have hq := he
    first
      | rw [dec_t he, cond_true] at hc0'
      | rw [dec_f he, cond_false] at hc0'
    first
      | have hq := eq_true he
      | have hq := eq_false he
    refine E_walk k_impl_countName m_impl_countName (of_decide_eq_true rfl) ?_
    simp (disch := omega) only [c_impl_countName, go_sem, Nat.reduceAdd, Nat.reduceSub, Nat.reduceLT, Nat.reduceLeDiff, Nat.reduceEqDiff, Nat.reduceBEq, Nat.reduceBneDiff, Nat.reduceMul, ↓reduceIte, Int.reduceToNat, reduceCtorEq, Int.reduceNeg, Int.reduceAdd, hq]
    refine go_loop (α := Int × (Nat)) (fun a => ⟨slots 26 0 [(1, .str n), (5, .int .i64 (((a.2) : Nat) : Int)), (13, .arr (x.args.map Tm.d)), (14, .int .i64 x.args.length), (15, .int .i64 (a.1))], []⟩) (fun a => ∃ k : Nat, a.1 = k ∧ k ≤ (x.args).length ∧ (a.2) + Tm.cntL n (x.args.drop k) = x.cnt n) (fun a => (x.args).length - (a.1).toNat) (0, c0) ⟨0, rfl, Nat.zero_le _, by rw [List.drop_zero]; exact hc0.symm⟩ (by simp (disch := omega) only [go_sem, Nat.reduceAdd, Nat.reduceSub, Nat.reduceLT, Nat.reduceLeDiff, Nat.reduceEqDiff, Nat.reduceBEq, Nat.reduceBneDiff, Nat.reduceMul, ↓reduceIte, Int.reduceToNat, reduceCtorEq, Int.reduceNeg, Int.reduceAdd, hc0', Int.natCast_zero, Int.natCast_one]) ?_
    rintro ⟨i, acc⟩ ⟨k, hi, hk, hR⟩
    dsimp only at hi hR
    have hni : i.toNat = k := by omega
    have hni1 : (i + 1).toNat = k + 1 := by omega
    rcases Nat.lt_or_ge k (x.args).length with hlt | hge
    · have hg := get_at Tm.d hlt
      rw [Tm.d_eq] at hg
      have hc := ih x.args[k] (List.getElem_mem hlt)
      rw [List.drop_eq_getElem_cons hlt, Tm.cntL] at hR
      simp (disch := omega) only [go_sem, Nat.reduceAdd, Nat.reduceSub, Nat.reduceLT, Nat.reduceLeDiff, Nat.reduceEqDiff, Nat.reduceBEq, Nat.reduceBneDiff, Nat.reduceMul, ↓reduceIte, Int.reduceToNat, reduceCtorEq, Int.reduceNeg, Int.reduceAdd, hni, hg, hc, m_impl_countName]
      exact ⟨(i + 1, acc + x.args[k].cnt n), ⟨k + 1, by dsimp only; omega, hlt, by omega⟩, by dsimp only; omega, by simp⟩
    · rw [List.drop_eq_nil_of_le hge, Tm.cntL] at hR
      simp (disch := omega) only [go_sem, Nat.reduceAdd, Nat.reduceSub, Nat.reduceLT, Nat.reduceLeDiff, Nat.reduceEqDiff, Nat.reduceBEq, Nat.reduceBneDiff, Nat.reduceMul, ↓reduceIte, Int.reduceToNat, reduceCtorEq, Int.reduceNeg, Int.reduceAdd, hni]
      try omega
theorem countName_E (x : Tm) (n : ByteArray) (hn : x.nodes ≤ 1099511627776) : E 82 [x.sv, .str n] [] = some (.int .i64 (x.cnt n : Nat), []) :=
  countName_of x n hn fun y hy => countName_E y n (by have := Tm.nodes_mem hy; have := Tm.nodes_eq x; omega)
termination_by SizeOf.sizeOf x
decreasing_by exact Tm.lt_of_mem hy
end Go.Proofs.Ythbkkiogbikbcaa

set_option maxRecDepth 100000
set_option linter.unusedSimpArgs false
set_option linter.unusedVariables false
namespace Go.Proofs.Ythbkkiogbikbcaa
open Go.RowKit

def c_spec_l2Count : SC := (.seq (.reg [⟨(some 2), none, (.boxv 30 2 (.t 0))⟩, ⟨(some 4), none, (.mv (.c (.int .i64 0)))⟩]) (.seq (.reg [⟨(some 5), none, (.mv (.c (.int .i64 0)))⟩]) (.seq (.seq (.reg [⟨(some 7), none, (.faddr 0 (.t 2))⟩, ⟨(some 8), none, (.load false 1 (.t 7))⟩, ⟨(some 9), none, (.mv (.t 1))⟩, ⟨(some 10), none, (.bin .eql false (.t 8) (.t 9))⟩]) (.cond (.t 10) (.reg [⟨(some 5), none, (.mv (.c (.int .i64 1)))⟩]) .skip)) (.seq (.seq (.reg [⟨(some 6), none, (.mv (.c (.int .i64 0)))⟩]) (.block 0 (.loop [0, 1, 1, 0, 0, 1, 1, 0, 0, 0, 0, 0, 0, 0, 0, 0, 0, 0, 0, 0, 0, 0, 0, 0, 0, 0, 0, 0] (.seq (.seq (.reg [⟨(some 11), none, (.mv (.t 6))⟩, ⟨(some 12), none, (.faddr 1 (.t 2))⟩, ⟨(some 13), none, (.load false 1 (.t 12))⟩, ⟨(some 14), none, (.len false (.t 13))⟩, ⟨(some 15), none, (.bin .lss false (.t 11) (.t 14))⟩]) (.cond (.t 15) .skip (.exit 0))) (.seq (.block 1 (.reg [⟨(some 18), none, (.mv (.t 5))⟩, ⟨(some 19), none, (.faddr 1 (.t 2))⟩, ⟨(some 20), none, (.load false 1 (.t 19))⟩, ⟨(some 21), none, (.mv (.t 6))⟩, ⟨(some 22), none, (.iaddr 2 (.t 20) (.t 21))⟩, ⟨(some 23), none, (.load true 2 (.t 22))⟩, ⟨(some 24), none, (.mv (.t 1))⟩, ⟨(some 25), none, (.call 89 [(.t 23), (.t 24)])⟩, ⟨(some 26), none, (.bin .add false (.t 18) (.t 25))⟩, ⟨(some 5), none, (.mv (.t 26))⟩])) (.reg [⟨(some 16), none, (.mv (.t 6))⟩, ⟨(some 17), none, (.bin .add false (.t 16) (.c (.int .i64 1)))⟩, ⟨(some 6), none, (.mv (.t 17))⟩])))))) (.seq (.reg [⟨(some 27), none, (.mv (.t 5))⟩, ⟨(some 4), none, (.mv (.t 27))⟩]) .ret)))))
theorem k_spec_l2Count : codeOf Try.prog 89 = some ⟨28, c_spec_l2Count, [(.tmp 4)]⟩ := by kernel_rfl
theorem m_spec_l2Count : modes 89 = ⟨[], .asis, none, false⟩ := by unfold modes; rfl

def c_spec_l6Balanced : SC := (.seq (.reg [⟨(some 2), none, (.boxv 30 2 (.t 0))⟩, ⟨(some 3), none, (.boxv 30 2 (.t 1))⟩, ⟨(some 4), none, (.mv (.c (.bool false)))⟩]) (.seq (.reg [⟨(some 7), none, (.load true 2 (.t 3))⟩, ⟨(some 8), none, (.call 88 [(.t 7)])⟩, ⟨(some 5), none, (.mv (.t 8))⟩]) (.seq (.seq (.reg [⟨(some 6), none, (.mv (.c (.int .i64 0)))⟩]) (.block 0 (.loop [0, 0, 1, 1, 0, 1, 1, 0, 0, 0, 0, 0, 0, 0, 0, 0, 0, 0, 0, 0, 0, 0, 0, 0, 0, 0, 0, 0] (.seq (.seq (.reg [⟨(some 9), none, (.mv (.t 6))⟩, ⟨(some 10), none, (.mv (.t 5))⟩, ⟨(some 11), none, (.len false (.t 10))⟩, ⟨(some 12), none, (.bin .lss false (.t 9) (.t 11))⟩]) (.cond (.t 12) .skip (.exit 0))) (.seq (.block 1 (.seq (.dreg [[], [], [], [1, 2], [3, 1, 2], [0, 4, 3, 1, 2], [], [], [], [7, 8], [9, 7, 8], [6, 10, 9, 7, 8, 5, 0, 4, 3, 1, 2], [5, 0, 4, 3, 1, 2, 11, 6, 10, 9, 7, 8]] [⟨(some 15), none, (.load true 2 (.t 2))⟩, ⟨(some 16), none, (.mv (.t 5))⟩, ⟨(some 17), none, (.mv (.t 6))⟩, ⟨(some 18), none, (.iaddr 1 (.t 16) (.t 17))⟩, ⟨(some 19), none, (.load false 1 (.t 18))⟩, ⟨(some 20), none, (.call 89 [(.t 15), (.t 19)])⟩, ⟨(some 21), none, (.load true 2 (.t 3))⟩, ⟨(some 22), none, (.mv (.t 5))⟩, ⟨(some 23), none, (.mv (.t 6))⟩, ⟨(some 24), none, (.iaddr 1 (.t 22) (.t 23))⟩, ⟨(some 25), none, (.load false 1 (.t 24))⟩, ⟨(some 26), none, (.call 89 [(.t 21), (.t 25)])⟩, ⟨(some 27), none, (.bin .lss false (.t 20) (.t 26))⟩]) (.cond (.t 27) (.seq (.reg [⟨(some 4), none, (.mv (.c (.bool false)))⟩]) .ret) .skip))) (.reg [⟨(some 13), none, (.mv (.t 6))⟩, ⟨(some 14), none, (.bin .add false (.t 13) (.c (.int .i64 1)))⟩, ⟨(some 6), none, (.mv (.t 14))⟩])))))) (.seq (.reg [⟨(some 4), none, (.mv (.c (.bool true)))⟩]) .ret))))
theorem k_spec_l6Balanced : codeOf Try.prog 57 = some ⟨28, c_spec_l6Balanced, [(.tmp 4)]⟩ := by kernel_rfl
theorem m_spec_l6Balanced : modes 57 = ⟨[], .asis, none, false⟩ := by unfold modes; rfl

def c_spec_l6Root : SC := (.seq (.reg [⟨(some 3), none, (.boxv 43 3 (.t 0))⟩, ⟨(some 4), none, (.boxv 30 2 (.t 1))⟩, ⟨(some 5), none, (.boxv 30 2 (.t 2))⟩, ⟨(some 6), none, (.mv (.c (.int .i64 0)))⟩]) (.seq (.dreg [[], [], [1], [0, 2, 1], [], [], [5], [4, 6, 5, 3, 0, 2, 1], [3, 0, 2, 1, 7, 4, 6, 5], [7, 4, 6, 5, 3, 0, 2, 1, 8]] [⟨(some 9), none, (.load true 3 (.t 3))⟩, ⟨(some 10), none, (.faddr 0 (.t 4))⟩, ⟨(some 11), none, (.load false 1 (.t 10))⟩, ⟨(some 12), none, (.call 87 [(.t 9), (.t 11)])⟩, ⟨(some 13), none, (.load true 3 (.t 3))⟩, ⟨(some 14), none, (.faddr 0 (.t 5))⟩, ⟨(some 15), none, (.load false 1 (.t 14))⟩, ⟨(some 16), none, (.call 87 [(.t 13), (.t 15)])⟩, ⟨(some 7), none, (.mv (.t 12))⟩, ⟨(some 8), none, (.mv (.t 16))⟩]) (.seq (.seq (.reg [⟨(some 17), none, (.mv (.t 7))⟩, ⟨(some 18), none, (.mv (.t 8))⟩, ⟨(some 19), none, (.bin .eql false (.t 17) (.t 18))⟩]) (.cond (.t 19) (.seq (.reg [⟨(some 20), none, (.faddr 1 (.t 4))⟩, ⟨(some 21), none, (.load false 1 (.t 20))⟩, ⟨(some 22), none, (.len false (.t 21))⟩, ⟨(some 7), none, (.mv (.t 22))⟩]) (.reg [⟨(some 23), none, (.faddr 1 (.t 5))⟩, ⟨(some 24), none, (.load false 1 (.t 23))⟩, ⟨(some 25), none, (.len false (.t 24))⟩, ⟨(some 8), none, (.mv (.t 25))⟩])) .skip)) (.seq (.block 0 (.seq (.reg [⟨(some 27), none, (.mv (.t 7))⟩, ⟨(some 28), none, (.mv (.t 8))⟩, ⟨(some 29), none, (.bin .lss false (.t 27) (.t 28))⟩, ⟨(some 26), none, (.mv (.t 29))⟩]) (.cond (.t 26) (.seq (.reg [⟨(some 6), none, (.mv (.c (.int .i64 (-(0 + 1)))))⟩]) .ret) (.seq (.reg [⟨(some 31), none, (.mv (.t 7))⟩, ⟨(some 32), none, (.mv (.t 8))⟩, ⟨(some 33), none, (.bin .gtr false (.t 31) (.t 32))⟩, ⟨(some 30), none, (.mv (.t 33))⟩]) (.cond (.t 30) (.seq (.reg [⟨(some 6), none, (.mv (.c (.int .i64 1)))⟩]) .ret) .skip))))) (.seq (.reg [⟨(some 6), none, (.mv (.c (.int .i64 0)))⟩]) .ret)))))
theorem k_spec_l6Root : codeOf Try.prog 59 = some ⟨34, c_spec_l6Root, [(.tmp 6)]⟩ := by kernel_rfl
theorem m_spec_l6Root : modes 59 = ⟨[], .asis, none, false⟩ := by unfold modes; rfl

set_option maxHeartbeats 4000000 in
theorem l2Count_of (x : Tm) (n : ByteArray) (hn : x.nodes ≤ 1099511627776) (ih : ∀ y ∈ x.args, E 89 [y.sv, .str n] [] = some (.int .i64 (y.cnt n : Nat), [])) : E 89 [x.sv, .str n] [] = some (.int .i64 (x.cnt n : Nat), []) := by
  have hx := Tm.nodes_eq x
  have hl := Tm.length_le x.args
  have hle := Tm.cnt_le n x
  have hc0 := Tm.cnt_eq n x
  have hsv : x.sv = .agg [.str x.name, .arr (x.args.map Tm.d)] := rfl
  rw [hsv]
  obtain ⟨c0, hc0'⟩ : ∃ c0 : Nat, c0 = bif dec (x.name = n) then 1 else 0 := ⟨_, rfl⟩
  rw [← hc0'] at hc0
  by_cases he : x.name = n
  all_goals
    have hq := he
    first
      | rw [dec_t he, cond_true] at hc0'
      | rw [dec_f he, cond_false] at hc0'
    first
      | have hq := eq_true he
      | have hq := eq_false he
    refine E_walk k_spec_l2Count m_spec_l2Count (of_decide_eq_true rfl) ?_
    simp (disch := omega) only [c_spec_l2Count, go_sem, Nat.reduceAdd, Nat.reduceSub, Nat.reduceLT, Nat.reduceLeDiff, Nat.reduceEqDiff, Nat.reduceBEq, Nat.reduceBneDiff, Nat.reduceMul, ↓reduceIte, Int.reduceToNat, reduceCtorEq, Int.reduceNeg, Int.reduceAdd, hq]
    refine go_loop (α := Int × (Nat)) (fun a => ⟨slots 28 0 [(1, .str n), (2, .ptr 0 0), (5, .int .i64 (((a.2) : Nat) : Int)), (6, .int .i64 (a.1))], [.box 30 [.str x.name, .arr (x.args.map Tm.d)]]⟩) (fun a => ∃ k : Nat, a.1 = k ∧ k ≤ (x.args).length ∧ (a.2) + Tm.cntL n (x.args.drop k) = x.cnt n) (fun a => (x.args).length - (a.1).toNat) (0, c0) ⟨0, rfl, Nat.zero_le _, by rw [List.drop_zero]; exact hc0.symm⟩ (by simp (disch := omega) only [go_sem, Nat.reduceAdd, Nat.reduceSub, Nat.reduceLT, Nat.reduceLeDiff, Nat.reduceEqDiff, Nat.reduceBEq, Nat.reduceBneDiff, Nat.reduceMul, ↓reduceIte, Int.reduceToNat, reduceCtorEq, Int.reduceNeg, Int.reduceAdd, hc0', Int.natCast_zero, Int.natCast_one]) ?_
    rintro ⟨i, acc⟩ ⟨k, hi, hk, hR⟩
    dsimp only at hi hR
    have hni : i.toNat = k := by omega
    have hni1 : (i + 1).toNat = k + 1 := by omega
    rcases Nat.lt_or_ge k (x.args).length with hlt | hge
    · have hg := get_at Tm.d hlt
      rw [Tm.d_eq] at hg
      have hc := ih x.args[k] (List.getElem_mem hlt)
      rw [List.drop_eq_getElem_cons hlt, Tm.cntL] at hR
      simp (disch := omega) only [go_sem, Nat.reduceAdd, Nat.reduceSub, Nat.reduceLT, Nat.reduceLeDiff, Nat.reduceEqDiff, Nat.reduceBEq, Nat.reduceBneDiff, Nat.reduceMul, ↓reduceIte, Int.reduceToNat, reduceCtorEq, Int.reduceNeg, Int.reduceAdd, hni, hg, hc, m_spec_l2Count]
      exact ⟨(i + 1, acc + x.args[k].cnt n), ⟨k + 1, by dsimp only; omega, hlt, by omega⟩, by dsimp only; omega, by simp⟩
    · rw [List.drop_eq_nil_of_le hge, Tm.cntL] at hR
      simp (disch := omega) only [go_sem, Nat.reduceAdd, Nat.reduceSub, Nat.reduceLT, Nat.reduceLeDiff, Nat.reduceEqDiff, Nat.reduceBEq, Nat.reduceBneDiff, Nat.reduceMul, ↓reduceIte, Int.reduceToNat, reduceCtorEq, Int.reduceNeg, Int.reduceAdd, hni]
      try omega
theorem l2Count_E (x : Tm) (n : ByteArray) (hn : x.nodes ≤ 1099511627776) : E 89 [x.sv, .str n] [] = some (.int .i64 (x.cnt n : Nat), []) :=
  l2Count_of x n hn fun y hy => l2Count_E y n (by have := Tm.nodes_mem hy; have := Tm.nodes_eq x; omega)
termination_by SizeOf.sizeOf x
decreasing_by exact Tm.lt_of_mem hy
/-- Whether each of these names occurs in one term at least as often as in another. -/
noncomputable def balL (s t : Tm) (ns : List ByteArray) : Bool := ns.all fun n => !dec ((s.cnt n : Int) < (t.cnt n : Int))
set_option maxHeartbeats 4000000 in
theorem l6Balanced_E (s t : Tm) (hs : s.nodes ≤ 1048576) (ht : t.nodes ≤ 1048576) : E 57 [s.sv, t.sv] [] = some (.bool (balL s t (insA [] t.vs)), []) := by
  have hv := l2Vars_E t ht
  have hll := insA_len t.vs []
  have hvl := Tm.vs_len t
  simp only [List.length_nil] at hll
  obtain ⟨ns, hns⟩ : ∃ ns, ns = insA [] t.vs := ⟨_, rfl⟩
  rw [← hns] at hv hll ⊢
  refine E_walk k_spec_l6Balanced m_spec_l6Balanced (of_decide_eq_true rfl) ?_
  simp (disch := omega) only [c_spec_l6Balanced, go_sem, Nat.reduceAdd, Nat.reduceSub, Nat.reduceLT, Nat.reduceLeDiff, Nat.reduceEqDiff, Nat.reduceBEq, Nat.reduceBneDiff, Nat.reduceMul, ↓reduceIte, Int.reduceToNat, reduceCtorEq, Int.reduceNeg, Int.reduceAdd, hv, m_spec_l2Vars]
  refine go_loop (α := Int) (fun a => ⟨slots 28 0 [(2, .ptr 0 0), (3, .ptr 1 0), (5, .arr (ns.map fun s => [D.str s])), (6, .int .i64 a)], [.box 30 [.str s.name, .arr (s.args.map Tm.d)], .box 30 [.str t.name, .arr (t.args.map Tm.d)]]⟩) (fun a => ∃ k : Nat, a = k ∧ k ≤ (ns).length ∧ balL s t (ns.drop k) = balL s t ns) (fun a => (ns).length - (a).toNat) 0 ⟨0, rfl, Nat.zero_le _, by rw [List.drop_zero]⟩ (by simp (disch := omega) only [go_sem, Nat.reduceAdd, Nat.reduceSub, Nat.reduceLT, Nat.reduceLeDiff, Nat.reduceEqDiff, Nat.reduceBEq, Nat.reduceBneDiff, Nat.reduceMul, ↓reduceIte, Int.reduceToNat, reduceCtorEq, Int.reduceNeg, Int.reduceAdd]) ?_
  rintro i ⟨k, hi, hk, hR⟩
  have hni : i.toNat = k := by omega
  have hni1 : (i + 1).toNat = k + 1 := by omega
  rcases Nat.lt_or_ge k (ns).length with hlt | hge
  · have hg := get_at (fun s => [D.str s]) hlt
    have h1 := l2Count_E s ns[k] (by omega)
    have h2 := l2Count_E t ns[k] (by omega)
    unfold balL at hR
    rw [List.drop_eq_getElem_cons hlt, List.all_cons] at hR
    cases hq : dec ((s.cnt ns[k] : Int) < (t.cnt ns[k] : Int)) with
    | true =>
      rw [hq] at hR
      simp (disch := omega) only [go_sem, Nat.reduceAdd, Nat.reduceSub, Nat.reduceLT, Nat.reduceLeDiff, Nat.reduceEqDiff, Nat.reduceBEq, Nat.reduceBneDiff, Nat.reduceMul, ↓reduceIte, Int.reduceToNat, reduceCtorEq, Int.reduceNeg, Int.reduceAdd, hni, hg, h1, h2, hq, m_spec_l2Count]
      exact hR
    | false =>
      rw [hq] at hR
      simp (disch := omega) only [go_sem, Nat.reduceAdd, Nat.reduceSub, Nat.reduceLT, Nat.reduceLeDiff, Nat.reduceEqDiff, Nat.reduceBEq, Nat.reduceBneDiff, Nat.reduceMul, ↓reduceIte, Int.reduceToNat, reduceCtorEq, Int.reduceNeg, Int.reduceAdd, hni, hg, h1, h2, hq, m_spec_l2Count]
      exact ⟨i + 1, ⟨k + 1, by omega, hlt, hR⟩, by omega, by first | trivial | rfl⟩
  · rw [List.drop_eq_nil_of_le hge] at hR
    simp (disch := omega) only [go_sem, Nat.reduceAdd, Nat.reduceSub, Nat.reduceLT, Nat.reduceLeDiff, Nat.reduceEqDiff, Nat.reduceBEq, Nat.reduceBneDiff, Nat.reduceMul, ↓reduceIte, Int.reduceToNat, reduceCtorEq, Int.reduceNeg, Int.reduceAdd, hni]
    first | exact hR | (rw [← hR]; rfl)
/-- Which of two roots is greater. -/
noncomputable def rootI (syms : List ByteArray) (s t : Tm) : Int := bif preB2 syms s t then -1 else bif preB2 syms t s then 1 else 0
theorem l6Root_E (syms : List ByteArray) (hs : syms.length ≤ 1099511627776) (s t : Tm) : E 59 [osv1 syms, s.sv, t.sv] [] = some (.int .i64 (rootI syms s t), []) := by
  have h1 := l6Rank_E syms s.name hs
  have h2 := l6Rank_E syms t.name hs
  unfold rootI preB2
  generalize rk syms s.name = a at *
  generalize rk syms t.name = b at *
  have hsv : s.sv = .agg [.str s.name, .arr (s.args.map Tm.d)] := rfl
  have htv : t.sv = .agg [.str t.name, .arr (t.args.map Tm.d)] := rfl
  rcases Int.lt_trichotomy a b with h | h | h
  · have q1 : dec (a = b) = false := dec_f (by omega)
    have q2 : dec (a < b) = true := dec_t h
    rw [q1, q2]
    refine E_walk k_spec_l6Root m_spec_l6Root (of_decide_eq_true rfl) ?_
    simp (disch := omega) only [c_spec_l6Root, go_sem, Nat.reduceAdd, Nat.reduceSub, Nat.reduceLT, Nat.reduceLeDiff, Nat.reduceEqDiff, Nat.reduceBEq, Nat.reduceBneDiff, Nat.reduceMul, ↓reduceIte, Int.reduceToNat, reduceCtorEq, Int.reduceNeg, Int.reduceAdd, h1, h2, q1, q2, m_spec_l6Rank]
  · subst h
    rcases Nat.lt_trichotomy s.args.length t.args.length with k | k | k
    · have q2 : dec ((s.args.length : Int) < (t.args.length : Int)) = true := dec_t (by omega)
      have q0 : dec (a < a) = false := dec_f (by omega)
      rw [q0, dec_refl, q2]
      refine E_walk k_spec_l6Root m_spec_l6Root (of_decide_eq_true rfl) ?_
      simp (disch := omega) only [c_spec_l6Root, go_sem, Nat.reduceAdd, Nat.reduceSub, Nat.reduceLT, Nat.reduceLeDiff, Nat.reduceEqDiff, Nat.reduceBEq, Nat.reduceBneDiff, Nat.reduceMul, ↓reduceIte, Int.reduceToNat, reduceCtorEq, Int.reduceNeg, Int.reduceAdd, h1, h2, dec_refl, q2, m_spec_l6Rank]
    · have q2 : dec ((s.args.length : Int) < (t.args.length : Int)) = false := dec_f (by omega)
      have q3 : dec ((t.args.length : Int) < (s.args.length : Int)) = false := dec_f (by omega)
      have q0 : dec (a < a) = false := dec_f (by omega)
      rw [q0, dec_refl, q2, q3]
      refine E_walk k_spec_l6Root m_spec_l6Root (of_decide_eq_true rfl) ?_
      simp (disch := omega) only [c_spec_l6Root, go_sem, Nat.reduceAdd, Nat.reduceSub, Nat.reduceLT, Nat.reduceLeDiff, Nat.reduceEqDiff, Nat.reduceBEq, Nat.reduceBneDiff, Nat.reduceMul, ↓reduceIte, Int.reduceToNat, reduceCtorEq, Int.reduceNeg, Int.reduceAdd, h1, h2, dec_refl, q2, q3, m_spec_l6Rank]
    · have q2 : dec ((s.args.length : Int) < (t.args.length : Int)) = false := dec_f (by omega)
      have q3 : dec ((t.args.length : Int) < (s.args.length : Int)) = true := dec_t (by omega)
      have q0 : dec (a < a) = false := dec_f (by omega)
      rw [q0, dec_refl, q2, q3]
      refine E_walk k_spec_l6Root m_spec_l6Root (of_decide_eq_true rfl) ?_
      simp (disch := omega) only [c_spec_l6Root, go_sem, Nat.reduceAdd, Nat.reduceSub, Nat.reduceLT, Nat.reduceLeDiff, Nat.reduceEqDiff, Nat.reduceBEq, Nat.reduceBneDiff, Nat.reduceMul, ↓reduceIte, Int.reduceToNat, reduceCtorEq, Int.reduceNeg, Int.reduceAdd, h1, h2, dec_refl, q2, q3, m_spec_l6Rank]
  · have q1 : dec (a = b) = false := dec_f (by omega)
    have q2 : dec (a < b) = false := dec_f (by omega)
    have q3 : dec (b < a) = true := dec_t h
    rw [q1, q2, q3]
    refine E_walk k_spec_l6Root m_spec_l6Root (of_decide_eq_true rfl) ?_
    simp (disch := omega) only [c_spec_l6Root, go_sem, Nat.reduceAdd, Nat.reduceSub, Nat.reduceLT, Nat.reduceLeDiff, Nat.reduceEqDiff, Nat.reduceBEq, Nat.reduceBneDiff, Nat.reduceMul, ↓reduceIte, Int.reduceToNat, reduceCtorEq, Int.reduceNeg, Int.reduceAdd, h1, h2, q1, q2, q3, m_spec_l6Rank]
end Go.Proofs.Ythbkkiogbikbcaa

set_option maxRecDepth 100000
set_option linter.unusedSimpArgs false
set_option linter.unusedVariables false
namespace Go.Proofs.Ythbkkiogbikbcaa
open Go.RowKit

/-- The first of two lists that differ; their place. -/
noncomputable def fdP : List Tm → List Tm → Option (Tm × Tm)
  | x :: xs, y :: ys => bif dec (x = y) then fdP xs ys else some (x, y)
  | _, _ => none
noncomputable def fdI : List Tm → List Tm → Int → Int
  | x :: xs, y :: ys, i => bif dec (x = y) then fdI xs ys (i + 1) else i
  | _, _, _ => -1
theorem fd_both : ∀ (xs ys : List Tm) (i : Int), (fdP xs ys = none ∧ fdI xs ys i = -1) ∨ ∃ (k : Nat) (h : k < xs.length) (h' : k < ys.length), fdP xs ys = some (xs[k], ys[k]) ∧ fdI xs ys i = i + k
  | [], ys, i => .inl ⟨by rw [fdP]; simp, by rw [fdI]; simp⟩
  | x :: xs, [], i => .inl ⟨by rw [fdP]; simp, by rw [fdI]; simp⟩
  | x :: xs, y :: ys, i => by
    rw [fdP, fdI]
    by_cases h : x = y
    · rw [dec_t h, cond_true, cond_true]
      rcases fd_both xs ys (i + 1) with h1 | ⟨k, h1, h2, h3, h4⟩
      · exact .inl h1
      · exact .inr ⟨k + 1, by simp; omega, by simp; omega, h3, by rw [h4]; push_cast; omega⟩
    · rw [dec_f h, cond_false, cond_false]
      exact .inr ⟨0, by simp, by simp, rfl, by simp⟩
def c_spec_l6First : SC := (.seq (.reg [⟨(some 2), none, (.boxv 30 2 (.t 0))⟩, ⟨(some 3), none, (.boxv 30 2 (.t 1))⟩, ⟨(some 4), none, (.mv (.c (.int .i64 0)))⟩]) (.seq (.seq (.reg [⟨(some 5), none, (.mv (.c (.int .i64 0)))⟩]) (.block 0 (.loop [0, 0, 1, 1, 0, 1, 0, 0, 0, 0, 0, 0, 0, 0, 0, 0, 0, 0, 0, 0, 0, 0, 0, 0, 0, 0] (.seq (.seq (.reg [⟨(some 6), none, (.mv (.t 5))⟩, ⟨(some 7), none, (.faddr 1 (.t 2))⟩, ⟨(some 8), none, (.load false 1 (.t 7))⟩, ⟨(some 9), none, (.len false (.t 8))⟩, ⟨(some 10), none, (.bin .lss false (.t 6) (.t 9))⟩]) (.cond (.t 10) .skip (.exit 0))) (.seq (.block 1 (.seq (.dreg [[], [0], [], [1, 0, 2], [3, 1, 0, 2], [], [5], [], [6, 5, 7], [8, 6, 5, 7], [4, 3, 1, 0, 2, 9, 8, 6, 5, 7], [10, 4, 3, 1, 0, 2, 9, 8, 6, 5, 7]] [⟨(some 13), none, (.faddr 1 (.t 2))⟩, ⟨(some 14), none, (.load false 1 (.t 13))⟩, ⟨(some 15), none, (.mv (.t 5))⟩, ⟨(some 16), none, (.iaddr 2 (.t 14) (.t 15))⟩, ⟨(some 17), none, (.load true 2 (.t 16))⟩, ⟨(some 18), none, (.faddr 1 (.t 3))⟩, ⟨(some 19), none, (.load false 1 (.t 18))⟩, ⟨(some 20), none, (.mv (.t 5))⟩, ⟨(some 21), none, (.iaddr 2 (.t 19) (.t 20))⟩, ⟨(some 22), none, (.load true 2 (.t 21))⟩, ⟨(some 23), none, (.call 18 [(.t 17), (.t 22)])⟩, ⟨(some 24), none, (.un .not (.t 23))⟩]) (.cond (.t 24) (.seq (.reg [⟨(some 25), none, (.mv (.t 5))⟩, ⟨(some 4), none, (.mv (.t 25))⟩]) .ret) .skip))) (.reg [⟨(some 11), none, (.mv (.t 5))⟩, ⟨(some 12), none, (.bin .add false (.t 11) (.c (.int .i64 1)))⟩, ⟨(some 5), none, (.mv (.t 12))⟩])))))) (.seq (.reg [⟨(some 4), none, (.mv (.c (.int .i64 (-(0 + 1)))))⟩]) .ret)))
theorem k_spec_l6First : codeOf Try.prog 60 = some ⟨26, c_spec_l6First, [(.tmp 4)]⟩ := by kernel_rfl
theorem m_spec_l6First : modes 60 = ⟨[], .asis, none, false⟩ := by unfold modes; rfl

def c_impl_firstDiffering : SC := (.seq (.reg [⟨(some 2), none, (.boxv 30 2 (.t 0))⟩, ⟨(some 3), none, (.boxv 30 2 (.t 1))⟩, ⟨(some 4), none, (.alloc 30 [(.str ⟨#[]⟩), .nil])⟩, ⟨(some 5), none, (.alloc 30 [(.str ⟨#[]⟩), .nil])⟩, ⟨(some 6), none, (.mv (.c (.bool false)))⟩]) (.seq (.seq (.reg [⟨(some 9), none, (.faddr 0 (.t 2))⟩, ⟨(some 10), none, (.load false 1 (.t 9))⟩, ⟨(some 11), none, (.faddr 0 (.t 3))⟩, ⟨(some 12), none, (.load false 1 (.t 11))⟩, ⟨(some 13), none, (.bin .neq false (.t 10) (.t 12))⟩, ⟨(some 14), none, (.mv (.t 13))⟩, ⟨(some 15), (some (14, false)), (.faddr 1 (.t 2))⟩, ⟨(some 16), (some (14, false)), (.load false 1 (.t 15))⟩, ⟨(some 17), (some (14, false)), (.len false (.t 16))⟩, ⟨(some 18), (some (14, false)), (.faddr 1 (.t 3))⟩, ⟨(some 19), (some (14, false)), (.load false 1 (.t 18))⟩, ⟨(some 20), (some (14, false)), (.len false (.t 19))⟩, ⟨(some 21), (some (14, false)), (.bin .neq false (.t 17) (.t 20))⟩, ⟨(some 22), none, (.pick (.t 14) (.c (.bool true)) (.t 21))⟩]) (.cond (.t 22) (.seq (.reg [⟨(some 23), none, (.build [(.str ⟨#[]⟩), .nil] [])⟩, ⟨(some 24), none, (.build [(.str ⟨#[]⟩), .nil] [])⟩, ⟨none, none, (.store 2 (.t 4) (.t 23))⟩, ⟨none, none, (.store 2 (.t 5) (.t 24))⟩, ⟨(some 6), none, (.mv (.c (.bool false)))⟩]) .ret) .skip)) (.seq (.seq (.reg [⟨(some 25), none, (.faddr 1 (.t 2))⟩, ⟨(some 26), none, (.load false 1 (.t 25))⟩, ⟨(some 27), none, (.len false (.t 26))⟩, ⟨(some 28), none, (.mv (.c (.int .i64 0)))⟩]) (.block 0 (.loop [0, 0, 0, 1, 1, 1, 0, 0, 0, 0, 0, 0, 0, 0, 0, 0, 0, 0, 0, 0, 0, 0, 0, 0, 0, 0, 1, 1, 1, 0, 0, 0, 0, 0, 0, 0, 0, 0, 0, 0, 0, 0, 0, 0, 0, 0, 0, 0, 0, 0] (.seq (.reg [⟨(some 29), none, (.bin .lss false (.t 28) (.t 27))⟩]) (.seq (.cond (.t 29) .skip (.exit 0)) (.seq (.block 1 (.seq (.reg [⟨(some 30), none, (.mv (.t 28))⟩, ⟨(some 31), none, (.iaddr 2 (.t 26) (.t 28))⟩, ⟨(some 32), none, (.load true 2 (.t 31))⟩, ⟨(some 8), none, (.alloc 30 [(.str ⟨#[]⟩), .nil])⟩, ⟨(some 7), none, (.mv (.t 30))⟩, ⟨none, none, (.store 2 (.t 8) (.t 32))⟩]) (.seq (.dreg [[], [], [1], [], [2, 1, 3], [4, 2, 1, 3], [0, 5, 4, 2, 1, 3], [6, 0, 5, 4, 2, 1, 3]] [⟨(some 33), none, (.load true 2 (.t 8))⟩, ⟨(some 34), none, (.faddr 1 (.t 3))⟩, ⟨(some 35), none, (.load false 1 (.t 34))⟩, ⟨(some 36), none, (.mv (.t 7))⟩, ⟨(some 37), none, (.iaddr 2 (.t 35) (.t 36))⟩, ⟨(some 38), none, (.load true 2 (.t 37))⟩, ⟨(some 39), none, (.call 23 [(.t 33), (.t 38)])⟩, ⟨(some 40), none, (.un .not (.t 39))⟩]) (.cond (.t 40) (.seq (.dreg [[], [], [1], [], [2, 1, 3], [4, 2, 1, 3], [0], [5, 4, 2, 1, 3, 6, 0], [7, 5, 4, 2, 1, 3, 6, 0]] [⟨(some 41), none, (.load true 2 (.t 8))⟩, ⟨(some 42), none, (.faddr 1 (.t 3))⟩, ⟨(some 43), none, (.load false 1 (.t 42))⟩, ⟨(some 44), none, (.mv (.t 7))⟩, ⟨(some 45), none, (.iaddr 2 (.t 43) (.t 44))⟩, ⟨(some 46), none, (.load true 2 (.t 45))⟩, ⟨none, none, (.store 2 (.t 4) (.t 41))⟩, ⟨none, none, (.store 2 (.t 5) (.t 46))⟩, ⟨(some 6), none, (.mv (.c (.bool true)))⟩]) .ret) .skip)))) (.reg [⟨(some 47), none, (.bin .add false (.t 28) (.c (.int .i64 1)))⟩, ⟨(some 28), none, (.mv (.t 47))⟩]))))))) (.seq (.reg [⟨(some 48), none, (.build [(.str ⟨#[]⟩), .nil] [])⟩, ⟨(some 49), none, (.build [(.str ⟨#[]⟩), .nil] [])⟩, ⟨none, none, (.store 2 (.t 4) (.t 48))⟩, ⟨none, none, (.store 2 (.t 5) (.t 49))⟩, ⟨(some 6), none, (.mv (.c (.bool false)))⟩]) .ret))))
theorem k_impl_firstDiffering : codeOf Try.prog 86 = some ⟨50, c_impl_firstDiffering, [(.cell 4 true 2), (.cell 5 true 2), (.tmp 6)]⟩ := by kernel_rfl
theorem m_impl_firstDiffering : modes 86 = ⟨[], .asis, none, false⟩ := by unfold modes; rfl

set_option maxHeartbeats 4000000 in
theorem l6First_E (s t : Tm) (hl : s.args.length = t.args.length) (hs : s.nodes ≤ 1048576) (ht : t.nodes ≤ 1048576) : E 60 [s.sv, t.sv] [] = some (.int .i64 (fdI s.args t.args 0), []) := by
  have hn := Tm.nodes_eq s
  have hln := Tm.length_le s.args
  have hn2 := Tm.nodes_eq t
  refine E_walk k_spec_l6First m_spec_l6First (of_decide_eq_true rfl) ?_
  simp (disch := omega) only [c_spec_l6First, go_sem, Nat.reduceAdd, Nat.reduceSub, Nat.reduceLT, Nat.reduceLeDiff, Nat.reduceEqDiff, Nat.reduceBEq, Nat.reduceBneDiff, Nat.reduceMul, ↓reduceIte, Int.reduceToNat, reduceCtorEq, Int.reduceNeg, Int.reduceAdd]
  refine go_loop (α := Int) (fun a => ⟨slots 26 0 [(2, .ptr 0 0), (3, .ptr 1 0), (5, .int .i64 a)], [.box 30 [.str s.name, .arr (s.args.map Tm.d)], .box 30 [.str t.name, .arr (t.args.map Tm.d)]]⟩) (fun a => ∃ k : Nat, a = k ∧ k ≤ (s.args).length ∧ fdI (s.args.drop k) (t.args.drop k) a = fdI s.args t.args 0) (fun a => (s.args).length - (a).toNat) 0 ⟨0, rfl, Nat.zero_le _, by rw [List.drop_zero, List.drop_zero]⟩ (by simp (disch := omega) only [go_sem, Nat.reduceAdd, Nat.reduceSub, Nat.reduceLT, Nat.reduceLeDiff, Nat.reduceEqDiff, Nat.reduceBEq, Nat.reduceBneDiff, Nat.reduceMul, ↓reduceIte, Int.reduceToNat, reduceCtorEq, Int.reduceNeg, Int.reduceAdd]) ?_
  rintro i ⟨k, hi, hk, hR⟩
  have hni : i.toNat = k := by omega
  have hni1 : (i + 1).toNat = k + 1 := by omega
  rcases Nat.lt_or_ge k (s.args).length with hlt | hge
  · have hlt2 : k < t.args.length := by omega
    have hg := get_at Tm.d hlt
    have hg2 := get_at Tm.d hlt2
    rw [Tm.d_eq] at hg hg2
    have m1 := Tm.nodes_le s.args k hlt
    have m2 := Tm.nodes_le t.args k hlt2
    have hc := l2Same_E s.args[k] t.args[k] (by omega) (by omega)
    rw [List.drop_eq_getElem_cons hlt, List.drop_eq_getElem_cons hlt2, fdI] at hR
    cases hq : dec (s.args[k] = t.args[k]) with
    | true =>
      rw [hq] at hR hc
      simp (disch := omega) only [go_sem, Nat.reduceAdd, Nat.reduceSub, Nat.reduceLT, Nat.reduceLeDiff, Nat.reduceEqDiff, Nat.reduceBEq, Nat.reduceBneDiff, Nat.reduceMul, ↓reduceIte, Int.reduceToNat, reduceCtorEq, Int.reduceNeg, Int.reduceAdd, hni, hg, hg2, hc, m_spec_l2Same]
      exact ⟨i + 1, ⟨k + 1, by omega, hlt, hR⟩, by omega, by first | trivial | rfl⟩
    | false =>
      rw [hq] at hR hc
      simp (disch := omega) only [go_sem, Nat.reduceAdd, Nat.reduceSub, Nat.reduceLT, Nat.reduceLeDiff, Nat.reduceEqDiff, Nat.reduceBEq, Nat.reduceBneDiff, Nat.reduceMul, ↓reduceIte, Int.reduceToNat, reduceCtorEq, Int.reduceNeg, Int.reduceAdd, hni, hg, hg2, hc, m_spec_l2Same]
      exact hR
  · rw [List.drop_eq_nil_of_le hge, fdI] at hR
    simp (disch := omega) only [go_sem, Nat.reduceAdd, Nat.reduceSub, Nat.reduceLT, Nat.reduceLeDiff, Nat.reduceEqDiff, Nat.reduceBEq, Nat.reduceBneDiff, Nat.reduceMul, ↓reduceIte, Int.reduceToNat, reduceCtorEq, Int.reduceNeg, Int.reduceAdd, hni]
    exact hR
    simp
/-- What the first difference comes to. -/
noncomputable def fdR (s t : Tm) : Option (Tm × Tm) := bif dec (s.name = t.name) && dec (s.args.length = t.args.length) then fdP s.args t.args else none
noncomputable def fdV : Option (Tm × Tm) → SV
  | some p => .tup [.agg [.str p.1.name, .arr (p.1.args.map Tm.d)], .agg [.str p.2.name, .arr (p.2.args.map Tm.d)], .bool true]
  | none => .tup [.agg [.str ⟨#[]⟩, .nil], .agg [.str ⟨#[]⟩, .nil], .bool false]
set_option maxHeartbeats 4000000 in
theorem firstDiffering_E (s t : Tm) (hs : s.nodes ≤ 1048576) (ht : t.nodes ≤ 1048576) : E 86 [s.sv, t.sv] [] = some (fdV (fdR s t), []) := by
  have hn := Tm.nodes_eq s
  have hln := Tm.length_le s.args
  have hn2 := Tm.nodes_eq t
  have hsv : s.sv = .agg [.str s.name, .arr (s.args.map Tm.d)] := rfl
  have htv : t.sv = .agg [.str t.name, .arr (t.args.map Tm.d)] := rfl
  by_cases h1 : s.name = t.name
  · have q1 := eq_true h1
    by_cases h2 : s.args.length = t.args.length
    · have q2 : ((s.args.length : Int) = (t.args.length : Int)) = True := eq_true (by omega)
      have e : fdR s t = fdP s.args t.args := by unfold fdR; rw [dec_t h1, dec_t h2]; rfl
      rw [e]
      refine E_walk k_impl_firstDiffering m_impl_firstDiffering (of_decide_eq_true rfl) ?_
      simp (disch := omega) only [c_impl_firstDiffering, go_sem, Nat.reduceAdd, Nat.reduceSub, Nat.reduceLT, Nat.reduceLeDiff, Nat.reduceEqDiff, Nat.reduceBEq, Nat.reduceBneDiff, Nat.reduceMul, ↓reduceIte, Int.reduceToNat, reduceCtorEq, Int.reduceNeg, Int.reduceAdd, q1, q2, fdV]
      refine go_loop (α := Int) (fun a => ⟨slots 50 0 [(3, .ptr 0 0), (4, .ptr 1 0), (5, .ptr 2 0), (26, .arr (s.args.map Tm.d)), (27, .int .i64 s.args.length), (28, .int .i64 a)], [.box 30 [.str t.name, .arr (t.args.map Tm.d)], .box 30 [.str ⟨#[]⟩, .nil], .box 30 [.str ⟨#[]⟩, .nil]]⟩) (fun a => ∃ k : Nat, a = k ∧ k ≤ (s.args).length ∧ fdP (s.args.drop k) (t.args.drop k) = fdP s.args t.args) (fun a => (s.args).length - (a).toNat) 0 ⟨0, rfl, Nat.zero_le _, by rw [List.drop_zero, List.drop_zero]⟩ (by simp (disch := omega) only [go_sem, Nat.reduceAdd, Nat.reduceSub, Nat.reduceLT, Nat.reduceLeDiff, Nat.reduceEqDiff, Nat.reduceBEq, Nat.reduceBneDiff, Nat.reduceMul, ↓reduceIte, Int.reduceToNat, reduceCtorEq, Int.reduceNeg, Int.reduceAdd]) ?_
      rintro i ⟨k, hi, hk, hR⟩
      have hni : i.toNat = k := by omega
      have hni1 : (i + 1).toNat = k + 1 := by omega
      rcases Nat.lt_or_ge k (s.args).length with hlt | hge
      · have hlt2 : k < t.args.length := by omega
        have hg := get_at Tm.d hlt
        have hg2 := get_at Tm.d hlt2
        rw [Tm.d_eq] at hg hg2
        have m1 := Tm.nodes_le s.args k hlt
        have m2 := Tm.nodes_le t.args k hlt2
        have hc := equalTerms_E s.args[k] t.args[k] (by omega) (by omega)
        rw [List.drop_eq_getElem_cons hlt, List.drop_eq_getElem_cons hlt2, fdP] at hR
        cases hq : dec (s.args[k] = t.args[k]) with
        | true =>
          rw [hq] at hR hc
          simp (disch := omega) only [go_sem, Nat.reduceAdd, Nat.reduceSub, Nat.reduceLT, Nat.reduceLeDiff, Nat.reduceEqDiff, Nat.reduceBEq, Nat.reduceBneDiff, Nat.reduceMul, ↓reduceIte, Int.reduceToNat, reduceCtorEq, Int.reduceNeg, Int.reduceAdd, hni, hg, hg2, hc, fdV, cond_false, m_impl_EqualTerms]
          exact ⟨i + 1, ⟨k + 1, by omega, hlt, hR⟩, by omega, by first | trivial | rfl⟩
        | false =>
          rw [hq] at hR hc
          rw [← hR]
          simp (disch := omega) only [go_sem, Nat.reduceAdd, Nat.reduceSub, Nat.reduceLT, Nat.reduceLeDiff, Nat.reduceEqDiff, Nat.reduceBEq, Nat.reduceBneDiff, Nat.reduceMul, ↓reduceIte, Int.reduceToNat, reduceCtorEq, Int.reduceNeg, Int.reduceAdd, hni, hg, hg2, hc, fdV, cond_false, m_impl_EqualTerms]
          first | done | rfl
      · rw [List.drop_eq_nil_of_le hge, fdP] at hR
        · rw [← hR]
          simp (disch := omega) only [go_sem, Nat.reduceAdd, Nat.reduceSub, Nat.reduceLT, Nat.reduceLeDiff, Nat.reduceEqDiff, Nat.reduceBEq, Nat.reduceBneDiff, Nat.reduceMul, ↓reduceIte, Int.reduceToNat, reduceCtorEq, Int.reduceNeg, Int.reduceAdd, hni, fdV]
          first | done | rfl
        · simp
    · have q2 : ((s.args.length : Int) = (t.args.length : Int)) = False := eq_false (by omega)
      have e : fdR s t = none := by unfold fdR; rw [dec_f h2, Bool.and_false]; rfl
      rw [e]
      refine E_walk k_impl_firstDiffering m_impl_firstDiffering (of_decide_eq_true rfl) ?_
      simp (disch := omega) only [c_impl_firstDiffering, go_sem, Nat.reduceAdd, Nat.reduceSub, Nat.reduceLT, Nat.reduceLeDiff, Nat.reduceEqDiff, Nat.reduceBEq, Nat.reduceBneDiff, Nat.reduceMul, ↓reduceIte, Int.reduceToNat, reduceCtorEq, Int.reduceNeg, Int.reduceAdd, q1, q2, fdV]
      first | done | rfl
  · have q1 := eq_false h1
    have e : fdR s t = none := by unfold fdR; rw [dec_f h1, Bool.false_and]; rfl
    rw [e]
    refine E_walk k_impl_firstDiffering m_impl_firstDiffering (of_decide_eq_true rfl) ?_
    simp (disch := omega) only [c_impl_firstDiffering, go_sem, Nat.reduceAdd, Nat.reduceSub, Nat.reduceLT, Nat.reduceLeDiff, Nat.reduceEqDiff, Nat.reduceBEq, Nat.reduceBneDiff, Nat.reduceMul, ↓reduceIte, Int.reduceToNat, reduceCtorEq, Int.reduceNeg, Int.reduceAdd, q1, fdV]
    first | done | rfl
end Go.Proofs.Ythbkkiogbikbcaa

set_option maxRecDepth 100000
set_option linter.unusedSimpArgs false
set_option linter.unusedVariables false
namespace Go.Proofs.Ythbkkiogbikbcaa
open Go.RowKit

/-- The test of a term against another, where the variables are balanced. -/
noncomputable def kboT (syms : List ByteArray) (g : Tm → Tm → Bool) (s t : Tm) : Bool := bif dec ((s.nodes : Int) = (t.nodes : Int)) then (bif varB s.name || varB t.name then false else bif preB2 syms t s then true else match fdR s t with
  | some p => g p.1 p.2
  | none => false) else dec ((t.nodes : Int) < (s.nodes : Int))
/-- Whether a term is greater than another, so many rounds deep. -/
noncomputable def kboF (syms : List ByteArray) : Nat → Tm → Tm → Bool
  | 0, _, _ => false
  | n + 1, s, t => bif balL s t (insA [] t.vs) then kboT syms (kboF syms n) s t else false
theorem idxP_at {α : Type} (p : α → Bool) : ∀ (xs : List α) (i : Int) (k : Nat) (h : k < xs.length), 0 ≤ i → idxP p xs i = i + k → p xs[k] = true
  | [], i, k, h, _, _ => absurd h (by simp)
  | x :: xs, i, k, h, hi, e => by
    rw [idxP] at e
    cases hp : p x with
    | true =>
      rw [hp, if_pos rfl] at e
      obtain rfl : k = 0 := by omega
      exact hp
    | false =>
      rw [hp, if_neg (by simp)] at e
      cases k with
      | zero =>
        have := idxP_bound p xs (i + 1)
        omega
      | succ k =>
        simp only [List.getElem_cons_succ]
        exact idxP_at p xs (i + 1) k (by simpa using h) (by omega) (by rw [e]; push_cast; omega)
theorem rk_inj {syms : List ByteArray} {n m : ByteArray} (hn : n ∈ syms) (hm : m ∈ syms) (h : rk syms n = rk syms m) : n = m := by
  obtain ⟨k, h1, h2⟩ := rk_in hn
  have e1 := dec_iff.1 (idxP_at (fun s => dec (n = s)) syms 0 k h2 (by omega) (by unfold rk at h1; omega))
  have e2 := dec_iff.1 (idxP_at (fun s => dec (m = s)) syms 0 k h2 (by omega) (by unfold rk at h1 h; omega))
  exact e1.trans e2.symm
theorem pre_no {syms : List ByteArray} {s t : Tm} (h : preB2 syms s t = true) : preB2 syms t s = false ∧ fdR s t = none := by
  unfold preB2 at h
  rw [Bool.or_eq_true, Bool.and_eq_true, dec_iff, dec_iff, dec_iff] at h
  rcases h with h | ⟨h1, h2⟩
  · refine ⟨?_, ?_⟩
    · unfold preB2
      rw [dec_f (p := rk syms t.name < rk syms s.name) (by omega), dec_f (p := rk syms t.name = rk syms s.name) (by omega)]; rfl
    · unfold fdR
      rw [dec_f (p := s.name = t.name) (fun e => by rw [e] at h; omega)]; rfl
  · refine ⟨?_, ?_⟩
    · unfold preB2
      rw [dec_f (p := rk syms t.name < rk syms s.name) (by omega), dec_f (p := (t.args.length : Int) < (s.args.length : Int)) (by omega)]; simp
    · unfold fdR
      rw [dec_f (p := s.args.length = t.args.length) (by omega), Bool.and_false]; rfl
def c_spec_l6KBO : SC := (.seq (.reg [⟨(some 3), none, (.boxv 43 3 (.t 0))⟩, ⟨(some 4), none, (.boxv 30 2 (.t 1))⟩, ⟨(some 5), none, (.boxv 30 2 (.t 2))⟩, ⟨(some 6), none, (.mv (.c (.bool false)))⟩]) (.seq (.seq (.reg [⟨(some 11), none, (.load true 2 (.t 4))⟩, ⟨(some 12), none, (.load true 2 (.t 5))⟩, ⟨(some 13), none, (.call 57 [(.t 11), (.t 12)])⟩, ⟨(some 14), none, (.un .not (.t 13))⟩]) (.cond (.t 14) (.seq (.reg [⟨(some 6), none, (.mv (.c (.bool false)))⟩]) .ret) .skip)) (.seq (.dreg [[], [], [0, 1], [], [], [3, 4, 2, 0, 1], [2, 0, 1, 5, 3, 4], [5, 3, 4, 2, 0, 1, 6]] [⟨(some 15), none, (.load true 3 (.t 3))⟩, ⟨(some 16), none, (.load true 2 (.t 4))⟩, ⟨(some 17), none, (.call 58 [(.t 15), (.t 16)])⟩, ⟨(some 18), none, (.load true 3 (.t 3))⟩, ⟨(some 19), none, (.load true 2 (.t 5))⟩, ⟨(some 20), none, (.call 58 [(.t 18), (.t 19)])⟩, ⟨(some 7), none, (.mv (.t 17))⟩, ⟨(some 8), none, (.mv (.t 20))⟩]) (.seq (.seq (.reg [⟨(some 21), none, (.mv (.t 7))⟩, ⟨(some 22), none, (.mv (.t 8))⟩, ⟨(some 23), none, (.bin .neq false (.t 21) (.t 22))⟩]) (.cond (.t 23) (.seq (.reg [⟨(some 24), none, (.mv (.t 7))⟩, ⟨(some 25), none, (.mv (.t 8))⟩, ⟨(some 26), none, (.bin .gtr false (.t 24) (.t 25))⟩, ⟨(some 6), none, (.mv (.t 26))⟩]) .ret) .skip)) (.seq (.seq (.reg [⟨(some 27), none, (.faddr 0 (.t 4))⟩, ⟨(some 28), none, (.load false 1 (.t 27))⟩, ⟨(some 29), none, (.call 30 [(.t 28)])⟩, ⟨(some 30), none, (.mv (.t 29))⟩, ⟨(some 31), (some (30, false)), (.faddr 0 (.t 5))⟩, ⟨(some 32), (some (30, false)), (.load false 1 (.t 31))⟩, ⟨(some 33), (some (30, false)), (.call 30 [(.t 32)])⟩, ⟨(some 34), none, (.pick (.t 30) (.c (.bool true)) (.t 33))⟩]) (.cond (.t 34) (.seq (.reg [⟨(some 6), none, (.mv (.c (.bool false)))⟩]) .ret) .skip)) (.seq (.seq (.reg [⟨(some 35), none, (.load true 3 (.t 3))⟩, ⟨(some 36), none, (.load true 2 (.t 4))⟩, ⟨(some 37), none, (.load true 2 (.t 5))⟩, ⟨(some 38), none, (.call 59 [(.t 35), (.t 36), (.t 37)])⟩, ⟨(some 9), none, (.mv (.t 38))⟩]) (.seq (.reg [⟨(some 39), none, (.mv (.t 9))⟩, ⟨(some 40), none, (.bin .neq false (.t 39) (.c (.int .i64 0)))⟩]) (.cond (.t 40) (.seq (.reg [⟨(some 41), none, (.mv (.t 9))⟩, ⟨(some 42), none, (.bin .gtr false (.t 41) (.c (.int .i64 0)))⟩, ⟨(some 6), none, (.mv (.t 42))⟩]) .ret) .skip))) (.seq (.reg [⟨(some 43), none, (.load true 2 (.t 4))⟩, ⟨(some 44), none, (.load true 2 (.t 5))⟩, ⟨(some 45), none, (.call 60 [(.t 43), (.t 44)])⟩, ⟨(some 10), none, (.mv (.t 45))⟩]) (.seq (.dreg [[], [0], [1, 0], [2, 1, 0], [2, 1, 0], [4, 2, 1, 0], [2, 1, 0], [5, 4, 2, 1, 0, 6], [7, 5, 4, 2, 1, 0, 6], [2, 1, 0], [9, 2, 1, 0], [2, 1, 0], [10, 9, 2, 1, 0, 11], [12, 10, 9, 2, 1, 0, 11], [3, 2, 1, 0, 8, 7, 5, 4, 6, 13, 12, 10, 9, 11], [2, 1, 0, 14, 3, 8, 7, 5, 4, 6, 13, 12, 10, 9, 11], [15, 2, 1, 0, 14, 3, 8, 7, 5, 4, 6, 13, 12, 10, 9, 11]] [⟨(some 46), none, (.mv (.t 10))⟩, ⟨(some 47), none, (.bin .geq false (.t 46) (.c (.int .i64 0)))⟩, ⟨(some 48), none, (.mv (.t 47))⟩, ⟨(some 49), (some (48, true)), (.load true 3 (.t 3))⟩, ⟨(some 50), (some (48, true)), (.faddr 1 (.t 4))⟩, ⟨(some 51), (some (48, true)), (.load false 1 (.t 50))⟩, ⟨(some 52), (some (48, true)), (.mv (.t 10))⟩, ⟨(some 53), (some (48, true)), (.iaddr 2 (.t 51) (.t 52))⟩, ⟨(some 54), (some (48, true)), (.load true 2 (.t 53))⟩, ⟨(some 55), (some (48, true)), (.faddr 1 (.t 5))⟩, ⟨(some 56), (some (48, true)), (.load false 1 (.t 55))⟩, ⟨(some 57), (some (48, true)), (.mv (.t 10))⟩, ⟨(some 58), (some (48, true)), (.iaddr 2 (.t 56) (.t 57))⟩, ⟨(some 59), (some (48, true)), (.load true 2 (.t 58))⟩, ⟨(some 60), (some (48, true)), (.call 36 [(.t 49), (.t 54), (.t 59)])⟩, ⟨(some 61), none, (.pick (.t 48) (.t 60) (.c (.bool false)))⟩, ⟨(some 6), none, (.mv (.t 61))⟩]) .ret))))))))
theorem k_spec_l6KBO : codeOf Try.prog 36 = some ⟨62, c_spec_l6KBO, [(.tmp 6)]⟩ := by kernel_rfl
theorem m_spec_l6KBO : modes 36 = ⟨[], .asis, none, false⟩ := by unfold modes; rfl

theorem l6KBO_E (syms : List ByteArray) (hl : syms.length ≤ 1048576) : ∀ (n : Nat) (s t : Tm), s.names = true → t.names = true → s.cov syms → t.cov syms → s.nodes ≤ n → s.nodes ≤ 1048576 → t.nodes ≤ 1048576 → E 36 [osv1 syms, s.sv, t.sv] [] = some (.bool (kboF syms n s t), [])
  | 0, s, t, _, _, _, _, h, _, _ => by have := Tm.nodes_pos s; omega
  | n + 1, s, t, hs, ht, cs, ct, hn, h1, h2 => by
    have b1 := l6Balanced_E s t h1 h2
    have w1 := l6Weight_E syms hl s hs cs (by omega)
    have w2 := l6Weight_E syms hl t ht ct (by omega)
    have v1 := l2Var_E s.name
    have v2 := l2Var_E t.name
    have r1 := l6Root_E syms (by omega) s t
    have hsv : s.sv = .agg [.str s.name, .arr (s.args.map Tm.d)] := rfl
    have htv : t.sv = .agg [.str t.name, .arr (t.args.map Tm.d)] := rfl
    rw [kboF]
    unfold kboT
    cases e1 : balL s t (insA [] t.vs) with
    | false =>
      rw [e1] at b1
      simp only [cond_false]
      refine E_walk k_spec_l6KBO m_spec_l6KBO (of_decide_eq_true rfl) ?_
      simp (disch := omega) only [c_spec_l6KBO, go_sem, Nat.reduceAdd, Nat.reduceSub, Nat.reduceLT, Nat.reduceLeDiff, Nat.reduceEqDiff, Nat.reduceBEq, Nat.reduceBneDiff, Nat.reduceMul, ↓reduceIte, Int.reduceToNat, reduceCtorEq, Int.reduceNeg, Int.reduceAdd, b1, m_spec_l6Balanced]
    | true =>
      rw [e1] at b1
      simp only [cond_true]
      cases e2 : dec ((s.nodes : Int) = (t.nodes : Int)) with
      | false =>
        simp only [cond_false]
        refine E_walk k_spec_l6KBO m_spec_l6KBO (of_decide_eq_true rfl) ?_
        simp (disch := omega) only [c_spec_l6KBO, go_sem, Nat.reduceAdd, Nat.reduceSub, Nat.reduceLT, Nat.reduceLeDiff, Nat.reduceEqDiff, Nat.reduceBEq, Nat.reduceBneDiff, Nat.reduceMul, ↓reduceIte, Int.reduceToNat, reduceCtorEq, Int.reduceNeg, Int.reduceAdd, b1, w1, w2, e2, m_spec_l6Balanced, m_spec_l6Weight]
      | true =>
        simp only [cond_true]
        cases e3 : varB s.name with
        | true =>
          rw [e3] at v1
          simp only [Bool.true_or, cond_true]
          refine E_walk k_spec_l6KBO m_spec_l6KBO (of_decide_eq_true rfl) ?_
          simp (disch := omega) only [c_spec_l6KBO, go_sem, Nat.reduceAdd, Nat.reduceSub, Nat.reduceLT, Nat.reduceLeDiff, Nat.reduceEqDiff, Nat.reduceBEq, Nat.reduceBneDiff, Nat.reduceMul, ↓reduceIte, Int.reduceToNat, reduceCtorEq, Int.reduceNeg, Int.reduceAdd, b1, w1, w2, e2, v1, m_spec_l6Balanced, m_spec_l6Weight, m_spec_l2Var]
        | false =>
          rw [e3] at v1
          cases e4 : varB t.name with
          | true =>
            rw [e4] at v2
            simp only [Bool.or_true, cond_true]
            refine E_walk k_spec_l6KBO m_spec_l6KBO (of_decide_eq_true rfl) ?_
            simp (disch := omega) only [c_spec_l6KBO, go_sem, Nat.reduceAdd, Nat.reduceSub, Nat.reduceLT, Nat.reduceLeDiff, Nat.reduceEqDiff, Nat.reduceBEq, Nat.reduceBneDiff, Nat.reduceMul, ↓reduceIte, Int.reduceToNat, reduceCtorEq, Int.reduceNeg, Int.reduceAdd, b1, w1, w2, e2, v1, v2, m_spec_l6Balanced, m_spec_l6Weight, m_spec_l2Var]
          | false =>
            rw [e4] at v2
            simp only [Bool.or_self, cond_false]
            unfold rootI at r1
            cases e5 : preB2 syms s t with
            | true =>
              obtain ⟨e6, e7⟩ := pre_no e5
              rw [e5, cond_true] at r1
              rw [e6, e7]
              simp only [cond_false]
              have q1 : ((-1 : Int) = 0) = False := eq_false (by omega)
              refine E_walk k_spec_l6KBO m_spec_l6KBO (of_decide_eq_true rfl) ?_
              simp (disch := omega) only [c_spec_l6KBO, go_sem, Nat.reduceAdd, Nat.reduceSub, Nat.reduceLT, Nat.reduceLeDiff, Nat.reduceEqDiff, Nat.reduceBEq, Nat.reduceBneDiff, Nat.reduceMul, ↓reduceIte, Int.reduceToNat, reduceCtorEq, Int.reduceNeg, Int.reduceAdd, b1, w1, w2, e2, v1, v2, r1, q1, m_spec_l6Balanced, m_spec_l6Weight, m_spec_l2Var, m_spec_l6Root]
            | false =>
              rw [e5, cond_false] at r1
              cases e6 : preB2 syms t s with
              | true =>
                rw [e6, cond_true] at r1
                simp only [cond_true]
                have q1 : ((1 : Int) = 0) = False := eq_false (by omega)
                refine E_walk k_spec_l6KBO m_spec_l6KBO (of_decide_eq_true rfl) ?_
                simp (disch := omega) only [c_spec_l6KBO, go_sem, Nat.reduceAdd, Nat.reduceSub, Nat.reduceLT, Nat.reduceLeDiff, Nat.reduceEqDiff, Nat.reduceBEq, Nat.reduceBneDiff, Nat.reduceMul, ↓reduceIte, Int.reduceToNat, reduceCtorEq, Int.reduceNeg, Int.reduceAdd, b1, w1, w2, e2, v1, v2, r1, q1, m_spec_l6Balanced, m_spec_l6Weight, m_spec_l2Var, m_spec_l6Root]
              | false =>
                rw [e6, cond_false] at r1
                simp only [cond_false]
                have hrk : rk syms s.name = rk syms t.name ∧ s.args.length = t.args.length := by
                  unfold preB2 at e5 e6
                  rw [Bool.or_eq_false_iff, Bool.and_eq_false_iff, dec_not, dec_not, dec_not] at e5 e6
                  have : rk syms s.name = rk syms t.name := by omega
                  omega
                have hnm := rk_inj (Tm.cov_name cs e3) (Tm.cov_name ct e4) hrk.1
                have hfd : fdR s t = fdP s.args t.args := by unfold fdR; rw [dec_t hnm, dec_t hrk.2]; rfl
                have hf := l6First_E s t hrk.2 h1 h2
                have q0 : ((0 : Int) = 0) = True := eq_self _
                rw [hfd]
                rcases fd_both s.args t.args 0 with ⟨f1, f2⟩ | ⟨k, k1, k2, f1, f2⟩
                · rw [f1]
                  rw [f2] at hf
                  simp only
                  refine E_walk k_spec_l6KBO m_spec_l6KBO (of_decide_eq_true rfl) ?_
                  simp (disch := omega) only [c_spec_l6KBO, go_sem, Nat.reduceAdd, Nat.reduceSub, Nat.reduceLT, Nat.reduceLeDiff, Nat.reduceEqDiff, Nat.reduceBEq, Nat.reduceBneDiff, Nat.reduceMul, ↓reduceIte, Int.reduceToNat, reduceCtorEq, Int.reduceNeg, Int.reduceAdd, b1, w1, w2, e2, v1, v2, r1, q0, hf, m_spec_l6Balanced, m_spec_l6Weight, m_spec_l2Var, m_spec_l6Root, m_spec_l6First]
                · rw [f1]
                  rw [f2, Int.zero_add] at hf
                  simp only
                  have m1 := Tm.nodes_le s.args k k1
                  have m2 := Tm.nodes_le t.args k k2
                  have n1 := Tm.nodes_eq s
                  have n2 := Tm.nodes_eq t
                  have g1 := get_at Tm.d k1
                  have g2 := get_at Tm.d k2
                  rw [Tm.d_eq] at g1 g2
                  have hk0 : ((k : Nat) : Int).toNat = k := Int.toNat_natCast k
                  have ih := l6KBO_E syms hl n s.args[k] t.args[k] (Tm.names_arg hs (List.getElem_mem k1)) (Tm.names_arg ht (List.getElem_mem k2)) (Tm.cov_arg cs (List.getElem_mem k1)) (Tm.cov_arg ct (List.getElem_mem k2)) (by omega) (by omega) (by omega)
                  refine E_walk k_spec_l6KBO m_spec_l6KBO (of_decide_eq_true rfl) ?_
                  simp (disch := omega) only [c_spec_l6KBO, go_sem, Nat.reduceAdd, Nat.reduceSub, Nat.reduceLT, Nat.reduceLeDiff, Nat.reduceEqDiff, Nat.reduceBEq, Nat.reduceBneDiff, Nat.reduceMul, ↓reduceIte, Int.reduceToNat, reduceCtorEq, Int.reduceNeg, Int.reduceAdd, b1, w1, w2, e2, v1, v2, r1, q0, hf, g1, g2, hk0, ih, m_spec_l6Balanced, m_spec_l6Weight, m_spec_l2Var, m_spec_l6Root, m_spec_l6First, m_spec_l6KBO]
end Go.Proofs.Ythbkkiogbikbcaa

set_option maxRecDepth 100000
set_option linter.unusedSimpArgs false
set_option linter.unusedVariables false
namespace Go.Proofs.Ythbkkiogbikbcaa
open Go.RowKit

theorem Tm.vars_ins (t : Tm) : t.vars = insA [] t.vs := srtB_insA t.vs
def c_impl_Ordering_kbo : SC := (.seq (.reg [⟨(some 3), none, (.boxv 43 3 (.t 0))⟩, ⟨(some 4), none, (.boxv 30 2 (.t 1))⟩, ⟨(some 5), none, (.boxv 30 2 (.t 2))⟩, ⟨(some 6), none, (.mv (.c (.bool false)))⟩]) (.seq (.seq (.reg [⟨(some 14), none, (.load true 2 (.t 5))⟩, ⟨(some 15), none, (.call 81 [(.t 14)])⟩, ⟨(some 16), none, (.len false (.t 15))⟩, ⟨(some 17), none, (.mv (.c (.int .i64 0)))⟩]) (.block 0 (.loop [0, 0, 0, 1, 1, 1, 0, 0, 0, 0, 0, 0, 0, 0, 0, 1, 1, 1, 0, 0, 0, 0, 0, 0, 0, 0, 0, 0, 0, 0, 0, 0, 0, 0, 0, 0, 0, 0, 0, 0, 0, 0, 0, 0, 0, 0, 0, 0, 0, 0, 0, 0, 0, 0, 0, 0, 0, 0, 0, 0, 0, 0, 0, 0, 0, 0, 0] (.seq (.reg [⟨(some 18), none, (.bin .lss false (.t 17) (.t 16))⟩]) (.seq (.cond (.t 18) .skip (.exit 0)) (.seq (.block 1 (.seq (.reg [⟨(some 19), none, (.iaddr 1 (.t 15) (.t 17))⟩, ⟨(some 20), none, (.load false 1 (.t 19))⟩, ⟨(some 8), none, (.mv (.t 20))⟩]) (.seq (.dreg [[], [], [0, 1], [], [], [3, 4, 2, 0, 1], [2, 0, 1, 5, 3, 4]] [⟨(some 21), none, (.load true 2 (.t 4))⟩, ⟨(some 22), none, (.mv (.t 8))⟩, ⟨(some 23), none, (.call 82 [(.t 21), (.t 22)])⟩, ⟨(some 24), none, (.load true 2 (.t 5))⟩, ⟨(some 25), none, (.mv (.t 8))⟩, ⟨(some 26), none, (.call 82 [(.t 24), (.t 25)])⟩, ⟨(some 27), none, (.bin .lss false (.t 23) (.t 26))⟩]) (.cond (.t 27) (.seq (.reg [⟨(some 6), none, (.mv (.c (.bool false)))⟩]) .ret) .skip)))) (.reg [⟨(some 28), none, (.bin .add false (.t 17) (.c (.int .i64 1)))⟩, ⟨(some 17), none, (.mv (.t 28))⟩]))))))) (.seq (.dreg [[], [], [0, 1], [], [], [3, 4, 2, 0, 1], [2, 0, 1, 5, 3, 4], [5, 3, 4, 2, 0, 1, 6]] [⟨(some 29), none, (.load true 3 (.t 3))⟩, ⟨(some 30), none, (.load true 2 (.t 4))⟩, ⟨(some 31), none, (.call 83 [(.t 29), (.t 30)])⟩, ⟨(some 32), none, (.load true 3 (.t 3))⟩, ⟨(some 33), none, (.load true 2 (.t 5))⟩, ⟨(some 34), none, (.call 83 [(.t 32), (.t 33)])⟩, ⟨(some 9), none, (.mv (.t 31))⟩, ⟨(some 10), none, (.mv (.t 34))⟩]) (.seq (.seq (.reg [⟨(some 35), none, (.mv (.t 9))⟩, ⟨(some 36), none, (.mv (.t 10))⟩, ⟨(some 37), none, (.bin .neq false (.t 35) (.t 36))⟩, ⟨(some 38), none, (.mv (.t 37))⟩, ⟨(some 39), (some (38, false)), (.load true 2 (.t 4))⟩, ⟨(some 40), (some (38, false)), (.call 84 [(.t 39)])⟩, ⟨(some 41), none, (.pick (.t 38) (.c (.bool true)) (.t 40))⟩, ⟨(some 42), none, (.mv (.t 41))⟩, ⟨(some 43), (some (42, false)), (.load true 2 (.t 5))⟩, ⟨(some 44), (some (42, false)), (.call 84 [(.t 43)])⟩, ⟨(some 45), none, (.pick (.t 42) (.c (.bool true)) (.t 44))⟩]) (.cond (.t 45) (.seq (.reg [⟨(some 46), none, (.mv (.t 9))⟩, ⟨(some 47), none, (.mv (.t 10))⟩, ⟨(some 48), none, (.bin .gtr false (.t 46) (.t 47))⟩, ⟨(some 6), none, (.mv (.t 48))⟩]) .ret) .skip)) (.seq (.seq (.reg [⟨(some 49), none, (.load true 3 (.t 3))⟩, ⟨(some 50), none, (.load true 2 (.t 5))⟩, ⟨(some 51), none, (.load true 2 (.t 4))⟩, ⟨(some 52), none, (.call 85 [(.t 49), (.t 50), (.t 51)])⟩]) (.cond (.t 52) (.seq (.reg [⟨(some 6), none, (.mv (.c (.bool true)))⟩]) .ret) .skip)) (.seq (.reg [⟨(some 54), none, (.load true 2 (.t 4))⟩, ⟨(some 55), none, (.load true 2 (.t 5))⟩, ⟨(some 56), none, (.call 86 [(.t 54), (.t 55)])⟩, ⟨(some 53), none, (.mv (.t 56))⟩, ⟨(some 57), none, (.ext (.t 53) 0)⟩, ⟨(some 58), none, (.ext (.t 53) 1)⟩, ⟨(some 59), none, (.ext (.t 53) 2)⟩, ⟨(some 11), none, (.alloc 30 [(.str ⟨#[]⟩), .nil])⟩, ⟨(some 12), none, (.alloc 30 [(.str ⟨#[]⟩), .nil])⟩, ⟨none, none, (.store 2 (.t 11) (.t 57))⟩, ⟨none, none, (.store 2 (.t 12) (.t 58))⟩, ⟨(some 13), none, (.mv (.t 59))⟩]) (.seq (.reg [⟨(some 60), none, (.mv (.t 13))⟩, ⟨(some 61), none, (.mv (.t 60))⟩, ⟨(some 62), (some (61, true)), (.load true 3 (.t 3))⟩, ⟨(some 63), (some (61, true)), (.load true 2 (.t 11))⟩, ⟨(some 64), (some (61, true)), (.load true 2 (.t 12))⟩, ⟨(some 65), (some (61, true)), (.call 50 [(.t 62), (.t 63), (.t 64)])⟩, ⟨(some 66), none, (.pick (.t 61) (.t 65) (.c (.bool false)))⟩, ⟨(some 6), none, (.mv (.t 66))⟩]) .ret)))))))
theorem k_impl_Ordering_kbo : codeOf Try.prog 50 = some ⟨67, c_impl_Ordering_kbo, [(.tmp 6)]⟩ := by kernel_rfl
theorem m_impl_Ordering_kbo : modes 50 = ⟨[], .asis, none, false⟩ := by unfold modes; rfl

set_option maxHeartbeats 8000000 in
theorem kbo_E (syms : List ByteArray) (hl : syms.length ≤ 1048576) : ∀ (n : Nat) (s t : Tm), s.names = true → t.names = true → s.cov syms → t.cov syms → s.nodes ≤ n → s.nodes ≤ 1048576 → t.nodes ≤ 1048576 → E 50 [osv1 syms, s.sv, t.sv] [] = some (.bool (kboF syms n s t), [])
  | 0, s, t, _, _, _, _, h, _, _ => by have := Tm.nodes_pos s; omega
  | n + 1, s, t, hs, ht, cs, ct, hn, h1, h2 => by
    have hv := variables_E t ht (Tm.cok_names t ht) h2
    rw [Tm.vars_ins] at hv
    have hll := insA_len t.vs []
    have hvl := Tm.vs_len t
    simp only [List.length_nil] at hll
    rw [kboF]
    obtain ⟨ns, hns⟩ : ∃ ns, ns = insA [] t.vs := ⟨_, rfl⟩
    rw [← hns] at hv hll ⊢
    have w1 := weight_E syms hl s hs cs (by omega)
    have w2 := weight_E syms hl t ht ct (by omega)
    have v1 := isVar_E s (Tm.cok_names s hs)
    have v2 := isVar_E t (Tm.cok_names t ht)
    have r1 := precedes_E syms (by omega) t s
    have hf := firstDiffering_E s t h1 h2
    have hsv : s.sv = .agg [.str s.name, .arr (s.args.map Tm.d)] := rfl
    have htv : t.sv = .agg [.str t.name, .arr (t.args.map Tm.d)] := rfl
    obtain ⟨R, hRd⟩ : ∃ R, R = kboT syms (kboF syms n) s t := ⟨_, rfl⟩
    rw [← hRd]
    refine E_walk k_impl_Ordering_kbo m_impl_Ordering_kbo (of_decide_eq_true rfl) ?_
    simp (disch := omega) only [c_impl_Ordering_kbo, go_sem, Nat.reduceAdd, Nat.reduceSub, Nat.reduceLT, Nat.reduceLeDiff, Nat.reduceEqDiff, Nat.reduceBEq, Nat.reduceBneDiff, Nat.reduceMul, ↓reduceIte, Int.reduceToNat, reduceCtorEq, Int.reduceNeg, Int.reduceAdd, hv, m_impl_variables, m_impl_countName, m_impl_isVar, m_impl_firstDiffering, m_impl_Ordering_weight, m_impl_Ordering_precedes, m_impl_Ordering_kbo]
    refine go_loop (α := Int) (fun a => ⟨slots 67 0 [(3, .ptr 0 0), (4, .ptr 1 0), (5, .ptr 2 0), (15, .ref 3), (16, .int .i64 ns.length), (17, .int .i64 a)], [.box 43 [.arr (syms.map fun s => [D.str s]), .arr (syms.map fun _ => [D.int 1]), .int .i64 1], .box 30 [.str s.name, .arr (s.args.map Tm.d)], .box 30 [.str t.name, .arr (t.args.map Tm.d)], .row 9 1 (ns.map fun s => [OT.str s])]⟩) (fun a => ∃ k : Nat, a = k ∧ k ≤ (ns).length ∧ balL s t (ns.drop k) = balL s t ns) (fun a => (ns).length - (a).toNat) 0 ⟨0, rfl, Nat.zero_le _, by rw [List.drop_zero]⟩ (by simp (disch := omega) only [go_sem, Nat.reduceAdd, Nat.reduceSub, Nat.reduceLT, Nat.reduceLeDiff, Nat.reduceEqDiff, Nat.reduceBEq, Nat.reduceBneDiff, Nat.reduceMul, ↓reduceIte, Int.reduceToNat, reduceCtorEq, Int.reduceNeg, Int.reduceAdd]) ?_
    rintro i ⟨k, hi, hk, hR⟩
    have hni : i.toNat = k := by omega
    have hni1 : (i + 1).toNat = k + 1 := by omega
    rcases Nat.lt_or_ge k (ns).length with hlt | hge
    · have hg : (ns.map fun s => [OT.str s])[k]? = some [OT.str ns[k]] := by rw [List.getElem?_map, List.getElem?_eq_getElem hlt]; rfl
      have c1 := countName_E s ns[k] (by omega)
      have c2 := countName_E t ns[k] (by omega)
      unfold balL at hR
      rw [List.drop_eq_getElem_cons hlt, List.all_cons] at hR
      cases hq : dec ((s.cnt ns[k] : Int) < (t.cnt ns[k] : Int)) with
      | true =>
        rw [hq] at hR
        have hb : balL s t ns = false := by unfold balL; rw [← hR]; rfl
        simp (disch := omega) only [go_sem, Nat.reduceAdd, Nat.reduceSub, Nat.reduceLT, Nat.reduceLeDiff, Nat.reduceEqDiff, Nat.reduceBEq, Nat.reduceBneDiff, Nat.reduceMul, ↓reduceIte, Int.reduceToNat, reduceCtorEq, Int.reduceNeg, Int.reduceAdd, hni, hg, c1, c2, hq, m_impl_variables, m_impl_countName, m_impl_isVar, m_impl_firstDiffering, m_impl_Ordering_weight, m_impl_Ordering_precedes, m_impl_Ordering_kbo]
        first | (rw [hb]; rfl) | (simp only [hb, cond_false])
      | false =>
        rw [hq] at hR
        simp (disch := omega) only [go_sem, Nat.reduceAdd, Nat.reduceSub, Nat.reduceLT, Nat.reduceLeDiff, Nat.reduceEqDiff, Nat.reduceBEq, Nat.reduceBneDiff, Nat.reduceMul, ↓reduceIte, Int.reduceToNat, reduceCtorEq, Int.reduceNeg, Int.reduceAdd, hni, hg, c1, c2, hq, m_impl_variables, m_impl_countName, m_impl_isVar, m_impl_firstDiffering, m_impl_Ordering_weight, m_impl_Ordering_precedes, m_impl_Ordering_kbo]
        exact ⟨i + 1, ⟨k + 1, by omega, hlt, hR⟩, by omega, by first | trivial | rfl⟩
    · rw [List.drop_eq_nil_of_le hge] at hR
      have hb : balL s t ns = true := by rw [← hR]; rfl
      rw [hb]
      simp only [cond_true]
      rw [hRd]
      unfold kboT
      cases e2 : dec ((s.nodes : Int) = (t.nodes : Int)) with
      | false =>
        simp only [cond_false]
        simp (disch := omega) only [go_sem, Nat.reduceAdd, Nat.reduceSub, Nat.reduceLT, Nat.reduceLeDiff, Nat.reduceEqDiff, Nat.reduceBEq, Nat.reduceBneDiff, Nat.reduceMul, ↓reduceIte, Int.reduceToNat, reduceCtorEq, Int.reduceNeg, Int.reduceAdd, hni, w1, w2, v1, v2, r1, hf, e2, fdV, m_impl_variables, m_impl_countName, m_impl_isVar, m_impl_firstDiffering, m_impl_Ordering_weight, m_impl_Ordering_precedes, m_impl_Ordering_kbo]
      | true =>
        simp only [cond_true]
        have e2' := dec_iff.1 e2
        have q2 : dec ((t.nodes : Int) < (s.nodes : Int)) = false := dec_f (by omega)
        cases e3 : varB s.name with
        | true =>
          rw [e3] at v1
          simp only [Bool.true_or, cond_true]
          simp (disch := omega) only [go_sem, Nat.reduceAdd, Nat.reduceSub, Nat.reduceLT, Nat.reduceLeDiff, Nat.reduceEqDiff, Nat.reduceBEq, Nat.reduceBneDiff, Nat.reduceMul, ↓reduceIte, Int.reduceToNat, reduceCtorEq, Int.reduceNeg, Int.reduceAdd, hni, w1, w2, v1, v2, r1, hf, e2, fdV, m_impl_variables, m_impl_countName, m_impl_isVar, m_impl_firstDiffering, m_impl_Ordering_weight, m_impl_Ordering_precedes, m_impl_Ordering_kbo]
        | false =>
          rw [e3] at v1
          cases e4 : varB t.name with
          | true =>
            rw [e4] at v2
            simp only [Bool.or_true, cond_true]
            simp (disch := omega) only [go_sem, Nat.reduceAdd, Nat.reduceSub, Nat.reduceLT, Nat.reduceLeDiff, Nat.reduceEqDiff, Nat.reduceBEq, Nat.reduceBneDiff, Nat.reduceMul, ↓reduceIte, Int.reduceToNat, reduceCtorEq, Int.reduceNeg, Int.reduceAdd, hni, w1, w2, v1, v2, r1, hf, e2, fdV, m_impl_variables, m_impl_countName, m_impl_isVar, m_impl_firstDiffering, m_impl_Ordering_weight, m_impl_Ordering_precedes, m_impl_Ordering_kbo]
          | false =>
            rw [e4] at v2
            simp only [Bool.or_self, cond_false]
            cases e6 : preB2 syms t s with
            | true =>
              rw [e6] at r1
              simp only [cond_true]
              simp (disch := omega) only [go_sem, Nat.reduceAdd, Nat.reduceSub, Nat.reduceLT, Nat.reduceLeDiff, Nat.reduceEqDiff, Nat.reduceBEq, Nat.reduceBneDiff, Nat.reduceMul, ↓reduceIte, Int.reduceToNat, reduceCtorEq, Int.reduceNeg, Int.reduceAdd, hni, w1, w2, v1, v2, r1, hf, e2, fdV, m_impl_variables, m_impl_countName, m_impl_isVar, m_impl_firstDiffering, m_impl_Ordering_weight, m_impl_Ordering_precedes, m_impl_Ordering_kbo]
            | false =>
              rw [e6] at r1
              simp only [cond_false]
              cases e7 : fdR s t with
              | none =>
                rw [e7] at hf
                simp only
                simp (disch := omega) only [go_sem, Nat.reduceAdd, Nat.reduceSub, Nat.reduceLT, Nat.reduceLeDiff, Nat.reduceEqDiff, Nat.reduceBEq, Nat.reduceBneDiff, Nat.reduceMul, ↓reduceIte, Int.reduceToNat, reduceCtorEq, Int.reduceNeg, Int.reduceAdd, hni, w1, w2, v1, v2, r1, hf, e2, fdV, m_impl_variables, m_impl_countName, m_impl_isVar, m_impl_firstDiffering, m_impl_Ordering_weight, m_impl_Ordering_precedes, m_impl_Ordering_kbo]
              | some p =>
                rw [e7] at hf
                simp only
                have hp : p.1 ∈ s.args ∧ p.2 ∈ t.args := by
                  unfold fdR at e7
                  obtain ⟨_, e8⟩ := bif_some e7
                  rcases fd_both s.args t.args 0 with ⟨f1, _⟩ | ⟨k, k1, k2, f1, _⟩
                  · rw [f1] at e8; cases e8
                  · rw [f1] at e8
                    obtain rfl := Option.some.inj e8
                    exact ⟨List.getElem_mem k1, List.getElem_mem k2⟩
                have m1 := Tm.nodes_mem hp.1
                have m2 := Tm.nodes_mem hp.2
                have n1 := Tm.nodes_eq s
                have n2 := Tm.nodes_eq t
                have ih := kbo_E syms hl n p.1 p.2 (Tm.names_arg hs hp.1) (Tm.names_arg ht hp.2) (Tm.cov_arg cs hp.1) (Tm.cov_arg ct hp.2) (by omega) (by omega) (by omega)
                simp (disch := omega) only [go_sem, Nat.reduceAdd, Nat.reduceSub, Nat.reduceLT, Nat.reduceLeDiff, Nat.reduceEqDiff, Nat.reduceBEq, Nat.reduceBneDiff, Nat.reduceMul, ↓reduceIte, Int.reduceToNat, reduceCtorEq, Int.reduceNeg, Int.reduceAdd, hni, w1, w2, v1, v2, r1, hf, e2, fdV, ih, m_impl_variables, m_impl_countName, m_impl_isVar, m_impl_firstDiffering, m_impl_Ordering_weight, m_impl_Ordering_precedes, m_impl_Ordering_kbo]
end Go.Proofs.Ythbkkiogbikbcaa

set_option maxRecDepth 100000
set_option linter.unusedSimpArgs false
set_option linter.unusedVariables false
namespace Go.Proofs.Ythbkkiogbikbcaa
open Go.RowKit

def c_impl_ordered : SC := (.seq (.reg [⟨(some 6), none, (.mv (.c (.int .i64 0)))⟩]) (.seq (.block 0 (.seq (.reg [⟨(some 8), none, (.mv (.t 0))⟩, ⟨(some 7), none, (.mv (.t 8))⟩]) (.cond (.t 7) (.seq (.reg [⟨(some 6), none, (.mv (.c (.int .i64 1)))⟩]) .ret) (.seq (.reg [⟨(some 10), none, (.mv (.t 1))⟩, ⟨(some 11), none, (.callv (.t 10) [])⟩, ⟨(some 9), none, (.mv (.t 11))⟩]) (.cond (.t 9) (.seq (.reg [⟨(some 6), none, (.mv (.c (.int .i64 2)))⟩]) .ret) (.seq (.reg [⟨(some 13), none, (.mv (.t 2))⟩, ⟨(some 14), none, (.callv (.t 13) [])⟩, ⟨(some 12), none, (.mv (.t 14))⟩]) (.cond (.t 12) (.seq (.reg [⟨(some 6), none, (.mv (.c (.int .i64 3)))⟩]) .ret) .skip))))))) (.seq (.reg [⟨(some 6), none, (.mv (.c (.int .i64 0)))⟩]) .ret)))
theorem k_impl_ordered : codeOf Try.prog 48 = some ⟨15, c_impl_ordered, [(.tmp 6)]⟩ := by kernel_rfl
theorem m_impl_ordered : modes 48 = ⟨[], .asis, none, false⟩ := by unfold modes; rfl

def c_impl_Ordering_compareKBO_1 : SC := (.seq (.reg [⟨(some 3), none, (.mv (.c (.bool false)))⟩]) (.seq (.reg [⟨(some 4), none, (.load true 3 (.t 0))⟩, ⟨(some 5), none, (.load true 2 (.t 1))⟩, ⟨(some 6), none, (.load true 2 (.t 2))⟩, ⟨(some 7), none, (.call 50 [(.t 4), (.t 5), (.t 6)])⟩, ⟨(some 3), none, (.mv (.t 7))⟩]) .ret))
theorem k_impl_Ordering_compareKBO_1 : codeOf Try.prog 49 = some ⟨8, c_impl_Ordering_compareKBO_1, [(.tmp 3)]⟩ := by kernel_rfl
theorem m_impl_Ordering_compareKBO_1 : modes 49 = ⟨[], .asis, none, false⟩ := by unfold modes; rfl

theorem g_impl_Ordering_compareKBO_1 : goFn Try.prog 49 = true := by kernel_rfl

def c_impl_Ordering_compareKBO_2 : SC := (.seq (.reg [⟨(some 3), none, (.mv (.c (.bool false)))⟩]) (.seq (.reg [⟨(some 4), none, (.load true 3 (.t 0))⟩, ⟨(some 5), none, (.load true 2 (.t 1))⟩, ⟨(some 6), none, (.load true 2 (.t 2))⟩, ⟨(some 7), none, (.call 50 [(.t 4), (.t 5), (.t 6)])⟩, ⟨(some 3), none, (.mv (.t 7))⟩]) .ret))
theorem k_impl_Ordering_compareKBO_2 : codeOf Try.prog 51 = some ⟨8, c_impl_Ordering_compareKBO_2, [(.tmp 3)]⟩ := by kernel_rfl
theorem m_impl_Ordering_compareKBO_2 : modes 51 = ⟨[], .asis, none, false⟩ := by unfold modes; rfl

theorem g_impl_Ordering_compareKBO_2 : goFn Try.prog 51 = true := by kernel_rfl

abbrev oBx (syms : List ByteArray) : Ob := .box 43 [.arr (syms.map fun s => [D.str s]), .arr (syms.map fun _ => [D.int 1]), .int .i64 1]
abbrev tBx (s : Tm) : Ob := .box 30 [.str s.name, .arr (s.args.map Tm.d)]
theorem kboC1_E (syms : List ByteArray) (s t : Tm) (b : Bool) (h : E 50 [osv1 syms, s.sv, t.sv] [] = some (.bool b, [])) : E 49 [.ptr 0 0, .ptr 1 0, .ptr 2 0] [oBx syms, tBx s, tBx t] = some (.bool b, [oBx syms, tBx s, tBx t]) := by
  have hsv : s.sv = .agg [.str s.name, .arr (s.args.map Tm.d)] := rfl
  have htv : t.sv = .agg [.str t.name, .arr (t.args.map Tm.d)] := rfl
  refine E_walk k_impl_Ordering_compareKBO_1 m_impl_Ordering_compareKBO_1 (of_decide_eq_true rfl) ?_
  simp (disch := omega) only [c_impl_Ordering_compareKBO_1, go_sem, Nat.reduceAdd, Nat.reduceSub, Nat.reduceLT, Nat.reduceLeDiff, Nat.reduceEqDiff, Nat.reduceBEq, Nat.reduceBneDiff, Nat.reduceMul, ↓reduceIte, Int.reduceToNat, reduceCtorEq, Int.reduceNeg, Int.reduceAdd, h, m_impl_Ordering_kbo]
theorem kboC2_E (syms : List ByteArray) (s t : Tm) (b : Bool) (h : E 50 [osv1 syms, s.sv, t.sv] [] = some (.bool b, [])) : E 51 [.ptr 0 0, .ptr 1 0, .ptr 2 0] [oBx syms, tBx s, tBx t] = some (.bool b, [oBx syms, tBx s, tBx t]) := by
  have hsv : s.sv = .agg [.str s.name, .arr (s.args.map Tm.d)] := rfl
  have htv : t.sv = .agg [.str t.name, .arr (t.args.map Tm.d)] := rfl
  refine E_walk k_impl_Ordering_compareKBO_2 m_impl_Ordering_compareKBO_2 (of_decide_eq_true rfl) ?_
  simp (disch := omega) only [c_impl_Ordering_compareKBO_2, go_sem, Nat.reduceAdd, Nat.reduceSub, Nat.reduceLT, Nat.reduceLeDiff, Nat.reduceEqDiff, Nat.reduceBEq, Nat.reduceBneDiff, Nat.reduceMul, ↓reduceIte, Int.reduceToNat, reduceCtorEq, Int.reduceNeg, Int.reduceAdd, h, m_impl_Ordering_kbo]
def c_impl_Ordering_compareKBO : SC := (.seq (.reg [⟨(some 3), none, (.boxv 43 3 (.t 0))⟩, ⟨(some 4), none, (.boxv 30 2 (.t 1))⟩, ⟨(some 5), none, (.boxv 30 2 (.t 2))⟩, ⟨(some 6), none, (.mv (.c (.int .i64 0)))⟩]) (.seq (.reg [⟨(some 7), none, (.load true 2 (.t 4))⟩, ⟨(some 8), none, (.load true 2 (.t 5))⟩, ⟨(some 9), none, (.call 23 [(.t 7), (.t 8)])⟩, ⟨(some 10), none, (.mkfn 49 [(.t 3), (.t 4), (.t 5)])⟩, ⟨(some 11), none, (.mkfn 51 [(.t 3), (.t 5), (.t 4)])⟩, ⟨(some 12), none, (.call 48 [(.t 9), (.t 10), (.t 11)])⟩, ⟨(some 6), none, (.mv (.t 12))⟩]) .ret))
theorem k_impl_Ordering_compareKBO : codeOf Try.prog 27 = some ⟨13, c_impl_Ordering_compareKBO, [(.tmp 6)]⟩ := by kernel_rfl
theorem m_impl_Ordering_compareKBO : modes 27 = ⟨[], .asis, none, false⟩ := by unfold modes; rfl

noncomputable def codeI (e g l : Bool) : Int := bif e then 1 else bif g then 2 else bif l then 3 else 0
theorem ordered_E (syms : List ByteArray) (s t : Tm) (e g l : Bool) (h1 : E 50 [osv1 syms, s.sv, t.sv] [] = some (.bool g, [])) (h2 : E 50 [osv1 syms, t.sv, s.sv] [] = some (.bool l, [])) : E 48 [.bool e, .fn 49 [.ptr 0 0, .ptr 1 0, .ptr 2 0], .fn 51 [.ptr 0 0, .ptr 2 0, .ptr 1 0]] [oBx syms, tBx s, tBx t] = some (.int .i64 (codeI e g l), [oBx syms, tBx s, tBx t]) := by
  have c1 := kboC1_E syms s t g h1
  have c2 := kboC2_E syms t s l h2
  unfold codeI
  cases e with
  | true =>
    refine E_walk k_impl_ordered m_impl_ordered (of_decide_eq_true rfl) ?_
    simp (disch := omega) only [c_impl_ordered, go_sem, Nat.reduceAdd, Nat.reduceSub, Nat.reduceLT, Nat.reduceLeDiff, Nat.reduceEqDiff, Nat.reduceBEq, Nat.reduceBneDiff, Nat.reduceMul, ↓reduceIte, Int.reduceToNat, reduceCtorEq, Int.reduceNeg, Int.reduceAdd]
  | false =>
    cases g with
    | true =>
      refine E_walk k_impl_ordered m_impl_ordered (of_decide_eq_true rfl) ?_
      simp (disch := omega) only [c_impl_ordered, go_sem, Nat.reduceAdd, Nat.reduceSub, Nat.reduceLT, Nat.reduceLeDiff, Nat.reduceEqDiff, Nat.reduceBEq, Nat.reduceBneDiff, Nat.reduceMul, ↓reduceIte, Int.reduceToNat, reduceCtorEq, Int.reduceNeg, Int.reduceAdd, c1, g_impl_Ordering_compareKBO_1, m_impl_Ordering_compareKBO_1]
    | false =>
      cases l with
      | true =>
        refine E_walk k_impl_ordered m_impl_ordered (of_decide_eq_true rfl) ?_
        simp (disch := omega) only [c_impl_ordered, go_sem, Nat.reduceAdd, Nat.reduceSub, Nat.reduceLT, Nat.reduceLeDiff, Nat.reduceEqDiff, Nat.reduceBEq, Nat.reduceBneDiff, Nat.reduceMul, ↓reduceIte, Int.reduceToNat, reduceCtorEq, Int.reduceNeg, Int.reduceAdd, c1, c2, g_impl_Ordering_compareKBO_1, m_impl_Ordering_compareKBO_1, g_impl_Ordering_compareKBO_2, m_impl_Ordering_compareKBO_2]
      | false =>
        refine E_walk k_impl_ordered m_impl_ordered (of_decide_eq_true rfl) ?_
        simp (disch := omega) only [c_impl_ordered, go_sem, Nat.reduceAdd, Nat.reduceSub, Nat.reduceLT, Nat.reduceLeDiff, Nat.reduceEqDiff, Nat.reduceBEq, Nat.reduceBneDiff, Nat.reduceMul, ↓reduceIte, Int.reduceToNat, reduceCtorEq, Int.reduceNeg, Int.reduceAdd, c1, c2, g_impl_Ordering_compareKBO_1, m_impl_Ordering_compareKBO_1, g_impl_Ordering_compareKBO_2, m_impl_Ordering_compareKBO_2]
theorem compareKBO_E (syms : List ByteArray) (hl : syms.length ≤ 1048576) (s t : Tm) (hs : s.names = true) (ht : t.names = true) (cs : s.cov syms) (ct : t.cov syms) (h1 : s.nodes ≤ 1048576) (h2 : t.nodes ≤ 1048576) : E 27 [osv1 syms, s.sv, t.sv] [] = some (.int .i64 (codeI (dec (s = t)) (kboF syms 1048576 s t) (kboF syms 1048576 t s)), []) := by
  have k1 := kbo_E syms hl 1048576 s t hs ht cs ct h1 h1 h2
  have k2 := kbo_E syms hl 1048576 t s ht hs ct cs h2 h2 h1
  have he := equalTerms_E s t (by omega) (by omega)
  generalize kboF syms 1048576 s t = g at *
  generalize kboF syms 1048576 t s = l at *
  have ho := ordered_E syms s t (dec (s = t)) g l k1 k2
  have hsv : s.sv = .agg [.str s.name, .arr (s.args.map Tm.d)] := rfl
  have htv : t.sv = .agg [.str t.name, .arr (t.args.map Tm.d)] := rfl
  refine E_walk k_impl_Ordering_compareKBO m_impl_Ordering_compareKBO (of_decide_eq_true rfl) ?_
  simp (disch := omega) only [c_impl_Ordering_compareKBO, go_sem, Nat.reduceAdd, Nat.reduceSub, Nat.reduceLT, Nat.reduceLeDiff, Nat.reduceEqDiff, Nat.reduceBEq, Nat.reduceBneDiff, Nat.reduceMul, ↓reduceIte, Int.reduceToNat, reduceCtorEq, Int.reduceNeg, Int.reduceAdd, he, ho, m_impl_EqualTerms, m_impl_ordered]
end Go.Proofs.Ythbkkiogbikbcaa

set_option maxRecDepth 100000
set_option linter.unusedSimpArgs false
set_option linter.unusedVariables false
namespace Go.Proofs.Ythbkkiogbikbcaa
open Go.RowKit

def c_spec_l6Code : SC := (.seq (.reg [⟨(some 6), none, (.mv (.c (.int .i64 0)))⟩]) (.seq (.block 0 (.seq (.reg [⟨(some 8), none, (.mv (.t 0))⟩, ⟨(some 7), none, (.mv (.t 8))⟩]) (.cond (.t 7) (.seq (.reg [⟨(some 6), none, (.mv (.c (.int .i64 1)))⟩]) .ret) (.seq (.reg [⟨(some 10), none, (.mv (.t 1))⟩, ⟨(some 9), none, (.mv (.t 10))⟩]) (.cond (.t 9) (.seq (.reg [⟨(some 6), none, (.mv (.c (.int .i64 2)))⟩]) .ret) (.seq (.reg [⟨(some 12), none, (.mv (.t 2))⟩, ⟨(some 11), none, (.mv (.t 12))⟩]) (.cond (.t 11) (.seq (.reg [⟨(some 6), none, (.mv (.c (.int .i64 3)))⟩]) .ret) .skip))))))) (.seq (.reg [⟨(some 6), none, (.mv (.c (.int .i64 0)))⟩]) .ret)))
theorem k_spec_l6Code : codeOf Try.prog 35 = some ⟨13, c_spec_l6Code, [(.tmp 6)]⟩ := by kernel_rfl
theorem m_spec_l6Code : modes 35 = ⟨[], .asis, none, false⟩ := by unfold modes; rfl

theorem l6Code_E (e g l : Bool) : E 35 [.bool e, .bool g, .bool l] [] = some (.int .i64 (codeI e g l), []) := by
  unfold codeI
  cases e with
  | true =>
    refine E_walk k_spec_l6Code m_spec_l6Code (of_decide_eq_true rfl) ?_
    simp (disch := omega) only [c_spec_l6Code, go_sem, Nat.reduceAdd, Nat.reduceSub, Nat.reduceLT, Nat.reduceLeDiff, Nat.reduceEqDiff, Nat.reduceBEq, Nat.reduceBneDiff, Nat.reduceMul, ↓reduceIte, Int.reduceToNat, reduceCtorEq, Int.reduceNeg, Int.reduceAdd]
  | false =>
    cases g with
    | true =>
      refine E_walk k_spec_l6Code m_spec_l6Code (of_decide_eq_true rfl) ?_
      simp (disch := omega) only [c_spec_l6Code, go_sem, Nat.reduceAdd, Nat.reduceSub, Nat.reduceLT, Nat.reduceLeDiff, Nat.reduceEqDiff, Nat.reduceBEq, Nat.reduceBneDiff, Nat.reduceMul, ↓reduceIte, Int.reduceToNat, reduceCtorEq, Int.reduceNeg, Int.reduceAdd]
    | false =>
      cases l with
      | true =>
        refine E_walk k_spec_l6Code m_spec_l6Code (of_decide_eq_true rfl) ?_
        simp (disch := omega) only [c_spec_l6Code, go_sem, Nat.reduceAdd, Nat.reduceSub, Nat.reduceLT, Nat.reduceLeDiff, Nat.reduceEqDiff, Nat.reduceBEq, Nat.reduceBneDiff, Nat.reduceMul, ↓reduceIte, Int.reduceToNat, reduceCtorEq, Int.reduceNeg, Int.reduceAdd]
      | false =>
        refine E_walk k_spec_l6Code m_spec_l6Code (of_decide_eq_true rfl) ?_
        simp (disch := omega) only [c_spec_l6Code, go_sem, Nat.reduceAdd, Nat.reduceSub, Nat.reduceLT, Nat.reduceLeDiff, Nat.reduceEqDiff, Nat.reduceBEq, Nat.reduceBneDiff, Nat.reduceMul, ↓reduceIte, Int.reduceToNat, reduceCtorEq, Int.reduceNeg, Int.reduceAdd]
end Go.Proofs.Ythbkkiogbikbcaa

set_option maxRecDepth 100000
set_option linter.unusedSimpArgs false
set_option linter.unusedVariables false
namespace Go.Proofs.Ythbkkiogbikbcaa
open Go.RowKit

def c_spec_l2In : SC := (.seq (.reg [⟨(some 4), none, (.mv (.c (.bool false)))⟩]) (.seq (.seq (.reg [⟨(some 5), none, (.mv (.c (.int .i64 0)))⟩]) (.block 0 (.loop [1, 1, 0, 0, 0, 1, 0, 0, 0, 0, 0, 0, 0, 0, 0, 0, 0, 0] (.seq (.seq (.reg [⟨(some 6), none, (.mv (.t 5))⟩, ⟨(some 7), none, (.mv (.t 0))⟩, ⟨(some 8), none, (.len false (.t 7))⟩, ⟨(some 9), none, (.bin .lss false (.t 6) (.t 8))⟩]) (.cond (.t 9) .skip (.exit 0))) (.seq (.block 1 (.seq (.reg [⟨(some 12), none, (.mv (.t 0))⟩, ⟨(some 13), none, (.mv (.t 5))⟩, ⟨(some 14), none, (.iaddr 1 (.t 12) (.t 13))⟩, ⟨(some 15), none, (.load false 1 (.t 14))⟩, ⟨(some 16), none, (.mv (.t 1))⟩, ⟨(some 17), none, (.bin .eql false (.t 15) (.t 16))⟩]) (.cond (.t 17) (.seq (.reg [⟨(some 4), none, (.mv (.c (.bool true)))⟩]) .ret) .skip))) (.reg [⟨(some 10), none, (.mv (.t 5))⟩, ⟨(some 11), none, (.bin .add false (.t 10) (.c (.int .i64 1)))⟩, ⟨(some 5), none, (.mv (.t 11))⟩])))))) (.seq (.reg [⟨(some 4), none, (.mv (.c (.bool false)))⟩]) .ret)))
theorem k_spec_l2In : codeOf Try.prog 55 = some ⟨18, c_spec_l2In, [(.tmp 4)]⟩ := by kernel_rfl
theorem m_spec_l2In : modes 55 = ⟨[], .asis, none, false⟩ := by unfold modes; rfl

theorem l2In_E (xs : List ByteArray) (n : ByteArray) (hl : xs.length ≤ 1099511627776) : E 55 [.arr (xs.map fun s => [D.str s]), .str n] [] = some (.bool (dec (n ∈ xs)), []) := by
  refine E_walk k_spec_l2In m_spec_l2In (of_decide_eq_true rfl) ?_
  simp (disch := omega) only [c_spec_l2In, go_sem, Nat.reduceAdd, Nat.reduceSub, Nat.reduceLT, Nat.reduceLeDiff, Nat.reduceEqDiff, Nat.reduceBEq, Nat.reduceBneDiff, Nat.reduceMul, ↓reduceIte, Int.reduceToNat, reduceCtorEq, Int.reduceNeg, Int.reduceAdd]
  refine go_loop (α := Int) (fun a => ⟨slots 18 0 [(0, .arr (xs.map fun s => [D.str s])), (1, .str n), (5, .int .i64 a)], []⟩) (fun a => ∃ k : Nat, a = k ∧ k ≤ (xs).length ∧ dec (n ∈ xs.drop k) = dec (n ∈ xs)) (fun a => (xs).length - (a).toNat) 0 ⟨0, rfl, Nat.zero_le _, by rw [List.drop_zero]⟩ (by simp (disch := omega) only [go_sem, Nat.reduceAdd, Nat.reduceSub, Nat.reduceLT, Nat.reduceLeDiff, Nat.reduceEqDiff, Nat.reduceBEq, Nat.reduceBneDiff, Nat.reduceMul, ↓reduceIte, Int.reduceToNat, reduceCtorEq, Int.reduceNeg, Int.reduceAdd]) ?_
  rintro i ⟨k, hi, hk, hR⟩
  have hni : i.toNat = k := by omega
  have hni1 : (i + 1).toNat = k + 1 := by omega
  rcases Nat.lt_or_ge k (xs).length with hlt | hge
  · have hg := get_at (fun s => [D.str s]) hlt
    rw [List.drop_eq_getElem_cons hlt] at hR
    by_cases hp : xs[k] = n
    · have hq := eq_true hp
      have ht : dec (n ∈ xs) = true := dec_t (hp ▸ List.getElem_mem hlt)
      simp (disch := omega) only [go_sem, Nat.reduceAdd, Nat.reduceSub, Nat.reduceLT, Nat.reduceLeDiff, Nat.reduceEqDiff, Nat.reduceBEq, Nat.reduceBneDiff, Nat.reduceMul, ↓reduceIte, Int.reduceToNat, reduceCtorEq, Int.reduceNeg, Int.reduceAdd, hni, hg, hq]
      exact ht.symm
    · have hq := eq_false hp
      have hR : dec (n ∈ xs.drop (k + 1)) = dec (n ∈ xs) := by
        rw [← hR]
        exact dec_ii (by simp only [List.mem_cons]; exact ⟨.inr, fun h => h.elim (fun e => absurd e.symm hp) id⟩)
      simp (disch := omega) only [go_sem, Nat.reduceAdd, Nat.reduceSub, Nat.reduceLT, Nat.reduceLeDiff, Nat.reduceEqDiff, Nat.reduceBEq, Nat.reduceBneDiff, Nat.reduceMul, ↓reduceIte, Int.reduceToNat, reduceCtorEq, Int.reduceNeg, Int.reduceAdd, hni, hg, hq]
      exact ⟨i + 1, ⟨k + 1, by omega, hlt, hR⟩, by omega, by first | trivial | rfl⟩
  · rw [List.drop_eq_nil_of_le hge, dec_f (by simp)] at hR
    simp (disch := omega) only [go_sem, Nat.reduceAdd, Nat.reduceSub, Nat.reduceLT, Nat.reduceLeDiff, Nat.reduceEqDiff, Nat.reduceBEq, Nat.reduceBneDiff, Nat.reduceMul, ↓reduceIte, Int.reduceToNat, reduceCtorEq, Int.reduceNeg, Int.reduceAdd, hni]
    exact hR
end Go.Proofs.Ythbkkiogbikbcaa

set_option maxRecDepth 100000
set_option linter.unusedSimpArgs false
set_option linter.unusedVariables false
namespace Go.Proofs.Ythbkkiogbikbcaa
open Go.RowKit

def c_spec_l1In : SC := (.seq (.reg [⟨(some 6), none, (.mv (.c (.bool false)))⟩]) (.seq (.reg [⟨(some 7), none, (.mv (.t 0))⟩, ⟨(some 8), none, (.mv (.t 1))⟩, ⟨(some 9), none, (.bin .geq false (.t 7) (.t 8))⟩, ⟨(some 10), none, (.mv (.t 9))⟩, ⟨(some 11), (some (10, true)), (.mv (.t 0))⟩, ⟨(some 12), (some (10, true)), (.mv (.t 2))⟩, ⟨(some 13), (some (10, true)), (.bin .leq false (.t 11) (.t 12))⟩, ⟨(some 14), none, (.pick (.t 10) (.t 13) (.c (.bool false)))⟩, ⟨(some 6), none, (.mv (.t 14))⟩]) .ret))
theorem k_spec_l1In : codeOf Try.prog 53 = some ⟨15, c_spec_l1In, [(.tmp 6)]⟩ := by kernel_rfl
theorem m_spec_l1In : modes 53 = ⟨[], .asis, none, false⟩ := by unfold modes; rfl

theorem l1InO_E (n lo hi : Int) : E 53 [.int .i64 n, .int .i64 lo, .int .i64 hi] [] = some (.bool (dec (lo ≤ n) && dec (n ≤ hi)), []) := by
  cases h1 : dec (lo ≤ n) with
  | true =>
    refine E_walk k_spec_l1In m_spec_l1In (of_decide_eq_true rfl) ?_
    simp (disch := omega) only [c_spec_l1In, go_sem, Nat.reduceAdd, Nat.reduceSub, Nat.reduceLT, Nat.reduceLeDiff, Nat.reduceEqDiff, Nat.reduceBEq, Nat.reduceBneDiff, Nat.reduceMul, ↓reduceIte, Int.reduceToNat, reduceCtorEq, Int.reduceNeg, Int.reduceAdd, h1]
  | false =>
    refine E_walk k_spec_l1In m_spec_l1In (of_decide_eq_true rfl) ?_
    simp (disch := omega) only [c_spec_l1In, go_sem, Nat.reduceAdd, Nat.reduceSub, Nat.reduceLT, Nat.reduceLeDiff, Nat.reduceEqDiff, Nat.reduceBEq, Nat.reduceBneDiff, Nat.reduceMul, ↓reduceIte, Int.reduceToNat, reduceCtorEq, Int.reduceNeg, Int.reduceAdd, h1]
theorem names_sym {x : Tm} (h : x.names = true) (hv : varB x.name = false) : symB x.name = true := by
  rw [Tm.names_eq, hv] at h
  simp only [Bool.false_eq_true, if_false] at h
  rw [Bool.and_eq_true, Bool.and_eq_true] at h
  exact h.1.1
theorem sy_sym (x : Tm) (hx : x.names = true) : ∀ n ∈ x.sy, symB n = true := by
  intro n hn
  have hall : ∀ y ∈ x.args, ∀ n ∈ y.sy, symB n = true := fun y hy => sy_sym y (Tm.names_arg hx hy)
  rw [Tm.sy_eq] at hn
  cases hv : varB x.name with
  | true =>
    rw [hv] at hn
    simp only [cond_true] at hn
    obtain ⟨y, hy, hn⟩ := Tm.syL_mem.1 hn
    exact hall y hy n hn
  | false =>
    rw [hv] at hn
    simp only [cond_false, List.mem_cons] at hn
    rcases hn with rfl | hn
    · exact names_sym hx hv
    · obtain ⟨y, hy, hn⟩ := Tm.syL_mem.1 hn
      exact hall y hy n hn
termination_by SizeOf.sizeOf x
decreasing_by exact Tm.lt_of_mem hy
def c_spec_l6Good : SC := (.seq (.reg [⟨(some 1), none, (.boxv 43 3 (.t 0))⟩, ⟨(some 2), none, (.mv (.c (.bool false)))⟩]) (.seq (.seq (.reg [⟨(some 4), none, (.faddr 0 (.t 1))⟩, ⟨(some 5), none, (.load false 1 (.t 4))⟩, ⟨(some 6), none, (.len false (.t 5))⟩, ⟨(some 7), none, (.call 53 [(.t 6), (.c (.int .i64 1)), (.c (.int .i64 12))])⟩, ⟨(some 8), none, (.un .not (.t 7))⟩, ⟨(some 9), none, (.mv (.t 8))⟩, ⟨(some 10), (some (9, false)), (.faddr 1 (.t 1))⟩, ⟨(some 11), (some (9, false)), (.load false 1 (.t 10))⟩, ⟨(some 12), (some (9, false)), (.len false (.t 11))⟩, ⟨(some 13), (some (9, false)), (.faddr 0 (.t 1))⟩, ⟨(some 14), (some (9, false)), (.load false 1 (.t 13))⟩, ⟨(some 15), (some (9, false)), (.len false (.t 14))⟩, ⟨(some 16), (some (9, false)), (.bin .neq false (.t 12) (.t 15))⟩, ⟨(some 17), none, (.pick (.t 9) (.c (.bool true)) (.t 16))⟩, ⟨(some 18), none, (.mv (.t 17))⟩, ⟨(some 19), (some (18, false)), (.faddr 2 (.t 1))⟩, ⟨(some 20), (some (18, false)), (.load false 1 (.t 19))⟩, ⟨(some 21), (some (18, false)), (.call 53 [(.t 20), (.c (.int .i64 1)), (.c (.int .i64 100))])⟩, ⟨(some 22), (some (18, false)), (.un .not (.t 21))⟩, ⟨(some 23), none, (.pick (.t 18) (.c (.bool true)) (.t 22))⟩]) (.cond (.t 23) (.seq (.reg [⟨(some 2), none, (.mv (.c (.bool false)))⟩]) .ret) .skip)) (.seq (.seq (.reg [⟨(some 3), none, (.mv (.c (.int .i64 0)))⟩]) (.block 0 (.loop [0, 1, 0, 1, 0, 0, 0, 0, 0, 0, 0, 0, 0, 0, 0, 0, 0, 0, 0, 0, 0, 0, 0, 0, 0, 0, 0, 0, 0, 0, 0, 0, 0, 0, 0, 0, 0, 0, 0, 0, 0, 0, 0, 0, 0, 0, 0, 0, 0, 0, 0, 0, 0, 0, 0, 0, 0, 0, 0, 0, 0] (.seq (.seq (.reg [⟨(some 24), none, (.mv (.t 3))⟩, ⟨(some 25), none, (.faddr 0 (.t 1))⟩, ⟨(some 26), none, (.load false 1 (.t 25))⟩, ⟨(some 27), none, (.len false (.t 26))⟩, ⟨(some 28), none, (.bin .lss false (.t 24) (.t 27))⟩]) (.cond (.t 28) .skip (.exit 0))) (.seq (.block 1 (.seq (.dreg [[], [0], [], [1, 0, 2], [3, 1, 0, 2], [4, 3, 1, 0, 2], [5, 4, 3, 1, 0, 2], [6, 5, 4, 3, 1, 0, 2], [7, 6, 5, 4, 3, 1, 0, 2], [8, 7, 6, 5, 4, 3, 1, 0, 2], [7, 6, 5, 4, 3, 1, 0, 2], [9, 8, 7, 6, 5, 4, 3, 1, 0, 2, 10], [7, 6, 5, 4, 3, 1, 0, 2], [12, 7, 6, 5, 4, 3, 1, 0, 2], [7, 6, 5, 4, 3, 1, 0, 2], [13, 12, 7, 6, 5, 4, 3, 1, 0, 2, 14], [15, 13, 12, 7, 6, 5, 4, 3, 1, 0, 2, 14], [11, 9, 8, 7, 6, 5, 4, 3, 1, 0, 2, 10, 16, 15, 13, 12, 14], [7, 6, 5, 4, 3, 1, 0, 2, 17, 11, 9, 8, 10, 16, 15, 13, 12, 14], [18, 7, 6, 5, 4, 3, 1, 0, 2, 17, 11, 9, 8, 10, 16, 15, 13, 12, 14], [19, 18, 7, 6, 5, 4, 3, 1, 0, 2, 17, 11, 9, 8, 10, 16, 15, 13, 12, 14], [20, 19, 18, 7, 6, 5, 4, 3, 1, 0, 2, 17, 11, 9, 8, 10, 16, 15, 13, 12, 14], [19, 18, 7, 6, 5, 4, 3, 1, 0, 2, 17, 11, 9, 8, 10, 16, 15, 13, 12, 14], [21, 20, 19, 18, 7, 6, 5, 4, 3, 1, 0, 2, 17, 11, 9, 8, 10, 16, 15, 13, 12, 14, 22], [23, 21, 20, 19, 18, 7, 6, 5, 4, 3, 1, 0, 2, 17, 11, 9, 8, 10, 16, 15, 13, 12, 14, 22], [19, 18, 7, 6, 5, 4, 3, 1, 0, 2, 17, 11, 9, 8, 10, 16, 15, 13, 12, 14], [25, 19, 18, 7, 6, 5, 4, 3, 1, 0, 2, 17, 11, 9, 8, 10, 16, 15, 13, 12, 14], [24, 23, 21, 20, 19, 18, 7, 6, 5, 4, 3, 1, 0, 2, 17, 11, 9, 8, 10, 16, 15, 13, 12, 14, 22, 26, 25], [27, 24, 23, 21, 20, 19, 18, 7, 6, 5, 4, 3, 1, 0, 2, 17, 11, 9, 8, 10, 16, 15, 13, 12, 14, 22, 26, 25], [19, 18, 7, 6, 5, 4, 3, 1, 0, 2, 17, 11, 9, 8, 10, 16, 15, 13, 12, 14, 28, 27, 24, 23, 21, 20, 22, 26, 25]] [⟨(some 31), none, (.faddr 0 (.t 1))⟩, ⟨(some 32), none, (.load false 1 (.t 31))⟩, ⟨(some 33), none, (.mv (.t 3))⟩, ⟨(some 34), none, (.iaddr 1 (.t 32) (.t 33))⟩, ⟨(some 35), none, (.load false 1 (.t 34))⟩, ⟨(some 36), none, (.call 31 [(.t 35)])⟩, ⟨(some 37), none, (.un .not (.t 36))⟩, ⟨(some 38), none, (.mv (.t 37))⟩, ⟨(some 39), (some (38, false)), (.faddr 0 (.t 1))⟩, ⟨(some 40), (some (38, false)), (.load false 1 (.t 39))⟩, ⟨(some 41), (some (38, false)), (.mv (.t 3))⟩, ⟨(some 42), (some (38, false)), (.slice false 1 (.t 40) none (some (.t 41)))⟩, ⟨(some 43), (some (38, false)), (.faddr 0 (.t 1))⟩, ⟨(some 44), (some (38, false)), (.load false 1 (.t 43))⟩, ⟨(some 45), (some (38, false)), (.mv (.t 3))⟩, ⟨(some 46), (some (38, false)), (.iaddr 1 (.t 44) (.t 45))⟩, ⟨(some 47), (some (38, false)), (.load false 1 (.t 46))⟩, ⟨(some 48), (some (38, false)), (.call 55 [(.t 42), (.t 47)])⟩, ⟨(some 49), none, (.pick (.t 38) (.c (.bool true)) (.t 48))⟩, ⟨(some 50), none, (.mv (.t 49))⟩, ⟨(some 51), (some (50, false)), (.faddr 1 (.t 1))⟩, ⟨(some 52), (some (50, false)), (.load false 1 (.t 51))⟩, ⟨(some 53), (some (50, false)), (.mv (.t 3))⟩, ⟨(some 54), (some (50, false)), (.iaddr 1 (.t 52) (.t 53))⟩, ⟨(some 55), (some (50, false)), (.load false 1 (.t 54))⟩, ⟨(some 56), (some (50, false)), (.faddr 2 (.t 1))⟩, ⟨(some 57), (some (50, false)), (.load false 1 (.t 56))⟩, ⟨(some 58), (some (50, false)), (.call 53 [(.t 55), (.t 57), (.c (.int .i64 100))])⟩, ⟨(some 59), (some (50, false)), (.un .not (.t 58))⟩, ⟨(some 60), none, (.pick (.t 50) (.c (.bool true)) (.t 59))⟩]) (.cond (.t 60) (.seq (.reg [⟨(some 2), none, (.mv (.c (.bool false)))⟩]) .ret) .skip))) (.reg [⟨(some 29), none, (.mv (.t 3))⟩, ⟨(some 30), none, (.bin .add false (.t 29) (.c (.int .i64 1)))⟩, ⟨(some 3), none, (.mv (.t 30))⟩])))))) (.seq (.reg [⟨(some 2), none, (.mv (.c (.bool true)))⟩]) .ret))))
theorem k_spec_l6Good : codeOf Try.prog 33 = some ⟨61, c_spec_l6Good, [(.tmp 2)]⟩ := by kernel_rfl
theorem m_spec_l6Good : modes 33 = ⟨[], .asis, none, false⟩ := by unfold modes; rfl

def c_spec_l6Covers : SC := (.seq (.reg [⟨(some 2), none, (.boxv 43 3 (.t 0))⟩, ⟨(some 3), none, (.boxv 30 2 (.t 1))⟩, ⟨(some 4), none, (.mv (.c (.bool false)))⟩]) (.seq (.seq (.reg [⟨(some 6), none, (.faddr 0 (.t 3))⟩, ⟨(some 7), none, (.load false 1 (.t 6))⟩, ⟨(some 8), none, (.call 30 [(.t 7)])⟩, ⟨(some 9), none, (.un .not (.t 8))⟩, ⟨(some 10), none, (.mv (.t 9))⟩, ⟨(some 11), (some (10, true)), (.load true 3 (.t 2))⟩, ⟨(some 12), (some (10, true)), (.faddr 0 (.t 3))⟩, ⟨(some 13), (some (10, true)), (.load false 1 (.t 12))⟩, ⟨(some 14), (some (10, true)), (.call 87 [(.t 11), (.t 13)])⟩, ⟨(some 15), (some (10, true)), (.bin .lss false (.t 14) (.c (.int .i64 0)))⟩, ⟨(some 16), none, (.pick (.t 10) (.t 15) (.c (.bool false)))⟩]) (.cond (.t 16) (.seq (.reg [⟨(some 4), none, (.mv (.c (.bool false)))⟩]) .ret) .skip)) (.seq (.seq (.reg [⟨(some 5), none, (.mv (.c (.int .i64 0)))⟩]) (.block 0 (.loop [0, 0, 1, 1, 0, 1, 0, 0, 0, 0, 0, 0, 0, 0, 0, 0, 0, 0, 0, 0, 0, 0, 0, 0, 0, 0, 0, 0, 0, 0, 0, 0] (.seq (.seq (.reg [⟨(some 17), none, (.mv (.t 5))⟩, ⟨(some 18), none, (.faddr 1 (.t 3))⟩, ⟨(some 19), none, (.load false 1 (.t 18))⟩, ⟨(some 20), none, (.len false (.t 19))⟩, ⟨(some 21), none, (.bin .lss false (.t 17) (.t 20))⟩]) (.cond (.t 21) .skip (.exit 0))) (.seq (.block 1 (.seq (.dreg [[], [], [1], [], [2, 1, 3], [4, 2, 1, 3], [0, 5, 4, 2, 1, 3], [6, 0, 5, 4, 2, 1, 3]] [⟨(some 24), none, (.load true 3 (.t 2))⟩, ⟨(some 25), none, (.faddr 1 (.t 3))⟩, ⟨(some 26), none, (.load false 1 (.t 25))⟩, ⟨(some 27), none, (.mv (.t 5))⟩, ⟨(some 28), none, (.iaddr 2 (.t 26) (.t 27))⟩, ⟨(some 29), none, (.load true 2 (.t 28))⟩, ⟨(some 30), none, (.call 56 [(.t 24), (.t 29)])⟩, ⟨(some 31), none, (.un .not (.t 30))⟩]) (.cond (.t 31) (.seq (.reg [⟨(some 4), none, (.mv (.c (.bool false)))⟩]) .ret) .skip))) (.reg [⟨(some 22), none, (.mv (.t 5))⟩, ⟨(some 23), none, (.bin .add false (.t 22) (.c (.int .i64 1)))⟩, ⟨(some 5), none, (.mv (.t 23))⟩])))))) (.seq (.reg [⟨(some 4), none, (.mv (.c (.bool true)))⟩]) .ret))))
theorem k_spec_l6Covers : codeOf Try.prog 56 = some ⟨32, c_spec_l6Covers, [(.tmp 4)]⟩ := by kernel_rfl
theorem m_spec_l6Covers : modes 56 = ⟨[], .asis, none, false⟩ := by unfold modes; rfl

def c_spec_l6Term : SC := (.seq (.reg [⟨(some 2), none, (.boxv 43 3 (.t 0))⟩, ⟨(some 3), none, (.boxv 30 2 (.t 1))⟩, ⟨(some 4), none, (.mv (.c (.bool false)))⟩]) (.seq (.reg [⟨(some 5), none, (.load true 2 (.t 3))⟩, ⟨(some 6), none, (.call 10 [(.t 5)])⟩, ⟨(some 7), none, (.mv (.t 6))⟩, ⟨(some 8), (some (7, true)), (.load true 3 (.t 2))⟩, ⟨(some 9), (some (7, true)), (.load true 2 (.t 3))⟩, ⟨(some 10), (some (7, true)), (.call 56 [(.t 8), (.t 9)])⟩, ⟨(some 11), none, (.pick (.t 7) (.t 10) (.c (.bool false)))⟩, ⟨(some 4), none, (.mv (.t 11))⟩]) .ret))
theorem k_spec_l6Term : codeOf Try.prog 34 = some ⟨12, c_spec_l6Term, [(.tmp 4)]⟩ := by kernel_rfl
theorem m_spec_l6Term : modes 34 = ⟨[], .asis, none, false⟩ := by unfold modes; rfl

def c_spec_CompareKBO : SC := (.seq (.reg [⟨(some 3), none, (.boxv 43 3 (.t 0))⟩, ⟨(some 4), none, (.boxv 30 2 (.t 1))⟩, ⟨(some 5), none, (.boxv 30 2 (.t 2))⟩, ⟨(some 6), none, (.mv (.c (.int .i64 0)))⟩, ⟨(some 7), none, (.mv (.c (.bool false)))⟩]) (.seq (.seq (.reg [⟨(some 8), none, (.load true 3 (.t 3))⟩, ⟨(some 9), none, (.call 33 [(.t 8)])⟩, ⟨(some 10), none, (.un .not (.t 9))⟩, ⟨(some 11), none, (.mv (.t 10))⟩, ⟨(some 12), (some (11, false)), (.load true 3 (.t 3))⟩, ⟨(some 13), (some (11, false)), (.load true 2 (.t 4))⟩, ⟨(some 14), (some (11, false)), (.call 34 [(.t 12), (.t 13)])⟩, ⟨(some 15), (some (11, false)), (.un .not (.t 14))⟩, ⟨(some 16), none, (.pick (.t 11) (.c (.bool true)) (.t 15))⟩, ⟨(some 17), none, (.mv (.t 16))⟩, ⟨(some 18), (some (17, false)), (.load true 3 (.t 3))⟩, ⟨(some 19), (some (17, false)), (.load true 2 (.t 5))⟩, ⟨(some 20), (some (17, false)), (.call 34 [(.t 18), (.t 19)])⟩, ⟨(some 21), (some (17, false)), (.un .not (.t 20))⟩, ⟨(some 22), none, (.pick (.t 17) (.c (.bool true)) (.t 21))⟩]) (.cond (.t 22) (.seq (.reg [⟨(some 6), none, (.mv (.c (.int .i64 0)))⟩, ⟨(some 7), none, (.mv (.c (.bool false)))⟩]) .ret) .skip)) (.seq (.dreg [[], [], [0, 1], [], [], [], [3, 4, 5, 2, 0, 1], [], [], [], [7, 8, 9, 6, 3, 4, 5, 2, 0, 1], [2, 0, 1, 6, 3, 4, 5, 10, 7, 8, 9], [11, 2, 0, 1, 6, 3, 4, 5, 10, 7, 8, 9], [12, 11, 2, 0, 1, 6, 3, 4, 5, 10, 7, 8, 9]] [⟨(some 23), none, (.load true 2 (.t 4))⟩, ⟨(some 24), none, (.load true 2 (.t 5))⟩, ⟨(some 25), none, (.call 18 [(.t 23), (.t 24)])⟩, ⟨(some 26), none, (.load true 3 (.t 3))⟩, ⟨(some 27), none, (.load true 2 (.t 4))⟩, ⟨(some 28), none, (.load true 2 (.t 5))⟩, ⟨(some 29), none, (.call 36 [(.t 26), (.t 27), (.t 28)])⟩, ⟨(some 30), none, (.load true 3 (.t 3))⟩, ⟨(some 31), none, (.load true 2 (.t 5))⟩, ⟨(some 32), none, (.load true 2 (.t 4))⟩, ⟨(some 33), none, (.call 36 [(.t 30), (.t 31), (.t 32)])⟩, ⟨(some 34), none, (.call 35 [(.t 25), (.t 29), (.t 33)])⟩, ⟨(some 6), none, (.mv (.t 34))⟩, ⟨(some 7), none, (.mv (.c (.bool true)))⟩]) .ret)))
theorem k_spec_CompareKBO : codeOf Try.prog 20 = some ⟨35, c_spec_CompareKBO, [(.tmp 6), (.tmp 7)]⟩ := by kernel_rfl
theorem m_spec_CompareKBO : modes 20 = ⟨[], .asis, none, false⟩ := by unfold modes; rfl

def c_spec_l12Names : SC := (.seq (.reg [⟨(some 3), none, (.boxv 30 2 (.t 1))⟩, ⟨(some 4), none, (.mv (.c .nil))⟩]) (.seq (.seq (.reg [⟨(some 6), none, (.faddr 0 (.t 3))⟩, ⟨(some 7), none, (.load false 1 (.t 6))⟩, ⟨(some 8), none, (.call 30 [(.t 7)])⟩, ⟨(some 9), none, (.un .not (.t 8))⟩]) (.cond (.t 9) (.reg [⟨(some 10), none, (.mv (.t 0))⟩, ⟨(some 11), none, (.faddr 0 (.t 3))⟩, ⟨(some 12), none, (.load false 1 (.t 11))⟩, ⟨(some 13), none, (.call 32 [(.t 10), (.t 12)])⟩, ⟨(some 0), none, (.mv (.t 13))⟩]) .skip)) (.seq (.seq (.reg [⟨(some 5), none, (.mv (.c (.int .i64 0)))⟩]) (.block 0 (.loop [1, 0, 0, 1, 0, 1, 0, 0, 0, 0, 0, 0, 0, 0, 0, 0, 0, 0, 0, 0, 0, 0, 0, 0, 0, 0, 0, 0, 0] (.seq (.seq (.reg [⟨(some 14), none, (.mv (.t 5))⟩, ⟨(some 15), none, (.faddr 1 (.t 3))⟩, ⟨(some 16), none, (.load false 1 (.t 15))⟩, ⟨(some 17), none, (.len false (.t 16))⟩, ⟨(some 18), none, (.bin .lss false (.t 14) (.t 17))⟩]) (.cond (.t 18) .skip (.exit 0))) (.seq (.block 1 (.reg [⟨(some 21), none, (.mv (.t 0))⟩, ⟨(some 22), none, (.faddr 1 (.t 3))⟩, ⟨(some 23), none, (.load false 1 (.t 22))⟩, ⟨(some 24), none, (.mv (.t 5))⟩, ⟨(some 25), none, (.iaddr 2 (.t 23) (.t 24))⟩, ⟨(some 26), none, (.load true 2 (.t 25))⟩, ⟨(some 27), none, (.call 19 [(.t 21), (.t 26)])⟩, ⟨(some 0), none, (.mv (.t 27))⟩])) (.reg [⟨(some 19), none, (.mv (.t 5))⟩, ⟨(some 20), none, (.bin .add false (.t 19) (.c (.int .i64 1)))⟩, ⟨(some 5), none, (.mv (.t 20))⟩])))))) (.seq (.reg [⟨(some 28), none, (.mv (.t 0))⟩, ⟨(some 4), none, (.mv (.t 28))⟩]) .ret))))
theorem k_spec_l12Names : codeOf Try.prog 19 = some ⟨29, c_spec_l12Names, [(.tmp 4)]⟩ := by kernel_rfl
theorem m_spec_l12Names : modes 19 = ⟨[], .asis, none, false⟩ := by unfold modes; rfl

set_option maxHeartbeats 4000000 in
theorem l6Good_E (syms : List ByteArray) (h0 : 0 < syms.length) (hl : syms.length ≤ 12) (hs : ∀ n ∈ syms, symB n = true) (hd : syms.Nodup) : E 33 [osv1 syms] [] = some (.bool true, []) := by
  have d1 : dec ((1 : Int) ≤ (syms.length : Int)) = true := dec_t (by omega)
  have d2 : dec ((syms.length : Int) ≤ 12) = true := dec_t (by omega)
  have d3 : dec ((1 : Int) ≤ 1) = true := dec_t (by omega)
  have d4 : dec ((1 : Int) ≤ 100) = true := dec_t (by omega)
  have e5 := al_dstrs syms
  have w1 := l1InO_E syms.length 1 12
  have w2 := l1InO_E 1 1 100
  rw [d1, d2] at w1
  rw [d3, d4] at w2
  refine E_walk k_spec_l6Good m_spec_l6Good (of_decide_eq_true rfl) ?_
  simp (disch := omega) only [c_spec_l6Good, go_sem, Nat.reduceAdd, Nat.reduceSub, Nat.reduceLT, Nat.reduceLeDiff, Nat.reduceEqDiff, Nat.reduceBEq, Nat.reduceBneDiff, Nat.reduceMul, ↓reduceIte, Int.reduceToNat, reduceCtorEq, Int.reduceNeg, Int.reduceAdd, w1, w2, m_spec_l1In]
  refine go_loop (α := Int) (fun a => ⟨slots 61 0 [(1, .ptr 0 0), (3, .int .i64 a)], [.box 43 [.arr (syms.map fun s => [D.str s]), .arr (syms.map fun _ => [D.int 1]), .int .i64 1]]⟩) (fun a => ∃ k : Nat, a = k ∧ k ≤ (syms).length) (fun a => (syms).length - (a).toNat) 0 ⟨0, rfl, Nat.zero_le _⟩ (by simp (disch := omega) only [go_sem, Nat.reduceAdd, Nat.reduceSub, Nat.reduceLT, Nat.reduceLeDiff, Nat.reduceEqDiff, Nat.reduceBEq, Nat.reduceBneDiff, Nat.reduceMul, ↓reduceIte, Int.reduceToNat, reduceCtorEq, Int.reduceNeg, Int.reduceAdd]) ?_
  rintro i ⟨k, hi, hk⟩
  have hni : i.toNat = k := by omega
  have hni1 : (i + 1).toNat = k + 1 := by omega
  rcases Nat.lt_or_ge k (syms).length with hlt | hge
  · have hg := get_at (fun s => [D.str s]) hlt
    have hg1 : (syms.map fun _ => [D.int 1])[k]? = some [D.int 1] := by rw [List.getElem?_map, List.getElem?_eq_getElem hlt]; rfl
    have hy := hs syms[k] (List.getElem_mem hlt)
    have ht : (syms.map fun s => [D.str s]).take k = (syms.take k).map fun s => [D.str s] := by rw [List.map_take]
    have hI := l2In_E (syms.take k) syms[k] (by rw [List.length_take]; omega)
    have hno : ¬ syms[k] ∈ syms.take k := fun h => by
      obtain ⟨j, hj, e⟩ := List.getElem_of_mem h
      rw [List.length_take] at hj
      rw [List.getElem_take] at e
      exact (List.pairwise_iff_getElem.1 hd) j k (by omega) hlt (by omega) e
    rw [dec_f hno] at hI
    simp (disch := omega) only [go_sem, Nat.reduceAdd, Nat.reduceSub, Nat.reduceLT, Nat.reduceLeDiff, Nat.reduceEqDiff, Nat.reduceBEq, Nat.reduceBneDiff, Nat.reduceMul, ↓reduceIte, Int.reduceToNat, reduceCtorEq, Int.reduceNeg, Int.reduceAdd, hni, hg, hg1, hy, ht, hI, w2, e5, Int.toNat_zero, m_spec_l1In, m_spec_l2In, m_spec_l2Symbol, l2Symbol_E]
    exact ⟨i + 1, ⟨k + 1, by omega, hlt⟩, by omega, by first | trivial | rfl⟩
  · simp (disch := omega) only [go_sem, Nat.reduceAdd, Nat.reduceSub, Nat.reduceLT, Nat.reduceLeDiff, Nat.reduceEqDiff, Nat.reduceBEq, Nat.reduceBneDiff, Nat.reduceMul, ↓reduceIte, Int.reduceToNat, reduceCtorEq, Int.reduceNeg, Int.reduceAdd, hni]
set_option maxHeartbeats 4000000 in
theorem l6Covers_of (syms : List ByteArray) (hl : syms.length ≤ 1048576) (x : Tm) (hn : x.nodes ≤ 1099511627776) (hcov : x.cov syms) (ih : ∀ y ∈ x.args, E 56 [osv1 syms, y.sv] [] = some (.bool true, [])) : E 56 [osv1 syms, x.sv] [] = some (.bool true, []) := by
  have hxl := Tm.length_le x.args
  have hnd := Tm.nodes_eq x
  have hr := l6Rank_E syms x.name (by omega)
  have hxs : x.sv = .agg [.str x.name, .arr (x.args.map Tm.d)] := rfl
  cases hvv : varB x.name with
  | true =>
    refine E_walk k_spec_l6Covers m_spec_l6Covers (of_decide_eq_true rfl) ?_
    simp (disch := omega) only [c_spec_l6Covers, go_sem, Nat.reduceAdd, Nat.reduceSub, Nat.reduceLT, Nat.reduceLeDiff, Nat.reduceEqDiff, Nat.reduceBEq, Nat.reduceBneDiff, Nat.reduceMul, ↓reduceIte, Int.reduceToNat, reduceCtorEq, Int.reduceNeg, Int.reduceAdd, hvv, m_spec_l2Var, l2Var_E]
    refine go_loop (α := Int) (fun a => ⟨slots 32 0 [(2, .ptr 0 0), (3, .ptr 1 0), (5, .int .i64 a)], [.box 43 [.arr (syms.map fun s => [D.str s]), .arr (syms.map fun _ => [D.int 1]), .int .i64 1], .box 30 [.str x.name, .arr (x.args.map Tm.d)]]⟩) (fun a => ∃ k : Nat, a = k ∧ k ≤ (x.args).length) (fun a => (x.args).length - (a).toNat) 0 ⟨0, rfl, Nat.zero_le _⟩ (by simp (disch := omega) only [go_sem, Nat.reduceAdd, Nat.reduceSub, Nat.reduceLT, Nat.reduceLeDiff, Nat.reduceEqDiff, Nat.reduceBEq, Nat.reduceBneDiff, Nat.reduceMul, ↓reduceIte, Int.reduceToNat, reduceCtorEq, Int.reduceNeg, Int.reduceAdd]) ?_
    rintro i ⟨k, hi, hk⟩
    have hni : i.toNat = k := by omega
    have hni1 : (i + 1).toNat = k + 1 := by omega
    rcases Nat.lt_or_ge k (x.args).length with hlt | hge
    · have hg := get_at Tm.d hlt
      rw [Tm.d_eq] at hg
      have hc := ih x.args[k] (List.getElem_mem hlt)
      simp (disch := omega) only [go_sem, Nat.reduceAdd, Nat.reduceSub, Nat.reduceLT, Nat.reduceLeDiff, Nat.reduceEqDiff, Nat.reduceBEq, Nat.reduceBneDiff, Nat.reduceMul, ↓reduceIte, Int.reduceToNat, reduceCtorEq, Int.reduceNeg, Int.reduceAdd, hni, hg, hc, m_spec_l6Covers]
      exact ⟨i + 1, ⟨k + 1, by omega, hlt⟩, by omega, by first | trivial | rfl⟩
    · simp (disch := omega) only [go_sem, Nat.reduceAdd, Nat.reduceSub, Nat.reduceLT, Nat.reduceLeDiff, Nat.reduceEqDiff, Nat.reduceBEq, Nat.reduceBneDiff, Nat.reduceMul, ↓reduceIte, Int.reduceToNat, reduceCtorEq, Int.reduceNeg, Int.reduceAdd, hni]
  | false =>
    obtain ⟨k0, hk1, hk2⟩ := rk_in (Tm.cov_name hcov hvv)
    rw [hk1] at hr
    have hk0 : dec (((k0 : Nat) : Int) < 0) = false := dec_f (by omega)
    refine E_walk k_spec_l6Covers m_spec_l6Covers (of_decide_eq_true rfl) ?_
    simp (disch := omega) only [c_spec_l6Covers, go_sem, Nat.reduceAdd, Nat.reduceSub, Nat.reduceLT, Nat.reduceLeDiff, Nat.reduceEqDiff, Nat.reduceBEq, Nat.reduceBneDiff, Nat.reduceMul, ↓reduceIte, Int.reduceToNat, reduceCtorEq, Int.reduceNeg, Int.reduceAdd, hvv, hr, hk0, m_spec_l2Var, l2Var_E, m_spec_l6Rank]
    refine go_loop (α := Int) (fun a => ⟨slots 32 0 [(2, .ptr 0 0), (3, .ptr 1 0), (5, .int .i64 a)], [.box 43 [.arr (syms.map fun s => [D.str s]), .arr (syms.map fun _ => [D.int 1]), .int .i64 1], .box 30 [.str x.name, .arr (x.args.map Tm.d)]]⟩) (fun a => ∃ k : Nat, a = k ∧ k ≤ (x.args).length) (fun a => (x.args).length - (a).toNat) 0 ⟨0, rfl, Nat.zero_le _⟩ (by simp (disch := omega) only [go_sem, Nat.reduceAdd, Nat.reduceSub, Nat.reduceLT, Nat.reduceLeDiff, Nat.reduceEqDiff, Nat.reduceBEq, Nat.reduceBneDiff, Nat.reduceMul, ↓reduceIte, Int.reduceToNat, reduceCtorEq, Int.reduceNeg, Int.reduceAdd]) ?_
    rintro i ⟨k, hi, hk⟩
    have hni : i.toNat = k := by omega
    have hni1 : (i + 1).toNat = k + 1 := by omega
    rcases Nat.lt_or_ge k (x.args).length with hlt | hge
    · have hg := get_at Tm.d hlt
      rw [Tm.d_eq] at hg
      have hc := ih x.args[k] (List.getElem_mem hlt)
      simp (disch := omega) only [go_sem, Nat.reduceAdd, Nat.reduceSub, Nat.reduceLT, Nat.reduceLeDiff, Nat.reduceEqDiff, Nat.reduceBEq, Nat.reduceBneDiff, Nat.reduceMul, ↓reduceIte, Int.reduceToNat, reduceCtorEq, Int.reduceNeg, Int.reduceAdd, hni, hg, hc, m_spec_l6Covers]
      exact ⟨i + 1, ⟨k + 1, by omega, hlt⟩, by omega, by first | trivial | rfl⟩
    · simp (disch := omega) only [go_sem, Nat.reduceAdd, Nat.reduceSub, Nat.reduceLT, Nat.reduceLeDiff, Nat.reduceEqDiff, Nat.reduceBEq, Nat.reduceBneDiff, Nat.reduceMul, ↓reduceIte, Int.reduceToNat, reduceCtorEq, Int.reduceNeg, Int.reduceAdd, hni]
theorem l6Covers_E (syms : List ByteArray) (hl : syms.length ≤ 1048576) (x : Tm) (hn : x.nodes ≤ 1099511627776) (hcov : x.cov syms) : E 56 [osv1 syms, x.sv] [] = some (.bool true, []) :=
  l6Covers_of syms hl x hn hcov fun y hy => l6Covers_E syms hl y (by have := Tm.nodes_mem hy; have := Tm.nodes_eq x; omega) (Tm.cov_arg hcov hy)
termination_by SizeOf.sizeOf x
decreasing_by exact Tm.lt_of_mem hy
theorem l6Term_E (syms : List ByteArray) (hl : syms.length ≤ 1048576) (x : Tm) (hv : x.valid = true) (hn : x.nodes ≤ 1099511627776) (hcov : x.cov syms) : E 34 [osv1 syms, x.sv] [] = some (.bool true, []) := by
  have h1 := l2Good_E x hn
  rw [hv] at h1
  have h2 := l6Covers_E syms hl x hn hcov
  have hxs : x.sv = .agg [.str x.name, .arr (x.args.map Tm.d)] := rfl
  refine E_walk k_spec_l6Term m_spec_l6Term (of_decide_eq_true rfl) ?_
  simp (disch := omega) only [c_spec_l6Term, go_sem, Nat.reduceAdd, Nat.reduceSub, Nat.reduceLT, Nat.reduceLeDiff, Nat.reduceEqDiff, Nat.reduceBEq, Nat.reduceBneDiff, Nat.reduceMul, ↓reduceIte, Int.reduceToNat, reduceCtorEq, Int.reduceNeg, Int.reduceAdd, h1, h2, m_spec_l2Good, m_spec_l6Covers]
abbrev SymI (x : Tm) : Prop := ∀ l : List ByteArray, l.length + x.nodes ≤ 1048576 → E 19 [.arr (l.map fun s => [D.str s]), x.sv] [] = some (.arr ((insA l x.sy).map fun s => [D.str s]), [])
theorem sy_len (x : Tm) : x.sy.length ≤ x.nodes := by
  have h : ∀ xs : List Tm, (∀ y ∈ xs, y.sy.length ≤ y.nodes) → (Tm.syL xs).length ≤ Tm.nodeS xs := by
    intro xs
    induction xs with
    | nil => intro _; simp [Tm.syL]
    | cons y ys ih =>
      intro h
      have h1 := h y (by simp)
      have h2 := ih fun z hz => h z (by simp [hz])
      rw [Tm.syL, Tm.nodeS, List.length_append]; omega
  have h1 := h x.args fun y hy => sy_len y
  rw [Tm.sy_eq, Tm.nodes_eq]
  cases varB x.name with
  | true => simp only [cond_true]; omega
  | false => simp only [cond_false, List.length_cons]; omega
termination_by SizeOf.sizeOf x
decreasing_by exact Tm.lt_of_mem hy
set_option maxHeartbeats 4000000 in
theorem l12Names_of (x : Tm) (ih : ∀ y ∈ x.args, SymI y) : SymI x := by
  intro l0 hn
  have hl := Tm.length_le x.args
  have hne := Tm.nodes_eq x
  have hsy := Tm.sy_eq x
  have hp := l2Put_E l0 x.name (by omega)
  obtain ⟨l, hll⟩ : ∃ l, l = bif varB x.name then l0 else insU l0 x.name := ⟨_, rfl⟩
  have hlen0 : l.length ≤ l0.length + 1 := by
    rw [hll]
    cases varB x.name with
    | true => simp only [cond_true]; omega
    | false => exact insU_len l0 x.name
  have hres : insA l0 x.sy = insA l (Tm.syL x.args) := by
    rw [hsy, hll]
    cases varB x.name with
    | true => rfl
    | false => rfl
  rw [hres]
  cases hvv : varB x.name
  all_goals
    rw [hvv] at hll
    simp only [cond_true, cond_false] at hll
    first
      | (have h' : l = l0 := hll; subst h')
      | rw [← hll] at hp
    refine E_walk k_spec_l12Names m_spec_l12Names (of_decide_eq_true rfl) ?_
    simp (disch := omega) only [c_spec_l12Names, go_sem, Nat.reduceAdd, Nat.reduceSub, Nat.reduceLT, Nat.reduceLeDiff, Nat.reduceEqDiff, Nat.reduceBEq, Nat.reduceBneDiff, Nat.reduceMul, ↓reduceIte, Int.reduceToNat, reduceCtorEq, Int.reduceNeg, Int.reduceAdd, hvv, hp, m_spec_l2Var, l2Var_E, m_spec_l2Put]
    refine go_loop (α := Int × (List ByteArray)) (fun a => ⟨slots 29 0 [(0, .arr ((a.2).map fun s => [D.str s])), (3, .ptr 0 0), (5, .int .i64 (a.1))], [.box 30 [.str x.name, .arr (x.args.map Tm.d)]]⟩) (fun a => ∃ k : Nat, a.1 = k ∧ k ≤ (x.args).length ∧ insA (a.2) (Tm.syL (x.args.drop k)) = insA l (Tm.syL x.args) ∧ (a.2).length + Tm.nodeS (x.args.drop k) ≤ 1048576) (fun a => (x.args).length - (a.1).toNat) (0, l) ⟨0, rfl, Nat.zero_le _, by rw [List.drop_zero], by rw [List.drop_zero]; dsimp only; omega⟩ (by simp (disch := omega) only [go_sem, Nat.reduceAdd, Nat.reduceSub, Nat.reduceLT, Nat.reduceLeDiff, Nat.reduceEqDiff, Nat.reduceBEq, Nat.reduceBneDiff, Nat.reduceMul, ↓reduceIte, Int.reduceToNat, reduceCtorEq, Int.reduceNeg, Int.reduceAdd]) ?_
    rintro ⟨i, acc⟩ ⟨k, hi, hk, hR⟩
    dsimp only at hi hR
    have hni : i.toNat = k := by omega
    have hni1 : (i + 1).toNat = k + 1 := by omega
    rcases Nat.lt_or_ge k (x.args).length with hlt | hge
    · have hg := get_at Tm.d hlt
      rw [Tm.d_eq] at hg
      obtain ⟨hR1, hR2⟩ := hR
      rw [List.drop_eq_getElem_cons hlt, Tm.syL, insA_app] at hR1
      rw [List.drop_eq_getElem_cons hlt, Tm.nodeS] at hR2
      have hc := ih x.args[k] (List.getElem_mem hlt) acc (by omega)
      have hlen := insA_len x.args[k].sy acc
      have hvl := sy_len x.args[k]
      simp (disch := omega) only [go_sem, Nat.reduceAdd, Nat.reduceSub, Nat.reduceLT, Nat.reduceLeDiff, Nat.reduceEqDiff, Nat.reduceBEq, Nat.reduceBneDiff, Nat.reduceMul, ↓reduceIte, Int.reduceToNat, reduceCtorEq, Int.reduceNeg, Int.reduceAdd, hni, hg, hc, m_spec_l12Names]
      exact ⟨(i + 1, insA acc x.args[k].sy), ⟨k + 1, by dsimp only; omega, hlt, hR1, by dsimp only; omega⟩, by dsimp only; omega, by first | trivial | rfl⟩
    · rw [List.drop_eq_nil_of_le hge, Tm.syL] at hR
      obtain ⟨hR1, hR2⟩ := hR
      have hR1 : acc = insA l (Tm.syL x.args) := hR1
      rw [← hR1]
      simp (disch := omega) only [go_sem, Nat.reduceAdd, Nat.reduceSub, Nat.reduceLT, Nat.reduceLeDiff, Nat.reduceEqDiff, Nat.reduceBEq, Nat.reduceBneDiff, Nat.reduceMul, ↓reduceIte, Int.reduceToNat, reduceCtorEq, Int.reduceNeg, Int.reduceAdd, hni]
theorem l12Names_E (x : Tm) : SymI x := l12Names_of x fun y hy => l12Names_E y
termination_by SizeOf.sizeOf x
decreasing_by exact Tm.lt_of_mem hy
theorem compareKBO2_E (syms : List ByteArray) (h0 : 0 < syms.length) (hl : syms.length ≤ 12) (hy : ∀ n ∈ syms, symB n = true) (hd : syms.Nodup) (s t : Tm) (hs : s.valid = true) (ht : t.valid = true) (cs : s.cov syms) (ct : t.cov syms) (h1 : s.nodes ≤ 1048576) (h2 : t.nodes ≤ 1048576) : E 20 [osv1 syms, s.sv, t.sv] [] = some (.tup [.int .i64 (codeI (dec (s = t)) (kboF syms 1048576 s t) (kboF syms 1048576 t s)), .bool true], []) := by
  have g1 := l6Good_E syms h0 hl hy hd
  have g2 := l6Term_E syms (by omega) s hs (by omega) cs
  have g3 := l6Term_E syms (by omega) t ht (by omega) ct
  have hs' : s.names = true := by unfold Tm.valid at hs; rw [Bool.and_eq_true] at hs; exact hs.2
  have ht' : t.names = true := by unfold Tm.valid at ht; rw [Bool.and_eq_true] at ht; exact ht.2
  have k1 := l6KBO_E syms (by omega) 1048576 s t hs' ht' cs ct h1 h1 h2
  have k2 := l6KBO_E syms (by omega) 1048576 t s ht' hs' ct cs h2 h2 h1
  have he := l2Same_E s t (by omega) (by omega)
  generalize kboF syms 1048576 s t = g at *
  generalize kboF syms 1048576 t s = l at *
  have hc := l6Code_E (dec (s = t)) g l
  have hsv : s.sv = .agg [.str s.name, .arr (s.args.map Tm.d)] := rfl
  have htv : t.sv = .agg [.str t.name, .arr (t.args.map Tm.d)] := rfl
  refine E_walk k_spec_CompareKBO m_spec_CompareKBO (of_decide_eq_true rfl) ?_
  simp (disch := omega) only [c_spec_CompareKBO, go_sem, Nat.reduceAdd, Nat.reduceSub, Nat.reduceLT, Nat.reduceLeDiff, Nat.reduceEqDiff, Nat.reduceBEq, Nat.reduceBneDiff, Nat.reduceMul, ↓reduceIte, Int.reduceToNat, reduceCtorEq, Int.reduceNeg, Int.reduceAdd, g1, g2, g3, k1, k2, he, hc, m_spec_l6Good, m_spec_l6Term, m_spec_l6KBO, m_spec_l2Same, m_spec_l6Code]
end Go.Proofs.Ythbkkiogbikbcaa

set_option maxRecDepth 100000
set_option linter.unusedSimpArgs false
set_option linter.unusedVariables false
namespace Go.Proofs.Ythbkkiogbikbcaa
open Go.RowKit

theorem var_noSym {s : ByteArray} (h : varB s = true) : symB s = false := by
  unfold varB at h
  rw [Bool.and_eq_true] at h
  have hsz : 0 < s.size := by
    have h2 := h.2
    unfold inB at h2
    rw [Bool.and_eq_true, decide_eq_true_eq, decide_eq_true_eq] at h2
    omega
  have h0 := loopB_zero h.1 hsz
  unfold symB
  have h1 : loopB symOk s s.size = false := loopB_stop (k := 0) hsz (by
    unfold varOk at h0
    unfold symOk
    rw [Bool.and_eq_true] at h0
    have hu : uppB (byteZ s 0) = true := by simpa using h0.1
    have hlo : lowB (byteZ s 0) = false := by
      unfold uppB at hu
      unfold lowB
      rw [Bool.and_eq_true, decide_eq_true_eq, decide_eq_true_eq] at hu
      rw [decide_eq_false (by omega)]
      rfl
    rw [hlo]
    rfl)
  rw [h1]
  rfl
def c_impl_symbolsOf : SC := (.seq (.reg [⟨(some 3), none, (.boxv 30 2 (.t 1))⟩, ⟨(some 4), none, (.mv (.c .nil))⟩]) (.seq (.seq (.reg [⟨(some 7), none, (.faddr 0 (.t 3))⟩, ⟨(some 8), none, (.load false 1 (.t 7))⟩, ⟨(some 9), none, (.call 40 [(.t 8)])⟩, ⟨(some 10), none, (.mv (.t 9))⟩, ⟨(some 11), (some (10, true)), (.mv (.t 0))⟩, ⟨(some 12), (some (10, true)), (.faddr 0 (.t 3))⟩, ⟨(some 13), (some (10, true)), (.load false 1 (.t 12))⟩, ⟨(some 14), (some (10, true)), (.call 44 [(.t 11), (.t 13)])⟩, ⟨(some 15), (some (10, true)), (.un .not (.t 14))⟩, ⟨(some 16), none, (.pick (.t 10) (.t 15) (.c (.bool false)))⟩]) (.cond (.t 16) (.reg [⟨(some 17), none, (.mv (.t 0))⟩, ⟨(some 18), none, (.faddr 0 (.t 3))⟩, ⟨(some 19), none, (.load false 1 (.t 18))⟩, ⟨(some 20), none, (.mkrow 9 1 [(.str ⟨#[]⟩)] 1 [(0, (.t 19))])⟩, ⟨(some 21), none, (.append 9 1 16 [(.str ⟨#[]⟩)] (.t 17) (.t 20))⟩, ⟨(some 0), none, (.mv (.t 21))⟩]) .skip)) (.seq (.seq (.reg [⟨(some 22), none, (.faddr 1 (.t 3))⟩, ⟨(some 23), none, (.load false 1 (.t 22))⟩, ⟨(some 24), none, (.len false (.t 23))⟩, ⟨(some 25), none, (.mv (.c (.int .i64 0)))⟩]) (.block 0 (.loop [1, 0, 0, 0, 0, 0, 0, 0, 0, 0, 0, 0, 0, 0, 0, 0, 0, 0, 0, 0, 0, 0, 0, 1, 1, 1, 0, 0, 0, 0, 0, 0, 0, 0] (.seq (.reg [⟨(some 26), none, (.bin .lss false (.t 25) (.t 24))⟩]) (.seq (.cond (.t 26) .skip (.exit 0)) (.seq (.block 1 (.seq (.reg [⟨(some 27), none, (.iaddr 2 (.t 23) (.t 25))⟩, ⟨(some 28), none, (.load true 2 (.t 27))⟩, ⟨(some 6), none, (.alloc 30 [(.str ⟨#[]⟩), .nil])⟩, ⟨none, none, (.store 2 (.t 6) (.t 28))⟩]) (.reg [⟨(some 29), none, (.mv (.t 0))⟩, ⟨(some 30), none, (.load true 2 (.t 6))⟩, ⟨(some 31), none, (.call 24 [(.t 29), (.t 30)])⟩, ⟨(some 0), none, (.mv (.t 31))⟩]))) (.reg [⟨(some 32), none, (.bin .add false (.t 25) (.c (.int .i64 1)))⟩, ⟨(some 25), none, (.mv (.t 32))⟩]))))))) (.seq (.reg [⟨(some 33), none, (.mv (.t 0))⟩, ⟨(some 4), none, (.mv (.t 33))⟩]) .ret))))
theorem k_impl_symbolsOf : codeOf Try.prog 24 = some ⟨34, c_impl_symbolsOf, [(.tmp 4)]⟩ := by kernel_rfl
theorem m_impl_symbolsOf : modes 24 = ⟨[true], .own [some (9, 1)], none, false⟩ := by unfold modes; rfl

abbrev SymC (x : Tm) : Prop := ∀ l : List ByteArray, l.length + x.nodes ≤ 1048576 → E 24 [.ref 0, x.sv] [.row 9 1 (l.map fun s => [OT.str s])] = some ((bif dec (l.length < (addA l x.sy).length) then .ref 1 else .ref 0), (bif dec (l.length < (addA l x.sy).length) then [.gone, .row 9 1 ((addA l x.sy).map fun s => [OT.str s])] else [.row 9 1 ((addA l x.sy).map fun s => [OT.str s])]))
set_option maxHeartbeats 4000000 in
theorem symbolsOf_of (x : Tm) (hx : x.names = true) (ih : ∀ y ∈ x.args, SymC y) : SymC x := by
  intro l hn
  have hl := Tm.length_le x.args
  have hne := Tm.nodes_eq x
  have hvs := Tm.sy_eq x
  have hxs : x.sv = .agg [.str x.name, .arr (x.args.map Tm.d)] := rfl
  cases hvv : varB x.name with
  | true =>
    rw [hvv] at hvs
    have hx0 := Tm.names_var hx hvv
    have hsb := var_noSym hvv
    have e : addA l x.sy = l := by rw [hvs, hx0]; simp only [cond_true, Tm.syL]; rfl
    rw [e]
    refine E_walk k_impl_symbolsOf m_impl_symbolsOf (of_decide_eq_true rfl) ?_
    simp (disch := omega) only [c_impl_symbolsOf, go_sem, Nat.reduceAdd, Nat.reduceSub, Nat.reduceLT, Nat.reduceLeDiff, Nat.reduceEqDiff, Nat.reduceBEq, Nat.reduceBneDiff, Nat.reduceMul, ↓reduceIte, Int.reduceToNat, reduceCtorEq, Int.reduceNeg, Int.reduceAdd, hsb, m_impl_isSymbol, isSymbol_E]
    refine go_loop (α := Int) (fun a => ⟨slots 34 0 [(0, .ref 0), (23, .arr (x.args.map Tm.d)), (24, .int .i64 x.args.length), (25, .int .i64 a)], [.row 9 1 (l.map fun s => [OT.str s])]⟩) (fun a => ∃ k : Nat, a = k ∧ k ≤ (x.args).length) (fun a => (x.args).length - (a).toNat) 0 ⟨0, rfl, Nat.zero_le _⟩ (by simp (disch := omega) only [go_sem, Nat.reduceAdd, Nat.reduceSub, Nat.reduceLT, Nat.reduceLeDiff, Nat.reduceEqDiff, Nat.reduceBEq, Nat.reduceBneDiff, Nat.reduceMul, ↓reduceIte, Int.reduceToNat, reduceCtorEq, Int.reduceNeg, Int.reduceAdd]) ?_
    rintro i ⟨k, hi, hk⟩
    have hni : i.toNat = k := by omega
    have hni1 : (i + 1).toNat = k + 1 := by omega
    rcases Nat.lt_or_ge k (x.args).length with hlt | hge
    · rw [hx0] at hlt
      simp at hlt
    · simp (disch := omega) only [go_sem, Nat.reduceAdd, Nat.reduceSub, Nat.reduceLT, Nat.reduceLeDiff, Nat.reduceEqDiff, Nat.reduceBEq, Nat.reduceBneDiff, Nat.reduceMul, ↓reduceIte, Int.reduceToNat, reduceCtorEq, Int.reduceNeg, Int.reduceAdd, hni]
  | false =>
    rw [hvv] at hvs
    simp only [cond_false] at hvs
    have hsb := names_sym hx hvv
    have h1 := containsS_E l x.name (by omega)
    have e : addA l x.sy = addA (addU l x.name) (Tm.syL x.args) := by rw [hvs]; rfl
    rw [e]
    have hul := addU_len l x.name
    have hug : l.length ≤ (addU l x.name).length := by unfold addU; cases dec (x.name ∈ l) <;> simp
    cases hm : dec (x.name ∈ l) with
    | true =>
      have e2 : addU l x.name = l := by unfold addU; rw [hm]; rfl
      rw [hm] at h1
      rw [e2]
      have hgl : dec (l.length < l.length) = false := dec_f (by omega)
      refine E_walk k_impl_symbolsOf m_impl_symbolsOf (of_decide_eq_true rfl) ?_
      simp (disch := omega) only [c_impl_symbolsOf, go_sem, Nat.reduceAdd, Nat.reduceSub, Nat.reduceLT, Nat.reduceLeDiff, Nat.reduceEqDiff, Nat.reduceBEq, Nat.reduceBneDiff, Nat.reduceMul, ↓reduceIte, Int.reduceToNat, reduceCtorEq, Int.reduceNeg, Int.reduceAdd, hsb, h1, hgl, m_impl_isSymbol, isSymbol_E, m_slices_Contains_string_string]
      refine go_loop (α := Int × (List ByteArray)) (fun a => ⟨slots 34 0 [(0, (bif dec (l.length < (a.2).length) then .ref 1 else .ref 0)), (23, .arr (x.args.map Tm.d)), (24, .int .i64 x.args.length), (25, .int .i64 (a.1))], (bif dec (l.length < (a.2).length) then [.gone, .row 9 1 ((a.2).map fun s => [OT.str s])] else [.row 9 1 ((a.2).map fun s => [OT.str s])])⟩) (fun a => ∃ k : Nat, a.1 = k ∧ k ≤ (x.args).length ∧ addA (a.2) (Tm.syL (x.args.drop k)) = addA l (Tm.syL x.args) ∧ (a.2).length + Tm.nodeS (x.args.drop k) ≤ 1048576 ∧ l.length ≤ (a.2).length) (fun a => (x.args).length - (a.1).toNat) (0, l) ⟨0, rfl, Nat.zero_le _, by rw [List.drop_zero], by rw [List.drop_zero]; dsimp only; omega, by simp⟩ (by simp (disch := omega) only [go_sem, Nat.reduceAdd, Nat.reduceSub, Nat.reduceLT, Nat.reduceLeDiff, Nat.reduceEqDiff, Nat.reduceBEq, Nat.reduceBneDiff, Nat.reduceMul, ↓reduceIte, Int.reduceToNat, reduceCtorEq, Int.reduceNeg, Int.reduceAdd, hgl]) ?_
      rintro ⟨i, acc⟩ ⟨k, hi, hk, hR⟩
      dsimp only at hi hR
      have hni : i.toNat = k := by omega
      have hni1 : (i + 1).toNat = k + 1 := by omega
      rcases Nat.lt_or_ge k (x.args).length with hlt | hge
      · have hg := get_at Tm.d hlt
        rw [Tm.d_eq] at hg
        obtain ⟨hR1, hR2, hR3⟩ := hR
        rw [List.drop_eq_getElem_cons hlt, Tm.syL, addA_app] at hR1
        rw [List.drop_eq_getElem_cons hlt, Tm.nodeS] at hR2
        have hc := ih x.args[k] (List.getElem_mem hlt) acc (by omega)
        have hlen := addA_len x.args[k].sy acc
        have hgr := addA_grow x.args[k].sy acc
        have hvl := sy_len x.args[k]
        obtain ⟨acc2, ha2⟩ : ∃ a, a = addA acc x.args[k].sy := ⟨_, rfl⟩
        rw [← ha2] at hc hlen hgr hR1
        rcases Nat.lt_or_ge l.length acc.length with q1 | q1 <;> rcases Nat.lt_or_ge acc.length acc2.length with q2 | q2
        all_goals
          first
            | rw [dec_t q2] at hc
            | rw [dec_f (Nat.not_lt.2 q2)] at hc
          simp only [cond_true, cond_false] at hc
          simp (disch := omega) only [go_sem, Nat.reduceAdd, Nat.reduceSub, Nat.reduceLT, Nat.reduceLeDiff, Nat.reduceEqDiff, Nat.reduceBEq, Nat.reduceBneDiff, Nat.reduceMul, ↓reduceIte, Int.reduceToNat, reduceCtorEq, Int.reduceNeg, Int.reduceAdd, hni, hg, hc, m_impl_symbolsOf]
          refine ⟨(i + 1, acc2), ⟨k + 1, by dsimp only; omega, hlt, hR1, by dsimp only; omega, by dsimp only; omega⟩, by dsimp only; omega, ?_⟩
          first | done | simp (disch := omega) only [go_sem, Nat.reduceAdd, Nat.reduceSub, Nat.reduceLT, Nat.reduceLeDiff, Nat.reduceEqDiff, Nat.reduceBEq, Nat.reduceBneDiff, Nat.reduceMul, ↓reduceIte, Int.reduceToNat, reduceCtorEq, Int.reduceNeg, Int.reduceAdd]
      · rw [List.drop_eq_nil_of_le hge, Tm.syL] at hR
        obtain ⟨hR1, hR2, hR3⟩ := hR
        have hR1 : acc = _ := hR1
        rw [← hR1]
        rcases Nat.lt_or_ge l.length acc.length with q1 | q1
        · simp (disch := omega) only [go_sem, Nat.reduceAdd, Nat.reduceSub, Nat.reduceLT, Nat.reduceLeDiff, Nat.reduceEqDiff, Nat.reduceBEq, Nat.reduceBneDiff, Nat.reduceMul, ↓reduceIte, Int.reduceToNat, reduceCtorEq, Int.reduceNeg, Int.reduceAdd, hni]
        · simp (disch := omega) only [go_sem, Nat.reduceAdd, Nat.reduceSub, Nat.reduceLT, Nat.reduceLeDiff, Nat.reduceEqDiff, Nat.reduceBEq, Nat.reduceBneDiff, Nat.reduceMul, ↓reduceIte, Int.reduceToNat, reduceCtorEq, Int.reduceNeg, Int.reduceAdd, hni]
      
    | false =>
      have e2 : addU l x.name = l ++ [x.name] := by unfold addU; rw [hm]; rfl
      have hl1' : (l.map fun s => [OT.str s]) ++ [[OT.str x.name]] = (l ++ [x.name]).map fun s => [OT.str s] := by simp
      rw [hm] at h1
      rw [e2] at hul
      rw [e2]
      have hgl : dec (l.length < (l ++ [x.name]).length) = true := dec_t (by simp)
      refine E_walk k_impl_symbolsOf m_impl_symbolsOf (of_decide_eq_true rfl) ?_
      simp (disch := omega) only [c_impl_symbolsOf, go_sem, Nat.reduceAdd, Nat.reduceSub, Nat.reduceLT, Nat.reduceLeDiff, Nat.reduceEqDiff, Nat.reduceBEq, Nat.reduceBneDiff, Nat.reduceMul, ↓reduceIte, Int.reduceToNat, reduceCtorEq, Int.reduceNeg, Int.reduceAdd, hsb, h1, hl1', hgl, m_impl_isSymbol, isSymbol_E, m_slices_Contains_string_string]
      refine go_loop (α := Int × (List ByteArray)) (fun a => ⟨slots 34 0 [(0, (bif dec (l.length < (a.2).length) then .ref 1 else .ref 0)), (23, .arr (x.args.map Tm.d)), (24, .int .i64 x.args.length), (25, .int .i64 (a.1))], (bif dec (l.length < (a.2).length) then [.gone, .row 9 1 ((a.2).map fun s => [OT.str s])] else [.row 9 1 ((a.2).map fun s => [OT.str s])])⟩) (fun a => ∃ k : Nat, a.1 = k ∧ k ≤ (x.args).length ∧ addA (a.2) (Tm.syL (x.args.drop k)) = addA (l ++ [x.name]) (Tm.syL x.args) ∧ (a.2).length + Tm.nodeS (x.args.drop k) ≤ 1048576 ∧ l.length ≤ (a.2).length) (fun a => (x.args).length - (a.1).toNat) (0, (l ++ [x.name])) ⟨0, rfl, Nat.zero_le _, by rw [List.drop_zero], by rw [List.drop_zero]; dsimp only; omega, by simp⟩ (by simp (disch := omega) only [go_sem, Nat.reduceAdd, Nat.reduceSub, Nat.reduceLT, Nat.reduceLeDiff, Nat.reduceEqDiff, Nat.reduceBEq, Nat.reduceBneDiff, Nat.reduceMul, ↓reduceIte, Int.reduceToNat, reduceCtorEq, Int.reduceNeg, Int.reduceAdd, hgl, hl1']) ?_
      rintro ⟨i, acc⟩ ⟨k, hi, hk, hR⟩
      dsimp only at hi hR
      have hni : i.toNat = k := by omega
      have hni1 : (i + 1).toNat = k + 1 := by omega
      rcases Nat.lt_or_ge k (x.args).length with hlt | hge
      · have hg := get_at Tm.d hlt
        rw [Tm.d_eq] at hg
        obtain ⟨hR1, hR2, hR3⟩ := hR
        rw [List.drop_eq_getElem_cons hlt, Tm.syL, addA_app] at hR1
        rw [List.drop_eq_getElem_cons hlt, Tm.nodeS] at hR2
        have hc := ih x.args[k] (List.getElem_mem hlt) acc (by omega)
        have hlen := addA_len x.args[k].sy acc
        have hgr := addA_grow x.args[k].sy acc
        have hvl := sy_len x.args[k]
        obtain ⟨acc2, ha2⟩ : ∃ a, a = addA acc x.args[k].sy := ⟨_, rfl⟩
        rw [← ha2] at hc hlen hgr hR1
        rcases Nat.lt_or_ge l.length acc.length with q1 | q1 <;> rcases Nat.lt_or_ge acc.length acc2.length with q2 | q2
        all_goals
          first
            | rw [dec_t q2] at hc
            | rw [dec_f (Nat.not_lt.2 q2)] at hc
          simp only [cond_true, cond_false] at hc
          simp (disch := omega) only [go_sem, Nat.reduceAdd, Nat.reduceSub, Nat.reduceLT, Nat.reduceLeDiff, Nat.reduceEqDiff, Nat.reduceBEq, Nat.reduceBneDiff, Nat.reduceMul, ↓reduceIte, Int.reduceToNat, reduceCtorEq, Int.reduceNeg, Int.reduceAdd, hni, hg, hc, m_impl_symbolsOf]
          refine ⟨(i + 1, acc2), ⟨k + 1, by dsimp only; omega, hlt, hR1, by dsimp only; omega, by dsimp only; omega⟩, by dsimp only; omega, ?_⟩
          first | done | simp (disch := omega) only [go_sem, Nat.reduceAdd, Nat.reduceSub, Nat.reduceLT, Nat.reduceLeDiff, Nat.reduceEqDiff, Nat.reduceBEq, Nat.reduceBneDiff, Nat.reduceMul, ↓reduceIte, Int.reduceToNat, reduceCtorEq, Int.reduceNeg, Int.reduceAdd]
      · rw [List.drop_eq_nil_of_le hge, Tm.syL] at hR
        obtain ⟨hR1, hR2, hR3⟩ := hR
        have hR1 : acc = _ := hR1
        rw [← hR1]
        rcases Nat.lt_or_ge l.length acc.length with q1 | q1
        · simp (disch := omega) only [go_sem, Nat.reduceAdd, Nat.reduceSub, Nat.reduceLT, Nat.reduceLeDiff, Nat.reduceEqDiff, Nat.reduceBEq, Nat.reduceBneDiff, Nat.reduceMul, ↓reduceIte, Int.reduceToNat, reduceCtorEq, Int.reduceNeg, Int.reduceAdd, hni]
        · simp (disch := omega) only [go_sem, Nat.reduceAdd, Nat.reduceSub, Nat.reduceLT, Nat.reduceLeDiff, Nat.reduceEqDiff, Nat.reduceBEq, Nat.reduceBneDiff, Nat.reduceMul, ↓reduceIte, Int.reduceToNat, reduceCtorEq, Int.reduceNeg, Int.reduceAdd, hni]
      
theorem symbolsOf_E (x : Tm) (hx : x.names = true) : SymC x :=
  symbolsOf_of x hx fun y hy => symbolsOf_E y (Tm.names_arg hx hy)
termination_by SizeOf.sizeOf x
decreasing_by exact Tm.lt_of_mem hy
set_option maxHeartbeats 4000000 in
theorem symbolsOf_nil (x : Tm) (hx : x.names = true) (hn : x.nodes ≤ 1048576) : E 24 [.nil, x.sv] [] = some (.ref 0, [.row 9 1 ((addA [] x.sy).map fun s => [OT.str s])]) := by
  have hl := Tm.length_le x.args
  have hne := Tm.nodes_eq x
  have hvs := Tm.sy_eq x
  have hxs : x.sv = .agg [.str x.name, .arr (x.args.map Tm.d)] := rfl
  cases hvv : varB x.name with
  | true =>
    rw [hvv] at hvs
    have hx0 := Tm.names_var hx hvv
    have hsb := var_noSym hvv
    have e : addA [] x.sy = [] := by rw [hvs, hx0]; simp only [cond_true, Tm.syL]; rfl
    rw [e]
    refine E_walk k_impl_symbolsOf m_impl_symbolsOf (of_decide_eq_true rfl) ?_
    simp (disch := omega) only [c_impl_symbolsOf, go_sem, Nat.reduceAdd, Nat.reduceSub, Nat.reduceLT, Nat.reduceLeDiff, Nat.reduceEqDiff, Nat.reduceBEq, Nat.reduceBneDiff, Nat.reduceMul, ↓reduceIte, Int.reduceToNat, reduceCtorEq, Int.reduceNeg, Int.reduceAdd, hsb, m_impl_isSymbol, isSymbol_E]
    refine go_loop (α := Int) (fun a => ⟨slots 34 0 [(0, .nil), (23, .arr (x.args.map Tm.d)), (24, .int .i64 x.args.length), (25, .int .i64 a)], []⟩) (fun a => ∃ k : Nat, a = k ∧ k ≤ (x.args).length) (fun a => (x.args).length - (a).toNat) 0 ⟨0, rfl, Nat.zero_le _⟩ (by simp (disch := omega) only [go_sem, Nat.reduceAdd, Nat.reduceSub, Nat.reduceLT, Nat.reduceLeDiff, Nat.reduceEqDiff, Nat.reduceBEq, Nat.reduceBneDiff, Nat.reduceMul, ↓reduceIte, Int.reduceToNat, reduceCtorEq, Int.reduceNeg, Int.reduceAdd]) ?_
    rintro i ⟨k, hi, hk⟩
    have hni : i.toNat = k := by omega
    have hni1 : (i + 1).toNat = k + 1 := by omega
    rcases Nat.lt_or_ge k (x.args).length with hlt | hge
    · rw [hx0] at hlt
      simp at hlt
    · simp (disch := omega) only [go_sem, Nat.reduceAdd, Nat.reduceSub, Nat.reduceLT, Nat.reduceLeDiff, Nat.reduceEqDiff, Nat.reduceBEq, Nat.reduceBneDiff, Nat.reduceMul, ↓reduceIte, Int.reduceToNat, reduceCtorEq, Int.reduceNeg, Int.reduceAdd, hni, List.map_nil]
  | false =>
    rw [hvv] at hvs
    simp only [cond_false] at hvs
    have hsb := names_sym hx hvv
    have h1 := containsS_E [] x.name (by simp)
    rw [dec_f (by simp), List.map_nil] at h1
    have e : addA [] x.sy = addA [x.name] (Tm.syL x.args) := by
      rw [hvs]
      show addA (addU [] x.name) _ = _
      have e2 : addU [] x.name = [x.name] := by unfold addU; rw [dec_f (by simp)]; rfl
      rw [e2]
    rw [e]
    have hl1' : [[OT.str x.name]] = [x.name].map fun s => [OT.str s] := rfl
    refine E_walk k_impl_symbolsOf m_impl_symbolsOf (of_decide_eq_true rfl) ?_
    simp (disch := omega) only [c_impl_symbolsOf, go_sem, Nat.reduceAdd, Nat.reduceSub, Nat.reduceLT, Nat.reduceLeDiff, Nat.reduceEqDiff, Nat.reduceBEq, Nat.reduceBneDiff, Nat.reduceMul, ↓reduceIte, Int.reduceToNat, reduceCtorEq, Int.reduceNeg, Int.reduceAdd, hsb, h1, m_impl_isSymbol, isSymbol_E, m_slices_Contains_string_string]
    refine go_loop (α := Int × (List ByteArray)) (fun a => ⟨slots 34 0 [(0, .ref 0), (23, .arr (x.args.map Tm.d)), (24, .int .i64 x.args.length), (25, .int .i64 (a.1))], [.row 9 1 ((a.2).map fun s => [OT.str s])]⟩) (fun a => ∃ k : Nat, a.1 = k ∧ k ≤ (x.args).length ∧ addA (a.2) (Tm.syL (x.args.drop k)) = addA [x.name] (Tm.syL x.args) ∧ (a.2).length + Tm.nodeS (x.args.drop k) ≤ 1048576) (fun a => (x.args).length - (a.1).toNat) (0, [x.name]) ⟨0, rfl, Nat.zero_le _, by rw [List.drop_zero], by rw [List.drop_zero]; simp; omega⟩ (by simp (disch := omega) only [go_sem, Nat.reduceAdd, Nat.reduceSub, Nat.reduceLT, Nat.reduceLeDiff, Nat.reduceEqDiff, Nat.reduceBEq, Nat.reduceBneDiff, Nat.reduceMul, ↓reduceIte, Int.reduceToNat, reduceCtorEq, Int.reduceNeg, Int.reduceAdd]) ?_
    rintro ⟨i, acc⟩ ⟨k, hi, hk, hR⟩
    dsimp only at hi hR
    have hni : i.toNat = k := by omega
    have hni1 : (i + 1).toNat = k + 1 := by omega
    rcases Nat.lt_or_ge k (x.args).length with hlt | hge
    · have hg := get_at Tm.d hlt
      rw [Tm.d_eq] at hg
      obtain ⟨hR1, hR2⟩ := hR
      rw [List.drop_eq_getElem_cons hlt, Tm.syL, addA_app] at hR1
      rw [List.drop_eq_getElem_cons hlt, Tm.nodeS] at hR2
      have hc := symbolsOf_E x.args[k] (Tm.names_arg hx (List.getElem_mem hlt)) acc (by omega)
      have hlen := addA_len x.args[k].sy acc
      have hvl := sy_len x.args[k]
      obtain ⟨acc2, ha2⟩ : ∃ a, a = addA acc x.args[k].sy := ⟨_, rfl⟩
      rw [← ha2] at hc hlen hR1
      rcases Nat.lt_or_ge acc.length acc2.length with q2 | q2
      all_goals
        first
          | rw [dec_t q2] at hc
          | rw [dec_f (Nat.not_lt.2 q2)] at hc
        simp only [cond_true, cond_false] at hc
        simp (disch := omega) only [go_sem, Nat.reduceAdd, Nat.reduceSub, Nat.reduceLT, Nat.reduceLeDiff, Nat.reduceEqDiff, Nat.reduceBEq, Nat.reduceBneDiff, Nat.reduceMul, ↓reduceIte, Int.reduceToNat, reduceCtorEq, Int.reduceNeg, Int.reduceAdd, hni, hg, hc, m_impl_symbolsOf]
        exact ⟨(i + 1, acc2), ⟨k + 1, by dsimp only; omega, hlt, hR1, by dsimp only; omega⟩, by dsimp only; omega, by first | trivial | rfl⟩
    · rw [List.drop_eq_nil_of_le hge, Tm.syL] at hR
      obtain ⟨hR1, hR2⟩ := hR
      have hR1 : acc = _ := hR1
      rw [← hR1]
      simp (disch := omega) only [go_sem, Nat.reduceAdd, Nat.reduceSub, Nat.reduceLT, Nat.reduceLeDiff, Nat.reduceEqDiff, Nat.reduceBEq, Nat.reduceBneDiff, Nat.reduceMul, ↓reduceIte, Int.reduceToNat, reduceCtorEq, Int.reduceNeg, Int.reduceAdd, hni]
end Go.Proofs.Ythbkkiogbikbcaa

set_option maxRecDepth 100000
set_option linter.unusedSimpArgs false
set_option linter.unusedVariables false
namespace Go.Proofs.Ythbkkiogbikbcaa
open Go.RowKit

/-- A run ends so that Q is true of its answer. -/
def finQ (res : RM) (n0 : Nat) (rs : List RX) (Q : SV × List Ob → Prop) (x : X) (st : St) : Prop := ∃ out, finK res n0 rs out x st ∧ Q out
theorem exq {α : Type} {a : α} {Q : α → Prop} : (∃ out, some a = some out ∧ Q out) = Q a := propext ⟨fun ⟨o, h, q⟩ => by obtain rfl := Option.some.inj h; exact q, fun q => ⟨a, rfl, q⟩⟩
theorem finQ_r {res : RM} {n0 : Nat} {rs : List RX} {Q : SV × List Ob → Prop} {sl : List SV} {ob : List Ob} : finQ res n0 rs Q .ret ⟨sl, ob⟩ = ∃ out, resF1 res n0 ob (resV ⟨sl, ob⟩ rs) = some out ∧ Q out := rfl
theorem finQ_n {res : RM} {n0 : Nat} {rs : List RX} {Q : SV × List Ob → Prop} {sl : List SV} {ob : List Ob} : finQ res n0 rs Q .normal ⟨sl, ob⟩ = ∃ out, resF1 res n0 ob (resV ⟨sl, ob⟩ rs) = some out ∧ Q out := rfl
theorem E_walkQ {f : FuncId} {fc : FC} {hand : List Bool} {res : RM} {tr : Bool} {xs : List SV} {ob : List Ob} {Q : SV × List Ob → Prop} (hc : codeOf Try.prog f = some fc) (hr : modes f = ⟨hand, res, none, tr⟩) (hn : xs.length ≤ fc.nt) (h : go ob.length fc.sc ⟨xs ++ anys (fc.nt - xs.length), entry tr ob⟩ (finQ res ob.length fc.rs Q)) : ∃ out, E f xs ob = some out ∧ Q out := by
  obtain ⟨x, st', h1, out, h2, h3⟩ := h
  exact ⟨out, E_walk hc hr hn ⟨x, st', h1, h2⟩, h3⟩
attribute [go_sem] finQ_r finQ_n exq
/-- A term whose arguments are shared, as an element of a row of one's own. -/
def Tm.osh (x : Tm) : List OT := [.str x.name, .sh (x.args.map Tm.d)]
theorem Tm.osh_eq (x : Tm) : x.osh = [.str x.name, .sh (x.args.map Tm.d)] := rfl
theorem Tm.osh_full : ∀ xs : List Tm, OT.fullss (xs.map Tm.osh) = true
  | [] => rfl
  | x :: xs => by rw [List.map_cons, Tm.osh_eq]; simp [OT.fullss, OT.fulls, OT.full, Tm.osh_full xs]
theorem Tm.osh_er : ∀ xs : List Tm, OT.erss (xs.map Tm.osh) = xs.map Tm.d
  | [] => rfl
  | x :: xs => by rw [List.map_cons, List.map_cons, Tm.osh_eq, Tm.d_eq]; simp [OT.erss, OT.ers, OT.er, Tm.osh_er xs]
theorem map_snoc {α β : Type} (f : α → β) {xs : List α} {k : Nat} (h : k < xs.length) : (xs.take k).map f ++ [f xs[k]] = (xs.take (k + 1)).map f := by
  rw [List.take_succ_eq_append_getElem h, List.map_append]; rfl
end Go.Proofs.Ythbkkiogbikbcaa

set_option maxRecDepth 100000
set_option linter.unusedSimpArgs false
set_option linter.unusedVariables false
namespace Go.Proofs.Ythbkkiogbikbcaa
open Go.RowKit

theorem valid_nodes {x : Tm} (h : x.valid = true) : x.nodes ≤ 30 := by
  unfold Tm.valid Tm.small at h
  rw [Bool.and_eq_true, Bool.and_eq_true, decide_eq_true_eq] at h
  exact h.1.1
theorem valid_names {x : Tm} (h : x.valid = true) : x.names = true := by
  unfold Tm.valid at h
  rw [Bool.and_eq_true] at h
  exact h.2
/-- The symbols of two terms, in order. -/
noncomputable def symsO (s t : Tm) : List ByteArray := insA [] (s.sy ++ t.sy)
noncomputable def ordO (s t : Tm) : Int := bif dec (s = t) then 1 else bif dec (((symsO s t).length : Int) ≤ 12) then codeI false (kboF (symsO s t) 1048576 s t) (kboF (symsO s t) 1048576 t s) else 0
theorem symsO_len {s t : Tm} (hs : s.valid = true) (ht : t.valid = true) : (symsO s t).length ≤ 60 := by
  have h := insA_len (s.sy ++ t.sy) []
  have h1 := sy_len s
  have h2 := sy_len t
  have h3 := valid_nodes hs
  have h4 := valid_nodes ht
  unfold symsO
  rw [List.length_append] at h
  simp only [List.length_nil] at h
  omega
theorem symsO_cov (s t : Tm) : s.cov (symsO s t) ∧ t.cov (symsO s t) :=
  ⟨fun n h => by unfold symsO; rw [insA_mem, List.mem_append]; exact .inr (.inl h), fun n h => by unfold symsO; rw [insA_mem, List.mem_append]; exact .inr (.inr h)⟩
theorem repeat_E (n : Nat) (h : n ≤ 12) : E 26 [.arr [[D.int 1]], .int .i64 (n : Int)] [] = some (.arr (List.replicate n [D.int 1]), []) := by
  refine E_ext (g := repX) (by unfold modes; rfl) ?_
  unfold repX
  simp only
  rw [dec_t ⟨by first | trivial | rfl, by omega, by omega⟩, cond_true, Int.toNat_natCast]
theorem m_slices_Repeat_int_int : modes 26 = ⟨[], .asis, some (valX repX), false⟩ := by unfold modes; rfl
def c_impl_standardOrder : SC := (.seq (.reg [⟨(some 2), none, (.boxv 30 2 (.t 0))⟩, ⟨(some 3), none, (.boxv 30 2 (.t 1))⟩, ⟨(some 4), none, (.mv (.c (.int .i64 0)))⟩]) (.seq (.seq (.reg [⟨(some 7), none, (.load true 2 (.t 2))⟩, ⟨(some 8), none, (.load true 2 (.t 3))⟩, ⟨(some 9), none, (.call 23 [(.t 7), (.t 8)])⟩]) (.cond (.t 9) (.seq (.reg [⟨(some 4), none, (.mv (.c (.int .i64 1)))⟩]) .ret) .skip)) (.seq (.dreg [[], [0], [], [1, 0, 2], [3, 1, 0, 2]] [⟨(some 10), none, (.load true 2 (.t 2))⟩, ⟨(some 11), none, (.call 24 [(.c .nil), (.t 10)])⟩, ⟨(some 12), none, (.load true 2 (.t 3))⟩, ⟨(some 13), none, (.call 24 [(.t 11), (.t 12)])⟩, ⟨(some 5), none, (.mv (.t 13))⟩]) (.seq (.seq (.reg [⟨(some 14), none, (.mv (.t 5))⟩, ⟨(some 15), none, (.len false (.t 14))⟩, ⟨(some 16), none, (.bin .gtr false (.t 15) (.c (.int .i64 12)))⟩]) (.cond (.t 16) (.seq (.reg [⟨(some 4), none, (.mv (.c (.int .i64 0)))⟩]) .ret) .skip)) (.seq (.reg [⟨(some 17), none, (.mv (.t 5))⟩, ⟨(some 18), none, (.call 25 [(.t 17)])⟩]) (.seq (.reg [⟨(some 19), none, (.mv (.t 5))⟩, ⟨(some 20), none, (.mkrow 3 1 [(.int .i64 0)] 1 [(0, (.c (.int .i64 1)))])⟩, ⟨(some 21), none, (.mv (.t 5))⟩, ⟨(some 22), none, (.len false (.t 21))⟩, ⟨(some 23), none, (.call 26 [(.t 20), (.t 22)])⟩, ⟨(some 24), none, (.build [.nil, .nil, (.int .i64 0)] [(0, (1, (.t 19))), (1, (1, (.t 23))), (2, (1, (.c (.int .i64 1))))])⟩, ⟨(some 6), none, (.alloc 43 [.nil, .nil, (.int .i64 0)])⟩, ⟨none, none, (.store 3 (.t 6) (.t 24))⟩]) (.seq (.reg [⟨(some 25), none, (.load true 3 (.t 6))⟩, ⟨(some 26), none, (.load true 2 (.t 2))⟩, ⟨(some 27), none, (.load true 2 (.t 3))⟩, ⟨(some 28), none, (.call 27 [(.t 25), (.t 26), (.t 27)])⟩, ⟨(some 4), none, (.mv (.t 28))⟩]) .ret)))))))
theorem k_impl_standardOrder : codeOf Try.prog 14 = some ⟨29, c_impl_standardOrder, [(.tmp 4)]⟩ := by kernel_rfl
theorem m_impl_standardOrder : modes 14 = ⟨[], .asis, none, false⟩ := by unfold modes; rfl

def c_impl_StandardOrder : SC := (.seq (.reg [⟨(some 2), none, (.boxv 30 2 (.t 0))⟩, ⟨(some 3), none, (.boxv 30 2 (.t 1))⟩, ⟨(some 4), none, (.mv (.c (.int .i64 0)))⟩, ⟨(some 5), none, (.mv (.c (.bool false)))⟩]) (.seq (.seq (.reg [⟨(some 6), none, (.load true 2 (.t 2))⟩, ⟨(some 7), none, (.call 13 [(.t 6)])⟩, ⟨(some 8), none, (.un .not (.t 7))⟩, ⟨(some 9), none, (.mv (.t 8))⟩, ⟨(some 10), (some (9, false)), (.load true 2 (.t 3))⟩, ⟨(some 11), (some (9, false)), (.call 13 [(.t 10)])⟩, ⟨(some 12), (some (9, false)), (.un .not (.t 11))⟩, ⟨(some 13), none, (.pick (.t 9) (.c (.bool true)) (.t 12))⟩]) (.cond (.t 13) (.seq (.reg [⟨(some 4), none, (.mv (.c (.int .i64 0)))⟩, ⟨(some 5), none, (.mv (.c (.bool false)))⟩]) .ret) .skip)) (.seq (.reg [⟨(some 14), none, (.load true 2 (.t 2))⟩, ⟨(some 15), none, (.load true 2 (.t 3))⟩, ⟨(some 16), none, (.call 14 [(.t 14), (.t 15)])⟩, ⟨(some 4), none, (.mv (.t 16))⟩, ⟨(some 5), none, (.mv (.c (.bool true)))⟩]) .ret)))
theorem k_impl_StandardOrder : codeOf Try.prog 7 = some ⟨17, c_impl_StandardOrder, [(.tmp 4), (.tmp 5)]⟩ := by kernel_rfl
theorem m_impl_StandardOrder : modes 7 = ⟨[], .asis, none, false⟩ := by unfold modes; rfl

def c_spec_l12Order : SC := (.seq (.reg [⟨(some 2), none, (.boxv 30 2 (.t 0))⟩, ⟨(some 3), none, (.boxv 30 2 (.t 1))⟩, ⟨(some 4), none, (.mv (.c (.int .i64 0)))⟩]) (.seq (.seq (.reg [⟨(some 9), none, (.load true 2 (.t 2))⟩, ⟨(some 10), none, (.load true 2 (.t 3))⟩, ⟨(some 11), none, (.call 18 [(.t 9), (.t 10)])⟩]) (.cond (.t 11) (.seq (.reg [⟨(some 4), none, (.mv (.c (.int .i64 1)))⟩]) .ret) .skip)) (.seq (.dreg [[], [], [0, 1], [], [2, 0, 1, 3], [4, 2, 0, 1, 3], [], [6, 5, 4, 2, 0, 1, 3]] [⟨(some 12), none, (.mkrow 9 1 [(.str ⟨#[]⟩)] 0 [])⟩, ⟨(some 13), none, (.load true 2 (.t 2))⟩, ⟨(some 14), none, (.call 19 [(.t 12), (.t 13)])⟩, ⟨(some 15), none, (.load true 2 (.t 3))⟩, ⟨(some 16), none, (.call 19 [(.t 14), (.t 15)])⟩, ⟨(some 17), none, (.build [.nil, .nil, (.int .i64 0)] [(0, (1, (.t 16))), (2, (1, (.c (.int .i64 1))))])⟩, ⟨(some 5), none, (.alloc 43 [.nil, .nil, (.int .i64 0)])⟩, ⟨none, none, (.store 3 (.t 5) (.t 17))⟩]) (.seq (.seq (.reg [⟨(some 18), none, (.faddr 0 (.t 5))⟩, ⟨(some 19), none, (.load false 1 (.t 18))⟩, ⟨(some 20), none, (.len false (.t 19))⟩, ⟨(some 21), none, (.bin .eql false (.t 20) (.c (.int .i64 0)))⟩, ⟨(some 22), none, (.mv (.t 21))⟩, ⟨(some 23), (some (22, false)), (.faddr 0 (.t 5))⟩, ⟨(some 24), (some (22, false)), (.load false 1 (.t 23))⟩, ⟨(some 25), (some (22, false)), (.len false (.t 24))⟩, ⟨(some 26), (some (22, false)), (.bin .gtr false (.t 25) (.c (.int .i64 12)))⟩, ⟨(some 27), none, (.pick (.t 22) (.c (.bool true)) (.t 26))⟩]) (.cond (.t 27) (.seq (.reg [⟨(some 4), none, (.mv (.c (.int .i64 0)))⟩]) .ret) .skip)) (.seq (.seq (.reg [⟨(some 6), none, (.mv (.c (.int .i64 0)))⟩]) (.block 0 (.loop [0, 0, 1, 1, 0, 1, 1, 0, 0, 0, 0, 0, 0, 0, 0, 0, 0, 0, 0, 0, 0, 0, 0, 0, 0, 0, 0, 0, 0, 0, 0, 0, 0, 0, 0, 0, 0, 0, 0, 0, 0, 0, 0, 0, 0, 0, 0, 0, 0, 0] (.seq (.seq (.reg [⟨(some 28), none, (.mv (.t 6))⟩, ⟨(some 29), none, (.faddr 0 (.t 5))⟩, ⟨(some 30), none, (.load false 1 (.t 29))⟩, ⟨(some 31), none, (.len false (.t 30))⟩, ⟨(some 32), none, (.bin .lss false (.t 28) (.t 31))⟩]) (.cond (.t 32) .skip (.exit 0))) (.seq (.block 1 (.reg [⟨(some 35), none, (.faddr 1 (.t 5))⟩, ⟨(some 36), none, (.load false 1 (.t 35))⟩, ⟨(some 37), none, (.mkrow 3 1 [(.int .i64 0)] 1 [(0, (.c (.int .i64 1)))])⟩, ⟨(some 38), none, (.append 3 1 8 [(.int .i64 0)] (.t 36) (.t 37))⟩, ⟨(some 39), none, (.faddr 1 (.t 5))⟩, ⟨none, none, (.store 1 (.t 39) (.t 38))⟩])) (.reg [⟨(some 33), none, (.mv (.t 6))⟩, ⟨(some 34), none, (.bin .add false (.t 33) (.c (.int .i64 1)))⟩, ⟨(some 6), none, (.mv (.t 34))⟩])))))) (.seq (.reg [⟨(some 41), none, (.load true 3 (.t 5))⟩, ⟨(some 42), none, (.load true 2 (.t 2))⟩, ⟨(some 43), none, (.load true 2 (.t 3))⟩, ⟨(some 44), none, (.call 20 [(.t 41), (.t 42), (.t 43)])⟩, ⟨(some 40), none, (.mv (.t 44))⟩, ⟨(some 45), none, (.ext (.t 40) 0)⟩, ⟨(some 46), none, (.ext (.t 40) 1)⟩, ⟨(some 7), none, (.mv (.t 45))⟩, ⟨(some 8), none, (.mv (.t 46))⟩]) (.seq (.seq (.reg [⟨(some 47), none, (.mv (.t 8))⟩, ⟨(some 48), none, (.un .not (.t 47))⟩]) (.cond (.t 48) (.seq (.reg [⟨(some 4), none, (.mv (.c (.int .i64 0)))⟩]) .ret) .skip)) (.seq (.reg [⟨(some 49), none, (.mv (.t 7))⟩, ⟨(some 4), none, (.mv (.t 49))⟩]) .ret))))))))
theorem k_spec_l12Order : codeOf Try.prog 11 = some ⟨50, c_spec_l12Order, [(.tmp 4)]⟩ := by kernel_rfl
theorem m_spec_l12Order : modes 11 = ⟨[], .asis, none, false⟩ := by unfold modes; rfl

def c_spec_StandardOrder : SC := (.seq (.reg [⟨(some 2), none, (.boxv 30 2 (.t 0))⟩, ⟨(some 3), none, (.boxv 30 2 (.t 1))⟩, ⟨(some 4), none, (.mv (.c (.int .i64 0)))⟩, ⟨(some 5), none, (.mv (.c (.bool false)))⟩]) (.seq (.seq (.reg [⟨(some 6), none, (.load true 2 (.t 2))⟩, ⟨(some 7), none, (.call 10 [(.t 6)])⟩, ⟨(some 8), none, (.un .not (.t 7))⟩, ⟨(some 9), none, (.mv (.t 8))⟩, ⟨(some 10), (some (9, false)), (.load true 2 (.t 3))⟩, ⟨(some 11), (some (9, false)), (.call 10 [(.t 10)])⟩, ⟨(some 12), (some (9, false)), (.un .not (.t 11))⟩, ⟨(some 13), none, (.pick (.t 9) (.c (.bool true)) (.t 12))⟩]) (.cond (.t 13) (.seq (.reg [⟨(some 4), none, (.mv (.c (.int .i64 0)))⟩, ⟨(some 5), none, (.mv (.c (.bool false)))⟩]) .ret) .skip)) (.seq (.reg [⟨(some 14), none, (.load true 2 (.t 2))⟩, ⟨(some 15), none, (.load true 2 (.t 3))⟩, ⟨(some 16), none, (.call 11 [(.t 14), (.t 15)])⟩, ⟨(some 4), none, (.mv (.t 16))⟩, ⟨(some 5), none, (.mv (.c (.bool true)))⟩]) .ret)))
theorem k_spec_StandardOrder : codeOf Try.prog 5 = some ⟨17, c_spec_StandardOrder, [(.tmp 4), (.tmp 5)]⟩ := by kernel_rfl
theorem m_spec_StandardOrder : modes 5 = ⟨[], .asis, none, false⟩ := by unfold modes; rfl

set_option maxHeartbeats 8000000 in
theorem standardOrder_E (s t : Tm) (hs : s.valid = true) (ht : t.valid = true) : E 14 [s.sv, t.sv] [] = some (.int .i64 (ordO s t), []) := by
  have h1 := valid_nodes hs
  have h2 := valid_nodes ht
  have n1 := valid_names hs
  have n2 := valid_names ht
  have he := equalTerms_E s t (by omega) (by omega)
  have hsv : s.sv = .agg [.str s.name, .arr (s.args.map Tm.d)] := rfl
  have htv : t.sv = .agg [.str t.name, .arr (t.args.map Tm.d)] := rfl
  have hlen := symsO_len hs ht
  unfold ordO
  cases hq : dec (s = t) with
  | true =>
    rw [hq] at he
    simp only [cond_true]
    refine E_walk k_impl_standardOrder m_impl_standardOrder (of_decide_eq_true rfl) ?_
    simp (disch := omega) only [c_impl_standardOrder, go_sem, Nat.reduceAdd, Nat.reduceSub, Nat.reduceLT, Nat.reduceLeDiff, Nat.reduceEqDiff, Nat.reduceBEq, Nat.reduceBneDiff, Nat.reduceMul, ↓reduceIte, Int.reduceToNat, reduceCtorEq, Int.reduceNeg, Int.reduceAdd, he, m_impl_EqualTerms, m_impl_symbolsOf, m_slices_Sort_string_string, m_slices_Repeat_int_int, m_impl_Ordering_compareKBO]
  | false =>
    rw [hq] at he
    simp only [cond_false]
    have c1 := symbolsOf_nil s n1 (by omega)
    obtain ⟨L1, hL1⟩ : ∃ L, L = addA [] s.sy := ⟨_, rfl⟩
    have l1 := addA_len s.sy []
    have l2 := addA_len t.sy L1
    have l3 := sy_len s
    have l4 := sy_len t
    rw [← hL1] at c1 l1
    simp only [List.length_nil] at l1
    have c2 := symbolsOf_E t n2 L1 (by omega)
    obtain ⟨L2, hL2⟩ : ∃ L, L = addA L1 t.sy := ⟨_, rfl⟩
    rw [← hL2] at c2 l2
    have hns : srtB L2 = symsO s t := by rw [hL2, hL1, ← addA_app]; exact srtB_insA _
    have hln : L2.length = (symsO s t).length := by rw [← hns, (srtB_perm L2).length_eq]
    have c3 := sortS_E L2 (by omega)
    rw [hns] at c3
    obtain ⟨k1, k2⟩ := symsO_cov s t
    have hcm := compareKBO_E (symsO s t) (by omega) s t n1 n2 k1 k2 (by omega) (by omega)
    rw [hq] at hcm
    generalize kboF (symsO s t) 1048576 s t = g at *
    generalize kboF (symsO s t) 1048576 t s = l at *
    obtain ⟨ns, hnsd⟩ : ∃ ns, ns = symsO s t := ⟨_, rfl⟩
    rw [← hnsd] at c3 hcm hln hlen ⊢
    clear hns hnsd k1 k2
    rcases Nat.lt_or_ge L1.length L2.length with q2 | q2
    all_goals
      first
        | rw [dec_t q2] at c2
        | rw [dec_f (Nat.not_lt.2 q2)] at c2
      simp only [cond_true, cond_false] at c2
      rcases Nat.lt_or_ge 12 ns.length with q3 | q3
      · have d1 : dec ((12 : Int) < (L2.length : Int)) = true := dec_t (by omega)
        have d2 : dec ((ns.length : Int) ≤ 12) = false := dec_f (by omega)
        rw [d2]
        simp only [cond_false]
        refine E_walk k_impl_standardOrder m_impl_standardOrder (of_decide_eq_true rfl) ?_
        simp (disch := omega) only [c_impl_standardOrder, go_sem, Nat.reduceAdd, Nat.reduceSub, Nat.reduceLT, Nat.reduceLeDiff, Nat.reduceEqDiff, Nat.reduceBEq, Nat.reduceBneDiff, Nat.reduceMul, ↓reduceIte, Int.reduceToNat, reduceCtorEq, Int.reduceNeg, Int.reduceAdd, he, c1, c2, d1, m_impl_EqualTerms, m_impl_symbolsOf, m_slices_Sort_string_string, m_slices_Repeat_int_int, m_impl_Ordering_compareKBO]
      · have d1 : dec ((12 : Int) < (L2.length : Int)) = false := dec_f (by omega)
        have d2 : dec ((ns.length : Int) ≤ 12) = true := dec_t (by omega)
        have c4 := repeat_E ns.length q3
        have e4 : List.replicate ns.length [D.int 1] = ns.map fun _ => [D.int 1] := by rw [List.map_const']
        rw [e4] at c4
        rw [d2]
        simp only [cond_true]
        refine E_walk k_impl_standardOrder m_impl_standardOrder (of_decide_eq_true rfl) ?_
        simp (disch := omega) only [c_impl_standardOrder, go_sem, Nat.reduceAdd, Nat.reduceSub, Nat.reduceLT, Nat.reduceLeDiff, Nat.reduceEqDiff, Nat.reduceBEq, Nat.reduceBneDiff, Nat.reduceMul, ↓reduceIte, Int.reduceToNat, reduceCtorEq, Int.reduceNeg, Int.reduceAdd, he, c1, c2, c3, c4, d1, hcm, m_impl_EqualTerms, m_impl_symbolsOf, m_slices_Sort_string_string, m_slices_Repeat_int_int, m_impl_Ordering_compareKBO]
theorem standardOrder2_E (s t : Tm) (h1 : s.nodes ≤ 1099511627776) (h2 : t.nodes ≤ 1099511627776) : E 7 [s.sv, t.sv] [] = some (.tup [.int .i64 (bif s.valid && t.valid then ordO s t else 0), .bool (s.valid && t.valid)], []) := by
  have v1 := isValidTerm_E s h1
  have v2 := isValidTerm_E t h2
  cases hs : s.valid with
  | false =>
    rw [hs] at v1
    rw [Bool.false_and]
    refine E_walk k_impl_StandardOrder m_impl_StandardOrder (of_decide_eq_true rfl) ?_
    simp (disch := omega) only [c_impl_StandardOrder, go_sem, Nat.reduceAdd, Nat.reduceSub, Nat.reduceLT, Nat.reduceLeDiff, Nat.reduceEqDiff, Nat.reduceBEq, Nat.reduceBneDiff, Nat.reduceMul, ↓reduceIte, Int.reduceToNat, reduceCtorEq, Int.reduceNeg, Int.reduceAdd, v1, v2, m_impl_IsValidTerm]
  | true =>
    rw [hs] at v1
    cases ht : t.valid with
    | false =>
      rw [ht] at v2
      rw [Bool.true_and]
      refine E_walk k_impl_StandardOrder m_impl_StandardOrder (of_decide_eq_true rfl) ?_
      simp (disch := omega) only [c_impl_StandardOrder, go_sem, Nat.reduceAdd, Nat.reduceSub, Nat.reduceLT, Nat.reduceLeDiff, Nat.reduceEqDiff, Nat.reduceBEq, Nat.reduceBneDiff, Nat.reduceMul, ↓reduceIte, Int.reduceToNat, reduceCtorEq, Int.reduceNeg, Int.reduceAdd, v1, v2, m_impl_IsValidTerm]
    | true =>
      rw [ht] at v2
      have h3 := standardOrder_E s t hs ht
      rw [Bool.true_and, cond_true]
      refine E_walk k_impl_StandardOrder m_impl_StandardOrder (of_decide_eq_true rfl) ?_
      simp (disch := omega) only [c_impl_StandardOrder, go_sem, Nat.reduceAdd, Nat.reduceSub, Nat.reduceLT, Nat.reduceLeDiff, Nat.reduceEqDiff, Nat.reduceBEq, Nat.reduceBneDiff, Nat.reduceMul, ↓reduceIte, Int.reduceToNat, reduceCtorEq, Int.reduceNeg, Int.reduceAdd, v1, v2, h3, m_impl_IsValidTerm, m_impl_standardOrder]
theorem kbo_var {s t : Tm} (hs : s.names = true) (ht : t.names = true) (h : ¬ s = t) (h0 : symsO s t = []) : kboF (symsO s t) 1048576 s t = false := by
  have key : ∀ {x y : Tm}, x.names = true → x.sy = [] → varB x.name = true := fun {x y} hx h => by
    cases hv : varB x.name with
    | true => rfl
    | false =>
      rw [Tm.sy_eq, hv] at h
      cases h
  have hsy : ∀ n, ¬ n ∈ s.sy ++ t.sy := fun n hn => by
    have : n ∈ symsO s t := by unfold symsO; rw [insA_mem]; exact .inr hn
    rw [h0] at this
    cases this
  have e1 : s.sy = [] := List.eq_nil_iff_forall_not_mem.2 fun n hn => hsy n (List.mem_append.2 (.inl hn))
  have e2 : t.sy = [] := List.eq_nil_iff_forall_not_mem.2 fun n hn => hsy n (List.mem_append.2 (.inr hn))
  have v1 := key (y := t) hs e1
  have v2 := key (y := t) ht e2
  have a1 := Tm.names_var hs v1
  have a2 := Tm.names_var ht v2
  have hne : ¬ s.name = t.name := fun e => h (by
    obtain ⟨n, a⟩ := s
    obtain ⟨m, b⟩ := t
    simp only [Tm.name, Tm.args] at e a1 a2
    rw [e, a1, a2])
  show kboF (symsO s t) (1048575 + 1) s t = false
  rw [kboF]
  have hb : balL s t (insA [] t.vs) = false := by
    have hvs : t.vs = [t.name] := by rw [Tm.vs_eq, v2]; rfl
    unfold balL
    rw [List.all_eq_false]
    refine ⟨t.name, by rw [insA_mem, hvs]; exact .inr (by simp), ?_⟩
    have c1 : s.cnt t.name = 0 := by rw [Tm.cnt_eq, dec_f hne, a1]; rfl
    have c2 : t.cnt t.name = 1 := by rw [Tm.cnt_eq, dec_t rfl, a2]; rfl
    rw [c1, c2, dec_t (by omega)]
    simp
  rw [hb]
  rfl
theorem symsO_comm (s t : Tm) : symsO s t = [] ↔ symsO t s = [] := by
  have key : ∀ s t : Tm, symsO s t = [] → symsO t s = [] := fun s t h => List.eq_nil_iff_forall_not_mem.2 fun n hn => by
    have h2 : n ∈ symsO s t := by
      unfold symsO at hn ⊢
      rw [insA_mem, List.mem_append] at hn ⊢
      rcases hn with hn | hn | hn
      · exact .inl hn
      · exact .inr (.inr hn)
      · exact .inr (.inl hn)
    rw [h] at h2
    cases h2
  exact ⟨key s t, key t s⟩
set_option maxHeartbeats 8000000 in
theorem l12Order_E (s t : Tm) (hs : s.valid = true) (ht : t.valid = true) : E 11 [s.sv, t.sv] [] = some (.int .i64 (ordO s t), []) := by
  have h1 := valid_nodes hs
  have h2 := valid_nodes ht
  have n1 := valid_names hs
  have n2 := valid_names ht
  have he := l2Same_E s t (by omega) (by omega)
  have hsv : s.sv = .agg [.str s.name, .arr (s.args.map Tm.d)] := rfl
  have htv : t.sv = .agg [.str t.name, .arr (t.args.map Tm.d)] := rfl
  have hlen := symsO_len hs ht
  unfold ordO
  cases hq : dec (s = t) with
  | true =>
    rw [hq] at he
    simp only [cond_true]
    refine E_walk k_spec_l12Order m_spec_l12Order (of_decide_eq_true rfl) ?_
    simp (disch := omega) only [c_spec_l12Order, go_sem, Nat.reduceAdd, Nat.reduceSub, Nat.reduceLT, Nat.reduceLeDiff, Nat.reduceEqDiff, Nat.reduceBEq, Nat.reduceBneDiff, Nat.reduceMul, ↓reduceIte, Int.reduceToNat, reduceCtorEq, Int.reduceNeg, Int.reduceAdd, he, m_spec_l2Same, m_spec_l12Names, m_spec_CompareKBO]
  | false =>
    rw [hq] at he
    simp only [cond_false]
    have hne := dec_not.1 hq
    have l1 := insA_len s.sy []
    have l3 := sy_len s
    simp only [List.length_nil] at l1
    have c1 := l12Names_E s [] (by simp; omega)
    have c2 := l12Names_E t (insA [] s.sy) (by omega)
    rw [← insA_app] at c2
    change E _ _ _ = some (.arr ((symsO s t).map _), _) at c2
    rw [List.map_nil] at c1
    rcases Nat.eq_zero_or_pos (symsO s t).length with q0 | q0
    · have h0 : symsO s t = [] := List.eq_nil_of_length_eq_zero q0
      have k1 := kbo_var n1 n2 hne h0
      have k2 : kboF (symsO s t) 1048576 t s = false := by
        have h0' := (symsO_comm s t).1 h0
        have := kbo_var n2 n1 (fun e => hne e.symm) h0'
        rw [h0'] at this
        rw [h0]
        exact this
      rw [k1, k2]
      have e0 : (bif dec (((symsO s t).length : Int) ≤ 12) then codeI false false false else 0) = 0 := by
        cases dec (((symsO s t).length : Int) ≤ 12) with
        | true => rfl
        | false => rfl
      rw [e0]
      rw [h0, List.map_nil] at c2
      refine E_walk k_spec_l12Order m_spec_l12Order (of_decide_eq_true rfl) ?_
      simp (disch := omega) only [c_spec_l12Order, go_sem, Nat.reduceAdd, Nat.reduceSub, Nat.reduceLT, Nat.reduceLeDiff, Nat.reduceEqDiff, Nat.reduceBEq, Nat.reduceBneDiff, Nat.reduceMul, ↓reduceIte, Int.reduceToNat, reduceCtorEq, Int.reduceNeg, Int.reduceAdd, he, c1, c2, m_spec_l2Same, m_spec_l12Names, m_spec_CompareKBO]
    · rcases Nat.lt_or_ge 12 (symsO s t).length with q3 | q3
      · have d0 : dec (((symsO s t).length : Int) = 0) = false := dec_f (by omega)
        have d1 : dec ((12 : Int) < ((symsO s t).length : Int)) = true := dec_t (by omega)
        have d2 : dec (((symsO s t).length : Int) ≤ 12) = false := dec_f (by omega)
        rw [d2]
        simp only [cond_false]
        refine E_walk k_spec_l12Order m_spec_l12Order (of_decide_eq_true rfl) ?_
        simp (disch := omega) only [c_spec_l12Order, go_sem, Nat.reduceAdd, Nat.reduceSub, Nat.reduceLT, Nat.reduceLeDiff, Nat.reduceEqDiff, Nat.reduceBEq, Nat.reduceBneDiff, Nat.reduceMul, ↓reduceIte, Int.reduceToNat, reduceCtorEq, Int.reduceNeg, Int.reduceAdd, he, c1, c2, d0, d1, m_spec_l2Same, m_spec_l12Names, m_spec_CompareKBO]
      · have d0 : dec (((symsO s t).length : Int) = 0) = false := dec_f (by omega)
        have d1 : dec ((12 : Int) < ((symsO s t).length : Int)) = false := dec_f (by omega)
        have d2 : dec (((symsO s t).length : Int) ≤ 12) = true := dec_t (by omega)
        rw [d2]
        simp only [cond_true]
        obtain ⟨k1, k2⟩ := symsO_cov s t
        have hsym : ∀ n ∈ symsO s t, symB n = true := fun n hn => by
          unfold symsO at hn
          rw [insA_mem, List.mem_append] at hn
          rcases hn with hn | hn | hn
          · cases hn
          · exact sy_sym s n1 n hn
          · exact sy_sym t n2 n hn
        have hnd : (symsO s t).Nodup := pair_nodup (insA_pair _ [] List.Pairwise.nil)
        have hcm := compareKBO2_E (symsO s t) q0 q3 hsym hnd s t hs ht k1 k2 (by omega) (by omega)
        rw [hq] at hcm
        generalize kboF (symsO s t) 1048576 s t = g at *
        generalize kboF (symsO s t) 1048576 t s = l at *
        obtain ⟨ns, hnsd⟩ : ∃ ns, ns = symsO s t := ⟨_, rfl⟩
        rw [← hnsd] at c2 d0 d1 hcm hlen q0 q3
        clear hnsd k1 k2 hsym hnd d2
        obtain ⟨ws, hws⟩ : ∃ ws : List Int, ws = ns.map fun _ => 1 := ⟨_, rfl⟩
        have hwl : ws.length = ns.length := by rw [hws, List.length_map]
        have hwd : (ns.map fun _ => [D.int 1]) = ws.map fun n => [D.int n] := by rw [hws, List.map_map]; rfl
        have hw1 : ∀ k (h : k < ws.length), ws[k] = 1 := fun k h => by simp only [hws, List.getElem_map]
        unfold osv1 at hcm
        rw [hwd] at hcm
        have h10 : ((1 : Int) = 0) = False := by simp
        refine E_walk k_spec_l12Order m_spec_l12Order (of_decide_eq_true rfl) ?_
        simp (disch := omega) only [c_spec_l12Order, go_sem, Nat.reduceAdd, Nat.reduceSub, Nat.reduceLT, Nat.reduceLeDiff, Nat.reduceEqDiff, Nat.reduceBEq, Nat.reduceBneDiff, Nat.reduceMul, ↓reduceIte, Int.reduceToNat, reduceCtorEq, Int.reduceNeg, Int.reduceAdd, he, c1, c2, d0, d1, m_spec_l2Same, m_spec_l12Names, m_spec_CompareKBO]
        refine go_loop (α := Int) (fun a => ⟨slots 50 0 [(2, .ptr 0 0), (3, .ptr 1 0), (5, .ptr 2 0), (6, .int .i64 a)], (if a = 0 then [.box 30 [.str s.name, .arr (s.args.map Tm.d)], .box 30 [.str t.name, .arr (t.args.map Tm.d)], .box 43 [.arr (ns.map fun s => [D.str s]), .nil, .int .i64 1]] else [.box 30 [.str s.name, .arr (s.args.map Tm.d)], .box 30 [.str t.name, .arr (t.args.map Tm.d)], .box 43 [.arr (ns.map fun s => [D.str s]), .ref 3, .int .i64 1], .row 3 1 ((ws.take a.toNat).map fun n => [OT.int n])])⟩) (fun a => ∃ k : Nat, a = k ∧ k ≤ (ws).length) (fun a => (ws).length - (a).toNat) 0 ⟨0, rfl, Nat.zero_le _⟩ (by simp (disch := omega) only [go_sem, Nat.reduceAdd, Nat.reduceSub, Nat.reduceLT, Nat.reduceLeDiff, Nat.reduceEqDiff, Nat.reduceBEq, Nat.reduceBneDiff, Nat.reduceMul, ↓reduceIte, Int.reduceToNat, reduceCtorEq, Int.reduceNeg, Int.reduceAdd, eq_self, if_true]) ?_
        rintro i ⟨k, hi, hk⟩
        have hni : i.toNat = k := by omega
        have hni1 : (i + 1).toNat = k + 1 := by omega
        rcases Nat.lt_or_ge k (ws).length with hlt | hge
        · have hs := map_snoc (fun n => [OT.int n]) hlt
          rw [hw1 k hlt] at hs
          have htl : (ws.take k).length = k := by rw [List.length_take]; omega
          rcases Nat.eq_zero_or_pos k with h0 | h0
          · subst h0
            obtain rfl : i = 0 := hi
            rw [List.take_zero, List.map_nil, List.nil_append] at hs
            simp (disch := omega) only [go_sem, Nat.reduceAdd, Nat.reduceSub, Nat.reduceLT, Nat.reduceLeDiff, Nat.reduceEqDiff, Nat.reduceBEq, Nat.reduceBneDiff, Nat.reduceMul, ↓reduceIte, Int.reduceToNat, reduceCtorEq, Int.reduceNeg, Int.reduceAdd, hni, hwl, eq_self, if_true]
            refine ⟨1, ⟨1, rfl, by omega⟩, by omega, ?_⟩
            simp (disch := omega) only [go_sem, Nat.reduceAdd, Nat.reduceSub, Nat.reduceLT, Nat.reduceLeDiff, Nat.reduceEqDiff, Nat.reduceBEq, Nat.reduceBneDiff, Nat.reduceMul, ↓reduceIte, Int.reduceToNat, reduceCtorEq, Int.reduceNeg, Int.reduceAdd, h10, if_false, hs]
          · have hi0 : (i = 0) = False := by simp; omega
            have hi1 : (i + 1 = 0) = False := by simp; omega
            simp (disch := omega) only [go_sem, Nat.reduceAdd, Nat.reduceSub, Nat.reduceLT, Nat.reduceLeDiff, Nat.reduceEqDiff, Nat.reduceBEq, Nat.reduceBneDiff, Nat.reduceMul, ↓reduceIte, Int.reduceToNat, reduceCtorEq, Int.reduceNeg, Int.reduceAdd, hni, hwl, hi0, if_false, htl]
            refine ⟨i + 1, ⟨k + 1, by omega, by omega⟩, by omega, ?_⟩
            simp (disch := omega) only [go_sem, Nat.reduceAdd, Nat.reduceSub, Nat.reduceLT, Nat.reduceLeDiff, Nat.reduceEqDiff, Nat.reduceBEq, Nat.reduceBneDiff, Nat.reduceMul, ↓reduceIte, Int.reduceToNat, reduceCtorEq, Int.reduceNeg, Int.reduceAdd, hni1, hi1, if_false, hs]
        · obtain rfl : k = ws.length := by omega
          have htk : ws.take ws.length = ws := List.take_length
          have htk2 : ws.take ns.length = ws := by rw [← hwl]; exact htk
          have hi0 : (i = 0) = False := by simp; omega
          simp (disch := omega) only [go_sem, Nat.reduceAdd, Nat.reduceSub, Nat.reduceLT, Nat.reduceLeDiff, Nat.reduceEqDiff, Nat.reduceBEq, Nat.reduceBneDiff, Nat.reduceMul, ↓reduceIte, Int.reduceToNat, reduceCtorEq, Int.reduceNeg, Int.reduceAdd, hni, hi0, if_false, htk, htk2, hcm, hwl, m_spec_l2Same, m_spec_l12Names, m_spec_CompareKBO]
end Go.Proofs.Ythbkkiogbikbcaa

set_option maxRecDepth 100000
set_option linter.unusedSimpArgs false
set_option linter.unusedVariables false
namespace Go.Proofs.Ythbkkiogbikbcaa
open Go.RowKit

def c_laws_szTerm : SC := (.seq (.reg [⟨(some 2), none, (.boxv 24 2 (.t 0))⟩, ⟨(some 4), none, (.mv (.c (.int .i64 0)))⟩]) (.seq (.reg [⟨(some 5), none, (.mv (.t 1))⟩, ⟨(some 6), none, (.faddr 0 (.t 2))⟩, ⟨(some 7), none, (.load false 1 (.t 6))⟩, ⟨(some 8), none, (.len true (.t 7))⟩, ⟨(some 9), none, (.bin .sub false (.t 5) (.t 8))⟩, ⟨(some 1), none, (.mv (.t 9))⟩]) (.seq (.seq (.reg [⟨(some 10), none, (.mv (.t 1))⟩, ⟨(some 11), none, (.bin .lss false (.t 10) (.c (.int .i64 0)))⟩]) (.cond (.t 11) (.seq (.reg [⟨(some 4), none, (.mv (.c (.int .i64 (-(0 + 1)))))⟩]) .ret) .skip)) (.seq (.reg [⟨(some 12), none, (.faddr 1 (.t 2))⟩, ⟨(some 13), none, (.load false 1 (.t 12))⟩, ⟨(some 14), none, (.mv (.t 1))⟩, ⟨(some 15), none, (.call 9 [(.t 13), (.t 14)])⟩, ⟨(some 1), none, (.mv (.t 15))⟩]) (.seq (.seq (.reg [⟨(some 16), none, (.mv (.t 1))⟩, ⟨(some 17), none, (.bin .lss false (.t 16) (.c (.int .i64 0)))⟩]) (.cond (.t 17) (.seq (.reg [⟨(some 4), none, (.mv (.c (.int .i64 (-(0 + 1)))))⟩]) .ret) .skip)) (.seq (.reg [⟨(some 18), none, (.mv (.t 1))⟩, ⟨(some 4), none, (.mv (.t 18))⟩]) .ret))))))
theorem k_laws_szTerm : codeOf Try.prog 4 = some ⟨19, c_laws_szTerm, [(.tmp 4)]⟩ := by kernel_rfl
theorem m_laws_szTerm : modes 4 = ⟨[], .asis, none, false⟩ := by unfold modes; rfl
def c_laws_szTermS : SC := (.seq (.reg [⟨(some 4), none, (.mv (.c (.int .i64 0)))⟩]) (.seq (.reg [⟨(some 6), none, (.mv (.t 1))⟩, ⟨(some 7), none, (.mv (.t 0))⟩, ⟨(some 8), none, (.len false (.t 7))⟩, ⟨(some 9), none, (.bin .sub false (.t 6) (.t 8))⟩, ⟨(some 1), none, (.mv (.t 9))⟩]) (.seq (.seq (.reg [⟨(some 10), none, (.mv (.t 1))⟩, ⟨(some 11), none, (.bin .lss false (.t 10) (.c (.int .i64 0)))⟩]) (.cond (.t 11) (.seq (.reg [⟨(some 4), none, (.mv (.c (.int .i64 (-(0 + 1)))))⟩]) .ret) .skip)) (.seq (.seq (.reg [⟨(some 5), none, (.mv (.c (.int .i64 0)))⟩]) (.block 0 (.loop [1, 1, 0, 0, 0, 1, 0, 0, 0, 0, 0, 0, 0, 0, 0, 0, 0, 0, 0, 0, 0, 0, 0, 0, 0, 0, 0] (.seq (.seq (.reg [⟨(some 12), none, (.mv (.t 5))⟩, ⟨(some 13), none, (.mv (.t 0))⟩, ⟨(some 14), none, (.len false (.t 13))⟩, ⟨(some 15), none, (.bin .lss false (.t 12) (.t 14))⟩]) (.cond (.t 15) .skip (.exit 0))) (.seq (.block 1 (.seq (.reg [⟨(some 18), none, (.mv (.t 0))⟩, ⟨(some 19), none, (.mv (.t 5))⟩, ⟨(some 20), none, (.iaddr 2 (.t 18) (.t 19))⟩, ⟨(some 21), none, (.load true 2 (.t 20))⟩, ⟨(some 22), none, (.mv (.t 1))⟩, ⟨(some 23), none, (.call 4 [(.t 21), (.t 22)])⟩, ⟨(some 1), none, (.mv (.t 23))⟩]) (.seq (.reg [⟨(some 24), none, (.mv (.t 1))⟩, ⟨(some 25), none, (.bin .lss false (.t 24) (.c (.int .i64 0)))⟩]) (.cond (.t 25) (.seq (.reg [⟨(some 4), none, (.mv (.c (.int .i64 (-(0 + 1)))))⟩]) .ret) .skip)))) (.reg [⟨(some 16), none, (.mv (.t 5))⟩, ⟨(some 17), none, (.bin .add false (.t 16) (.c (.int .i64 1)))⟩, ⟨(some 5), none, (.mv (.t 17))⟩])))))) (.seq (.reg [⟨(some 26), none, (.mv (.t 1))⟩, ⟨(some 4), none, (.mv (.t 26))⟩]) .ret)))))
theorem k_laws_szTermS : codeOf Try.prog 9 = some ⟨27, c_laws_szTermS, [(.tmp 4)]⟩ := by kernel_rfl
theorem m_laws_szTermS : modes 9 = ⟨[], .asis, none, false⟩ := by unfold modes; rfl
abbrev SzT_Term (x : Tm) : Prop := D.fits x.d → ∀ left : Int, 0 ≤ left → left ≤ 1048576 → E 4 [x.sv, .int .i64 left] [] = some (.int .i64 (szR left x.bulk), [])
abbrev SzTS_Term (xs : List Tm) : Prop := D.fit (.arr (xs.map Tm.d)) → ∀ left : Int, 0 ≤ left → left ≤ 1048576 → E 9 [.arr (xs.map Tm.d), .int .i64 left] [] = some (.int .i64 (szR left (xs.length + Tm.sumB xs : Nat)), [])
set_option maxHeartbeats 1000000 in
theorem szTS_Term_of (xs : List Tm) (h : ∀ x ∈ xs, SzT_Term x) : SzTS_Term xs := by
  intro hfit left h0 h1
  simp only [D.fit, List.length_map] at hfit
  have q0 := szR_spec left (xs.length + Tm.sumB xs)
  refine E_walk k_laws_szTermS m_laws_szTermS (of_decide_eq_true rfl) ?_
  simp (disch := omega) only [c_laws_szTermS, go_sem, Nat.reduceAdd, Nat.reduceSub, Nat.reduceLT, Nat.reduceLeDiff, Nat.reduceEqDiff, Nat.reduceBEq, Nat.reduceBneDiff, Nat.reduceMul, ↓reduceIte, Int.reduceToNat, reduceCtorEq, Int.reduceNeg, Int.reduceAdd]
  repeat' (refine boolP_split (fun hq => ?_) (fun hq => ?_) <;> (first | replace hq := dec_iff.1 hq | replace hq := dec_not.1 hq) <;> (try simp (disch := omega) only [go_sem, Nat.reduceAdd, Nat.reduceSub, Nat.reduceLT, Nat.reduceLeDiff, Nat.reduceEqDiff, Nat.reduceBEq, Nat.reduceBneDiff, Nat.reduceMul, ↓reduceIte, Int.reduceToNat, reduceCtorEq, Int.reduceNeg, Int.reduceAdd]))
  · omega
  refine go_loop (α := Int × Int) (fun a => ⟨slots 27 0 [(0, .arr (xs.map Tm.d)), (1, .int .i64 a.2), (5, .int .i64 a.1)], []⟩) (fun a => ∃ k : Nat, a.1 = k ∧ k ≤ xs.length ∧ 0 ≤ a.2 ∧ a.2 ≤ 1048576 ∧ szR a.2 (Tm.sumB (xs.drop k)) = szR left (xs.length + Tm.sumB xs : Nat)) (fun a => xs.length - a.1.toNat) (0, left - xs.length) ⟨0, rfl, Nat.zero_le _, by omega, by omega, ?_⟩ (by simp (disch := omega) only [go_sem, Nat.reduceAdd, Nat.reduceSub, Nat.reduceLT, Nat.reduceLeDiff, Nat.reduceEqDiff, Nat.reduceBEq, Nat.reduceBneDiff, Nat.reduceMul, ↓reduceIte, Int.reduceToNat, reduceCtorEq, Int.reduceNeg, Int.reduceAdd]) ?_
  · have q1 := szR_spec (left - xs.length) (Tm.sumB xs)
    rw [List.drop_zero]
    dsimp only
    omega
  · rintro ⟨i, l⟩ ⟨k, hi, hk, hl0, hl1, hs⟩
    dsimp only at hi hl0 hl1 hs
    rcases Nat.lt_or_ge k xs.length with hlt | hge
    · have hg := get_at Tm.d hlt
      rw [Tm.d_eq] at hg
      have hd : Tm.sumB (xs.drop k) = xs[k].bulk + Tm.sumB (xs.drop (k + 1)) := by rw [List.drop_eq_getElem_cons hlt, Tm.sumB]
      rw [hd] at hs
      have hc := h xs[k] (List.getElem_mem hlt) (D.fitss_mem hfit.2 _ (List.getElem_mem hlt)) l hl0 hl1
      have q1 := szR_spec l xs[k].bulk
      have q2 := szR_spec l (xs[k].bulk + Tm.sumB (xs.drop (k + 1)))
      have q3 := szR_spec (l - xs[k].bulk) (Tm.sumB (xs.drop (k + 1)))
      have hn : i.toNat = k := by omega
      simp (disch := omega) only [go_sem, Nat.reduceAdd, Nat.reduceSub, Nat.reduceLT, Nat.reduceLeDiff, Nat.reduceEqDiff, Nat.reduceBEq, Nat.reduceBneDiff, Nat.reduceMul, ↓reduceIte, Int.reduceToNat, reduceCtorEq, Int.reduceNeg, Int.reduceAdd, hn, hg, hc, m_laws_szTerm]
      repeat' (refine boolP_split (fun hq => ?_) (fun hq => ?_) <;> (first | replace hq := dec_iff.1 hq | replace hq := dec_not.1 hq) <;> (try simp (disch := omega) only [go_sem, Nat.reduceAdd, Nat.reduceSub, Nat.reduceLT, Nat.reduceLeDiff, Nat.reduceEqDiff, Nat.reduceBEq, Nat.reduceBneDiff, Nat.reduceMul, ↓reduceIte, Int.reduceToNat, reduceCtorEq, Int.reduceNeg, Int.reduceAdd]))
      · omega
      · refine ⟨(i + 1, l - xs[k].bulk), ⟨k + 1, by dsimp only; omega, hlt, by dsimp only; omega, by dsimp only; omega, by dsimp only; omega⟩, by dsimp only; omega, ?_⟩
        have e : szR l xs[k].bulk = l - xs[k].bulk := by omega
        simp only [e, and_self]
    · have hd : xs.drop k = [] := List.drop_eq_nil_of_le hge
      rw [hd] at hs
      have q1 := szR_spec l (Tm.sumB [])
      simp only [Tm.sumB] at hs q1
      simp (disch := omega) only [go_sem, Nat.reduceAdd, Nat.reduceSub, Nat.reduceLT, Nat.reduceLeDiff, Nat.reduceEqDiff, Nat.reduceBEq, Nat.reduceBneDiff, Nat.reduceMul, ↓reduceIte, Int.reduceToNat, reduceCtorEq, Int.reduceNeg, Int.reduceAdd]
      omega
set_option maxHeartbeats 1000000 in
theorem szT_Term_of (x : Tm) (h_args : SzTS_Term x.args) : SzT_Term x := by
  intro hfit left h0 h1
  rw [Tm.d_eq] at hfit
  simp only [D.fits, D.fit] at hfit
  replace h_args := h_args (by simp only [D.fit, List.length_map]; simp only [List.length_map] at hfit; simp only [hfit, and_self])
  have q := szR_spec left x.bulk
  have qb := Tm.bulk_eq x
  have q0 := szR_spec (left - (x.name.size : Int)) ((x.args.length + Tm.sumB x.args))
  refine E_walk k_laws_szTerm m_laws_szTerm (of_decide_eq_true rfl) ?_
  simp (disch := omega) only [c_laws_szTerm, go_sem, Nat.reduceAdd, Nat.reduceSub, Nat.reduceLT, Nat.reduceLeDiff, Nat.reduceEqDiff, Nat.reduceBEq, Nat.reduceBneDiff, Nat.reduceMul, ↓reduceIte, Int.reduceToNat, reduceCtorEq, Int.reduceNeg, Int.reduceAdd, h_args, m_laws_szTermS]
  repeat' (refine boolP_split (fun hq => ?_) (fun hq => ?_) <;> (first | replace hq := dec_iff.1 hq | replace hq := dec_not.1 hq) <;> (try simp (disch := omega) only [go_sem, Nat.reduceAdd, Nat.reduceSub, Nat.reduceLT, Nat.reduceLeDiff, Nat.reduceEqDiff, Nat.reduceBEq, Nat.reduceBneDiff, Nat.reduceMul, ↓reduceIte, Int.reduceToNat, reduceCtorEq, Int.reduceNeg, Int.reduceAdd, h_args, m_laws_szTermS]))
  all_goals omega
theorem szT_Term (x : Tm) : SzT_Term x := szT_Term_of x (szTS_Term_of x.args fun y hy => szT_Term y)
termination_by SizeOf.sizeOf x
decreasing_by exact Tm.lt_of_mem hy
theorem szTS_Term (xs : List Tm) : SzTS_Term xs := szTS_Term_of xs fun x _ => szT_Term x
end Go.Proofs.Ythbkkiogbikbcaa

set_option maxRecDepth 100000
set_option linter.unusedSimpArgs false
set_option linter.unusedVariables false
namespace Go.Proofs.Ythbkkiogbikbcaa
open Go.RowKit

def c_laws_toTerm : SC := (.seq (.reg [⟨(some 1), none, (.boxv 24 2 (.t 0))⟩, ⟨(some 2), none, (.alloc 30 [(.str ⟨#[]⟩), .nil])⟩]) (.seq (.reg [⟨(some 3), none, (.alloc 30 [(.str ⟨#[]⟩), .nil])⟩]) (.seq (.reg [⟨(some 4), none, (.faddr 0 (.t 1))⟩, ⟨(some 5), none, (.load false 1 (.t 4))⟩, ⟨(some 6), none, (.faddr 0 (.t 3))⟩, ⟨none, none, (.store 1 (.t 6) (.t 5))⟩]) (.seq (.reg [⟨(some 7), none, (.faddr 1 (.t 1))⟩, ⟨(some 8), none, (.load false 1 (.t 7))⟩, ⟨(some 9), none, (.call 12 [(.t 8)])⟩, ⟨(some 10), none, (.faddr 1 (.t 3))⟩, ⟨none, none, (.store 1 (.t 10) (.t 9))⟩]) (.seq (.reg [⟨(some 11), none, (.load true 2 (.t 3))⟩, ⟨none, none, (.store 2 (.t 2) (.t 11))⟩]) .ret)))))
theorem k_laws_toTerm : codeOf Try.prog 6 = some ⟨12, c_laws_toTerm, [(.cell 2 true 2)]⟩ := by kernel_rfl
theorem m_laws_toTerm : modes 6 = ⟨[], .asis, none, false⟩ := by unfold modes; rfl
def c_laws_toTermS : SC := (.seq (.reg [⟨(some 2), none, (.mv (.c .nil))⟩]) (.seq (.reg [⟨(some 5), none, (.mv (.t 0))⟩, ⟨(some 6), none, (.len false (.t 5))⟩, ⟨(some 7), none, (.mkslice 30 2 40 [(.str ⟨#[]⟩), .nil] (.t 6))⟩, ⟨(some 3), none, (.mv (.t 7))⟩]) (.seq (.seq (.reg [⟨(some 4), none, (.mv (.c (.int .i64 0)))⟩]) (.block 0 (.loop [1, 0, 0, 1, 1, 0, 0, 0, 0, 0, 0, 0, 0, 0, 0, 0, 0, 0, 0, 0, 0, 0, 0] (.seq (.seq (.reg [⟨(some 8), none, (.mv (.t 4))⟩, ⟨(some 9), none, (.mv (.t 0))⟩, ⟨(some 10), none, (.len false (.t 9))⟩, ⟨(some 11), none, (.bin .lss false (.t 8) (.t 10))⟩]) (.cond (.t 11) .skip (.exit 0))) (.seq (.block 1 (.reg [⟨(some 14), none, (.mv (.t 3))⟩, ⟨(some 15), none, (.mv (.t 4))⟩, ⟨(some 16), none, (.mv (.t 0))⟩, ⟨(some 17), none, (.mv (.t 4))⟩, ⟨(some 18), none, (.iaddr 2 (.t 16) (.t 17))⟩, ⟨(some 19), none, (.load true 2 (.t 18))⟩, ⟨(some 20), none, (.call 6 [(.t 19)])⟩, ⟨(some 21), none, (.iaddr 2 (.t 14) (.t 15))⟩, ⟨none, none, (.store 2 (.t 21) (.t 20))⟩])) (.reg [⟨(some 12), none, (.mv (.t 4))⟩, ⟨(some 13), none, (.bin .add false (.t 12) (.c (.int .i64 1)))⟩, ⟨(some 4), none, (.mv (.t 13))⟩])))))) (.seq (.reg [⟨(some 22), none, (.mv (.t 3))⟩, ⟨(some 2), none, (.mv (.t 22))⟩]) .ret))))
theorem k_laws_toTermS : codeOf Try.prog 12 = some ⟨23, c_laws_toTermS, [(.tmp 2)]⟩ := by kernel_rfl
theorem m_laws_toTermS : modes 12 = ⟨[], .asis, none, false⟩ := by unfold modes; rfl
abbrev ToT_Term (x : Tm) : Prop := x.bulk ≤ 1048576 → E 6 [x.sv] [] = some (x.osv, x.obs)
abbrev ToTS_Term (xs : List Tm) : Prop := xs.length + Tm.sumB xs ≤ 1048576 → E 12 [.arr (xs.map Tm.d)] [] = some (.ref 0, [.row 30 2 (xs.map Tm.o)])
set_option maxHeartbeats 1000000 in
theorem toTS_Term_of (xs : List Tm) (h : ∀ x ∈ xs, ToT_Term x) : ToTS_Term xs := by
  intro hb
  refine E_walk k_laws_toTermS m_laws_toTermS (of_decide_eq_true rfl) ?_
  simp (disch := omega) only [c_laws_toTermS, go_sem, Nat.reduceAdd, Nat.reduceSub, Nat.reduceLT, Nat.reduceLeDiff, Nat.reduceEqDiff, Nat.reduceBEq, Nat.reduceBneDiff, Nat.reduceMul, ↓reduceIte, Int.reduceToNat, reduceCtorEq, Int.reduceNeg, Int.reduceAdd]
  refine go_loop (α := Int) (fun i => ⟨slots 23 0 [(0, .arr (xs.map Tm.d)), (3, .ref 0), (4, .int .i64 i)], [.row 30 2 (fillR Tm.o [.str ⟨#[]⟩, .ow []] xs i.toNat)]⟩) (fun i => ∃ k : Nat, i = k ∧ k ≤ xs.length) (fun i => xs.length - i.toNat) 0 ⟨0, rfl, Nat.zero_le _⟩ (by simp (disch := omega) only [go_sem, Nat.reduceAdd, Nat.reduceSub, Nat.reduceLT, Nat.reduceLeDiff, Nat.reduceEqDiff, Nat.reduceBEq, Nat.reduceBneDiff, Nat.reduceMul, ↓reduceIte, Int.reduceToNat, reduceCtorEq, Int.reduceNeg, Int.reduceAdd, fillR_zero, Int.toNat_zero]) ?_
  · rintro i ⟨k, rfl, hk⟩
    obtain ⟨i, hi⟩ : ∃ i : Int, i = (k : Int) := ⟨_, rfl⟩
    rw [← hi]
    have hn : i.toNat = k := by omega
    have hn1 : (i + 1).toNat = k + 1 := by omega
    rcases Nat.lt_or_ge k xs.length with hlt | hge
    · have hg := get_at Tm.d hlt
      rw [Tm.d_eq] at hg
      have hz := fillR_get Tm.o [.str ⟨#[]⟩, .ow []] hlt
      have hle := Tm.bulk_le xs k hlt
      have hc := h xs[k] (List.getElem_mem hlt) (by omega)
      have hs := fillR_set Tm.o [.str ⟨#[]⟩, .ow []] hlt
      rw [Tm.o_eq] at hs
      simp (disch := omega) only [go_sem, Nat.reduceAdd, Nat.reduceSub, Nat.reduceLT, Nat.reduceLeDiff, Nat.reduceEqDiff, Nat.reduceBEq, Nat.reduceBneDiff, Nat.reduceMul, ↓reduceIte, Int.reduceToNat, reduceCtorEq, Int.reduceNeg, Int.reduceAdd, hn, hg, hc, hz, fillR_len, m_laws_toTerm, Tm.osv, Tm.obs]
      refine ⟨i + 1, ⟨k + 1, by omega, hlt⟩, by omega, ?_⟩
      simp (disch := omega) only [go_sem, Nat.reduceAdd, Nat.reduceSub, Nat.reduceLT, Nat.reduceLeDiff, Nat.reduceEqDiff, Nat.reduceBEq, Nat.reduceBneDiff, Nat.reduceMul, ↓reduceIte, Int.reduceToNat, reduceCtorEq, Int.reduceNeg, Int.reduceAdd, hn1, hs]
    · obtain rfl : k = xs.length := by omega
      simp (disch := omega) only [go_sem, Nat.reduceAdd, Nat.reduceSub, Nat.reduceLT, Nat.reduceLeDiff, Nat.reduceEqDiff, Nat.reduceBEq, Nat.reduceBneDiff, Nat.reduceMul, ↓reduceIte, Int.reduceToNat, reduceCtorEq, Int.reduceNeg, Int.reduceAdd, hn, fillR_end]
set_option maxHeartbeats 1000000 in
theorem toT_Term_of (x : Tm) (h_args : ToTS_Term x.args) : ToT_Term x := by
  intro hb
  have qb := Tm.bulk_eq x
  replace h_args := h_args (by omega)
  refine E_walk k_laws_toTerm m_laws_toTerm (of_decide_eq_true rfl) ?_
  simp (disch := omega) only [c_laws_toTerm, go_sem, Nat.reduceAdd, Nat.reduceSub, Nat.reduceLT, Nat.reduceLeDiff, Nat.reduceEqDiff, Nat.reduceBEq, Nat.reduceBneDiff, Nat.reduceMul, ↓reduceIte, Int.reduceToNat, reduceCtorEq, Int.reduceNeg, Int.reduceAdd, h_args, m_laws_toTermS]
theorem toT_Term (x : Tm) : ToT_Term x := toT_Term_of x (toTS_Term_of x.args fun y hy => toT_Term y)
termination_by SizeOf.sizeOf x
decreasing_by exact Tm.lt_of_mem hy
theorem toTS_Term (xs : List Tm) : ToTS_Term xs := toTS_Term_of xs fun x _ => toT_Term x
end Go.Proofs.Ythbkkiogbikbcaa
