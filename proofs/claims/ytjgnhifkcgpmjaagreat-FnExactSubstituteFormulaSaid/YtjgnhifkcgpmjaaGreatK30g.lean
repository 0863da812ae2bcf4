/-
  This text tells what the free variables of a formula answer in both packages. No condition.
-/
import Derived.Test.YtjgnhifkcgpmjaaGreatK30e
import Derived.Test.YtjgnhifkcgpmjaaGreatK30f
set_option maxRecDepth 100000
set_option linter.unusedSimpArgs false
set_option linter.unusedVariables false
namespace Go.Proofs.YtjgnhifkcgpmjaaGreat
open Go.RowKit

theorem cloneS_E (xs : List ByteArray) (h : xs.length ≤ 1048576) : E 134 [.arr (xs.map fun s => [D.str s])] [] = some (.ref 0, [.row 9 1 (xs.map fun s => [OT.str s])]) := by
  rw [E_extO (g := cloneS) (by unfold modes; rfl)]
  unfold cloneS
  simp only
  rw [dec_t ⟨fun e he => by obtain ⟨s, _, rfl⟩ := List.mem_map.1 he; exact ⟨s, rfl⟩, by simpa using h⟩, cond_true, List.map_map]
  rfl
theorem m_slices_Clone_string_string : modes 134 = ⟨[], .asis, some cloneS, false⟩ := by unfold modes; rfl
theorem vars_of_atom {x : Fm} (h : x.form = true) (ho : x.op = 3) : E 133 [x.atom.sv] [] = some (.ref 0, [.row 9 1 ((insA [] x.atom.vs).map fun s => [OT.str s])]) := by
  have ha := (Fm.form_atom h ho).2.1
  have hn := Tm.atom_nodes ha
  have h1 := variables_of x.atom (collectA_E x.atom ha) (by omega)
  have e : x.atom.vars = insA [] x.atom.vs := srtB_insA _
  rw [e] at h1
  exact h1
/-- The names of a list that are not in another, put behind a third. -/
theorem addA_filter (b acc : List ByteArray) (n : ByteArray) (ns : List ByteArray) : addA acc ((n :: ns).filter fun m => !dec (m ∈ b)) = addA (bif dec (n ∈ b) then acc else addU acc n) (ns.filter fun m => !dec (m ∈ b)) := by
  rw [List.filter_cons]
  cases dec (n ∈ b) with
  | true => rfl
  | false => rfl
def c_impl_gather : SC := (.seq (.reg [⟨(some 4), none, (.boxv 34 5 (.t 1))⟩, ⟨(some 6), none, (.mv (.c .nil))⟩]) (.seq (.seq (.reg [⟨(some 11), none, (.faddr 0 (.t 4))⟩, ⟨(some 12), none, (.load false 1 (.t 11))⟩, ⟨(some 13), none, (.bin .eql false (.t 12) (.c (.int .i64 3)))⟩]) (.cond (.t 13) (.seq (.seq (.reg [⟨(some 14), none, (.faddr 1 (.t 4))⟩, ⟨(some 15), none, (.load true 2 (.t 14))⟩, ⟨(some 16), none, (.call 133 [(.t 15)])⟩, ⟨(some 17), none, (.len false (.t 16))⟩, ⟨(some 18), none, (.mv (.c (.int .i64 0)))⟩]) (.block 0 (.loop [1, 0, 1, 0, 0, 0, 0, 0, 0, 0, 0, 0, 0, 0, 0, 0, 1, 1, 1, 0, 0, 0, 0, 0, 0, 0, 0, 0, 0, 0, 0, 0, 0, 0, 0, 0, 0, 0, 0, 0, 0, 0, 0, 0, 0, 0, 0, 0, 0, 0, 0, 0, 0, 0, 0, 0, 0, 0, 0, 0] (.seq (.reg [⟨(some 19), none, (.bin .lss false (.t 18) (.t 17))⟩]) (.seq (.cond (.t 19) .skip (.exit 0)) (.seq (.block 1 (.seq (.reg [⟨(some 20), none, (.iaddr 1 (.t 16) (.t 18))⟩, ⟨(some 21), none, (.load false 1 (.t 20))⟩, ⟨(some 8), none, (.mv (.t 21))⟩]) (.seq (.reg [⟨(some 22), none, (.mv (.t 2))⟩, ⟨(some 23), none, (.mv (.t 8))⟩, ⟨(some 24), none, (.call 82 [(.t 22), (.t 23)])⟩, ⟨(some 25), none, (.un .not (.t 24))⟩, ⟨(some 26), none, (.mv (.t 25))⟩, ⟨(some 27), (some (26, true)), (.mv (.t 0))⟩, ⟨(some 28), (some (26, true)), (.mv (.t 8))⟩, ⟨(some 29), (some (26, true)), (.call 82 [(.t 27), (.t 28)])⟩, ⟨(some 30), (some (26, true)), (.un .not (.t 29))⟩, ⟨(some 31), none, (.pick (.t 26) (.t 30) (.c (.bool false)))⟩]) (.cond (.t 31) (.reg [⟨(some 32), none, (.mv (.t 0))⟩, ⟨(some 33), none, (.mv (.t 8))⟩, ⟨(some 34), none, (.mkrow 9 1 [(.str ⟨#[]⟩)] 1 [(0, (.t 33))])⟩, ⟨(some 35), none, (.append 9 1 16 [(.str ⟨#[]⟩)] (.t 32) (.t 34))⟩, ⟨(some 0), none, (.mv (.t 35))⟩]) .skip)))) (.reg [⟨(some 36), none, (.bin .add false (.t 18) (.c (.int .i64 1)))⟩, ⟨(some 18), none, (.mv (.t 36))⟩]))))))) (.seq (.reg [⟨(some 37), none, (.mv (.t 0))⟩, ⟨(some 6), none, (.mv (.t 37))⟩]) .ret)) .skip)) (.seq (.seq (.reg [⟨(some 38), none, (.faddr 0 (.t 4))⟩, ⟨(some 39), none, (.load false 1 (.t 38))⟩, ⟨(some 40), none, (.call 81 [(.t 39)])⟩]) (.cond (.t 40) (.dreg [[], [0], [], [2], [3, 2], [1, 0, 4, 3, 2], [5, 1, 0, 4, 3, 2]] [⟨(some 41), none, (.mv (.t 2))⟩, ⟨(some 42), none, (.call 134 [(.t 41)])⟩, ⟨(some 43), none, (.faddr 3 (.t 4))⟩, ⟨(some 44), none, (.load false 1 (.t 43))⟩, ⟨(some 45), none, (.mkrow 9 1 [(.str ⟨#[]⟩)] 1 [(0, (.t 44))])⟩, ⟨(some 46), none, (.append 9 1 16 [(.str ⟨#[]⟩)] (.t 42) (.t 45))⟩, ⟨(some 2), none, (.mv (.t 46))⟩]) .skip)) (.seq (.seq (.reg [⟨(some 47), none, (.faddr 4 (.t 4))⟩, ⟨(some 48), none, (.load false 1 (.t 47))⟩, ⟨(some 49), none, (.len false (.t 48))⟩, ⟨(some 50), none, (.mv (.c (.int .i64 0)))⟩]) (.block 2 (.loop [1, 0, 1, 0, 0, 0, 0, 0, 0, 0, 0, 0, 0, 0, 0, 0, 0, 0, 0, 0, 0, 0, 0, 0, 0, 0, 0, 0, 0, 0, 0, 0, 0, 0, 0, 0, 0, 0, 0, 0, 0, 0, 0, 0, 0, 0, 0, 0, 1, 1, 1, 0, 0, 0, 0, 0, 0, 0, 0, 0] (.seq (.reg [⟨(some 51), none, (.bin .lss false (.t 50) (.t 49))⟩]) (.seq (.cond (.t 51) .skip (.exit 2)) (.seq (.block 3 (.seq (.reg [⟨(some 52), none, (.iaddr 5 (.t 48) (.t 50))⟩, ⟨(some 53), none, (.load true 5 (.t 52))⟩, ⟨(some 10), none, (.alloc 34 [(.int .i64 0), (.str ⟨#[]⟩), .nil, (.str ⟨#[]⟩), .nil])⟩, ⟨none, none, (.store 5 (.t 10) (.t 53))⟩]) (.reg [⟨(some 54), none, (.mv (.t 0))⟩, ⟨(some 55), none, (.load true 5 (.t 10))⟩, ⟨(some 56), none, (.mv (.t 2))⟩, ⟨(some 57), none, (.call 105 [(.t 54), (.t 55), (.t 56)])⟩, ⟨(some 0), none, (.mv (.t 57))⟩]))) (.reg [⟨(some 58), none, (.bin .add false (.t 50) (.c (.int .i64 1)))⟩, ⟨(some 50), none, (.mv (.t 58))⟩]))))))) (.seq (.reg [⟨(some 59), none, (.mv (.t 0))⟩, ⟨(some 6), none, (.mv (.t 59))⟩]) .ret)))))
theorem k_impl_gather : codeOf Tryz.prog 105 = some ⟨60, c_impl_gather, [(.tmp 6)]⟩ := by kernel_rfl
theorem m_impl_gather : modes 105 = ⟨[true], .asis, none, false⟩ := by unfold modes; rfl

def c_impl_free : SC := (.seq (.reg [⟨(some 1), none, (.boxv 34 5 (.t 0))⟩, ⟨(some 2), none, (.mv (.c .nil))⟩]) (.seq (.reg [⟨(some 4), none, (.mkrow 9 1 [(.str ⟨#[]⟩)] 0 [])⟩, ⟨(some 5), none, (.load true 5 (.t 1))⟩, ⟨(some 6), none, (.call 105 [(.t 4), (.t 5), (.c .nil)])⟩, ⟨(some 3), none, (.mv (.t 6))⟩]) (.seq (.reg [⟨(some 7), none, (.mv (.t 3))⟩, ⟨(some 8), none, (.call 106 [(.t 7)])⟩]) (.seq (.reg [⟨(some 9), none, (.mv (.t 3))⟩, ⟨(some 2), none, (.mv (.t 9))⟩]) .ret))))
theorem k_impl_free : codeOf Tryz.prog 62 = some ⟨10, c_impl_free, [(.tmp 2)]⟩ := by kernel_rfl
theorem m_impl_free : modes 62 = ⟨[], .asis, none, false⟩ := by unfold modes; rfl

def c_spec_l8Into : SC := (.seq (.reg [⟨(some 4), none, (.boxv 34 5 (.t 1))⟩, ⟨(some 6), none, (.mv (.c .nil))⟩]) (.seq (.seq (.reg [⟨(some 10), none, (.faddr 0 (.t 4))⟩, ⟨(some 11), none, (.load false 1 (.t 10))⟩, ⟨(some 12), none, (.bin .eql false (.t 11) (.c (.int .i64 3)))⟩]) (.cond (.t 12) (.seq (.reg [⟨(some 13), none, (.faddr 1 (.t 4))⟩, ⟨(some 14), none, (.load true 2 (.t 13))⟩, ⟨(some 15), none, (.call 74 [(.t 14)])⟩, ⟨(some 7), none, (.mv (.t 15))⟩]) (.seq (.reg [⟨(some 8), none, (.mv (.c (.int .i64 0)))⟩]) (.block 0 (.loop [1, 0, 1, 0, 1, 0, 0, 1, 1, 0, 0, 0, 0, 0, 0, 0, 0, 0, 0, 0, 0, 0, 0, 0, 0, 0, 0, 0, 0, 0, 0, 0, 0, 0, 0, 0, 0, 0, 0, 0, 0, 0, 0, 0, 0, 0, 0, 0, 0, 0, 0, 0, 0, 0, 0, 0, 0, 0, 0, 0, 0, 0, 0, 0, 0, 0] (.seq (.seq (.reg [⟨(some 16), none, (.mv (.t 8))⟩, ⟨(some 17), none, (.mv (.t 7))⟩, ⟨(some 18), none, (.len false (.t 17))⟩, ⟨(some 19), none, (.bin .lss false (.t 16) (.t 18))⟩]) (.cond (.t 19) .skip (.exit 0))) (.seq (.block 1 (.seq (.reg [⟨(some 22), none, (.mv (.t 2))⟩, ⟨(some 23), none, (.mv (.t 7))⟩, ⟨(some 24), none, (.mv (.t 8))⟩, ⟨(some 25), none, (.iaddr 1 (.t 23) (.t 24))⟩, ⟨(some 26), none, (.load false 1 (.t 25))⟩, ⟨(some 27), none, (.call 73 [(.t 22), (.t 26)])⟩, ⟨(some 28), none, (.un .not (.t 27))⟩]) (.cond (.t 28) (.reg [⟨(some 29), none, (.mv (.t 0))⟩, ⟨(some 30), none, (.mv (.t 7))⟩, ⟨(some 31), none, (.mv (.t 8))⟩, ⟨(some 32), none, (.iaddr 1 (.t 30) (.t 31))⟩, ⟨(some 33), none, (.load false 1 (.t 32))⟩, ⟨(some 34), none, (.call 130 [(.t 29), (.t 33)])⟩, ⟨(some 0), none, (.mv (.t 34))⟩]) .skip))) (.reg [⟨(some 20), none, (.mv (.t 8))⟩, ⟨(some 21), none, (.bin .add false (.t 20) (.c (.int .i64 1)))⟩, ⟨(some 8), none, (.mv (.t 21))⟩]))))))) .skip)) (.seq (.seq (.reg [⟨(some 35), none, (.faddr 0 (.t 4))⟩, ⟨(some 36), none, (.load false 1 (.t 35))⟩, ⟨(some 37), none, (.bin .eql false (.t 36) (.c (.int .i64 8)))⟩, ⟨(some 38), none, (.mv (.t 37))⟩, ⟨(some 39), (some (38, false)), (.faddr 0 (.t 4))⟩, ⟨(some 40), (some (38, false)), (.load false 1 (.t 39))⟩, ⟨(some 41), (some (38, false)), (.bin .eql false (.t 40) (.c (.int .i64 9)))⟩, ⟨(some 42), none, (.pick (.t 38) (.c (.bool true)) (.t 41))⟩]) (.cond (.t 42) (.dreg [[], [], [0, 1], [], [3], [4, 3], [2, 0, 1, 5, 4, 3], [6, 2, 0, 1, 5, 4, 3]] [⟨(some 43), none, (.mkrow 9 1 [(.str ⟨#[]⟩)] 0 [])⟩, ⟨(some 44), none, (.mv (.t 2))⟩, ⟨(some 45), none, (.append 9 1 16 [(.str ⟨#[]⟩)] (.t 43) (.t 44))⟩, ⟨(some 46), none, (.faddr 3 (.t 4))⟩, ⟨(some 47), none, (.load false 1 (.t 46))⟩, ⟨(some 48), none, (.mkrow 9 1 [(.str ⟨#[]⟩)] 1 [(0, (.t 47))])⟩, ⟨(some 49), none, (.append 9 1 16 [(.str ⟨#[]⟩)] (.t 45) (.t 48))⟩, ⟨(some 2), none, (.mv (.t 49))⟩]) .skip)) (.seq (.seq (.reg [⟨(some 9), none, (.mv (.c (.int .i64 0)))⟩]) (.block 2 (.loop [1, 0, 1, 0, 1, 0, 0, 0, 0, 1, 0, 0, 0, 0, 0, 0, 0, 0, 0, 0, 0, 0, 0, 0, 0, 0, 0, 0, 0, 0, 0, 0, 0, 0, 0, 0, 0, 0, 0, 0, 0, 0, 0, 0, 0, 0, 0, 0, 0, 0, 0, 0, 0, 0, 0, 0, 0, 0, 0, 0, 0, 0, 0, 0, 0, 0] (.seq (.seq (.reg [⟨(some 50), none, (.mv (.t 9))⟩, ⟨(some 51), none, (.faddr 4 (.t 4))⟩, ⟨(some 52), none, (.load false 1 (.t 51))⟩, ⟨(some 53), none, (.len false (.t 52))⟩, ⟨(some 54), none, (.bin .lss false (.t 50) (.t 53))⟩]) (.cond (.t 54) .skip (.exit 2))) (.seq (.block 3 (.reg [⟨(some 57), none, (.mv (.t 0))⟩, ⟨(some 58), none, (.faddr 4 (.t 4))⟩, ⟨(some 59), none, (.load false 1 (.t 58))⟩, ⟨(some 60), none, (.mv (.t 9))⟩, ⟨(some 61), none, (.iaddr 5 (.t 59) (.t 60))⟩, ⟨(some 62), none, (.load true 5 (.t 61))⟩, ⟨(some 63), none, (.mv (.t 2))⟩, ⟨(some 64), none, (.call 98 [(.t 57), (.t 62), (.t 63)])⟩, ⟨(some 0), none, (.mv (.t 64))⟩])) (.reg [⟨(some 55), none, (.mv (.t 9))⟩, ⟨(some 56), none, (.bin .add false (.t 55) (.c (.int .i64 1)))⟩, ⟨(some 9), none, (.mv (.t 56))⟩])))))) (.seq (.reg [⟨(some 65), none, (.mv (.t 0))⟩, ⟨(some 6), none, (.mv (.t 65))⟩]) .ret)))))
theorem k_spec_l8Into : codeOf Tryz.prog 98 = some ⟨66, c_spec_l8Into, [(.tmp 6)]⟩ := by kernel_rfl
theorem m_spec_l8Into : modes 98 = ⟨[], .asis, none, false⟩ := by unfold modes; rfl

def c_spec_l8Free : SC := (.seq (.reg [⟨(some 1), none, (.boxv 34 5 (.t 0))⟩, ⟨(some 2), none, (.mv (.c .nil))⟩]) (.seq (.reg [⟨(some 3), none, (.mkrow 9 1 [(.str ⟨#[]⟩)] 0 [])⟩, ⟨(some 4), none, (.load true 5 (.t 1))⟩, ⟨(some 5), none, (.mkrow 9 1 [(.str ⟨#[]⟩)] 0 [])⟩, ⟨(some 6), none, (.call 98 [(.t 3), (.t 4), (.t 5)])⟩, ⟨(some 2), none, (.mv (.t 6))⟩]) .ret))
theorem k_spec_l8Free : codeOf Tryz.prog 57 = some ⟨7, c_spec_l8Free, [(.tmp 2)]⟩ := by kernel_rfl
theorem m_spec_l8Free : modes 57 = ⟨[], .asis, none, false⟩ := by unfold modes; rfl

abbrev GatC (x : Fm) : Prop := ∀ l b : List ByteArray, l.length + x.vn ≤ 1048576 → b.length + x.nodes ≤ 1048576 → E 105 [.ref 0, x.sv, .arr (b.map fun s => [D.str s])] [.row 9 1 (l.map fun s => [OT.str s])] = some ((bif dec (l.length < (addA l (x.fv b)).length) then .ref 1 else .ref 0), (bif dec (l.length < (addA l (x.fv b)).length) then [.gone, .row 9 1 ((addA l (x.fv b)).map fun s => [OT.str s])] else [.row 9 1 ((addA l (x.fv b)).map fun s => [OT.str s])]))
set_option maxHeartbeats 8000000 in
theorem gather_of (x : Fm) (hx : x.forms = true) (ih : ∀ y ∈ x.parts, GatC y) : GatC x := by
  intro l b hn hb
  have hfo := Fm.forms_form hx
  have hvn := Fm.vn_eq x
  have hnd := Fm.nodes_eq x
  have hpl := Fm.length_le x.parts
  have hfv := Fm.fv_eq x b
  have hat := Fm.atom_le hfo
  have hgl : dec (l.length < l.length) = false := dec_f (by omega)
  have hxs : x.sv = .agg [.int .i64 x.op, .str x.atom.name, .arr (x.atom.args.map Tm.d), .str x.var, .arr (x.parts.map Fm.d)] := rfl
  have has : x.atom.sv = .agg [.str x.atom.name, .arr (x.atom.args.map Tm.d)] := rfl
  cases ho : dec (x.op = 3) with
  | true =>
    rw [ho] at hfv
    simp only [cond_true] at hfv
    have hv := vars_of_atom hfo (dec_iff.1 ho)
    have hil := insA_len x.atom.vs []
    have hvl := Tm.vs_len x.atom
    simp only [List.length_nil] at hil
    obtain ⟨ns, hns⟩ : ∃ ns, ns = insA [] x.atom.vs := ⟨_, rfl⟩
    rw [← hns] at hv hfv hil
    rw [hfv]
    refine E_walk k_impl_gather m_impl_gather (of_decide_eq_true rfl) ?_
    simp (disch := omega) only [c_impl_gather, go_sem, go_cond, Nat.reduceAdd, Nat.reduceSub, Nat.reduceLT, Nat.reduceLeDiff, Nat.reduceEqDiff, Nat.reduceBEq, Nat.reduceBneDiff, Nat.reduceMul, ↓reduceIte, Int.reduceToNat, reduceCtorEq, Int.reduceNeg, Int.reduceAdd, ho, hv, m_impl_variables]
    refine go_loop (α := Int × (List ByteArray)) (fun a => ⟨slots 60 0 [(0, (bif dec (l.length < (a.2).length) then .ref 1 else .ref 0)), (2, .arr (b.map fun s => [D.str s])), (16, (bif dec (l.length < (a.2).length) then .ref 2 else .ref 1)), (17, .int .i64 ns.length), (18, .int .i64 (a.1))], (bif dec (l.length < (a.2).length) then [.gone, .row 9 1 ((a.2).map fun s => [OT.str s]), .row 9 1 (ns.map fun s => [OT.str s])] else [.row 9 1 ((a.2).map fun s => [OT.str s]), .row 9 1 (ns.map fun s => [OT.str s])])⟩) (fun a => ∃ k : Nat, a.1 = k ∧ k ≤ (ns).length ∧ addA (a.2) ((ns.drop k).filter fun m => !dec (m ∈ b)) = addA l (ns.filter fun m => !dec (m ∈ b)) ∧ (a.2).length + (ns.length - k) ≤ 1048576 ∧ l.length ≤ (a.2).length) (fun a => (ns).length - (a.1).toNat) (0, l) ⟨0, rfl, Nat.zero_le _, by rw [List.drop_zero], by dsimp only; omega, Nat.le_refl _⟩ (by simp (disch := omega) only [go_sem, go_cond, Nat.reduceAdd, Nat.reduceSub, Nat.reduceLT, Nat.reduceLeDiff, Nat.reduceEqDiff, Nat.reduceBEq, Nat.reduceBneDiff, Nat.reduceMul, ↓reduceIte, Int.reduceToNat, reduceCtorEq, Int.reduceNeg, Int.reduceAdd, hgl]) ?_
    rintro ⟨i, acc⟩ ⟨k, hi, hk, hR⟩
    dsimp only at hi hR
    have hni : i.toNat = k := by omega
    have hni1 : (i + 1).toNat = k + 1 := by omega
    rcases Nat.lt_or_ge k (ns).length with hlt | hge
    · have hg : (ns.map fun s => [OT.str s])[k]? = some [OT.str ns[k]] := by rw [List.getElem?_map, List.getElem?_eq_getElem hlt]; rfl
      obtain ⟨hR1, hR2, hR3⟩ := hR
      rw [List.drop_eq_getElem_cons hlt, addA_filter] at hR1
      have c1 := containsS_E b ns[k] (by omega)
      have c2 := containsS_E acc ns[k] (by omega)
      rcases Nat.lt_or_ge l.length acc.length with q1 | q1
      all_goals
        cases hq : dec (ns[k] ∈ b) with
        | true =>
          rw [hq] at c1 hR1
          simp only [cond_true] at hR1
          simp (disch := omega) only [go_sem, go_cond, Nat.reduceAdd, Nat.reduceSub, Nat.reduceLT, Nat.reduceLeDiff, Nat.reduceEqDiff, Nat.reduceBEq, Nat.reduceBneDiff, Nat.reduceMul, ↓reduceIte, Int.reduceToNat, reduceCtorEq, Int.reduceNeg, Int.reduceAdd, hni, hg, c1, c2, m_slices_Contains_string_string]
          refine ⟨(i + 1, acc), ⟨k + 1, by dsimp only; omega, hlt, hR1, by dsimp only; omega, by dsimp only; omega⟩, by dsimp only; omega, ?_⟩
          first | done | simp (disch := omega) only [go_sem, go_cond, Nat.reduceAdd, Nat.reduceSub, Nat.reduceLT, Nat.reduceLeDiff, Nat.reduceEqDiff, Nat.reduceBEq, Nat.reduceBneDiff, Nat.reduceMul, ↓reduceIte, Int.reduceToNat, reduceCtorEq, Int.reduceNeg, Int.reduceAdd]
        | false =>
          rw [hq] at c1 hR1
          simp only [cond_false] at hR1
          cases hm : dec (ns[k] ∈ acc) with
          | true =>
            have e2 : addU acc ns[k] = acc := by unfold addU; rw [hm]; rfl
            rw [hm] at c2
            rw [e2] at hR1
            simp (disch := omega) only [go_sem, go_cond, Nat.reduceAdd, Nat.reduceSub, Nat.reduceLT, Nat.reduceLeDiff, Nat.reduceEqDiff, Nat.reduceBEq, Nat.reduceBneDiff, Nat.reduceMul, ↓reduceIte, Int.reduceToNat, reduceCtorEq, Int.reduceNeg, Int.reduceAdd, hni, hg, c1, c2, m_slices_Contains_string_string]
            refine ⟨(i + 1, acc), ⟨k + 1, by dsimp only; omega, hlt, hR1, by dsimp only; omega, by dsimp only; omega⟩, by dsimp only; omega, ?_⟩
            first | done | simp (disch := omega) only [go_sem, go_cond, Nat.reduceAdd, Nat.reduceSub, Nat.reduceLT, Nat.reduceLeDiff, Nat.reduceEqDiff, Nat.reduceBEq, Nat.reduceBneDiff, Nat.reduceMul, ↓reduceIte, Int.reduceToNat, reduceCtorEq, Int.reduceNeg, Int.reduceAdd]
          | false =>
            have e2 : addU acc ns[k] = acc ++ [ns[k]] := by unfold addU; rw [hm]; rfl
            have hl1 : (acc.map fun s => [OT.str s]) ++ [[OT.str ns[k]]] = (acc ++ [ns[k]]).map fun s => [OT.str s] := by simp
            have q2 : dec (l.length < (acc ++ [ns[k]]).length) = true := dec_t (by simp; omega)
            rw [hm] at c2
            rw [e2] at hR1
            simp (disch := omega) only [go_sem, go_cond, Nat.reduceAdd, Nat.reduceSub, Nat.reduceLT, Nat.reduceLeDiff, Nat.reduceEqDiff, Nat.reduceBEq, Nat.reduceBneDiff, Nat.reduceMul, ↓reduceIte, Int.reduceToNat, reduceCtorEq, Int.reduceNeg, Int.reduceAdd, hni, hg, c1, c2, hl1, m_slices_Contains_string_string]
            refine ⟨(i + 1, acc ++ [ns[k]]), ⟨k + 1, by dsimp only; omega, hlt, hR1, by simp; omega, by simp; omega⟩, by dsimp only; omega, ?_⟩
            first | done | simp (disch := omega) only [go_sem, go_cond, Nat.reduceAdd, Nat.reduceSub, Nat.reduceLT, Nat.reduceLeDiff, Nat.reduceEqDiff, Nat.reduceBEq, Nat.reduceBneDiff, Nat.reduceMul, ↓reduceIte, Int.reduceToNat, reduceCtorEq, Int.reduceNeg, Int.reduceAdd, q2, hl1]
    · rw [List.drop_eq_nil_of_le hge] at hR
      obtain ⟨hR1, hR2, hR3⟩ := hR
      have hR1 : acc = _ := hR1
      rw [← hR1]
      rcases Nat.lt_or_ge l.length acc.length with q1 | q1
      · simp (disch := omega) only [go_sem, go_cond, Nat.reduceAdd, Nat.reduceSub, Nat.reduceLT, Nat.reduceLeDiff, Nat.reduceEqDiff, Nat.reduceBEq, Nat.reduceBneDiff, Nat.reduceMul, ↓reduceIte, Int.reduceToNat, reduceCtorEq, Int.reduceNeg, Int.reduceAdd, hni]
      · simp (disch := omega) only [go_sem, go_cond, Nat.reduceAdd, Nat.reduceSub, Nat.reduceLT, Nat.reduceLeDiff, Nat.reduceEqDiff, Nat.reduceBEq, Nat.reduceBneDiff, Nat.reduceMul, ↓reduceIte, Int.reduceToNat, reduceCtorEq, Int.reduceNeg, Int.reduceAdd, hni]
  | false =>
    rw [ho] at hfv
    simp only [cond_false] at hfv
    have hu := isQuantifier_E x.op
    cases hq : qB x.op with
    | false =>
      rw [hq] at hfv
      simp only [cond_false] at hfv
      rw [hfv]
      unfold qB at hq
      rw [hq] at hu
      obtain ⟨b', hb'⟩ : ∃ b', b' = b := ⟨_, rfl⟩
      have hbl : b'.length ≤ b.length + 1 := by rw [hb']; omega
      rw [← hb']
      refine E_walk k_impl_gather m_impl_gather (of_decide_eq_true rfl) ?_
      simp (disch := omega) only [c_impl_gather, go_sem, go_cond, Nat.reduceAdd, Nat.reduceSub, Nat.reduceLT, Nat.reduceLeDiff, Nat.reduceEqDiff, Nat.reduceBEq, Nat.reduceBneDiff, Nat.reduceMul, ↓reduceIte, Int.reduceToNat, reduceCtorEq, Int.reduceNeg, Int.reduceAdd, ho, hu, m_impl_isQuantifier]
      refine go_loop (α := Int × (List ByteArray)) (fun a => ⟨slots 60 0 [(0, (bif dec (l.length < (a.2).length) then .ref 1 else .ref 0)), (2, .arr (b'.map fun s => [D.str s])), (48, .arr (x.parts.map Fm.d)), (49, .int .i64 x.parts.length), (50, .int .i64 (a.1))], (bif dec (l.length < (a.2).length) then [.gone, .row 9 1 ((a.2).map fun s => [OT.str s])] else [.row 9 1 ((a.2).map fun s => [OT.str s])])⟩) (fun a => ∃ k : Nat, a.1 = k ∧ k ≤ (x.parts).length ∧ addA (a.2) (Fm.fvL (x.parts.drop k) b') = addA l (Fm.fvL x.parts b') ∧ (a.2).length + Fm.vnS (x.parts.drop k) ≤ 1048576 ∧ l.length ≤ (a.2).length) (fun a => (x.parts).length - (a.1).toNat) (0, l) ⟨0, rfl, Nat.zero_le _, by rw [List.drop_zero], by rw [List.drop_zero]; dsimp only; omega, Nat.le_refl _⟩ (by simp (disch := omega) only [go_sem, go_cond, Nat.reduceAdd, Nat.reduceSub, Nat.reduceLT, Nat.reduceLeDiff, Nat.reduceEqDiff, Nat.reduceBEq, Nat.reduceBneDiff, Nat.reduceMul, ↓reduceIte, Int.reduceToNat, reduceCtorEq, Int.reduceNeg, Int.reduceAdd, hgl]) ?_
      rintro ⟨i, acc⟩ ⟨k, hi, hk, hR⟩
      dsimp only at hi hR
      have hni : i.toNat = k := by omega
      have hni1 : (i + 1).toNat = k + 1 := by omega
      rcases Nat.lt_or_ge k (x.parts).length with hlt | hge
      · have hg := get_at Fm.d hlt
        rw [Fm.d_eq] at hg
        obtain ⟨hR1, hR2, hR3⟩ := hR
        rw [List.drop_eq_getElem_cons hlt, Fm.fvL, addA_app] at hR1
        rw [List.drop_eq_getElem_cons hlt, Fm.vnS] at hR2
        have hnm := Fm.nodes_le x.parts k hlt
        have hc := ih x.parts[k] (List.getElem_mem hlt) acc b' (by omega) (by omega)
        have hlen := addA_len (x.parts[k].fv b') acc
        have hgr := addA_grow (x.parts[k].fv b') acc
        have hvl := Fm.fv_len x.parts[k] b'
        obtain ⟨acc2, ha2⟩ : ∃ a, a = addA acc (x.parts[k].fv b') := ⟨_, rfl⟩
        rw [← ha2] at hc hlen hgr hR1
        rcases Nat.lt_or_ge l.length acc.length with q1 | q1 <;> rcases Nat.lt_or_ge acc.length acc2.length with q2 | q2
        all_goals
          first
            | rw [dec_t q2] at hc
            | rw [dec_f (Nat.not_lt.2 q2)] at hc
          simp only [cond_true, cond_false] at hc
          simp (disch := omega) only [go_sem, go_cond, Nat.reduceAdd, Nat.reduceSub, Nat.reduceLT, Nat.reduceLeDiff, Nat.reduceEqDiff, Nat.reduceBEq, Nat.reduceBneDiff, Nat.reduceMul, ↓reduceIte, Int.reduceToNat, reduceCtorEq, Int.reduceNeg, Int.reduceAdd, hni, hg, hc, m_impl_gather]
          refine ⟨(i + 1, acc2), ⟨k + 1, by dsimp only; omega, hlt, hR1, by dsimp only; omega, by dsimp only; omega⟩, by dsimp only; omega, ?_⟩
          first | done | simp (disch := omega) only [go_sem, go_cond, Nat.reduceAdd, Nat.reduceSub, Nat.reduceLT, Nat.reduceLeDiff, Nat.reduceEqDiff, Nat.reduceBEq, Nat.reduceBneDiff, Nat.reduceMul, ↓reduceIte, Int.reduceToNat, reduceCtorEq, Int.reduceNeg, Int.reduceAdd]
      · rw [List.drop_eq_nil_of_le hge, Fm.fvL] at hR
        obtain ⟨hR1, hR2, hR3⟩ := hR
        have hR1 : acc = _ := hR1
        rw [← hR1]
        rcases Nat.lt_or_ge l.length acc.length with q1 | q1
        · simp (disch := omega) only [go_sem, go_cond, Nat.reduceAdd, Nat.reduceSub, Nat.reduceLT, Nat.reduceLeDiff, Nat.reduceEqDiff, Nat.reduceBEq, Nat.reduceBneDiff, Nat.reduceMul, ↓reduceIte, Int.reduceToNat, reduceCtorEq, Int.reduceNeg, Int.reduceAdd, hni]
        · simp (disch := omega) only [go_sem, go_cond, Nat.reduceAdd, Nat.reduceSub, Nat.reduceLT, Nat.reduceLeDiff, Nat.reduceEqDiff, Nat.reduceBEq, Nat.reduceBneDiff, Nat.reduceMul, ↓reduceIte, Int.reduceToNat, reduceCtorEq, Int.reduceNeg, Int.reduceAdd, hni]
      
    | true =>
      rw [hq] at hfv
      simp only [cond_true] at hfv
      rw [hfv]
      unfold qB at hq
      rw [hq] at hu
      have hcl := cloneS_E b (by omega)
      have hl1 : (b.map fun s => [OT.str s]) ++ [[OT.str x.var]] = (b ++ [x.var]).map fun s => [OT.str s] := by simp
      obtain ⟨b', hb'⟩ : ∃ b', b' = b ++ [x.var] := ⟨_, rfl⟩
      have hbl : b'.length ≤ b.length + 1 := by rw [hb']; simp
      rw [← hb'] at hl1
      rw [← hb']
      refine E_walk k_impl_gather m_impl_gather (of_decide_eq_true rfl) ?_
      simp (disch := omega) only [c_impl_gather, go_sem, go_cond, Nat.reduceAdd, Nat.reduceSub, Nat.reduceLT, Nat.reduceLeDiff, Nat.reduceEqDiff, Nat.reduceBEq, Nat.reduceBneDiff, Nat.reduceMul, ↓reduceIte, Int.reduceToNat, reduceCtorEq, Int.reduceNeg, Int.reduceAdd, ho, hu, hcl, hl1, m_impl_isQuantifier, m_slices_Clone_string_string]
      refine go_loop (α := Int × (List ByteArray)) (fun a => ⟨slots 60 0 [(0, (bif dec (l.length < (a.2).length) then .ref 1 else .ref 0)), (2, (bif dec (l.length < (a.2).length) then .ref 2 else .ref 1)), (48, .arr (x.parts.map Fm.d)), (49, .int .i64 x.parts.length), (50, .int .i64 (a.1))], (bif dec (l.length < (a.2).length) then [.gone, .row 9 1 ((a.2).map fun s => [OT.str s]), .row 9 1 (b'.map fun s => [OT.str s])] else [.row 9 1 ((a.2).map fun s => [OT.str s]), .row 9 1 (b'.map fun s => [OT.str s])])⟩) (fun a => ∃ k : Nat, a.1 = k ∧ k ≤ (x.parts).length ∧ addA (a.2) (Fm.fvL (x.parts.drop k) b') = addA l (Fm.fvL x.parts b') ∧ (a.2).length + Fm.vnS (x.parts.drop k) ≤ 1048576 ∧ l.length ≤ (a.2).length) (fun a => (x.parts).length - (a.1).toNat) (0, l) ⟨0, rfl, Nat.zero_le _, by rw [List.drop_zero], by rw [List.drop_zero]; dsimp only; omega, Nat.le_refl _⟩ (by simp (disch := omega) only [go_sem, go_cond, Nat.reduceAdd, Nat.reduceSub, Nat.reduceLT, Nat.reduceLeDiff, Nat.reduceEqDiff, Nat.reduceBEq, Nat.reduceBneDiff, Nat.reduceMul, ↓reduceIte, Int.reduceToNat, reduceCtorEq, Int.reduceNeg, Int.reduceAdd, hgl]) ?_
      rintro ⟨i, acc⟩ ⟨k, hi, hk, hR⟩
      dsimp only at hi hR
      have hni : i.toNat = k := by omega
      have hni1 : (i + 1).toNat = k + 1 := by omega
      rcases Nat.lt_or_ge k (x.parts).length with hlt | hge
      · have hg := get_at Fm.d hlt
        rw [Fm.d_eq] at hg
        obtain ⟨hR1, hR2, hR3⟩ := hR
        rw [List.drop_eq_getElem_cons hlt, Fm.fvL, addA_app] at hR1
        rw [List.drop_eq_getElem_cons hlt, Fm.vnS] at hR2
        have hnm := Fm.nodes_le x.parts k hlt
        have hc := ih x.parts[k] (List.getElem_mem hlt) acc b' (by omega) (by omega)
        have hlen := addA_len (x.parts[k].fv b') acc
        have hgr := addA_grow (x.parts[k].fv b') acc
        have hvl := Fm.fv_len x.parts[k] b'
        obtain ⟨acc2, ha2⟩ : ∃ a, a = addA acc (x.parts[k].fv b') := ⟨_, rfl⟩
        rw [← ha2] at hc hlen hgr hR1
        rcases Nat.lt_or_ge l.length acc.length with q1 | q1 <;> rcases Nat.lt_or_ge acc.length acc2.length with q2 | q2
        all_goals
          first
            | rw [dec_t q2] at hc
            | rw [dec_f (Nat.not_lt.2 q2)] at hc
          simp only [cond_true, cond_false] at hc
          simp (disch := omega) only [go_sem, go_cond, Nat.reduceAdd, Nat.reduceSub, Nat.reduceLT, Nat.reduceLeDiff, Nat.reduceEqDiff, Nat.reduceBEq, Nat.reduceBneDiff, Nat.reduceMul, ↓reduceIte, Int.reduceToNat, reduceCtorEq, Int.reduceNeg, Int.reduceAdd, hni, hg, hc, m_impl_gather]
          refine ⟨(i + 1, acc2), ⟨k + 1, by dsimp only; omega, hlt, hR1, by dsimp only; omega, by dsimp only; omega⟩, by dsimp only; omega, ?_⟩
          first | done | simp (disch := omega) only [go_sem, go_cond, Nat.reduceAdd, Nat.reduceSub, Nat.reduceLT, Nat.reduceLeDiff, Nat.reduceEqDiff, Nat.reduceBEq, Nat.reduceBneDiff, Nat.reduceMul, ↓reduceIte, Int.reduceToNat, reduceCtorEq, Int.reduceNeg, Int.reduceAdd]
      · rw [List.drop_eq_nil_of_le hge, Fm.fvL] at hR
        obtain ⟨hR1, hR2, hR3⟩ := hR
        have hR1 : acc = _ := hR1
        rw [← hR1]
        rcases Nat.lt_or_ge l.length acc.length with q1 | q1
        · simp (disch := omega) only [go_sem, go_cond, Nat.reduceAdd, Nat.reduceSub, Nat.reduceLT, Nat.reduceLeDiff, Nat.reduceEqDiff, Nat.reduceBEq, Nat.reduceBneDiff, Nat.reduceMul, ↓reduceIte, Int.reduceToNat, reduceCtorEq, Int.reduceNeg, Int.reduceAdd, hni]
        · simp (disch := omega) only [go_sem, go_cond, Nat.reduceAdd, Nat.reduceSub, Nat.reduceLT, Nat.reduceLeDiff, Nat.reduceEqDiff, Nat.reduceBEq, Nat.reduceBneDiff, Nat.reduceMul, ↓reduceIte, Int.reduceToNat, reduceCtorEq, Int.reduceNeg, Int.reduceAdd, hni]
      
theorem gather_E (x : Fm) (hx : x.forms = true) : GatC x :=
  gather_of x hx fun y hy => gather_E y (Fm.forms_part hx hy)
termination_by SizeOf.sizeOf x
decreasing_by exact Fm.lt_of_mem hy
/-- The free variables, in order. -/
noncomputable def Fm.free (x : Fm) : List ByteArray := insA [] (x.fv [])
theorem Fm.free_mem (x : Fm) (n : ByteArray) : n ∈ x.free ↔ n ∈ x.fv [] := by unfold Fm.free; rw [insA_mem]; simp
theorem free_E (x : Fm) (hx : x.forms = true) (hv : x.vn ≤ 1048576) (hn : x.nodes ≤ 1048576) : E 62 [x.sv] [] = some (.ref 0, [.row 9 1 (x.free.map fun s => [OT.str s])]) := by
  have h1 := gather_E x hx [] [] (by simpa using hv) (by simpa using hn)
  have hl := addA_len (x.fv []) []
  have hfl := Fm.fv_len x []
  rw [List.length_nil, Nat.zero_add] at hl
  have h2 := sortS_E (addA [] (x.fv [])) (by omega)
  rw [srtB_insA] at h2
  rw [List.map_nil, List.map_nil, List.length_nil] at h1
  unfold Fm.free
  have hxs : x.sv = .agg [.int .i64 x.op, .str x.atom.name, .arr (x.atom.args.map Tm.d), .str x.var, .arr (x.parts.map Fm.d)] := rfl
  rcases Nat.lt_or_ge 0 (addA [] (x.fv [])).length with q | q
  · rw [dec_t q] at h1
    simp only [cond_true] at h1
    refine E_walk k_impl_free m_impl_free (of_decide_eq_true rfl) ?_
    simp (disch := omega) only [c_impl_free, go_sem, go_cond, Nat.reduceAdd, Nat.reduceSub, Nat.reduceLT, Nat.reduceLeDiff, Nat.reduceEqDiff, Nat.reduceBEq, Nat.reduceBneDiff, Nat.reduceMul, ↓reduceIte, Int.reduceToNat, reduceCtorEq, Int.reduceNeg, Int.reduceAdd, h1, h2, m_impl_gather, m_slices_Sort_string_string]
  · rw [dec_f (by omega)] at h1
    simp only [cond_false] at h1
    refine E_walk k_impl_free m_impl_free (of_decide_eq_true rfl) ?_
    simp (disch := omega) only [c_impl_free, go_sem, go_cond, Nat.reduceAdd, Nat.reduceSub, Nat.reduceLT, Nat.reduceLeDiff, Nat.reduceEqDiff, Nat.reduceBEq, Nat.reduceBneDiff, Nat.reduceMul, ↓reduceIte, Int.reduceToNat, reduceCtorEq, Int.reduceNeg, Int.reduceAdd, h1, h2, m_impl_gather, m_slices_Sort_string_string]
theorem insA_filter (b acc : List ByteArray) (n : ByteArray) (ns : List ByteArray) : insA acc ((n :: ns).filter fun m => !dec (m ∈ b)) = insA (bif dec (n ∈ b) then acc else insU acc n) (ns.filter fun m => !dec (m ∈ b)) := by
  rw [List.filter_cons]
  cases dec (n ∈ b) with
  | true => rfl
  | false => rfl
abbrev IntF (x : Fm) : Prop := ∀ l b : List ByteArray, l.length + x.vn ≤ 1048576 → b.length + x.nodes ≤ 1048576 → E 98 [.arr (l.map fun s => [D.str s]), x.sv, .arr (b.map fun s => [D.str s])] [] = some (.arr ((insA l (x.fv b)).map fun s => [D.str s]), [])
set_option maxHeartbeats 8000000 in
theorem l8Into_of (x : Fm) (hx : x.forms = true) (ih : ∀ y ∈ x.parts, IntF y) : IntF x := by
  intro l b hn hb
  have hfo := Fm.forms_form hx
  have hvn := Fm.vn_eq x
  have hnd := Fm.nodes_eq x
  have hpl := Fm.length_le x.parts
  have hfv := Fm.fv_eq x b
  have hat := Fm.atom_le hfo
  have hxs : x.sv = .agg [.int .i64 x.op, .str x.atom.name, .arr (x.atom.args.map Tm.d), .str x.var, .arr (x.parts.map Fm.d)] := rfl
  cases ho : dec (x.op = 3) with
  | true =>
    rw [ho] at hfv
    simp only [cond_true] at hfv
    have ho3 := dec_iff.1 ho
    have hp0 := (Fm.form_atom hfo ho3).1
    have o8 : dec (x.op = 8) = false := dec_f (by omega)
    have o9 : dec (x.op = 9) = false := dec_f (by omega)
    have hv := l2Vars_E x.atom (by omega)
    have hil := insA_len x.atom.vs []
    have hvl := Tm.vs_len x.atom
    simp only [List.length_nil] at hil
    obtain ⟨ns, hns⟩ : ∃ ns, ns = insA [] x.atom.vs := ⟨_, rfl⟩
    rw [← hns] at hv hfv hil
    rw [hfv]
    refine E_walk k_spec_l8Into m_spec_l8Into (of_decide_eq_true rfl) ?_
    simp (disch := omega) only [c_spec_l8Into, go_sem, go_cond, Nat.reduceAdd, Nat.reduceSub, Nat.reduceLT, Nat.reduceLeDiff, Nat.reduceEqDiff, Nat.reduceBEq, Nat.reduceBneDiff, Nat.reduceMul, ↓reduceIte, Int.reduceToNat, reduceCtorEq, Int.reduceNeg, Int.reduceAdd, ho, hv, m_spec_l2Vars]
    refine go_loop (α := Int × (List ByteArray)) (fun a => ⟨slots 66 0 [(0, .arr ((a.2).map fun s => [D.str s])), (2, .arr (b.map fun s => [D.str s])), (4, .ptr 0 0), (7, .arr (ns.map fun s => [D.str s])), (8, .int .i64 (a.1))], [.box 34 [.int .i64 x.op, .str x.atom.name, .arr (x.atom.args.map Tm.d), .str x.var, .arr (x.parts.map Fm.d)]]⟩) (fun a => ∃ k : Nat, a.1 = k ∧ k ≤ (ns).length ∧ insA (a.2) ((ns.drop k).filter fun m => !dec (m ∈ b)) = insA l (ns.filter fun m => !dec (m ∈ b)) ∧ (a.2).length + (ns.length - k) ≤ 1048576) (fun a => (ns).length - (a.1).toNat) (0, l) ⟨0, rfl, Nat.zero_le _, by rw [List.drop_zero], by dsimp only; omega⟩ (by simp (disch := omega) only [go_sem, go_cond, Nat.reduceAdd, Nat.reduceSub, Nat.reduceLT, Nat.reduceLeDiff, Nat.reduceEqDiff, Nat.reduceBEq, Nat.reduceBneDiff, Nat.reduceMul, ↓reduceIte, Int.reduceToNat, reduceCtorEq, Int.reduceNeg, Int.reduceAdd]) ?_
    rintro ⟨i, acc⟩ ⟨k, hi, hk, hR⟩
    dsimp only at hi hR
    have hni : i.toNat = k := by omega
    have hni1 : (i + 1).toNat = k + 1 := by omega
    rcases Nat.lt_or_ge k (ns).length with hlt | hge
    · have hg := get_at (fun s => [D.str s]) hlt
      obtain ⟨hR1, hR2⟩ := hR
      rw [List.drop_eq_getElem_cons hlt, insA_filter] at hR1
      have c1 := l2In_E b ns[k] (by omega)
      have c2 := l2Put_E acc ns[k] (by omega)
      have hul := insU_len acc ns[k]
      cases hq : dec (ns[k] ∈ b) with
      | true =>
        rw [hq] at c1 hR1
        simp only [cond_true] at hR1
        simp (disch := omega) only [go_sem, go_cond, Nat.reduceAdd, Nat.reduceSub, Nat.reduceLT, Nat.reduceLeDiff, Nat.reduceEqDiff, Nat.reduceBEq, Nat.reduceBneDiff, Nat.reduceMul, ↓reduceIte, Int.reduceToNat, reduceCtorEq, Int.reduceNeg, Int.reduceAdd, hni, hg, c1, c2, m_spec_l2In, m_spec_l2Put]
        exact ⟨(i + 1, acc), ⟨k + 1, by dsimp only; omega, hlt, hR1, by dsimp only; omega⟩, by dsimp only; omega, by first | trivial | rfl⟩
      | false =>
        rw [hq] at c1 hR1
        simp only [cond_false] at hR1
        simp (disch := omega) only [go_sem, go_cond, Nat.reduceAdd, Nat.reduceSub, Nat.reduceLT, Nat.reduceLeDiff, Nat.reduceEqDiff, Nat.reduceBEq, Nat.reduceBneDiff, Nat.reduceMul, ↓reduceIte, Int.reduceToNat, reduceCtorEq, Int.reduceNeg, Int.reduceAdd, hni, hg, c1, c2, m_spec_l2In, m_spec_l2Put]
        exact ⟨(i + 1, insU acc ns[k]), ⟨k + 1, by dsimp only; omega, hlt, hR1, by dsimp only; omega⟩, by dsimp only; omega, by first | trivial | rfl⟩
    · rw [List.drop_eq_nil_of_le hge] at hR
      obtain ⟨hR1, hR2⟩ := hR
      have hR1 : acc = _ := hR1
      rw [← hR1]
      simp (disch := omega) only [go_sem, go_cond, Nat.reduceAdd, Nat.reduceSub, Nat.reduceLT, Nat.reduceLeDiff, Nat.reduceEqDiff, Nat.reduceBEq, Nat.reduceBneDiff, Nat.reduceMul, ↓reduceIte, Int.reduceToNat, reduceCtorEq, Int.reduceNeg, Int.reduceAdd, hni, o8, o9]
      refine go_loop (α := Int) (fun a => ⟨slots 66 0 [(0, .arr (acc.map fun s => [D.str s])), (2, .arr (b.map fun s => [D.str s])), (4, .ptr 0 0), (9, .int .i64 a)], [.box 34 [.int .i64 x.op, .str x.atom.name, .arr (x.atom.args.map Tm.d), .str x.var, .arr (x.parts.map Fm.d)]]⟩) (fun a => ∃ k : Nat, a = k ∧ k ≤ (x.parts).length) (fun a => (x.parts).length - (a).toNat) 0 ⟨0, rfl, Nat.zero_le _⟩ (by simp (disch := omega) only [go_sem, go_cond, Nat.reduceAdd, Nat.reduceSub, Nat.reduceLT, Nat.reduceLeDiff, Nat.reduceEqDiff, Nat.reduceBEq, Nat.reduceBneDiff, Nat.reduceMul, ↓reduceIte, Int.reduceToNat, reduceCtorEq, Int.reduceNeg, Int.reduceAdd]) ?_
      rintro i ⟨k, hi, hk⟩
      have hni : i.toNat = k := by omega
      have hni1 : (i + 1).toNat = k + 1 := by omega
      rcases Nat.lt_or_ge k (x.parts).length with hlt | hge
      · rw [hp0] at hlt
        simp at hlt
      · simp (disch := omega) only [go_sem, go_cond, Nat.reduceAdd, Nat.reduceSub, Nat.reduceLT, Nat.reduceLeDiff, Nat.reduceEqDiff, Nat.reduceBEq, Nat.reduceBneDiff, Nat.reduceMul, ↓reduceIte, Int.reduceToNat, reduceCtorEq, Int.reduceNeg, Int.reduceAdd, hni]
  | false =>
    rw [ho] at hfv
    simp only [cond_false] at hfv
    cases o8 : dec (x.op = 8) <;> cases o9 : dec (x.op = 9)
    all_goals
      have hq : qB x.op = (dec (x.op = 8) || dec (x.op = 9)) := rfl
      rw [o8, o9] at hq
      simp only [Bool.or_self, Bool.or_true, Bool.or_false, Bool.true_or, Bool.false_or] at hq
      rw [hq] at hfv
      simp only [cond_true, cond_false] at hfv
      rw [hfv]
    · obtain ⟨b', hb'⟩ : ∃ b', b' = b := ⟨_, rfl⟩
      have hbl : b'.length ≤ b.length + 1 := by rw [hb']; omega
      rw [← hb']
      refine E_walk k_spec_l8Into m_spec_l8Into (of_decide_eq_true rfl) ?_
      simp (disch := omega) only [c_spec_l8Into, go_sem, go_cond, Nat.reduceAdd, Nat.reduceSub, Nat.reduceLT, Nat.reduceLeDiff, Nat.reduceEqDiff, Nat.reduceBEq, Nat.reduceBneDiff, Nat.reduceMul, ↓reduceIte, Int.reduceToNat, reduceCtorEq, Int.reduceNeg, Int.reduceAdd, ho, o8, o9]
      refine go_loop (α := Int × (List ByteArray)) (fun a => ⟨slots 66 0 [(0, .arr ((a.2).map fun s => [D.str s])), (2, .arr (b'.map fun s => [D.str s])), (4, .ptr 0 0), (9, .int .i64 (a.1))], [.box 34 [.int .i64 x.op, .str x.atom.name, .arr (x.atom.args.map Tm.d), .str x.var, .arr (x.parts.map Fm.d)]]⟩) (fun a => ∃ k : Nat, a.1 = k ∧ k ≤ (x.parts).length ∧ insA (a.2) (Fm.fvL (x.parts.drop k) b') = insA l (Fm.fvL x.parts b') ∧ (a.2).length + Fm.vnS (x.parts.drop k) ≤ 1048576) (fun a => (x.parts).length - (a.1).toNat) (0, l) ⟨0, rfl, Nat.zero_le _, by rw [List.drop_zero], by rw [List.drop_zero]; dsimp only; omega⟩ (by simp (disch := omega) only [go_sem, go_cond, Nat.reduceAdd, Nat.reduceSub, Nat.reduceLT, Nat.reduceLeDiff, Nat.reduceEqDiff, Nat.reduceBEq, Nat.reduceBneDiff, Nat.reduceMul, ↓reduceIte, Int.reduceToNat, reduceCtorEq, Int.reduceNeg, Int.reduceAdd]) ?_
      rintro ⟨i, acc⟩ ⟨k, hi, hk, hR⟩
      dsimp only at hi hR
      have hni : i.toNat = k := by omega
      have hni1 : (i + 1).toNat = k + 1 := by omega
      rcases Nat.lt_or_ge k (x.parts).length with hlt | hge
      · have hg := get_at Fm.d hlt
        rw [Fm.d_eq] at hg
        obtain ⟨hR1, hR2⟩ := hR
        rw [List.drop_eq_getElem_cons hlt, Fm.fvL, insA_app] at hR1
        rw [List.drop_eq_getElem_cons hlt, Fm.vnS] at hR2
        have hnm := Fm.nodes_le x.parts k hlt
        have hc := ih x.parts[k] (List.getElem_mem hlt) acc b' (by omega) (by omega)
        have hlen := insA_len (x.parts[k].fv b') acc
        have hvl := Fm.fv_len x.parts[k] b'
        simp (disch := omega) only [go_sem, go_cond, Nat.reduceAdd, Nat.reduceSub, Nat.reduceLT, Nat.reduceLeDiff, Nat.reduceEqDiff, Nat.reduceBEq, Nat.reduceBneDiff, Nat.reduceMul, ↓reduceIte, Int.reduceToNat, reduceCtorEq, Int.reduceNeg, Int.reduceAdd, hni, hg, hc, m_spec_l8Into]
        exact ⟨(i + 1, insA acc (x.parts[k].fv b')), ⟨k + 1, by dsimp only; omega, hlt, hR1, by dsimp only; omega⟩, by dsimp only; omega, by first | trivial | rfl⟩
      · rw [List.drop_eq_nil_of_le hge, Fm.fvL] at hR
        obtain ⟨hR1, hR2⟩ := hR
        have hR1 : acc = _ := hR1
        rw [← hR1]
        simp (disch := omega) only [go_sem, go_cond, Nat.reduceAdd, Nat.reduceSub, Nat.reduceLT, Nat.reduceLeDiff, Nat.reduceEqDiff, Nat.reduceBEq, Nat.reduceBneDiff, Nat.reduceMul, ↓reduceIte, Int.reduceToNat, reduceCtorEq, Int.reduceNeg, Int.reduceAdd, hni]
      
    all_goals
      have hbm : ((b.map fun s => [D.str s]).map fun x => x.map D.ot) = b.map fun s => [OT.str s] := by rw [List.map_map]; rfl
      have hal := al_dstrs b
      have hal2 := al_strs b
      have hl1 : (b.map fun s => [OT.str s]) ++ [[OT.str x.var]] = (b ++ [x.var]).map fun s => [OT.str s] := by simp
      obtain ⟨b', hb'⟩ : ∃ b', b' = b ++ [x.var] := ⟨_, rfl⟩
      have hbl : b'.length ≤ b.length + 1 := by rw [hb']; simp
      rw [← hb'] at hl1
      rw [← hb']
      have hp1 : x.parts.length = 1 := by
        obtain ⟨_, p, hp⟩ := Fm.form_quant hfo hq
        rw [hp]; rfl
      have h10 : ((1 : Int) = 0) = False := by simp
      refine E_walk k_spec_l8Into m_spec_l8Into (of_decide_eq_true rfl) ?_
      simp (disch := omega) only [c_spec_l8Into, go_sem, go_cond, Nat.reduceAdd, Nat.reduceSub, Nat.reduceLT, Nat.reduceLeDiff, Nat.reduceEqDiff, Nat.reduceBEq, Nat.reduceBneDiff, Nat.reduceMul, ↓reduceIte, Int.reduceToNat, reduceCtorEq, Int.reduceNeg, Int.reduceAdd, ho, o8, o9, hbm, hal, hal2, hl1, List.nil_append]
      refine go_loop (α := Int × (List ByteArray)) (fun a => ⟨slots 66 0 [(0, .arr ((a.2).map fun s => [D.str s])), (2, (if (a.1) = 0 then .ref 0 else .any)), (4, (if (a.1) = 0 then .ptr 1 0 else .ptr 0 0)), (9, .int .i64 (a.1))], (if (a.1) = 0 then [.row 9 1 (b'.map fun s => [OT.str s]), .box 34 [.int .i64 x.op, .str x.atom.name, .arr (x.atom.args.map Tm.d), .str x.var, .arr (x.parts.map Fm.d)]] else [.box 34 [.int .i64 x.op, .str x.atom.name, .arr (x.atom.args.map Tm.d), .str x.var, .arr (x.parts.map Fm.d)]])⟩) (fun a => ∃ k : Nat, a.1 = k ∧ k ≤ (x.parts).length ∧ insA (a.2) (Fm.fvL (x.parts.drop k) b') = insA l (Fm.fvL x.parts b') ∧ (a.2).length + Fm.vnS (x.parts.drop k) ≤ 1048576) (fun a => (x.parts).length - (a.1).toNat) (0, l) ⟨0, rfl, Nat.zero_le _, by rw [List.drop_zero], by rw [List.drop_zero]; dsimp only; omega⟩ (by simp (disch := omega) only [go_sem, go_cond, Nat.reduceAdd, Nat.reduceSub, Nat.reduceLT, Nat.reduceLeDiff, Nat.reduceEqDiff, Nat.reduceBEq, Nat.reduceBneDiff, Nat.reduceMul, ↓reduceIte, Int.reduceToNat, reduceCtorEq, Int.reduceNeg, Int.reduceAdd, eq_self, if_true]) ?_
      rintro ⟨i, acc⟩ ⟨k, hi, hk, hR⟩
      dsimp only at hi hR
      have hni : i.toNat = k := by omega
      have hni1 : (i + 1).toNat = k + 1 := by omega
      rcases Nat.lt_or_ge k (x.parts).length with hlt | hge
      · have hg := get_at Fm.d hlt
        rw [Fm.d_eq] at hg
        obtain rfl : k = 0 := by omega
        obtain rfl : i = 0 := by omega
        obtain ⟨hR1, hR2⟩ := hR
        rw [List.drop_eq_getElem_cons hlt, Fm.fvL, insA_app] at hR1
        rw [List.drop_eq_getElem_cons hlt, Fm.vnS] at hR2
        rw [Nat.zero_add] at hR1 hR2
        have hnm := Fm.nodes_le x.parts 0 hlt
        have hc := ih x.parts[0] (List.getElem_mem hlt) acc b' (by omega) (by omega)
        have hlen := insA_len (x.parts[0].fv b') acc
        have hvl := Fm.fv_len x.parts[0] b'
        simp (disch := omega) only [go_sem, go_cond, Nat.reduceAdd, Nat.reduceSub, Nat.reduceLT, Nat.reduceLeDiff, Nat.reduceEqDiff, Nat.reduceBEq, Nat.reduceBneDiff, Nat.reduceMul, ↓reduceIte, Int.reduceToNat, reduceCtorEq, Int.reduceNeg, Int.reduceAdd, hni, hg, hc, m_spec_l8Into, eq_self, if_true]
        refine ⟨(1, insA acc (x.parts[0].fv b')), ⟨1, rfl, hlt, hR1, by dsimp only; omega⟩, by dsimp only; omega, ?_⟩
        simp (disch := omega) only [go_sem, go_cond, Nat.reduceAdd, Nat.reduceSub, Nat.reduceLT, Nat.reduceLeDiff, Nat.reduceEqDiff, Nat.reduceBEq, Nat.reduceBneDiff, Nat.reduceMul, ↓reduceIte, Int.reduceToNat, reduceCtorEq, Int.reduceNeg, Int.reduceAdd, h10, if_false]
      · rw [List.drop_eq_nil_of_le hge, Fm.fvL] at hR
        obtain ⟨hR1, hR2⟩ := hR
        have hR1 : acc = _ := hR1
        rw [← hR1]
        have hi0 : (i = 0) = False := by simp; omega
        simp (disch := omega) only [go_sem, go_cond, Nat.reduceAdd, Nat.reduceSub, Nat.reduceLT, Nat.reduceLeDiff, Nat.reduceEqDiff, Nat.reduceBEq, Nat.reduceBneDiff, Nat.reduceMul, ↓reduceIte, Int.reduceToNat, reduceCtorEq, Int.reduceNeg, Int.reduceAdd, hni, hi0, if_false]
theorem l8Into_E (x : Fm) (hx : x.forms = true) : IntF x :=
  l8Into_of x hx fun y hy => l8Into_E y (Fm.forms_part hx hy)
termination_by SizeOf.sizeOf x
decreasing_by exact Fm.lt_of_mem hy
theorem l8Free_E (x : Fm) (hx : x.forms = true) (hv : x.vn ≤ 1048576) (hn : x.nodes ≤ 1048576) : E 57 [x.sv] [] = some (.arr (x.free.map fun s => [D.str s]), []) := by
  have h1 := l8Into_E x hx [] [] (by simpa using hv) (by simpa using hn)
  rw [List.map_nil] at h1
  unfold Fm.free
  have hxs : x.sv = .agg [.int .i64 x.op, .str x.atom.name, .arr (x.atom.args.map Tm.d), .str x.var, .arr (x.parts.map Fm.d)] := rfl
  refine E_walk k_spec_l8Free m_spec_l8Free (of_decide_eq_true rfl) ?_
  simp (disch := omega) only [c_spec_l8Free, go_sem, go_cond, Nat.reduceAdd, Nat.reduceSub, Nat.reduceLT, Nat.reduceLeDiff, Nat.reduceEqDiff, Nat.reduceBEq, Nat.reduceBneDiff, Nat.reduceMul, ↓reduceIte, Int.reduceToNat, reduceCtorEq, Int.reduceNeg, Int.reduceAdd, h1, m_spec_l8Into]
end Go.Proofs.YtjgnhifkcgpmjaaGreat
