/-
  The program's IsNegationNormal returns what the reference's returns, for all arguments: the law's function returns true, and what came in is left alone. No condition.
-/
import Derived.Test.YtpbakldlhjdipaaLaw6
import Derived.Carry
set_option maxRecDepth 100000
set_option linter.unusedSimpArgs false
set_option linter.unusedVariables false
namespace Go.Proofs.Ytpbakldlhjdipaa
open Go.RowKit Go.ChangeShapes Go.WideShapes Go.ChangeAt
namespace law6
theorem own : ownKnob Try.prog.godebug = none := by kernel_rfl
theorem laidOut : laidOutB Try.prog = true := by kernel_rfl

theorem lifted (os : Os) (started : os.Started) (H : Type) (enc : TypeId × Value → H) :
    ReturnsInHanded {} Try.checked os 8 .any (Rows.fnExactIsNegationNormalSpec.pre6 enc Try.prog Try.f8 Rows.fnExactIsNegationNormalRow.domain false) (Rows.fnExactIsNegationNormalSpec.post enc Try.prog Try.f8 false true false false) := by
  refine returnsInHanded_of_change (C := Try.checked) own started (by kernel_rfl) Try.func8
    (ChangeSpec.witness6 (enc := enc) (C := Try.checked) false ⟨#[], #[.agg #[.int .i64 0, .string ⟨#[]⟩, .slice none 0 0, .string ⟨#[]⟩, .slice none 0 0]], []⟩ 8 (by kernel_rfl) (by kernel_rfl) (by kernel_rfl) (by kernel_rfl)) ?_
  intro W base args ds gs before hval0 hW hcnd _
  have hval : ∀ (j : Nat) t v, Try.f8.params[j]? = some t → args[j]? = some v → Value.okWide Try.prog W .any base t v := hval0
  have hW' := hW
  obtain ⟨p, q, hA0, hV, rfl, hfz, hnd⟩ := hW
  have hA : DataW.TrodAll enc Try.prog W 0 (fun _ => true) true Try.f8.params.toList args.toList ds p := hA0
  rw [Try.params8] at hA hval
  obtain ⟨v0, vs0, d0, ds0, p0, q0, hargs, rfl, rfl, h0, r0⟩ := trodAll_cons hA
  obtain ⟨rfl, rfl, rfl⟩ := trodAll_nil r0
  obtain rfl : args = #[v0] := by cases args; simp_all
  obtain ⟨rfl, rfl⟩ := trodVars_none hV
  have k0 := h0
  have lt0 : ∀ x ∈ p0, x.block < W.heap.size := by obtain ⟨m, hm⟩ := k0; exact DataW.trod_lt m _ _ _ hm
  obtain ⟨X, s0, s1, rfl, hAt⟩ : ∃ (X : Fm) (s0 s1 : Value), v0 = .agg #[.int .i64 X.op, .string X.atom.name, s0, .string X.var, s1] ∧ Fm.At W X s0 s1 := by
    obtain ⟨cs, rfl, hsz⟩ := okWide_struct Try.underlying67 (hval 0 67 v0 rfl rfl)
    obtain ⟨fuel, hf⟩ := h0
    obtain ⟨X, hX⟩ := open_formula hf
    obtain ⟨s0, s1, e, hA⟩ := Fm.At.of_lvs hX
    refine ⟨X, s0, s1, ?_, hA⟩
    have e' : cs.toList = [.int .i64 X.op, .string X.atom.name, s0, .string X.var, s1] := e
    rw [show cs = #[.int .i64 X.op, .string X.atom.name, s0, .string X.var, s1] from by rw [← Array.toList_inj]; exact e']
  clear hA0 hval0
  refine (law6_walk X s0 s1 W hAt).mono fun e W' ⟨he, bel⟩ => ?_
  subst he
  exact ⟨_, rfl, _, _, _, [], _, [], hW', trodAll_mk1 (shut_bool Try.underlying4 _), (trodAll_cons_mk (Below.trod laidOut (by kernel_rfl) (of_decide_eq_true (by kernel_rfl)) k0 bel lt0) trodAll_mk0), rfl, bel.frame _, fun h => by cases h⟩

theorem proved : Rows.FnExactIsNegationNormalSaid :=
  OpenClaim.holds_of_wide 8 Try.f8 rfl rfl rfl rfl rfl rfl rfl ⟨rfl, rfl, rfl, rfl, rfl⟩ rfl rfl rfl rfl rfl (by kernel_rfl) Try.func8 (by kernel_rfl)
    (of_decide_eq_true (by kernel_rfl)) (by unfold Func.isWrapper; first | (rw [if_pos (by decide +kernel)]; kernel_rfl) | (rw [if_neg (by decide +kernel)]; exact ⟨rfl, rfl⟩))
    (fun os started H enc _ => lifted os started H enc)
#print axioms proved
end law6
end Go.Proofs.Ytpbakldlhjdipaa
