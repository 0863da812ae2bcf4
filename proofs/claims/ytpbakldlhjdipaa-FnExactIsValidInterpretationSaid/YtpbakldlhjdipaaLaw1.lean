/-
  The program's CountInterpretations returns what the reference's returns, for all arguments: the law's function returns true, and what came in is left alone. No condition.
-/
import Derived.Test.YtpbakldlhjdipaaCount2
import Derived.Test.YtpbakldlhjdipaaOpen
import Derived.Carry
set_option maxRecDepth 100000
set_option linter.unusedSimpArgs false
set_option linter.unusedVariables false
namespace Go.Proofs.Ytpbakldlhjdipaa
open Go.RowKit Go.ChangeShapes Go.WideShapes Go.ChangeAt

theorem szI_cases (n : Nat) (z : Int) : szI n z = -1 ∨ (szI n z = z - n ∧ 0 ≤ z - n) := by
  unfold szI; split
  · exact .inl rfl
  · exact .inr ⟨rfl, by omega⟩
theorem szTb_ok {t : Tb} {z : Int} (hz : z ≤ 1048576) (h : 0 ≤ szTb t z) : t.vals.length ≤ 1048576 ∧ szTb t z ≤ z := by
  unfold szTb at *
  have h1 := szI_cases t.name.size z
  have h2 := szI_cases t.vals.length (szI t.name.size z)
  split at h
  · omega
  · rename_i h3
    rw [if_neg h3]
    omega
theorem szGo_ok : ∀ (ts : List Tb) (z : Int), z ≤ 1048576 → 0 ≤ szGo ts z → ∀ t ∈ ts, t.vals.length ≤ 1048576
  | [], _, _, _, t, h => by cases h
  | t :: ts, z, hz, h, u, hu => by
    unfold szGo at h
    split at h
    · omega
    · rename_i h1
      have h2 := szTb_ok hz (by omega : 0 ≤ szTb t z)
      rcases List.mem_cons.1 hu with rfl | hu
      · exact h2.1
      · exact szGo_ok ts _ (by omega) h u hu
theorem szTbs_ok {ts : List Tb} (h : 0 ≤ szTbs ts 1048576) : ts.length ≤ 1048576 ∧ ∀ t ∈ ts, t.vals.length ≤ 1048576 := by
  unfold szTbs at h
  split at h
  · omega
  · exact ⟨by omega, szGo_ok ts _ (by omega) h⟩

set_option maxHeartbeats 2000000 in
theorem law1_walk (ts : List Tb) (v : Value) (size : Int) (w : World) (hx : TabsAt w 0 v ts) :
    Calls Try.prog 3 #[v, .int .i64 size] w (Ret w (.bool true)) := by
  have HX := Lib.hid hx
  clear hx
  by_cases hsz : szTbs ts 1048576 < 0
  · go_enter Try.func3, Try.ntmps3
    go_wp2_with (first
      | (go_at_call 9; refine (szTableS_any ts _ _ _ (by omega) (by omega) HX.out).mono ?_; rintro e w1 ⟨rfl, hb1⟩; have hz1 := hb1.size; (try simp at hz1); obtain ⟨hc1, hf1⟩ := bcell hb1))
    go_ret
    exact Ret.bel rfl (by (repeat' first | (with_reducible exact Below.refl _ _) | (with_reducible refine Below.setCell ?_ ?_ _) | (with_reducible refine Below.alloc ?_ ?_ _) | (with_reducible refine Below.drewN' ?_ _) | (with_reducible refine Below.via ?_ (by assumption) ?_) | (with_reducible exact Nat.le_refl _) | (simp; done) | (simp; omega) | omega))
  · obtain ⟨hl, hls⟩ := szTbs_ok (by omega : 0 ≤ szTbs ts 1048576)
    have HL := Lib.hid hls
    clear hls
    go_enter Try.func3, Try.ntmps3
    go_wp2_with (first
      | (go_at_call 9; refine (szTableS_any ts _ _ _ (by omega) (by omega) HX.out).mono ?_; rintro e w1 ⟨rfl, hb1⟩; have hz1 := hb1.size; (try simp at hz1); obtain ⟨hc1, hf1⟩ := bcell hb1))
    have HX1 := Lib.hid (HX.out.keep (Keeps.of_below hb1 _))
    refine (toTableS_any ts _ _ HX1.out hl HL.out).mono ?_
    rintro e w2 ⟨v2, rfl, hb2, hv2⟩
    have hw2 := Below.of_trans hb1 hb2
    clear hc1 hf1 hz1
    have HV2 := Lib.hid hv2
    clear hv2
    go_wp2_with fail
    refine (specCount_any ts _ size _ HV2.out).mono ?_
    rintro e w3 ⟨rfl, hb3⟩
    have hw3 := Below.of_trans hw2 hb3
    go_wp2_with fail
    refine (toTableS_any ts _ _ (HX.out.keep (Keeps.of_below hw3 _)) hl HL.out).mono ?_
    rintro e w4 ⟨v4, rfl, hb4, hv4⟩
    have hw4 := Below.of_trans hw3 hb4
    have HV4 := Lib.hid hv4
    clear hv4
    go_wp2_with fail
    refine (implCount_any ts _ size _ HV4.out).mono ?_
    rintro e w5 ⟨rfl, hb5⟩
    have hw5 := Below.of_trans hw4 hb5
    go_wp2_with fail
    refine (toTableS_any ts _ _ (HX.out.keep (Keeps.of_below hw5 _)) hl HL.out).mono ?_
    rintro e w6 ⟨v6, rfl, hb6, hv6⟩
    have hw6 := Below.of_trans hw5 hb6
    have HV6 := Lib.hid hv6
    clear hv6
    go_wp2_with fail
    refine (eqTableS_same ts _ _ _ ((HV4.out.keep (Keeps.of_below hb5 _)).keep (Keeps.of_below hb6 _)) HV6.out).mono ?_
    rintro e w7 ⟨rfl, hb7⟩
    have hw7 := Below.of_trans hw6 hb7
    go_wp2_with fail
    go_ret
    exact Ret.bel rfl hw7

namespace law1
theorem own : ownKnob Try.prog.godebug = none := by kernel_rfl
theorem laidOut : laidOutB Try.prog = true := by kernel_rfl

theorem lifted (os : Os) (started : os.Started) (H : Type) (enc : TypeId × Value → H) :
    ReturnsInHanded {} Try.checked os 3 .any (Rows.fnExactCountInterpretationsSpec.pre6 enc Try.prog Try.f3 Rows.fnExactCountInterpretationsRow.domain false) (Rows.fnExactCountInterpretationsSpec.post enc Try.prog Try.f3 false true false false) := by
  refine returnsInHanded_of_change (C := Try.checked) own started (by kernel_rfl) Try.func3
    (ChangeSpec.witness6 (enc := enc) (C := Try.checked) false ⟨#[], #[.slice none 0 0, .int .i64 0], []⟩ 8 (by kernel_rfl) (by kernel_rfl) (by kernel_rfl) (by kernel_rfl)) ?_
  intro W base args ds gs before hval0 hW hcnd _
  have hval : ∀ (j : Nat) t v, Try.f3.params[j]? = some t → args[j]? = some v → Value.okWide Try.prog W .any base t v := hval0
  have hW' := hW
  obtain ⟨p, q, hA0, hV, rfl, hfz, hnd⟩ := hW
  have hA : DataW.TrodAll enc Try.prog W 0 (fun _ => true) true Try.f3.params.toList args.toList ds p := hA0
  rw [Try.params3] at hA hval
  obtain ⟨v0, vs0, d0, ds0, p0, q0, hargs, rfl, rfl, h0, r0⟩ := trodAll_cons hA
  obtain ⟨v1, vs1, d1, ds1, p1, q1, rfl, rfl, rfl, h1, r1⟩ := trodAll_cons r0
  obtain ⟨rfl, rfl, rfl⟩ := trodAll_nil r1
  obtain rfl : args = #[v0, v1] := by cases args; simp_all
  obtain ⟨rfl, rfl⟩ := trodVars_none hV
  have k0 := h0
  have lt0 : ∀ x ∈ p0, x.block < W.heap.size := by obtain ⟨m, hm⟩ := k0; exact DataW.trod_lt m _ _ _ hm
  obtain ⟨ts, hts⟩ : ∃ ts, TabsAt W 0 v0 ts := by
    obtain ⟨a0, len0, cap0, rfl⟩ := okWide_slice Try.underlying22 (hval 0 22 v0 rfl rfl)
    obtain ⟨fuel, hf⟩ := h0
    exact open_tabs hf
  obtain ⟨a1, rfl, rfl, rfl, w1⟩ := open_int Try.underlying3 (hval 1 3 v1 rfl rfl) h1
  clear hA0 hval0
  refine (law1_walk ts v0 a1 W hts).mono fun e W' ⟨he, bel⟩ => ?_
  subst he
  exact ⟨_, rfl, _, _, _, [], _, [], hW', trodAll_mk1 (shut_bool Try.underlying4 _), (trodAll_cons_mk (Below.trod laidOut (by kernel_rfl) (of_decide_eq_true (by kernel_rfl)) k0 bel lt0) (trodAll_cons_mk (shut_int Try.underlying3 w1) trodAll_mk0)), rfl, bel.frame _, fun h => by cases h⟩

theorem proved : Rows.FnExactCountInterpretationsSaid :=
  OpenClaim.holds_of_wide 3 Try.f3 rfl rfl rfl rfl rfl rfl rfl ⟨rfl, rfl, rfl, rfl, rfl⟩ rfl rfl rfl rfl rfl (by kernel_rfl) Try.func3 (by kernel_rfl)
    (of_decide_eq_true (by kernel_rfl)) (by unfold Func.isWrapper; first | (rw [if_pos (by decide +kernel)]; kernel_rfl) | (rw [if_neg (by decide +kernel)]; exact ⟨rfl, rfl⟩))
    (fun os started H enc _ => lifted os started H enc)
#print axioms proved
end law1
end Go.Proofs.Ytpbakldlhjdipaa
