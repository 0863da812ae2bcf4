/-
  This text proves what the reference's look at a list of tables says. Condition: the list lies in memory.
-/
import Derived.Test.YtpbakldlhjdipaaAre
set_option maxRecDepth 100000
set_option linter.unusedSimpArgs false
set_option linter.unusedVariables false
namespace Go.Proofs.Ytpbakldlhjdipaa
open Go.RowKit

theorem cmpT_gtr {a b : Tb} (h1 : Op.bytesLess a.name.toList b.name.toList = false) (h2 : (a.name.toList == b.name.toList) = false) : decide (0 ≤ cmpT a b) = true := by
  unfold cmpT cmpS orZ; rw [h1, h2]; simp
theorem cmpT_less {a b : Tb} (h1 : Op.bytesLess a.name.toList b.name.toList = true) : decide (0 ≤ cmpT a b) = false := by
  unfold cmpT cmpS orZ; rw [h1]; simp
theorem cmpT_eq {a b : Tb} (h1 : Op.bytesLess a.name.toList b.name.toList = false) (h2 : (a.name.toList == b.name.toList) = true) : decide (0 ≤ cmpT a b) = decide (b.arity ≤ a.arity) := by
  unfold cmpT cmpS orZ; rw [h1, h2]
  simp only [Bool.false_eq_true, if_false, if_true]
  unfold cmpI
  rw [decide_eq_decide]
  split
  · omega
  · split <;> omega
theorem less_ne {a b : List UInt8} (h : Op.bytesLess a b = true) : (a == b) = false := by
  rw [beq_eq_false_iff_ne]; rintro rfl; rw [less_irrefl] at h; cases h

set_option maxHeartbeats 2000000 in
theorem l10Tables_any (ts : List Tb) (v : Value) (w : World) {lo : Nat} (hx : TabsAt w lo v ts) :
    Calls Try.prog 45 #[v] w (Ret w (.bool (tabsB ts))) := by
  obtain ⟨s, hs, hf⟩ := hx
  obtain ⟨a, cap, rfl, hnc, hcap, hS⟩ := hs.open_
  have HS := Lib.hid hS
  have HF := Lib.hid hf
  clear hS hs hf
  by_cases h12 : 12 < ts.length
  · go_enter Try.func45, Try.ntmps45
    go_wp2
    go_ret
    exact Ret.same _ (by unfold tabsB; rw [show decide (ts.length ≤ 12) = false by simp; omega]; simp)
  · go_enter Try.func45, Try.ntmps45
    go_wp2
    go_loopw [3] (fun i wr => CntB w ts.length (fun k _ => allB (tabOk ts) k = true) i wr) (fun i _ => ts.length - (intOf i).toNat)
    case atStart => exact ⟨0, Nat.zero_le _, rfl, rfl, Below.refl _ _⟩
    case round =>
      obtain ⟨k, hk, rfl, hok, hbw⟩ := hrel
      have hzw := hbw.size
      have Hok := Lib.hid hok
      clear hok
      by_cases hlt : k < ts.length
      · obtain ⟨b, off, rfl, hbl, c0, c1, c2, c3⟩ := (HS.out.keep (Keeps.of_below hbw _)).at4 hlt
        rw [getD_at _ hlt] at c0 c1 c2 c3
        simp only [tbC] at c0 c1 c2 c3
        have hT := (HF.out k hlt).keep (Keeps.of_below hbw _)
        have hszk := hT.2
        obtain ⟨x, xn, xc, hsk⟩ := hT.1.form
        rw [hsk] at c3
        clear hT
        have ek := Lib.hid (getD_at tb0 hlt)
        by_cases hbad : (symB ts[k].name && inB ts[k].arity 0 3) = false
        · have Hbad := Lib.hid hbad
          go_wp2_with (first
            | (go_at_call 93; refine (l2Symbol_any ts[k].name _ hszk).mono ?_; rintro e w' ⟨rfl, rfl⟩)
            | (go_at_call 46; refine (l1In_any ts[k].arity 0 3 _).mono ?_; rintro e w' ⟨rfl, rfl⟩))
          all_goals first
            | (go_ret
               refine Ret.bel ?_ (by (repeat' first | (with_reducible exact Below.refl _ _) | (with_reducible refine Below.setCell ?_ ?_ _) | (with_reducible refine Below.alloc ?_ ?_ _) | (with_reducible refine Below.drewN' ?_ _) | (with_reducible refine Below.via ?_ (by assumption) ?_) | (with_reducible exact Nat.le_refl _) | (simp; done) | (simp; omega) | omega))
               unfold tabsB
               rw [allB_stop hlt (by unfold tabOk; rw [ek.out, Hbad.out]; rfl)]
               rfl)
            | (exfalso; have := Hbad.out; simp_all; done)
        · simp only [Bool.not_eq_false, Bool.and_eq_true] at hbad
          obtain ⟨h1, h2⟩ := hbad
          by_cases hpos : 0 < k
          case neg =>
            have hk0 : (k == 0) = true := by simp; omega
            have Hk0 := Lib.hid hk0
            clear hk0
            go_wp2_with (first
              | (go_at_call 93; refine (l2Symbol_any ts[k].name _ hszk).mono ?_; rintro e w' ⟨rfl, rfl⟩)
              | (go_at_call 46; refine (l1In_any ts[k].arity 0 3 _).mono ?_; rintro e w' ⟨rfl, rfl⟩))
            refine Flow.wp_region_flow 35 [] [] (by kernel_rfl) (by kernel_rfl) (exact_stable rfl) ?_
            intro hgrow
            simp only [List.take_succ_cons, List.take_zero]
            repeat (first | ((with_reducible refine Flow.flow_quiet ?_ ?_ ?_); (focus (exact rfl)); (focus (exact rfl)); intro K hK; go_simp; refine hK _ ?_; clear hK K) | ((with_reducible refine Flow.flow_pass ?_); intro K hK; go_simp; (first | refine hK _ ?_ | (refine ⟨?_, hK _ ?_⟩; (focus (simp [undef]; done)))); clear hK K))
            with_reducible refine Flow.flow_nil ?_
            clear hgrow
            intro W hW _
            have hzW := hW.size
            try simp at hzW
            obtain ⟨hcW, hfW⟩ := bcell hW
            simp only [List.drop_succ_cons, List.drop_zero, List.drop_nil]
            go_wp2
            go_roundw
            case rel => exact ⟨k + 1, hlt, by go_num, allB_next Hok.out (by unfold tabOk; rw [ek.out, h1, h2, Hk0.out]; rfl), (by (repeat' first | (with_reducible exact Below.refl _ _) | (with_reducible refine Below.setCell ?_ ?_ _) | (with_reducible refine Below.alloc ?_ ?_ _) | (with_reducible refine Below.drewN' ?_ _) | (with_reducible refine Below.via ?_ (by assumption) ?_) | (with_reducible exact Nat.le_refl _) | (simp; done) | (simp; omega) | omega))⟩
            case measure => exact intOf_lt hlt
          · have Hk0 := Lib.hid (show (k == 0) = false by simp; omega)
            obtain ⟨b', off', e', hbl', d0, d1, d2, d3⟩ := (HS.out.keep (Keeps.of_below hbw _)).at4 (k := k - 1) (by omega)
            injection e' with e'
            injection e' with eb eo
            subst eb eo
            have hlt' : k - 1 < ts.length := by omega
            rw [getD_at _ hlt'] at d0 d1 d2 d3
            simp only [tbC] at d0 d1 d2 d3
            have ek' := Lib.hid (getD_at tb0 hlt')
            have q1 : IntKind.i64.wrap ((k : Int) - 1) = (k : Int) - 1 := IntWalk.i64_in _ (by omega)
            have q2 : (0 : Int) ≤ (k : Int) - 1 := by omega
            have q3 : (1 : Int) ≤ (k : Int) := by omega
            have q4 : (k : Int) - 1 < (ts.length : Int) := by omega
            have q5 : ((k : Int) - 1).toNat = k - 1 := by omega
            cases h4 : Op.bytesLess ts[k - 1].name.toList ts[k].name.toList
            · cases h5 : (ts[k - 1].name.toList == ts[k].name.toList)
              · go_wp2_with (first
                  | (go_at_call 93; refine (l2Symbol_any ts[k].name _ hszk).mono ?_; rintro e w' ⟨rfl, rfl⟩)
                  | (go_at_call 46; refine (l1In_any ts[k].arity 0 3 _).mono ?_; rintro e w' ⟨rfl, rfl⟩))
                refine Flow.wp_region_flow 35 [] [] (by kernel_rfl) (by kernel_rfl) (exact_stable rfl) ?_
                intro hgrow
                simp only [List.take_succ_cons, List.take_zero]
                repeat (first | ((with_reducible refine Flow.flow_quiet ?_ ?_ ?_); (focus (exact rfl)); (focus (exact rfl)); intro K hK; go_simp; refine hK _ ?_; clear hK K) | ((with_reducible refine Flow.flow_pass ?_); intro K hK; go_simp; (first | refine hK _ ?_ | (refine ⟨?_, hK _ ?_⟩; (focus (simp [undef]; done)))); clear hK K))
                with_reducible refine Flow.flow_nil ?_
                clear hgrow
                intro W hW _
                have hzW := hW.size
                try simp at hzW
                obtain ⟨hcW, hfW⟩ := bcell hW
                simp only [List.drop_succ_cons, List.drop_zero, List.drop_nil]
                go_wp2
                go_ret
                refine Ret.bel ?_ (by (repeat' first | (with_reducible exact Below.refl _ _) | (with_reducible refine Below.setCell ?_ ?_ _) | (with_reducible refine Below.alloc ?_ ?_ _) | (with_reducible refine Below.drewN' ?_ _) | (with_reducible refine Below.via ?_ (by assumption) ?_) | (with_reducible exact Nat.le_refl _) | (simp; done) | (simp; omega) | omega))
                unfold tabsB
                rw [allB_stop hlt (by unfold tabOk; rw [ek.out, ek'.out, h1, h2, cmpT_gtr h4 h5, Hk0.out]; rfl)]
                rfl
              · have hct := Lib.hid (cmpT_eq h4 h5)
                cases h6 : decide (ts[k].arity ≤ ts[k - 1].arity)
                · go_wp2_with (first
                    | (go_at_call 93; refine (l2Symbol_any ts[k].name _ hszk).mono ?_; rintro e w' ⟨rfl, rfl⟩)
                    | (go_at_call 46; refine (l1In_any ts[k].arity 0 3 _).mono ?_; rintro e w' ⟨rfl, rfl⟩))
                  refine Flow.wp_region_flow 35 [] [] (by kernel_rfl) (by kernel_rfl) (exact_stable rfl) ?_
                  intro hgrow
                  simp only [List.take_succ_cons, List.take_zero]
                  repeat (first | ((with_reducible refine Flow.flow_quiet ?_ ?_ ?_); (focus (exact rfl)); (focus (exact rfl)); intro K hK; go_simp; refine hK _ ?_; clear hK K) | ((with_reducible refine Flow.flow_pass ?_); intro K hK; go_simp; (first | refine hK _ ?_ | (refine ⟨?_, hK _ ?_⟩; (focus (simp [undef]; done)))); clear hK K))
                  with_reducible refine Flow.flow_nil ?_
                  clear hgrow
                  intro W hW _
                  have hzW := hW.size
                  try simp at hzW
                  obtain ⟨hcW, hfW⟩ := bcell hW
                  simp only [List.drop_succ_cons, List.drop_zero, List.drop_nil]
                  go_wp2
                  go_roundw
                  case rel => exact ⟨k + 1, hlt, by go_num, allB_next Hok.out (by unfold tabOk; rw [ek.out, ek'.out, h1, h2, hct.out, h6]; simp), (by (repeat' first | (with_reducible exact Below.refl _ _) | (with_reducible refine Below.setCell ?_ ?_ _) | (with_reducible refine Below.alloc ?_ ?_ _) | (with_reducible refine Below.drewN' ?_ _) | (with_reducible refine Below.via ?_ (by assumption) ?_) | (with_reducible exact Nat.le_refl _) | (simp; done) | (simp; omega) | omega))⟩
                  case measure => exact intOf_lt hlt
                · go_wp2_with (first
                    | (go_at_call 93; refine (l2Symbol_any ts[k].name _ hszk).mono ?_; rintro e w' ⟨rfl, rfl⟩)
                    | (go_at_call 46; refine (l1In_any ts[k].arity 0 3 _).mono ?_; rintro e w' ⟨rfl, rfl⟩))
                  refine Flow.wp_region_flow 35 [] [] (by kernel_rfl) (by kernel_rfl) (exact_stable rfl) ?_
                  intro hgrow
                  simp only [List.take_succ_cons, List.take_zero]
                  repeat (first | ((with_reducible refine Flow.flow_quiet ?_ ?_ ?_); (focus (exact rfl)); (focus (exact rfl)); intro K hK; go_simp; refine hK _ ?_; clear hK K) | ((with_reducible refine Flow.flow_pass ?_); intro K hK; go_simp; (first | refine hK _ ?_ | (refine ⟨?_, hK _ ?_⟩; (focus (simp [undef]; done)))); clear hK K))
                  with_reducible refine Flow.flow_nil ?_
                  clear hgrow
                  intro W hW _
                  have hzW := hW.size
                  try simp at hzW
                  obtain ⟨hcW, hfW⟩ := bcell hW
                  simp only [List.drop_succ_cons, List.drop_zero, List.drop_nil]
                  go_wp2
                  go_ret
                  refine Ret.bel ?_ (by (repeat' first | (with_reducible exact Below.refl _ _) | (with_reducible refine Below.setCell ?_ ?_ _) | (with_reducible refine Below.alloc ?_ ?_ _) | (with_reducible refine Below.drewN' ?_ _) | (with_reducible refine Below.via ?_ (by assumption) ?_) | (with_reducible exact Nat.le_refl _) | (simp; done) | (simp; omega) | omega))
                  unfold tabsB
                  rw [allB_stop hlt (by unfold tabOk; rw [ek.out, ek'.out, h1, h2, hct.out, h6, Hk0.out]; rfl)]
                  rfl
            · have h5 := less_ne h4
              have hct := Lib.hid (cmpT_less h4)
              go_wp2_with (first
                | (go_at_call 93; refine (l2Symbol_any ts[k].name _ hszk).mono ?_; rintro e w' ⟨rfl, rfl⟩)
                | (go_at_call 46; refine (l1In_any ts[k].arity 0 3 _).mono ?_; rintro e w' ⟨rfl, rfl⟩))
              refine Flow.wp_region_flow 35 [] [] (by kernel_rfl) (by kernel_rfl) (exact_stable rfl) ?_
              intro hgrow
              simp only [List.take_succ_cons, List.take_zero]
              repeat (first | ((with_reducible refine Flow.flow_quiet ?_ ?_ ?_); (focus (exact rfl)); (focus (exact rfl)); intro K hK; go_simp; refine hK _ ?_; clear hK K) | ((with_reducible refine Flow.flow_pass ?_); intro K hK; go_simp; (first | refine hK _ ?_ | (refine ⟨?_, hK _ ?_⟩; (focus (simp [undef]; done)))); clear hK K))
              with_reducible refine Flow.flow_nil ?_
              clear hgrow
              intro W hW _
              have hzW := hW.size
              try simp at hzW
              obtain ⟨hcW, hfW⟩ := bcell hW
              simp only [List.drop_succ_cons, List.drop_zero, List.drop_nil]
              go_wp2
              go_roundw
              case rel => exact ⟨k + 1, hlt, by go_num, allB_next Hok.out (by unfold tabOk; rw [ek.out, ek'.out, h1, h2, hct.out]; simp), (by (repeat' first | (with_reducible exact Below.refl _ _) | (with_reducible refine Below.setCell ?_ ?_ _) | (with_reducible refine Below.alloc ?_ ?_ _) | (with_reducible refine Below.drewN' ?_ _) | (with_reducible refine Below.via ?_ (by assumption) ?_) | (with_reducible exact Nat.le_refl _) | (simp; done) | (simp; omega) | omega))⟩
              case measure => exact intOf_lt hlt
      · obtain rfl : k = ts.length := by omega
        go_wp2
        go_ret
        refine Ret.bel ?_ hbw
        unfold tabsB
        rw [Hok.out, show decide (ts.length ≤ 12) = true by simp; omega]
        rfl
end Go.Proofs.Ytpbakldlhjdipaa
