/-
  This text proves what the program's look at a list of tables says. Condition: the list lies in memory.
-/
import Derived.Test.YtpbakldlhjdipaaCmp
set_option maxRecDepth 100000
set_option linter.unusedSimpArgs false
set_option linter.unusedVariables false
namespace Go.Proofs.Ytpbakldlhjdipaa
open Go.RowKit

def tb0 : Tb := ⟨⟨#[]⟩, 0, false, []⟩
/-- Table k may stand where it stands. -/
def tabOk (ts : List Tb) (k : Nat) : Bool := symB (ts.getD k tb0).name && inB (ts.getD k tb0).arity 0 3 && (k == 0 || !decide (0 ≤ cmpT (ts.getD (k - 1) tb0) (ts.getD k tb0)))
def tabsB (ts : List Tb) : Bool := allB (tabOk ts) ts.length && decide (ts.length ≤ 12)

theorem IntsAt.form {w : World} {lo : Nat} {v : Value} {xs : List Int} (h : IntsAt w lo v xs) : ∃ x n c, v = .slice x n c := by
  obtain ⟨a, q, e, _⟩ := h.open_
  exact ⟨a, _, q, e⟩

set_option maxHeartbeats 2000000 in
theorem areTables_any (ts : List Tb) (v : Value) (w : World) {lo : Nat} (hx : TabsAt w lo v ts) :
    Calls Try.prog 49 #[v] w (Ret w (.bool (tabsB ts))) := by
  obtain ⟨s, hs, hf⟩ := hx
  obtain ⟨a, cap, rfl, hnc, hcap, hS⟩ := hs.open_
  have HS := Lib.hid hS
  have HF := Lib.hid hf
  clear hS hs hf
  go_enter Try.func49, Try.ntmps49
  go_wp2
  go_loopw [7] (fun i wr => CntB w ts.length (fun k _ => allB (tabOk ts) k = true) i wr) (fun i _ => ts.length - (intOf i).toNat)
  case atStart => exact ⟨0, Nat.zero_le _, rfl, rfl, Below.refl _ _⟩
  case round =>
    obtain ⟨k, hk, rfl, hok, hbw⟩ := hrel
    have hzw := hbw.size
    have Hok := Lib.hid hok
    clear hok
    by_cases hlt : k < ts.length
    · obtain ⟨b, off, rfl, hbl, c0, c1, c2, c3⟩ := (HS.out.keep (Keeps.of_below hbw _)).at4 hlt
      rw [getD_at _ hlt] at c0 c1 c2 c3
      simp only [tbC] at c0 c1 c2 c3
      have hT := (HF.out k hlt).keep (Keeps.of_below hbw _)
      have hszk := hT.2
      obtain ⟨x, xn, xc, hsk⟩ := hT.1.form
      rw [hsk] at c3
      clear hT
      have ek := Lib.hid (getD_at tb0 hlt)
      cases h1 : symB ts[k].name
      · go_wp2
        refine Flow.wp_region_flow 24 [(2, .fixed (.bool false))] [] (by kernel_rfl) (by kernel_rfl) (exact_stable rfl) ?_
        intro hgrow
        simp only [List.take_succ_cons, List.take_zero]
        repeat (first | ((with_reducible refine Flow.flow_quiet ?_ ?_ ?_); (focus (exact rfl)); (focus (exact rfl)); intro K hK; go_simp; refine hK _ ?_; clear hK K) | ((with_reducible refine Flow.flow_pass ?_); intro K hK; go_simp; (first | refine hK _ ?_ | (refine ⟨?_, hK _ ?_⟩; (focus (simp [undef]; done)))); clear hK K))
        refine Flow.flow_exact _ rfl (by go_simp) (fun W hW => flow_ret (by go_simp) (Ret.mono (isSymbol_any ts[k].name _ hszk) (by rw [h1]))) ?_
        repeat (first | ((with_reducible refine Flow.flow_quiet ?_ ?_ ?_); (focus (exact rfl)); (focus (exact rfl)); intro K hK; go_simp; refine hK _ ?_; clear hK K) | ((with_reducible refine Flow.flow_pass ?_); intro K hK; go_simp; (first | refine hK _ ?_ | (refine ⟨?_, hK _ ?_⟩; (focus (simp [undef]; done)))); clear hK K))
        with_reducible refine Flow.flow_nil ?_
        clear hgrow
        intro W hW _
        have hzW := hW.size
        try simp at hzW
        obtain ⟨hcW, hfW⟩ := bcell hW
        simp only [List.drop_succ_cons, List.drop_zero, List.drop_nil]
        go_wp2
        go_ret
        refine Ret.bel ?_ (by (repeat' first | (with_reducible exact Below.refl _ _) | (with_reducible refine Below.setCell ?_ ?_ _) | (with_reducible refine Below.alloc ?_ ?_ _) | (with_reducible refine Below.drewN' ?_ _) | (with_reducible refine Below.via ?_ (by assumption) ?_) | (with_reducible exact Nat.le_refl _) | (simp; done) | (simp; omega) | omega))
        unfold tabsB
        rw [allB_stop hlt (by unfold tabOk; rw [ek.out, h1]; rfl)]
        rfl
      · cases h2 : inB ts[k].arity 0 3
        · go_wp2
          refine Flow.wp_region_flow 24 [(2, .fixed (.bool true)), (7, .fixed (.bool false))] [] (by kernel_rfl) (by kernel_rfl) (exact_stable rfl) ?_
          intro hgrow
          simp only [List.take_succ_cons, List.take_zero]
          repeat (first | ((with_reducible refine Flow.flow_quiet ?_ ?_ ?_); (focus (exact rfl)); (focus (exact rfl)); intro K hK; go_simp; refine hK _ ?_; clear hK K) | ((with_reducible refine Flow.flow_pass ?_); intro K hK; go_simp; (first | refine hK _ ?_ | (refine ⟨?_, hK _ ?_⟩; (focus (simp [undef]; done)))); clear hK K))
          refine Flow.flow_exact _ rfl (by go_simp) (fun W hW => flow_ret (by go_simp) (Ret.mono (isSymbol_any ts[k].name _ hszk) (by rw [h1]))) ?_
          repeat (first | ((with_reducible refine Flow.flow_quiet ?_ ?_ ?_); (focus (exact rfl)); (focus (exact rfl)); intro K hK; go_simp; refine hK _ ?_; clear hK K) | ((with_reducible refine Flow.flow_pass ?_); intro K hK; go_simp; (first | refine hK _ ?_ | (refine ⟨?_, hK _ ?_⟩; (focus (simp [undef]; done)))); clear hK K))
          refine Flow.flow_exact _ rfl (by go_simp) (fun W hW => flow_ret (by go_simp) (Ret.mono (Same.ret (within_any ts[k].arity 0 3 _)) (by rw [h2]))) ?_
          repeat (first | ((with_reducible refine Flow.flow_quiet ?_ ?_ ?_); (focus (exact rfl)); (focus (exact rfl)); intro K hK; go_simp; refine hK _ ?_; clear hK K) | ((with_reducible refine Flow.flow_pass ?_); intro K hK; go_simp; (first | refine hK _ ?_ | (refine ⟨?_, hK _ ?_⟩; (focus (simp [undef]; done)))); clear hK K))
          with_reducible refine Flow.flow_nil ?_
          clear hgrow
          intro W hW _
          have hzW := hW.size
          try simp at hzW
          obtain ⟨hcW, hfW⟩ := bcell hW
          simp only [List.drop_succ_cons, List.drop_zero, List.drop_nil]
          go_wp2
          go_ret
          refine Ret.bel ?_ (by (repeat' first | (with_reducible exact Below.refl _ _) | (with_reducible refine Below.setCell ?_ ?_ _) | (with_reducible refine Below.alloc ?_ ?_ _) | (with_reducible refine Below.drewN' ?_ _) | (with_reducible refine Below.via ?_ (by assumption) ?_) | (with_reducible exact Nat.le_refl _) | (simp; done) | (simp; omega) | omega))
          unfold tabsB
          rw [allB_stop hlt (by unfold tabOk; rw [ek.out, h1, h2]; rfl)]
          rfl
        · by_cases hpos : 0 < k
          case neg =>
            have hk0 : (k == 0) = true := by simp; omega
            have Hk0 := Lib.hid hk0
            clear hk0
            go_wp2
            refine Flow.wp_region_flow 24 [(2, .fixed (.bool true)), (7, .fixed (.bool true))] [] (by kernel_rfl) (by kernel_rfl) (exact_stable rfl) ?_
            intro hgrow
            simp only [List.take_succ_cons, List.take_zero]
            repeat (first | ((with_reducible refine Flow.flow_quiet ?_ ?_ ?_); (focus (exact rfl)); (focus (exact rfl)); intro K hK; go_simp; refine hK _ ?_; clear hK K) | ((with_reducible refine Flow.flow_pass ?_); intro K hK; go_simp; (first | refine hK _ ?_ | (refine ⟨?_, hK _ ?_⟩; (focus (simp [undef]; done)))); clear hK K))
            refine Flow.flow_exact _ rfl (by go_simp) (fun W hW => flow_ret (by go_simp) (Ret.mono (isSymbol_any ts[k].name _ hszk) (by rw [h1]))) ?_
            repeat (first | ((with_reducible refine Flow.flow_quiet ?_ ?_ ?_); (focus (exact rfl)); (focus (exact rfl)); intro K hK; go_simp; refine hK _ ?_; clear hK K) | ((with_reducible refine Flow.flow_pass ?_); intro K hK; go_simp; (first | refine hK _ ?_ | (refine ⟨?_, hK _ ?_⟩; (focus (simp [undef]; done)))); clear hK K))
            refine Flow.flow_exact _ rfl (by go_simp) (fun W hW => flow_ret (by go_simp) (Ret.mono (Same.ret (within_any ts[k].arity 0 3 _)) (by rw [h2]))) ?_
            repeat (first | ((with_reducible refine Flow.flow_quiet ?_ ?_ ?_); (focus (exact rfl)); (focus (exact rfl)); intro K hK; go_simp; refine hK _ ?_; clear hK K) | ((with_reducible refine Flow.flow_pass ?_); intro K hK; go_simp; (first | refine hK _ ?_ | (refine ⟨?_, hK _ ?_⟩; (focus (simp [undef]; done)))); clear hK K))
            with_reducible refine Flow.flow_nil ?_
            clear hgrow
            intro W hW _
            have hzW := hW.size
            try simp at hzW
            obtain ⟨hcW, hfW⟩ := bcell hW
            simp only [List.drop_succ_cons, List.drop_zero, List.drop_nil]
            go_wp2
            go_roundw
            case rel => exact ⟨k + 1, hlt, by go_num, allB_next Hok.out (by unfold tabOk; rw [ek.out, h1, h2, Hk0.out]; rfl), (by (repeat' first | (with_reducible exact Below.refl _ _) | (with_reducible refine Below.setCell ?_ ?_ _) | (with_reducible refine Below.alloc ?_ ?_ _) | (with_reducible refine Below.drewN' ?_ _) | (with_reducible refine Below.via ?_ (by assumption) ?_) | (with_reducible exact Nat.le_refl _) | (simp; done) | (simp; omega) | omega))⟩
            case measure => exact intOf_lt hlt
          · have Hk0 := Lib.hid (show (k == 0) = false by simp; omega)
            obtain ⟨b', off', e', hbl', d0, d1, d2, d3⟩ := (HS.out.keep (Keeps.of_below hbw _)).at4 (k := k - 1) (by omega)
            injection e' with e'
            injection e' with eb eo
            subst eb eo
            have hlt' : k - 1 < ts.length := by omega
            rw [getD_at _ hlt'] at d0 d1 d2 d3
            simp only [tbC] at d0 d1 d2 d3
            obtain ⟨y, yn, yc, hsk'⟩ := (HF.out (k - 1) hlt').1.form
            rw [hsk'] at d3
            have ek' := Lib.hid (getD_at tb0 hlt')
            have q1 : IntKind.i64.wrap ((k : Int) - 1) = (k : Int) - 1 := IntWalk.i64_in _ (by omega)
            have q2 : (0 : Int) ≤ (k : Int) - 1 := by omega
            have q3 : (1 : Int) ≤ (k : Int) := by omega
            have q4 : (k : Int) - 1 < (ts.length : Int) := by omega
            have q5 : ((k : Int) - 1).toNat = k - 1 := by omega
            cases h3 : decide (0 ≤ cmpT ts[k - 1] ts[k])
            · go_wp2
              refine Flow.wp_region_flow 24 [(2, .fixed (.bool true)), (7, .fixed (.bool true)), (20, .fixed (.int .i64 (cmpT ts[k - 1] ts[k])))] [] (by kernel_rfl) (by kernel_rfl) (exact_stable rfl) ?_
              intro hgrow
              simp only [List.take_succ_cons, List.take_zero]
              repeat (first | ((with_reducible refine Flow.flow_quiet ?_ ?_ ?_); (focus (exact rfl)); (focus (exact rfl)); intro K hK; go_simp; refine hK _ ?_; clear hK K) | ((with_reducible refine Flow.flow_pass ?_); intro K hK; go_simp; (first | refine hK _ ?_ | (refine ⟨?_, hK _ ?_⟩; (focus (simp [undef]; done)))); clear hK K))
              refine Flow.flow_exact _ rfl (by go_simp) (fun W hW => flow_ret (by go_simp) (Ret.mono (isSymbol_any ts[k].name _ hszk) (by rw [h1]))) ?_
              repeat (first | ((with_reducible refine Flow.flow_quiet ?_ ?_ ?_); (focus (exact rfl)); (focus (exact rfl)); intro K hK; go_simp; refine hK _ ?_; clear hK K) | ((with_reducible refine Flow.flow_pass ?_); intro K hK; go_simp; (first | refine hK _ ?_ | (refine ⟨?_, hK _ ?_⟩; (focus (simp [undef]; done)))); clear hK K))
              refine Flow.flow_exact _ rfl (by go_simp) (fun W hW => flow_ret (by go_simp) (Ret.mono (Same.ret (within_any ts[k].arity 0 3 _)) (by rw [h2]))) ?_
              repeat (first | ((with_reducible refine Flow.flow_quiet ?_ ?_ ?_); (focus (exact rfl)); (focus (exact rfl)); intro K hK; go_simp; refine hK _ ?_; clear hK K) | ((with_reducible refine Flow.flow_pass ?_); intro K hK; go_simp; (first | refine hK _ ?_ | (refine ⟨?_, hK _ ?_⟩; (focus (simp [undef]; done)))); clear hK K))
              refine Flow.flow_exact _ rfl (by go_simp) (fun W hW => flow_ret (by go_simp) (compareTables_any ts[k - 1] ts[k] (.slice y yn yc) (.slice x xn xc) _ ⟨_, _, _, rfl⟩ ⟨_, _, _, rfl⟩)) ?_
              repeat (first | ((with_reducible refine Flow.flow_quiet ?_ ?_ ?_); (focus (exact rfl)); (focus (exact rfl)); intro K hK; go_simp; refine hK _ ?_; clear hK K) | ((with_reducible refine Flow.flow_pass ?_); intro K hK; go_simp; (first | refine hK _ ?_ | (refine ⟨?_, hK _ ?_⟩; (focus (simp [undef]; done)))); clear hK K))
              with_reducible refine Flow.flow_nil ?_
              clear hgrow
              intro W hW _
              have hzW := hW.size
              try simp at hzW
              obtain ⟨hcW, hfW⟩ := bcell hW
              simp only [List.drop_succ_cons, List.drop_zero, List.drop_nil]
              go_wp2
              go_roundw
              case rel => exact ⟨k + 1, hlt, by go_num, allB_next Hok.out (by unfold tabOk; rw [ek.out, ek'.out, h1, h2, h3]; simp), (by (repeat' first | (with_reducible exact Below.refl _ _) | (with_reducible refine Below.setCell ?_ ?_ _) | (with_reducible refine Below.alloc ?_ ?_ _) | (with_reducible refine Below.drewN' ?_ _) | (with_reducible refine Below.via ?_ (by assumption) ?_) | (with_reducible exact Nat.le_refl _) | (simp; done) | (simp; omega) | omega))⟩
              case measure => exact intOf_lt hlt
            · go_wp2
              refine Flow.wp_region_flow 24 [(2, .fixed (.bool true)), (7, .fixed (.bool true)), (20, .fixed (.int .i64 (cmpT ts[k - 1] ts[k])))] [] (by kernel_rfl) (by kernel_rfl) (exact_stable rfl) ?_
              intro hgrow
              simp only [List.take_succ_cons, List.take_zero]
              repeat (first | ((with_reducible refine Flow.flow_quiet ?_ ?_ ?_); (focus (exact rfl)); (focus (exact rfl)); intro K hK; go_simp; refine hK _ ?_; clear hK K) | ((with_reducible refine Flow.flow_pass ?_); intro K hK; go_simp; (first | refine hK _ ?_ | (refine ⟨?_, hK _ ?_⟩; (focus (simp [undef]; done)))); clear hK K))
              refine Flow.flow_exact _ rfl (by go_simp) (fun W hW => flow_ret (by go_simp) (Ret.mono (isSymbol_any ts[k].name _ hszk) (by rw [h1]))) ?_
              repeat (first | ((with_reducible refine Flow.flow_quiet ?_ ?_ ?_); (focus (exact rfl)); (focus (exact rfl)); intro K hK; go_simp; refine hK _ ?_; clear hK K) | ((with_reducible refine Flow.flow_pass ?_); intro K hK; go_simp; (first | refine hK _ ?_ | (refine ⟨?_, hK _ ?_⟩; (focus (simp [undef]; done)))); clear hK K))
              refine Flow.flow_exact _ rfl (by go_simp) (fun W hW => flow_ret (by go_simp) (Ret.mono (Same.ret (within_any ts[k].arity 0 3 _)) (by rw [h2]))) ?_
              repeat (first | ((with_reducible refine Flow.flow_quiet ?_ ?_ ?_); (focus (exact rfl)); (focus (exact rfl)); intro K hK; go_simp; refine hK _ ?_; clear hK K) | ((with_reducible refine Flow.flow_pass ?_); intro K hK; go_simp; (first | refine hK _ ?_ | (refine ⟨?_, hK _ ?_⟩; (focus (simp [undef]; done)))); clear hK K))
              refine Flow.flow_exact _ rfl (by go_simp) (fun W hW => flow_ret (by go_simp) (compareTables_any ts[k - 1] ts[k] (.slice y yn yc) (.slice x xn xc) _ ⟨_, _, _, rfl⟩ ⟨_, _, _, rfl⟩)) ?_
              repeat (first | ((with_reducible refine Flow.flow_quiet ?_ ?_ ?_); (focus (exact rfl)); (focus (exact rfl)); intro K hK; go_simp; refine hK _ ?_; clear hK K) | ((with_reducible refine Flow.flow_pass ?_); intro K hK; go_simp; (first | refine hK _ ?_ | (refine ⟨?_, hK _ ?_⟩; (focus (simp [undef]; done)))); clear hK K))
              with_reducible refine Flow.flow_nil ?_
              clear hgrow
              intro W hW _
              have hzW := hW.size
              try simp at hzW
              obtain ⟨hcW, hfW⟩ := bcell hW
              simp only [List.drop_succ_cons, List.drop_zero, List.drop_nil]
              go_wp2
              go_ret
              refine Ret.bel ?_ (by (repeat' first | (with_reducible exact Below.refl _ _) | (with_reducible refine Below.setCell ?_ ?_ _) | (with_reducible refine Below.alloc ?_ ?_ _) | (with_reducible refine Below.drewN' ?_ _) | (with_reducible refine Below.via ?_ (by assumption) ?_) | (with_reducible exact Nat.le_refl _) | (simp; done) | (simp; omega) | omega))
              unfold tabsB
              rw [allB_stop hlt (by unfold tabOk; rw [ek.out, ek'.out, h1, h2, h3, Hk0.out]; rfl)]
              rfl
    · obtain rfl : k = ts.length := by omega
      go_wp2
      go_ret
      have e : decide ((ts.length : Int) ≤ 12) = decide (ts.length ≤ 12) := by rw [decide_eq_decide]; omega
      refine Ret.bel ?_ hbw
      unfold tabsB
      rw [Hok.out, Bool.true_and, ← e]
      rfl
end Go.Proofs.Ytpbakldlhjdipaa
