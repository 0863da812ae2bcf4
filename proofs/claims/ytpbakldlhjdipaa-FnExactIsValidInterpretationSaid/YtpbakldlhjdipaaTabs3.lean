/-
  This text proves that the laws' comparisons of equal tables say yes. Condition: the tables are of the same data.
-/
import Derived.Test.YtpbakldlhjdipaaTabs2
set_option maxRecDepth 100000
set_option linter.unusedSimpArgs false
set_option linter.unusedVariables false
namespace Go.Proofs.Ytpbakldlhjdipaa
open Go.RowKit

set_option maxHeartbeats 1000000 in
theorem eqIntS_same (xs : List Int) (u v : Value) (w : World) {lo lo' : Nat} (hu : IntsAt w lo u xs) (hv : IntsAt w lo' v xs) :
    Calls Try.prog 98 #[u, v] w (Ret w (.bool true)) := by
  obtain ⟨a, cap, rfl, hnc, hcap, hS⟩ := hu.open_
  obtain ⟨a', cap', rfl, hnc', hcap', hS'⟩ := hv.open_
  clear hu hv
  have HS := Lib.hid hS
  have HS' := Lib.hid hS'
  clear hS hS'
  go_enter Try.func98, Try.ntmps98
  go_wp2
  go_loopw [5] (fun i wr => CntB w xs.length (fun _ _ => True) i wr) (fun i _ => xs.length - (intOf i).toNat)
  case atStart => exact ⟨0, Nat.zero_le _, rfl, trivial, Below.refl _ _⟩
  case round =>
    obtain ⟨k, hk, rfl, _, hbw⟩ := hrel
    by_cases hlt : k < xs.length
    · obtain ⟨b, off, rfl, hbl, c0⟩ := (HS.out.keep (Keeps.of_below hbw _)).at1 hlt
      obtain ⟨b', off', rfl, hbl', c0'⟩ := (HS'.out.keep (Keeps.of_below hbw _)).at1 hlt
      go_wp2
      refine Flow.wp_region_flow 9 [] [] (by kernel_rfl) (by kernel_rfl) (exact_stable rfl) ?_
      intro hgrow
      simp only [List.take_succ_cons, List.take_zero]
      repeat (first | ((with_reducible refine Flow.flow_quiet ?_ ?_ ?_); (focus (exact rfl)); (focus (exact rfl)); intro K hK; go_simp; refine hK _ ?_; clear hK K) | ((with_reducible refine Flow.flow_pass ?_); intro K hK; go_simp; (first | refine hK _ ?_ | (refine ⟨?_, hK _ ?_⟩; (focus (simp [undef]; done)))); clear hK K))
      with_reducible refine Flow.flow_nil ?_
      clear hgrow
      intro W hW _
      have hzW := hW.size
      try simp at hzW
      obtain ⟨hcW, hfW⟩ := bcell hW
      simp only [List.drop_succ_cons, List.drop_zero, List.drop_nil]
      go_wp2
      go_roundw
      case rel => exact ⟨k + 1, hlt, by go_num, trivial, Below.of_trans hbw hW⟩
      case measure => exact intOf_lt hlt
    · obtain rfl : k = xs.length := by omega
      go_wp2
      go_ret
      exact Ret.bel rfl hbw

set_option maxHeartbeats 400000 in
theorem eqTable_same (t : Tb) (u v : Value) (w : World) {lo lo' : Nat} (hu : TabAt w lo t u) (hv : TabAt w lo' t v) :
    Calls Try.prog 53 #[.agg #[.string t.name, .int .i64 t.arity, .bool t.pred, u], .agg #[.string t.name, .int .i64 t.arity, .bool t.pred, v]] w (Ret w (.bool true)) := by
  have Hu := Lib.hid hu.1
  have Hv := Lib.hid hv.1
  clear hu hv
  go_enter Try.func53, Try.ntmps53
  go_wp2_with (first
    | (go_at_call 98; refine (eqIntS_same t.vals _ _ _ (Hu.out.keep (((Keeps.refl _ _).alloc _).alloc _)) (Hv.out.keep (((Keeps.refl _ _).alloc _).alloc _))).mono ?_; rintro e w1 ⟨rfl, hb1⟩; have hz1 := hb1.size; (try simp at hz1); obtain ⟨hc1, hf1⟩ := bcell hb1))
  go_ret
  exact Ret.bel rfl (by (repeat' first | (with_reducible exact Below.refl _ _) | (with_reducible refine Below.setCell ?_ ?_ _) | (with_reducible refine Below.alloc ?_ ?_ _) | (with_reducible refine Below.drewN' ?_ _) | (with_reducible refine Below.via ?_ (by assumption) ?_) | (with_reducible exact Nat.le_refl _) | (simp; done) | (simp; omega) | omega))

set_option maxHeartbeats 1000000 in
theorem eqTableS_same (ts : List Tb) (u v : Value) (w : World) {lo lo' : Nat} (hu : TabsAt w lo u ts) (hv : TabsAt w lo' v ts) :
    Calls Try.prog 13 #[u, v] w (Ret w (.bool true)) := by
  obtain ⟨s, hs, hf⟩ := hu
  obtain ⟨s', hs', hf'⟩ := hv
  obtain ⟨a, cap, rfl, hnc, hcap, hS⟩ := hs.open_
  obtain ⟨a', cap', rfl, hnc', hcap', hS'⟩ := hs'.open_
  have HS := Lib.hid hS
  have HS' := Lib.hid hS'
  have HF := Lib.hid hf
  have HF' := Lib.hid hf'
  clear hS hS' hs hs' hf hf'
  go_enter Try.func13, Try.ntmps13
  go_wp2
  go_loopw [5] (fun i wr => CntB w ts.length (fun _ _ => True) i wr) (fun i _ => ts.length - (intOf i).toNat)
  case atStart => exact ⟨0, Nat.zero_le _, rfl, trivial, Below.refl _ _⟩
  case round =>
    obtain ⟨k, hk, rfl, _, hbw⟩ := hrel
    by_cases hlt : k < ts.length
    · obtain ⟨b, off, rfl, hbl, c0, c1, c2, c3⟩ := (HS.out.keep (Keeps.of_below hbw _)).at4 hlt
      obtain ⟨b', off', rfl, hbl', c0', c1', c2', c3'⟩ := (HS'.out.keep (Keeps.of_below hbw _)).at4 hlt
      rw [getD_at _ hlt] at c0 c1 c2 c3 c0' c1' c2' c3'
      simp only [tbC] at c0 c1 c2 c3 c0' c1' c2' c3'
      have HT := Lib.hid ((HF.out k hlt).keep (Keeps.of_below hbw _))
      have HT' := Lib.hid ((HF'.out k hlt).keep (Keeps.of_below hbw _))
      go_wp2
      refine Flow.wp_region_flow 10 [(8, .fixed (.bool true))] [] (by kernel_rfl) (by kernel_rfl) (exact_stable rfl) ?_
      intro hgrow
      simp only [List.take_succ_cons, List.take_zero]
      repeat (first | ((with_reducible refine Flow.flow_quiet ?_ ?_ ?_); (focus (exact rfl)); (focus (exact rfl)); intro K hK; go_simp; refine hK _ ?_; clear hK K) | ((with_reducible refine Flow.flow_pass ?_); intro K hK; go_simp; (first | refine hK _ ?_ | (refine ⟨?_, hK _ ?_⟩; (focus (simp [undef]; done)))); clear hK K))
      refine Flow.flow_exact _ rfl (by go_simp) (fun W hW => flow_ret (by go_simp) (eqTable_same ts[k] _ _ _ (HT.out.keep (Keeps.of_below hW _)) (HT'.out.keep (Keeps.of_below hW _)))) ?_
      repeat (first | ((with_reducible refine Flow.flow_quiet ?_ ?_ ?_); (focus (exact rfl)); (focus (exact rfl)); intro K hK; go_simp; refine hK _ ?_; clear hK K) | ((with_reducible refine Flow.flow_pass ?_); intro K hK; go_simp; (first | refine hK _ ?_ | (refine ⟨?_, hK _ ?_⟩; (focus (simp [undef]; done)))); clear hK K))
      with_reducible refine Flow.flow_nil ?_
      clear hgrow
      intro W hW _
      have hzW := hW.size
      try simp at hzW
      obtain ⟨hcW, hfW⟩ := bcell hW
      simp only [List.drop_succ_cons, List.drop_zero, List.drop_nil]
      go_wp2
      go_roundw
      case rel => exact ⟨k + 1, hlt, by go_num, trivial, Below.of_trans hbw hW⟩
      case measure => exact intOf_lt hlt
    · obtain rfl : k = ts.length := by omega
      go_wp2
      go_ret
      exact Ret.bel rfl hbw
end Go.Proofs.Ytpbakldlhjdipaa
