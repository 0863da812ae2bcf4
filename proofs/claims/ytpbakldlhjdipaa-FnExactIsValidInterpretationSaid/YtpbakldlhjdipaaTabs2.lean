/-
  This text proves what the laws' copies and comparisons of tables compute. Condition: sizes within the law's own bound.
-/
import Derived.Test.YtpbakldlhjdipaaTabs
set_option maxRecDepth 100000
set_option linter.unusedSimpArgs false
set_option linter.unusedVariables false
namespace Go.Proofs.Ytpbakldlhjdipaa
open Go.RowKit

theorem int_info : (Try.prog.info? 3).map (fun i => (i.zero, i.size, i.bytes)) = some (some (.int .i64 0), 1, 8) := by kernel_rfl

set_option maxHeartbeats 1000000 in
theorem toIntS_any (xs : List Int) (v : Value) (w : World) {lo : Nat} (hx : IntsAt w lo v xs) (hl : xs.length ≤ 1048576) :
    Calls Try.prog 95 #[v] w (Tell w fun w' u => IntsAt w' w.heap.size u xs) := by
  obtain ⟨a, cap, rfl, hnc, hcap, hS⟩ := hx.open_
  clear hx
  have hmk := fun W => run_make_k (P := Try.prog) 52 3 (.int .i64 0) 1 8 Try.underlying52 int_info .i64 .i64 xs.length (by omega) (by omega) W
  have h0 := rowIs_made_k w #[.int .i64 0] xs.length 3
  go_enter Try.func95, Try.ntmps95
  go_wp2
  clear hmk
  go_loopw [4] (fun i wr => CntB w xs.length (fun k wr => ∃ h, wr.rowIs w.heap.size 3 xs.length h ∧ ∀ j, j < k → h j = .int .i64 (atZ xs j)) i wr) (fun i _ => xs.length - (intOf i).toNat)
  case atStart => exact ⟨0, Nat.zero_le _, rfl, ⟨_, h0, fun j hj => absurd hj (by omega)⟩, (Below.refl _ _).alloc (Nat.le_refl _) _⟩
  case round =>
    obtain ⟨k, hk, rfl, ⟨h, hr, hh⟩, hbw⟩ := hrel
    clear h0
    have Hh := Lib.hid hh
    clear hh
    by_cases hlt : k < xs.length
    · obtain ⟨b, off, rfl, hbl, c0⟩ := (hS.keep (Keeps.of_below hbw _)).at1 hlt
      have c1 := hr.cell hlt
      have c2 := hr.frozen k
      go_wp2
      go_roundw
      case rel => exact ⟨k + 1, hlt, by go_num, ⟨_, hr.set k _, all_lt_succ (fun j hj => by rw [if_neg (by omega)]; exact Hh.out j hj) (by rw [if_pos rfl])⟩, hbw.setCell (Nat.le_refl _) _⟩
      case measure => exact intOf_lt hlt
    · obtain rfl : k = xs.length := by omega
      go_wp2
      go_ret
      exact Tell.mk' hbw (Sl.mk (Nat.le_refl _) (by omega) (SlA.of_row (by rw [Nat.mul_one]; exact hr) (Nat.le_refl _) (fun i j hi hj => by
        obtain rfl : j = 0 := by omega
        simpa using Hh.out i hi)))

set_option maxHeartbeats 400000 in
theorem toTable_any (t : Tb) (s : Value) (w : World) {lo : Nat} (ht : TabAt w lo t s) (hl : t.vals.length ≤ 1048576) :
    Calls Try.prog 48 #[.agg #[.string t.name, .int .i64 t.arity, .bool t.pred, s]] w (Tell w fun w' u => ∃ a q, u = .agg #[.string t.name, .int .i64 t.arity, .bool t.pred, .slice a t.vals.length q] ∧ TabAt w' w.heap.size t (.slice a t.vals.length q)) := by
  obtain ⟨hi, hn⟩ := ht
  have Hi := Lib.hid hi
  clear hi
  go_enter Try.func48, Try.ntmps48
  go_wp2_with (first
    | (go_at_call 95; refine (toIntS_any t.vals _ _ (Hi.out.keep ((((Keeps.refl _ _).alloc _).alloc _).alloc _)) hl).mono ?_; rintro e w1 ⟨v1, rfl, hb1, hv1⟩; obtain ⟨a1, q1, rfl, hq1, hq2, hS1⟩ := hv1.open_; have hz1 := hb1.size; (try simp at hz1); obtain ⟨hc1, hf1⟩ := bcell hb1))
  refine bodyPost_ret (v := .agg #[.string t.name, .int .i64 t.arity, .bool t.pred, .slice a1 t.vals.length q1]) (by simp [results, Try.results48, go_sem, hc1]) rfl ?_
  refine Tell.mk' (by (repeat' first | (with_reducible exact Below.refl _ _) | (with_reducible refine Below.setCell ?_ ?_ _) | (with_reducible refine Below.alloc ?_ ?_ _) | (with_reducible refine Below.drewN' ?_ _) | (with_reducible refine Below.via ?_ (by assumption) ?_) | (with_reducible exact Nat.le_refl _) | (simp; done) | (simp; omega) | omega)) ⟨_, _, rfl, ?_, hn⟩
  exact Sl.mk hq1 hq2 ((hS1.keep (by (repeat' first | (with_reducible exact Keeps.refl _ _) | (with_reducible refine Keeps.setCell ?_ ?_ _) | (with_reducible refine Keeps.alloc ?_ _) | (with_reducible refine Keeps.drewN' ?_ _) | (with_reducible refine Keeps.via ?_ (by assumption) ?_) | (with_reducible exact Nat.le_refl _) | (simp; done) | (simp; omega) | omega))).low (by simp; omega))

theorem table_info : (Try.prog.info? 83).map (fun i => (i.zero, i.size, i.bytes)) = some (some (.agg #[.string ⟨#[]⟩, .int .i64 0, .bool false, .slice none 0 0]), 4, 56) := by kernel_rfl

set_option maxHeartbeats 1000000 in
theorem toTableS_any (ts : List Tb) (v : Value) (w : World) {lo : Nat} (hx : TabsAt w lo v ts) (hl : ts.length ≤ 1048576) (hls : ∀ t ∈ ts, t.vals.length ≤ 1048576) :
    Calls Try.prog 11 #[v] w (Tell w fun w' u => TabsAt w' w.heap.size u ts) := by
  obtain ⟨s, hs, hf⟩ := hx
  obtain ⟨a, cap, rfl, hnc, hcap, hS⟩ := hs.open_
  clear hs
  have HS := Lib.hid hS
  have HF := Lib.hid hf
  have HL := Lib.hid hls
  clear hS hf hls
  have hmk := fun W => run_make_k (P := Try.prog) 26 83 (.agg #[.string ⟨#[]⟩, .int .i64 0, .bool false, .slice none 0 0]) 4 56 Try.underlying26 table_info .i64 .i64 ts.length (by omega) (by omega) W
  go_enter Try.func11, Try.ntmps11
  go_wp2
  clear hmk
  have h0 := rowIs_made_k w #[.string ⟨#[]⟩, .int .i64 0, .bool false, .slice none 0 0] (ts.length * 4) 83
  go_loopw [4] (fun i wr => CntB w ts.length (fun k wr => ∃ (h : Nat → Value) (s' : Nat → Value), wr.rowIs w.heap.size 83 (ts.length * 4) h ∧ ∀ j (hj : j < ts.length), j < k → TabAt wr (w.heap.size + 1) ts[j] (s' j) ∧ ∀ o, o < 4 → h (j * 4 + o) = tbC ts[j] (s' j) o) i wr) (fun i _ => ts.length - (intOf i).toNat)
  case atStart => exact ⟨0, Nat.zero_le _, rfl, ⟨_, fun _ => undef, h0, fun j _ hj => absurd hj (by omega)⟩, (Below.refl _ _).alloc (Nat.le_refl _) _⟩
  case round =>
    obtain ⟨k, hk, rfl, ⟨h, s', hr, hh⟩, hbw⟩ := hrel
    clear h0
    have Hh := Lib.hid hh
    clear hh
    by_cases hlt : k < ts.length
    · obtain ⟨b, off, rfl, hbl, c0, c1, c2, c3⟩ := (HS.out.keep (Keeps.of_below hbw _)).at4 hlt
      rw [getD_at _ hlt] at c0 c1 c2 c3
      simp only [tbC] at c0 c1 c2 c3
      have HT := Lib.hid ((HF.out k hlt).keep (Keeps.of_below hbw _))
      have HR := Lib.hid hr
      have hrs := hr.lt
      have d0 := hr.cell (i := k * 4) (by omega)
      have d1 := hr.cell (i := k * 4 + 1) (by omega)
      have d2 := hr.cell (i := k * 4 + 2) (by omega)
      have d3 := hr.cell (i := k * 4 + 3) (by omega)
      have f0 := hr.frozen (k * 4)
      have f1 := hr.frozen (k * 4 + 1)
      have f2 := hr.frozen (k * 4 + 2)
      have f3 := hr.frozen (k * 4 + 3)
      clear hr
      go_wp2_with (first
        | (go_at_call 48; refine (toTable_any ts[k] (s k) _ HT.out (HL.out _ (List.getElem_mem hlt))).mono ?_; rintro e w1 ⟨v1, rfl, hb1, ⟨a1, q1, rfl, hg⟩⟩; have hz1 := hb1.size; (try simp at hz1); obtain ⟨hc1, hf1⟩ := bcell hb1))
      clear hc1 hf1 d0 d1 d2 d3 f0 f1 f2 f3 c0 c1 c2 c3
      refine ⟨⟨k + 1, hlt, by go_num, ⟨_, fun j => if j = k then .slice a1 ts[k].vals.length q1 else s' j, ((((row_keep HR.out (Keeps.of_below hb1 0) (Nat.zero_le _)).set _ _).set _ _).set _ _).set _ _, fun j hj hjk => ?_⟩, (by (repeat' first | (with_reducible exact Below.refl _ _) | (with_reducible refine Below.setCell ?_ ?_ _) | (with_reducible refine Below.alloc ?_ ?_ _) | (with_reducible refine Below.drewN' ?_ _) | (with_reducible refine Below.via ?_ (by assumption) ?_) | (with_reducible exact Nat.le_refl _) | (simp; done) | (simp; omega) | omega))⟩, intOf_lt hlt⟩
      rcases Nat.lt_or_ge j k with h1 | h1
      · obtain ⟨g1, g2⟩ := Hh.out j hj h1
        dsimp only
        rw [if_neg (by omega)]
        refine ⟨g1.keep (by (repeat' first | (with_reducible exact Keeps.refl _ _) | (with_reducible refine Keeps.setCell ?_ ?_ _) | (with_reducible refine Keeps.alloc ?_ _) | (with_reducible refine Keeps.drewN' ?_ _) | (with_reducible refine Keeps.via ?_ (by assumption) ?_) | (with_reducible exact Nat.le_refl _) | (simp; done) | (simp; omega) | omega)), fun o ho => ?_⟩
        rw [← g2 o ho]
        repeat rw [if_neg (by omega)]
      · obtain rfl : j = k := by omega
        dsimp only
        rw [if_pos rfl]
        refine ⟨(hg.keep (by (repeat' first | (with_reducible exact Keeps.refl _ _) | (with_reducible refine Keeps.setCell ?_ ?_ _) | (with_reducible refine Keeps.alloc ?_ _) | (with_reducible refine Keeps.drewN' ?_ _) | (with_reducible refine Keeps.via ?_ (by assumption) ?_) | (with_reducible exact Nat.le_refl _) | (simp; done) | (simp; omega) | omega))).low (by omega), fun o ho => ?_⟩
        match o, ho with
        | 0, _ => simp [tbC]
        | 1, _ => simp [tbC]
        | 2, _ => simp [tbC]
        | 3, _ => simp [tbC]
    · obtain rfl : k = ts.length := by omega
      go_wp2
      go_ret
      exact Tell.mk' hbw ⟨s', Sl.mk (Nat.le_refl _) (by omega) (SlA.of_row hr (Nat.le_refl _) (fun i j hi hj => by rw [(Hh.out i hi hi).2 j hj, getD_at _ hi])), fun i hi => (Hh.out i hi hi).1.low (by omega)⟩
end Go.Proofs.Ytpbakldlhjdipaa
