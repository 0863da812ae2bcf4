/-
  This text proves what the laws' functions on tables compute: sizes, copies, comparisons. Condition: sizes within the law's own bound.
-/
import Derived.Test.YtpbakldlhjdipaaReps
set_option maxRecDepth 100000
set_option linter.unusedSimpArgs false
set_option linter.unusedVariables false
namespace Go.Proofs.Ytpbakldlhjdipaa
open Go.RowKit

structure Tb where
  name : ByteArray
  arity : Int
  pred : Bool
  vals : List Int

/-- The cells of one table, s being the slice of its values. -/
def tbC (t : Tb) (s : Value) (j : Nat) : Value := match j with | 0 => .string t.name | 1 => .int .i64 t.arity | 2 => .bool t.pred | _ => s
/-- What one table's slice is. -/
def TabAt (w : World) (lo : Nat) (t : Tb) (s : Value) : Prop := IntsAt w lo s t.vals ∧ t.name.size ≤ 9223372036854775807
def TabsAt (w : World) (lo : Nat) (v : Value) (ts : List Tb) : Prop := ∃ s : Nat → Value, Sl w lo 4 ts.length (fun i j => tbC (ts.getD i ⟨⟨#[]⟩, 0, false, []⟩) (s i) j) v ∧ ∀ i (h : i < ts.length), TabAt w lo ts[i] (s i)
theorem TabAt.keep {w w' : World} {lo : Nat} {t : Tb} {s : Value} (h : TabAt w lo t s) (hb : Keeps lo w w') : TabAt w' lo t s := ⟨h.1.keep hb, h.2⟩
theorem TabAt.low {w : World} {lo lo' : Nat} {t : Tb} {s : Value} (h : TabAt w lo t s) (hl : lo' ≤ lo) : TabAt w lo' t s := ⟨h.1.low hl, h.2⟩
theorem getD_at {α : Type} {l : List α} {i : Nat} (d : α) (h : i < l.length) : l.getD i d = l[i] := by rw [List.getD_eq_getElem?_getD, List.getElem?_eq_getElem h]; rfl
theorem TabsAt.keep {w w' : World} {lo : Nat} {v : Value} {ts : List Tb} (h : TabsAt w lo v ts) (hb : Keeps lo w w') : TabsAt w' lo v ts := by
  obtain ⟨f, h1, h2⟩ := h
  exact ⟨f, h1.keep hb, fun i hi => (h2 i hi).keep hb⟩
theorem TabsAt.low {w : World} {lo lo' : Nat} {v : Value} {ts : List Tb} (h : TabsAt w lo v ts) (hl : lo' ≤ lo) : TabsAt w lo' v ts := by
  obtain ⟨f, h1, h2⟩ := h
  exact ⟨f, h1.low hl, fun i hi => (h2 i hi).low hl⟩

def szI (n : Nat) (left : Int) : Int := if left - n < 0 then -1 else left - n
theorem szI_lo (n : Nat) (left : Int) : -1 ≤ szI n left := by unfold szI; split <;> omega
theorem szI_hi (n : Nat) (left : Int) (h : -1 ≤ left) : szI n left ≤ left := by unfold szI; split <;> omega

set_option maxHeartbeats 400000 in
theorem szIntS_any (a : Option Addr) (n cap : Nat) (left : Int) (w : World) (h0 : 0 ≤ left) (h1 : left ≤ 1048576) (hn : n ≤ 9223372036854775807) :
    Calls Try.prog 92 #[.slice a n cap, .int .i64 left] w (Same w (.int .i64 (szI n left))) := by
  go_enter Try.func92, Try.ntmps92
  go_wp2
  all_goals
    go_ret
    exact Same.mk' _ (by unfold szI; first | rw [if_pos (by assumption)]; rfl | rw [if_neg (by omega)]; rfl)

def szTb (t : Tb) (left : Int) : Int := if szI t.name.size left < 0 then -1 else szI t.vals.length (szI t.name.size left)
theorem szTb_lo (t : Tb) (left : Int) : -1 ≤ szTb t left := by
  unfold szTb; split
  · omega
  · exact szI_lo _ _
theorem szTb_hi (t : Tb) (left : Int) (h : -1 ≤ left) : szTb t left ≤ left := by
  unfold szTb; split
  · omega
  · have := szI_hi t.name.size left h
    have := szI_hi t.vals.length (szI t.name.size left) (by omega)
    omega

set_option maxHeartbeats 400000 in
theorem szTable_any (t : Tb) (s : Value) (left : Int) (w : World) (h0 : 0 ≤ left) (h1 : left ≤ 1048576) {lo : Nat} (ht : TabAt w lo t s) :
    Calls Try.prog 44 #[.agg #[.string t.name, .int .i64 t.arity, .bool t.pred, s], .int .i64 left] w (Ret w (.int .i64 (szTb t left))) := by
  obtain ⟨hi, hn⟩ := ht
  obtain ⟨a, cap, rfl, hnc, hcap, _⟩ := hi.open_
  clear hi
  have hlo := szI_lo t.name.size left
  have hhi := szI_hi t.name.size left (by omega)
  have hw : t.name.size ≤ left ∨ left < t.name.size := by omega
  rcases hw with hw | hw
  · have e : szI t.name.size left = left - t.name.size := by unfold szI; rw [if_neg (by omega)]
    have E := Lib.hid e
    rw [e] at hlo hhi
    clear e
    go_enter Try.func44, Try.ntmps44
    go_wp2_with (first
      | (go_at_call 92; refine (szIntS_any _ _ _ _ _ (by omega) (by omega) (by omega)).mono ?_; rintro e w' ⟨rfl, rfl⟩))
    all_goals
      go_ret
      refine Ret.bel ?_ ((Below.refl _ _).alloc (Nat.le_refl _) _)
      unfold szTb
      rw [E.out, if_neg (by omega)]
    · have := szI_lo t.vals.length (left - t.name.size)
      rw [show szI t.vals.length (left - t.name.size) = -1 by omega]; rfl
    · rfl
  · go_enter Try.func44, Try.ntmps44
    go_wp2
    go_ret
    refine Ret.bel ?_ ((Below.refl _ _).alloc (Nat.le_refl _) _)
    unfold szTb szI
    rw [if_pos (by omega)]; rfl

def szGo : List Tb → Int → Int
  | [], l => l
  | t :: ts, l => if szTb t l < 0 then -1 else szGo ts (szTb t l)
def szTbs (ts : List Tb) (left : Int) : Int := if left - ts.length < 0 then -1 else szGo ts (left - ts.length)

set_option maxHeartbeats 1000000 in
theorem szTableS_any (ts : List Tb) (v : Value) (left : Int) (w : World) (h0 : 0 ≤ left) (h1 : left ≤ 1048576) {lo : Nat} (ht : TabsAt w lo v ts) :
    Calls Try.prog 9 #[v, .int .i64 left] w (Ret w (.int .i64 (szTbs ts left))) := by
  obtain ⟨s, hs, hf⟩ := ht
  obtain ⟨a, cap, rfl, hnc, hcap, hS⟩ := hs.open_
  clear hs
  by_cases hl : left - ts.length < 0
  · go_enter Try.func9, Try.ntmps9
    go_wp2
    go_ret
    exact Ret.same _ (by unfold szTbs; rw [if_pos hl]; rfl)
  · go_enter Try.func9, Try.ntmps9
    go_wp2
    go_loopw [1, 5] (fun l i wr => ∃ z : Int, l = .int .i64 z ∧ 0 ≤ z ∧ z ≤ 1048576 ∧ CntB w ts.length (fun k _ => szGo (ts.drop k) z = szGo ts (left - ts.length)) i wr) (fun _ i _ => ts.length - (intOf i).toNat)
    case atStart => exact ⟨_, rfl, by omega, by omega, 0, Nat.zero_le _, rfl, rfl, Below.refl _ _⟩
    case round =>
      obtain ⟨z, rfl, hz0, hz1, k, hk, rfl, hok, hbw⟩ := hrel
      have Hok := Lib.hid hok
      clear hok
      by_cases hlt : k < ts.length
      · obtain ⟨b, off, rfl, hbl, c0, c1, c2, c3⟩ := (hS.keep (Keeps.of_below hbw _)).at4 hlt
        rw [getD_at _ hlt] at c0 c1 c2 c3
        simp only [tbC] at c0 c1 c2 c3
        have hT := (hf k hlt).keep (Keeps.of_below hbw _)
        clear hS hf
        have hlo := szTb_lo ts[k] z
        have hhi := szTb_hi ts[k] z (by omega)
        go_wp2_with (first
          | (go_at_call 44; refine (szTable_any ts[k] (s k) _ _ (by omega) (by omega) hT).mono ?_; rintro e w' ⟨rfl, hb⟩))
        · go_ret
          refine Ret.bel ?_ (Below.of_trans hbw hb)
          unfold szTbs
          rw [if_neg (by omega), ← Hok.out, drop_at hlt]
          unfold szGo
          rw [if_pos (by assumption)]; rfl
        · go_roundw
          case rel => exact ⟨_, rfl, by omega, by omega, k + 1, hlt, by go_num, by rw [← Hok.out, drop_at hlt]; show _ = szGo (_ :: _) _; rw [szGo, if_neg (by omega)], Below.of_trans hbw hb⟩
          case measure => exact intOf_lt hlt
      · obtain rfl : k = ts.length := by omega
        go_wp2
        go_ret
        refine Ret.bel ?_ hbw
        unfold szTbs
        rw [if_neg (by omega), ← Hok.out, List.drop_length]; rfl
end Go.Proofs.Ytpbakldlhjdipaa
