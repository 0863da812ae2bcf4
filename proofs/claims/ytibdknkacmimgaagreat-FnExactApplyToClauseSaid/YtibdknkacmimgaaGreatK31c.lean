/-
  This text holds, one behind the other: This text says how a function's result is put into order: unreached objects dropped, rows given up as shared data, nil slices taken as empty rows. No condition.
  This text runs code by functions, with loops and calls to the end, and says that what it tells is true of the program. No condition.
  This text takes what functions tell to the limit: no bound on rounds and depth is left, and a function's answer is its code's. No condition.
  This text says how tables lie in memory, and holds small laws of sizes. No condition.
  This text says how the records of the laws lie in memory. No condition.
  This text turns contracts of the kit's form into contracts by shadows, and holds small laws of lists. No condition.
  This text proves what the laws' text of a mark is. Condition: the number is from 1 to 2^40.
  This text proves what the functions on names compute: variables, symbols, bytes. Condition: a name has at most the greatest length.
  This text proves what the functions on symbols compute, the program's and the reference's. Condition: a name has at most the greatest length.
  This text proves what the reference's functions on names compute. Condition: a name has at most the greatest length.
  This text holds what the sorts of rows have in common: a row whose elements are put in another order; the order of bytes. No condition.
  This text holds the order of terms and of literals, in plain Lean: it is total. No condition.
  This text says how the records lie in memory of the call's own. No condition.
  This text lays a contract of the library at the seat: which functions and types of the program are those that it speaks of. No condition.
  This text tells what sorting a row of literals of the call's own does: the library's sort by a comparison. No condition.
  This text walks the library's CompactFunc at rows of three cells. No condition.
  This text tells what putting equal neighbours of a row of literals together does, and that behind a sort it gives the one list without repeats. No condition.
  This text gives, for the seat's program, the steps by which code is run as a function, and the rule for loops. No condition.
-/
import Derived.Test.YtibdknkacmimgaaGreatK31a
import Derived.Test.YtibdknkacmimgaaGreatK31b
import Derived.Laws.IdiomStrings
import Derived.Shelf.GgSortFunc.InsertionK
import Derived.Shelf.Sort.Plain
import Derived.Sort.EncStr
import Derived.Shelf.SlLaysF0
import Derived.Test.YtibdknkacmimgaaGreatChecked
import Derived.Shelf.SlSortCmp.NoneTotal
import Derived.Lib.QuietBelow
import Derived.Deep.LoopGhost
import Derived.Lib.SliceRun
import Derived.Shelf.Abstract
set_option maxRecDepth 100000
set_option linter.unusedSimpArgs false
set_option linter.unusedVariables false
set_option linter.unusedSectionVars false
namespace Go.Proofs.YtibdknkacmimgaaGreat
open Go.RowKit
variable [Flag]
def upTo : Nat → List Nat
  | 0 => []
  | n + 1 => upTo n ++ [n]
theorem upTo_mem {n g : Nat} : g ∈ upTo n ↔ g < n := by
  induction n with
  | zero => simp [upTo]
  | succ n ih => simp [upTo, ih]; omega
theorem upTo_nodup : ∀ n, (upTo n).Nodup
  | 0 => List.nodup_nil
  | n + 1 => by
    simp only [upTo, List.nodup_append, upTo_nodup n, List.nodup_cons, List.not_mem_nil, not_false_eq_true, List.nodup_nil, true_and]
    intro a ha b hb
    simp only [List.mem_cons, List.not_mem_nil, or_false] at hb
    have := upTo_mem.1 ha
    omega
theorem upTo_len : ∀ n, (upTo n).length = n
  | 0 => rfl
  | n + 1 => by simp [upTo, upTo_len n]
theorem upTo_get : ∀ {n g : Nat}, g < n → (upTo n)[g]? = some g
  | 0, g, h => absurd h (by omega)
  | n + 1, g, h => by
    simp only [upTo]
    rcases Nat.lt_or_ge g n with h1 | h1
    · rw [List.getElem?_append_left (by rw [upTo_len]; exact h1)]
      exact upTo_get h1
    · obtain rfl : g = n := by omega
      rw [List.getElem?_append_right (by rw [upTo_len]; omega), upTo_len]
      simp
theorem reach_app (ob : List Ob) : ∀ (n : Nat) (todo acc : List Nat), ∃ t, reach ob n todo acc = acc ++ t
  | 0, _, acc => ⟨[], by simp [reach]⟩
  | n + 1, [], acc => ⟨[], by simp [reach]⟩
  | n + 1, g :: r, acc => by
    simp only [reach]
    cases (memB g acc || !(geto ob g).liveB) with
    | true => exact reach_app ob n r acc
    | false =>
      obtain ⟨t, h⟩ := reach_app ob n (r ++ (geto ob g).refs) (acc ++ [g])
      exact ⟨g :: t, by simp only [cond_false, h]; simp⟩
theorem reach_nodup (ob : List Ob) : ∀ (n : Nat) (todo acc : List Nat), acc.Nodup → (reach ob n todo acc).Nodup
  | 0, _, acc, h => by simpa [reach] using h
  | n + 1, [], acc, h => by simpa [reach] using h
  | n + 1, g :: r, acc, h => by
    simp only [reach]
    cases hb : (memB g acc || !(geto ob g).liveB) with
    | true => exact reach_nodup ob n r acc h
    | false =>
      refine reach_nodup ob n _ _ ?_
      rw [Bool.or_eq_false_iff] at hb
      rw [List.nodup_append]
      refine ⟨h, by simp, fun a ha b hb' e => ?_⟩
      simp only [List.mem_cons, List.not_mem_nil, or_false] at hb'
      subst hb' e
      have := memB_iff.2 ha
      rw [hb.1] at this; cases this
def gcObs (m : List Nat) (ob : List Ob) : List Nat → List Ob
  | [] => []
  | g :: r => (match (geto ob g).back m with
    | some o => o
    | none => .gone) :: gcObs m ob r
theorem gcObs_len {m : List Nat} {ob : List Ob} : ∀ {l : List Nat}, (gcObs m ob l).length = l.length
  | [] => rfl
  | g :: r => by simp [gcObs, gcObs_len (l := r)]
theorem leV_of {σ : Nat → Nat} {x y : SV} (h : x.ren σ = y) : leV σ x y := by cases x <;> first | exact trivial | exact h
theorem leL_of {σ : Nat → Nat} : ∀ {xs ys : List SV}, SV.renL σ xs = ys → leL σ xs ys
  | [], ys, h => by simp only [SV.renL] at h; subst h; trivial
  | x :: xs, ys, h => by
    simp only [SV.renL] at h
    subst h
    exact ⟨leV_of rfl, leL_of rfl⟩
theorem leO_back {m : List Nat} {p : Nat} (o : Ob) : leO (sgp m p) (match o.back m with | some o' => o' | none => .gone) o := by
  split
  · rename_i o' h
    have := Ob.back_ren (p := p) h
    cases o' with
    | gone => exact trivial
    | free => cases o <;> simp [Ob.back] at h <;> (split at h <;> cases h)
    | box t l => subst this; exact ⟨rfl, leL_of rfl⟩
    | row t sz es => subst this; exact ⟨rfl, rfl, rfl⟩
    | mp ks m => subst this; exact ⟨rfl, rfl⟩
    | it ks m seen cur => subst this; exact ⟨rfl, rfl, rfl, rfl⟩
    | tree es hs => subst this; exact rfl
  · trivial
theorem gcObs_le {m : List Nat} {p : Nat} {ob : List Ob} : ∀ {l : List Nat} {k : Nat}, (∀ j, j < l.length → sgp m p (k + j) = l.getD j 0) → leOs (sgp m p) ob k (gcObs m ob l)
  | [], k, _ => trivial
  | g :: r, k, hs => by
    have h0 := hs 0 (by simp)
    simp only [Nat.add_zero, List.getD_cons_zero] at h0
    refine ⟨by rw [h0]; exact leO_back _, gcObs_le fun j hj => ?_⟩
    have := hs (j + 1) (by simpa using hj)
    simpa [Nat.add_assoc, Nat.add_comm 1 j] using this
def names (n0 : Nat) (ob : List Ob) (todo : List Nat) : List Nat := reach ob 64 todo (upTo n0)
theorem names_weak {n0 : Nat} {ob : List Ob} {todo : List Nat} {sl sl' : List SV} (h : leL (sgp (names n0 ob todo) ob.length) sl' sl) : WeakC n0 (names n0 ob todo) ⟨sl, ob⟩ ⟨sl', gcObs (names n0 ob todo) ob (names n0 ob todo)⟩ := by
  obtain ⟨t, ht⟩ := reach_app ob 64 todo (upTo n0)
  refine ⟨h, gcObs_le fun j hj => ?_, ⟨gcObs_len.symm, reach_nodup _ _ _ _ (upTo_nodup n0)⟩, ?_⟩
  · rw [Nat.zero_add, sgp_get, List.getElem?_eq_getElem hj]
    simp [List.getD_eq_getElem?_getD, List.getElem?_eq_getElem hj]
  · have key : ∀ n, n ≤ n0 → idTo (sgp (names n0 ob todo) ob.length) n := by
      intro n
      induction n with
      | zero => intro _; trivial
      | succ n ih =>
        intro hn
        refine ⟨?_, ih (by omega)⟩
        have : (names n0 ob todo)[n]? = some n := by
          unfold names
          rw [ht, List.getElem?_append_left (by rw [upTo_len]; omega)]
          exact upTo_get (by omega)
        show sgp (names n0 ob todo) ob.length n = n
        rw [sgp_get, this]
    exact key n0 (Nat.le_refl _)
section
variable {P : Program} {f : FuncId} {args : List SV} {ob : List Ob} {r : SV} {ob' : List Ob}
theorem Fun.weak {r2 : SV} {ob2 : List Ob} {m : List Nat} (h : Fun P f args ob r ob') (hw : WeakC ob.length m ⟨[r], ob'⟩ ⟨[r2], ob2⟩) : Fun P f args ob r2 ob2 := by
  intro w I V B vs hwf hvs
  refine (h w I V B vs hwf hvs).mono ?_
  rintro e w' ⟨v, I', V', B', rfl, hr, hp⟩
  refine ⟨v, I', fun g => V' (sgp m ob'.length g), fun g => B' (sgp m ob'.length g), rfl, ?_, ⟨hp.fr, hp.i0, hp.i1, fun g u hu => ?_, hw.wf hp.wf, fun g b hl hb => ?_⟩⟩
  · have h1 := hw.1
    simp only [leL] at h1
    exact leV_rep h1.1 hr
  · have hg : g < ob.length := by
      rcases Nat.lt_or_ge g ob.length with h1 | h1
      · exact h1
      · rw [hwf.fr g (geto_big _ _ h1)] at hu; cases hu
    rw [idTo_spec hw.2.2.2 g hg]
    exact hp.v g u hu
  · have hlt : g < ob2.length := by
      rcases Nat.lt_or_ge g ob2.length with h1 | h1
      · exact h1
      · rw [geto_big _ _ h1] at hl; exact hl.elim
    have h1 := leOs_geto (j := g) hw.2.1 hlt
    rw [Nat.zero_add] at h1
    exact hp.bh _ b (leO_live h1 hl) hb
end
def gc (n0 : Nat) (r : SV) (ob : List Ob) : Option (SV × List Ob) :=
  match r.back (names n0 ob r.refs) with
  | some r' => some (r', gcObs (names n0 ob r.refs) ob (names n0 ob r.refs))
  | none => none
theorem gc_weak {n0 : Nat} {r r' : SV} {ob ob' : List Ob} (h : gc n0 r ob = some (r', ob')) : WeakC n0 (names n0 ob r.refs) ⟨[r], ob⟩ ⟨[r'], ob'⟩ := by
  unfold gc at h
  split at h
  · rename_i r1 h1
    simp only [Option.some.injEq, Prod.mk.injEq] at h
    obtain ⟨rfl, rfl⟩ := h
    exact names_weak ⟨leV_of (SV.back_ren h1), trivial⟩
  · cases h
def goneAt (gs : List Nat) : Nat → List Ob → List Ob
  | _, [] => []
  | k, o :: r => (bif memB k gs then .gone else o) :: goneAt gs (k + 1) r
theorem goneAt_get {gs : List Nat} : ∀ {l : List Ob} {k j : Nat}, geto (goneAt gs k l) j = if j < l.length ∧ k + j ∈ gs then .gone else geto l j
  | [], k, j => by simp [goneAt, geto]
  | o :: r, k, 0 => by
    simp only [goneAt, geto, List.length_cons, Nat.zero_lt_succ, true_and, Nat.add_zero]
    by_cases h : k ∈ gs
    · rw [if_pos h, memB_iff.2 h]; rfl
    · have : memB k gs = false := by
        cases e : memB k gs with
        | false => rfl
        | true => exact absurd (memB_iff.1 e) h
      rw [if_neg h, this]; rfl
  | o :: r, k, j + 1 => by
    simp only [goneAt, geto, List.length_cons, Nat.add_lt_add_iff_right]
    rw [goneAt_get (l := r) (k := k + 1) (j := j), show k + 1 + j = k + (j + 1) by omega]
section
variable {P : Program} {f : FuncId} {args : List SV} {ob : List Ob} {r : SV} {ob' : List Ob}
theorem Fun.give (h : Fun P f args ob r ob') : Fun P f args ob (lendV (geto ob') [] r) (goneAt (lentV [] r) 0 ob') := by
  intro w I V B vs hwf hvs
  refine (h w I V B vs hwf hvs).mono ?_
  rintro e w' ⟨v, I', V', B', rfl, hr, hp⟩
  have hwf' := hp.wf
  let J : Nat → Prop := fun b => I' b ∨ ∃ g, g ∈ lentV [] r ∧ (geto ob' g).live ∧ B' g b
  have hg : ∀ g, geto (goneAt (lentV [] r) 0 ob') g = if g < ob'.length ∧ g ∈ lentV [] r then .gone else geto ob' g := fun g => by
    rw [goneAt_get, Nat.zero_add]
  have hlv : ∀ g, (geto (goneAt (lentV [] r) 0 ob') g).live → (geto ob' g).live ∧ ¬ g ∈ lentV [] r := fun g hl => by
    rw [hg g] at hl
    split at hl
    · exact hl.elim
    · rename_i hn
      refine ⟨hl, fun hm => hn ⟨?_, hm⟩⟩
      rcases Nat.lt_or_ge g ob'.length with h1 | h1
      · exact h1
      · rw [geto_big _ _ h1] at hl; exact hl.elim
  refine ⟨v, J, V', B', rfl, ?_, ⟨hp.fr, fun b hb => .inl (hp.i0 b hb), fun b hb => ?_, hp.v, ?_, fun g b hl hb => hp.bh g b (hlv g hl).1 hb⟩⟩
  · exact lendV_rep hwf' (fun b hb => .inl hb) (fun g i hi => by cases hi) r v (fun g b hm hl hb => .inr ⟨g, hm, hl, hb⟩) hr
  · rcases hb with hb | ⟨g, hm, hl, hb⟩
    · exact hp.i1 b hb
    · exact .inr ((hp.bh g b hl hb).symm)
  · refine hwf'.upd (w' := w') (fun g => g ∈ lentV [] r) (Nat.le_refl _) (fun _ _ _ => rfl) (fun b hb => .inl hb) (VLe.refl _) (fun g hn => ⟨by rw [hg g, if_neg fun h => hn h.2], rfl, fun hf => hwf'.fr g hf⟩) (fun b hb => ?_) (fun b hb => ?_) (fun g hm hl => absurd hm (hlv g hl).2) (fun g b hm hl => absurd hm (hlv g hl).2) (fun g b hm hl => absurd hm (hlv g hl).2) (fun g g' b hm hm' hl => absurd hm (hlv g hl).2) (fun g hm hf => ?_)
    · rcases hb with hb | ⟨g, hm, hl, hb⟩
      · exact .inl hb
      · exact .inr (.inr ⟨g, hm, hl, hb⟩)
    · rcases hb with hb | ⟨g, hm, hl, hb⟩
      · exact hwf'.ilt b hb
      · exact hwf'.lt g b hl hb
    · rw [hg g] at hf
      split at hf
      · cases hf
      · exact hwf'.fr g hf
end
mutual
def SV.own (n : Nat) (l : List (Option (Nat × Nat))) : SV → SV × List Ob × List (Option (Nat × Nat))
  | .agg xs => match SV.ownL n l xs with
    | (ys, os, l') => (.agg ys, os, l')
  | .tup xs => match SV.ownL n l xs with
    | (ys, os, l') => (.tup ys, os, l')
  | .nil => match l with
    | some (t, sz) :: l' => (.ref n, [.row t sz []], l')
    | _ :: l' => (.nil, [], l')
    | [] => (.nil, [], [])
  | .any => (.any, [], l.drop 1)
  | .int k m => (.int k m, [], l.drop 1)
  | .bool b => (.bool b, [], l.drop 1)
  | .str s => (.str s, [], l.drop 1)
  | .arr es => (.arr es, [], l.drop 1)
  | .ref g => (.ref g, [], l.drop 1)
  | .ptr g o => (.ptr g o, [], l.drop 1)
  | .eptr g sz k o => (.eptr g sz k o, [], l.drop 1)
  | .vptr es k o => (.vptr es k o, [], l.drop 1)
  | .mp ks m => (.mp ks m, [], l.drop 1)
  | .fn f caps => (.fn f caps, [], l.drop 1)
def SV.ownL (n : Nat) (l : List (Option (Nat × Nat))) : List SV → List SV × List Ob × List (Option (Nat × Nat))
  | [] => ([], [], l)
  | x :: r => match SV.own n l x with
    | (y, os, l1) => match SV.ownL (n + os.length) l1 r with
      | (ys, os', l2) => (y :: ys, os ++ os', l2)
end
def More (w : World) (I : Nat → Prop) (V : Nat → Option Value) (B : Nat → Nat → Prop) (ob : List Ob) (V' : Nat → Option Value) (B' : Nat → Nat → Prop) (ob' : List Ob) : Prop :=
  Wf w I V' B' (geto ob') ∧ VLe V V' ∧ (∀ g, g < ob.length → geto ob' g = geto ob g ∧ B' g = B g) ∧ (∀ g b, ob.length ≤ g → ¬ B' g b)
theorem More.refl {w : World} {I : Nat → Prop} {V : Nat → Option Value} {B : Nat → Nat → Prop} {ob : List Ob} (h : Wf w I V B (geto ob)) : ∃ B', More w I V B ob V B' ob := by
  have lt : ∀ g, (geto ob g).live → g < ob.length := fun g hl => by
    rcases Nat.lt_or_ge g ob.length with h1 | h1
    · exact h1
    · rw [geto_big _ _ h1] at hl; exact hl.elim
  refine ⟨fun g => if g < ob.length then B g else fun _ => False, ⟨h.ilt, fun g hl => ?_, fun g b hl hb => ?_, fun g b hl hb => ?_, fun g g' b hl hl' hb hb' => ?_, h.fr, h.gl⟩, VLe.refl _, fun g hg => ⟨rfl, if_pos hg⟩, fun g b hg hb => by simp only [if_neg (show ¬ g < ob.length by omega)] at hb⟩
  · obtain ⟨val, h1, h2⟩ := h.obj g hl
    exact ⟨val, h1, by simp only [if_pos (lt g hl)]; exact h2⟩
  · simp only [if_pos (lt g hl)] at hb; exact h.lt g b hl hb
  · simp only [if_pos (lt g hl)] at hb; exact h.dI g b hl hb
  · simp only [if_pos (lt g hl)] at hb
    simp only [if_pos (lt g' hl')] at hb'
    exact h.dO g g' b hl hl' hb hb'
theorem geto_last (ob : List Ob) (o : Ob) : geto (ob ++ [o]) ob.length = o := by rw [geto_app]; simp [geto]
theorem More.one {w : World} {I : Nat → Prop} {V : Nat → Option Value} {B : Nat → Nat → Prop} {ob : List Ob} (h : Wf w I V B (geto ob)) (t sz : Nat) : ∃ V' B', More w I V B ob V' B' (ob ++ [.row t sz []]) ∧ V' ob.length = some (.slice none 0 0) := by
  have hn : V ob.length = none := h.fr _ (geto_big _ _ (Nat.le_refl _))
  have e : ∀ g, g ≠ ob.length → geto (ob ++ [Ob.row t sz []]) g = geto ob g := fun g hg => by
    rw [geto_app]
    split
    · rfl
    · rename_i h1
      rw [geto_big ob g (by omega)]
      obtain ⟨q, hq⟩ : ∃ q, g - ob.length = q + 1 := ⟨g - ob.length - 1, by omega⟩
      rw [hq]; rfl
  have e0 := geto_last ob (.row t sz [])
  have lt : ∀ g, (geto (ob ++ [Ob.row t sz []]) g).live → g = ob.length ∨ (g < ob.length ∧ (geto ob g).live) := fun g hl => by
    by_cases hg : g = ob.length
    · exact .inl hg
    · rw [e g hg] at hl
      refine .inr ⟨?_, hl⟩
      rcases Nat.lt_or_ge g ob.length with h1 | h1
      · exact h1
      · rw [geto_big _ _ h1] at hl; exact hl.elim
  refine ⟨fun g => if g = ob.length then some (.slice none 0 0) else V g, fun g => if g < ob.length then B g else fun _ => False, ⟨⟨h.ilt, fun g hl => ?_, fun g b hl hb => ?_, fun g b hl hb => ?_, fun g g' b hl hl' hb hb' => ?_, fun g hf => ?_, h.gl⟩, fun g u hu => ?_, fun g hg => ⟨e g (by omega), if_pos hg⟩, fun g b hg hb => by simp only [if_neg (show ¬ g < ob.length by omega)] at hb⟩, if_pos rfl⟩
  · rcases lt g hl with rfl | ⟨h1, h2⟩
    · refine ⟨_, if_pos rfl, ?_⟩
      rw [e0]
      exact RowR.nil _ _ _ _ _
    · obtain ⟨val, h3, h4⟩ := h.obj g h2
      refine ⟨val, by simp only [if_neg (show ¬ g = ob.length by omega)]; exact h3, ?_⟩
      rw [e g (by omega)]
      simp only [if_pos h1]
      refine h4.keep ⟨Nat.le_refl _, fun _ _ _ => rfl⟩ (fun _ h => h) (fun g u hu => ?_) fun _ _ _ => rfl
      by_cases hg : g = ob.length
      · subst hg; rw [hn] at hu; cases hu
      · simp only [if_neg hg]; exact hu
  · rcases lt g hl with rfl | ⟨h1, h2⟩
    · simp at hb
    · simp only [if_pos h1] at hb; exact h.lt g b h2 hb
  · rcases lt g hl with rfl | ⟨h1, h2⟩
    · simp at hb
    · simp only [if_pos h1] at hb; exact h.dI g b h2 hb
  · rcases lt g hl with rfl | ⟨h1, h2⟩
    · simp at hb
    · rcases lt g' hl' with rfl | ⟨h1', h2'⟩
      · simp at hb'
      · simp only [if_pos h1] at hb
        simp only [if_pos h1'] at hb'
        exact h.dO g g' b h2 h2' hb hb'
  · have hg : g ≠ ob.length := fun hg => by subst hg; rw [e0] at hf; cases hf
    simp only [if_neg hg]
    rw [e g hg] at hf
    exact h.fr g hf
  · by_cases hg : g = ob.length
    · subst hg; rw [hn] at hu; cases hu
    · simp only [if_neg hg]; exact hu
theorem More.trans {w : World} {I : Nat → Prop} {V V1 V2 : Nat → Option Value} {B B1 B2 : Nat → Nat → Prop} {ob ob1 ob2 : List Ob} (h : More w I V B ob V1 B1 ob1) (k : More w I V1 B1 ob1 V2 B2 ob2) (hl : ob.length ≤ ob1.length) : More w I V B ob V2 B2 ob2 := by
  refine ⟨k.1, h.2.1.trans k.2.1, fun g hg => ?_, fun g b hg hb => ?_⟩
  · have h1 := h.2.2.1 g hg
    have h2 := k.2.2.1 g (by omega)
    exact ⟨h2.1.trans h1.1, h2.2.trans h1.2⟩
  · rcases Nat.lt_or_ge g ob1.length with h1 | h1
    · rw [(k.2.2.1 g h1).2] at hb; exact h.2.2.2 g b hg hb
    · exact k.2.2.2 g b h1 hb
section
variable {w : World} {I : Nat → Prop}
mutual
theorem SV.own_rep : ∀ (x : SV) (n : Nat) (l : List (Option (Nat × Nat))) (V : Nat → Option Value) (B : Nat → Nat → Prop) (ob : List Ob) (v : Value), n = ob.length → Wf w I V B (geto ob) → RepV w I V x v → ∃ V' B', More w I V B ob V' B' (ob ++ (SV.own n l x).2.1) ∧ RepV w I V' (SV.own n l x).1 v
  | .agg xs, n, l, V, B, ob, v, hn, hwf, h => by
    simp only [RepV] at h
    obtain ⟨vs, rfl, h⟩ := h
    obtain ⟨V', B', h1, h2⟩ := SV.ownL_rep xs n l V B ob vs hn hwf h
    refine ⟨V', B', by simpa only [SV.own] using h1, ?_⟩
    simp only [SV.own, RepV]
    exact ⟨vs, rfl, h2⟩
  | .tup xs, n, l, V, B, ob, v, hn, hwf, h => by
    simp only [RepV] at h
    obtain ⟨vs, rfl, h⟩ := h
    obtain ⟨V', B', h1, h2⟩ := SV.ownL_rep xs n l V B ob vs hn hwf h
    refine ⟨V', B', by simpa only [SV.own] using h1, ?_⟩
    simp only [SV.own, RepV]
    exact ⟨vs, rfl, h2⟩
  | .nil, n, l, V, B, ob, v, hn, hwf, h => by
    have nil : ∃ V' B', More w I V B ob V' B' (ob ++ []) ∧ RepV w I V' .nil v := by
      obtain ⟨B', hm⟩ := More.refl hwf
      exact ⟨V, B', by rw [List.append_nil]; exact hm, h⟩
    match l with
    | some (t, sz) :: l' =>
      obtain ⟨V', B', h1, h2⟩ := More.one hwf t sz
      refine ⟨V', B', h1, ?_⟩
      simp only [RepV] at h
      subst h hn
      simp only [SV.own, RepV]
      exact ⟨h2, rfl⟩
    | none :: l' => exact nil
    | [] => exact nil
  | .any, n, l, V, B, ob, v, hn, hwf, h => by obtain ⟨B', hm⟩ := More.refl hwf; exact ⟨V, B', by simp only [SV.own, List.append_nil]; exact hm, h⟩
  | .int _ _, n, l, V, B, ob, v, hn, hwf, h => by obtain ⟨B', hm⟩ := More.refl hwf; exact ⟨V, B', by simp only [SV.own, List.append_nil]; exact hm, h⟩
  | .bool _, n, l, V, B, ob, v, hn, hwf, h => by obtain ⟨B', hm⟩ := More.refl hwf; exact ⟨V, B', by simp only [SV.own, List.append_nil]; exact hm, h⟩
  | .str _, n, l, V, B, ob, v, hn, hwf, h => by obtain ⟨B', hm⟩ := More.refl hwf; exact ⟨V, B', by simp only [SV.own, List.append_nil]; exact hm, h⟩
  | .arr _, n, l, V, B, ob, v, hn, hwf, h => by obtain ⟨B', hm⟩ := More.refl hwf; exact ⟨V, B', by simp only [SV.own, List.append_nil]; exact hm, h⟩
  | .ref _, n, l, V, B, ob, v, hn, hwf, h => by obtain ⟨B', hm⟩ := More.refl hwf; exact ⟨V, B', by simp only [SV.own, List.append_nil]; exact hm, h⟩
  | .ptr _ _, n, l, V, B, ob, v, hn, hwf, h => by obtain ⟨B', hm⟩ := More.refl hwf; exact ⟨V, B', by simp only [SV.own, List.append_nil]; exact hm, h⟩
  | .eptr _ _ _ _, n, l, V, B, ob, v, hn, hwf, h => by obtain ⟨B', hm⟩ := More.refl hwf; exact ⟨V, B', by simp only [SV.own, List.append_nil]; exact hm, h⟩
  | .vptr _ _ _, n, l, V, B, ob, v, hn, hwf, h => by obtain ⟨B', hm⟩ := More.refl hwf; exact ⟨V, B', by simp only [SV.own, List.append_nil]; exact hm, h⟩
  | .mp _ _, n, l, V, B, ob, v, hn, hwf, h => by obtain ⟨B', hm⟩ := More.refl hwf; exact ⟨V, B', by simp only [SV.own, List.append_nil]; exact hm, h⟩
  | .fn _ _, n, l, V, B, ob, v, hn, hwf, h => by obtain ⟨B', hm⟩ := More.refl hwf; exact ⟨V, B', by simp only [SV.own, List.append_nil]; exact hm, h⟩
theorem SV.ownL_rep : ∀ (xs : List SV) (n : Nat) (l : List (Option (Nat × Nat))) (V : Nat → Option Value) (B : Nat → Nat → Prop) (ob : List Ob) (vs : List Value), n = ob.length → Wf w I V B (geto ob) → RepVs w I V xs vs → ∃ V' B', More w I V B ob V' B' (ob ++ (SV.ownL n l xs).2.1) ∧ RepVs w I V' (SV.ownL n l xs).1 vs
  | [], n, l, V, B, ob, vs, hn, hwf, h => by obtain ⟨B', hm⟩ := More.refl hwf; exact ⟨V, B', by simp only [SV.ownL, List.append_nil]; exact hm, h⟩
  | x :: xs, n, l, V, B, ob, vs, hn, hwf, h => by
    simp only [RepVs] at h
    obtain ⟨v, us, rfl, h1, h2⟩ := h
    obtain ⟨V1, B1, m1, r1⟩ := SV.own_rep x n l V B ob v hn hwf h1
    have h2' := RepVs.mono (w' := w) (I' := I) (V' := V1) ⟨Nat.le_refl _, fun _ _ _ => rfl⟩ (fun _ h => h) m1.2.1 xs us h2
    obtain ⟨V2, B2, m2, r2⟩ := SV.ownL_rep xs (n + (SV.own n l x).2.1.length) (SV.own n l x).2.2 V1 B1 (ob ++ (SV.own n l x).2.1) us (by rw [List.length_append, hn]) m1.1 h2'
    refine ⟨V2, B2, ?_, ?_⟩
    · have := m1.trans m2 (by simp)
      simpa only [SV.ownL, List.append_assoc] using this
    · simp only [SV.ownL, RepVs]
      exact ⟨v, us, rfl, RepV.mono (w' := w) (I' := I) (V' := V2) ⟨Nat.le_refl _, fun _ _ _ => rfl⟩ (fun _ h => h) m2.2.1 _ _ r1, r2⟩
end
end
section
variable {P : Program} {f : FuncId} {args : List SV} {ob : List Ob} {r : SV} {ob' : List Ob}
theorem Fun.rows (h : Fun P f args ob r ob') (l : List (Option (Nat × Nat))) : Fun P f args ob (SV.own ob'.length l r).1 (ob' ++ (SV.own ob'.length l r).2.1) := by
  intro w I V B vs hwf hvs
  refine (h w I V B vs hwf hvs).mono ?_
  rintro e w' ⟨v, I', V', B', rfl, hr, hp⟩
  obtain ⟨V2, B2, hm, hr2⟩ := SV.own_rep r ob'.length l V' B' ob' v rfl hp.wf hr
  refine ⟨v, I', V2, B2, rfl, hr2, ⟨hp.fr, hp.i0, hp.i1, hp.v.trans hm.2.1, hm.1, fun g b hl hb => ?_⟩⟩
  rcases Nat.lt_or_ge g ob'.length with h1 | h1
  · obtain ⟨e1, e2⟩ := hm.2.2.1 g h1
    rw [e1] at hl
    rw [e2] at hb
    exact hp.bh g b hl hb
  · exact absurd hb (hm.2.2.2 g b h1)
end
def toTree : List Ob → List Ob
  | [] => []
  | .row _ _ es :: r => .tree es [] :: toTree r
  | .box t l :: r => .box t l :: toTree r
  | .tree es hs :: r => .tree es hs :: toTree r
  | .gone :: r => .gone :: toTree r
  | .mp ks m :: r => .mp ks m :: toTree r
  | .it ks m seen cur :: r => .it ks m seen cur :: toTree r
  | .free :: r => .free :: toTree r
theorem toTree_len : ∀ l, (toTree l).length = l.length
  | [] => rfl
  | o :: r => by cases o <;> simp [toTree, toTree_len r]
theorem toTree_get : ∀ (l : List Ob) (g : Nat), geto (toTree l) g = match geto l g with | .row _ _ es => .tree es [] | o => o
  | [], g => rfl
  | o :: r, 0 => by cases o <;> rfl
  | o :: r, g + 1 => by cases o <;> simp only [toTree, geto] <;> exact toTree_get r g
theorem toTree_live {l : List Ob} {g : Nat} : (geto (toTree l) g).live ↔ (geto l g).live := by
  rw [toTree_get]
  cases geto l g <;> exact Iff.rfl
theorem Wf.tree {w : World} {I : Nat → Prop} {V : Nat → Option Value} {B : Nat → Nat → Prop} {ob : List Ob} (hwf : Wf w I V B (geto ob)) : Wf w I V B (geto (toTree ob)) := by
  refine ⟨hwf.ilt, fun g hl => ?_, fun g b hl hb => hwf.lt g b (toTree_live.1 hl) hb, fun g b hl hb => hwf.dI g b (toTree_live.1 hl) hb, fun g g' b hl hl' hb hb' => hwf.dO g g' b (toTree_live.1 hl) (toTree_live.1 hl') hb hb', fun g hf => ?_, hwf.gl⟩
  · obtain ⟨val, h1, h2⟩ := hwf.obj g (toTree_live.1 hl)
    refine ⟨val, h1, ?_⟩
    rw [toTree_get]
    cases hg : geto ob g <;> rw [hg] at h2 <;> first | exact h2 | exact ⟨_, _, h2, fun q hq => by cases hq⟩
  · refine hwf.fr g ?_
    rw [toTree_get] at hf
    cases hg : geto ob g <;> rw [hg] at hf <;> first | rfl | cases hf
theorem Fun.trees {P : Program} {f : FuncId} {args : List SV} {ob : List Ob} {r : SV} {ob' : List Ob} (h : Fun P f args ob r ob') : Fun P f args ob r (toTree ob') := by
  intro w I V B vs hwf hvs
  refine (h w I V B vs hwf hvs).mono ?_
  rintro e w' ⟨v, I', V', B', he, hr, hp⟩
  exact ⟨v, I', V', B', he, hr, ⟨hp.fr, hp.i0, hp.i1, hp.v, hp.wf.tree, fun g b hl hb => hp.bh g b (toTree_live.1 hl) hb⟩⟩
theorem Fun.tree {P : Program} {f : FuncId} {args : List SV} {ob : List Ob} {r : SV} {ob' : List Ob} (h : Fun P f args (toTree ob) r ob') : Fun P f args ob r ob' := by
  intro w I V B vs hwf hvs
  have hwf' : Wf w I V B (geto (toTree ob)) := hwf.tree
  have hHB : ∀ b, HB B (toTree ob) b ↔ HB B ob b := fun b => ⟨fun ⟨g, hl, hb⟩ => ⟨g, toTree_live.1 hl, hb⟩, fun ⟨g, hl, hb⟩ => ⟨g, toTree_live.2 hl, hb⟩⟩
  refine (h w I V B vs hwf' hvs).mono ?_
  rintro e w' ⟨v, I', V', B', he, hr, hp⟩
  exact ⟨v, I', V', B', he, hr, ⟨⟨hp.fr.os, hp.fr.tape, hp.fr.output, hp.fr.size, fun b hb hn => hp.fr.block b hb fun h => hn ((hHB b).1 h)⟩, hp.i0, fun b hb => (hp.i1 b hb).imp id (fun h => h.imp id (hHB b).1), hp.v, hp.wf, fun g b hl hb => (hp.bh g b hl hb).imp (hHB b).1 id⟩⟩
def order (res : RM) (n0 : Nat) (r : SV) (ob : List Ob) : Option (SV × List Ob) :=
  match res with
  | .asis => some (r, ob)
  | .late => some (r, ob)
  | .frz => gc n0 (lendV (geto ob) [] r) (goneAt (lentV [] r) 0 ob)
  | .frl _ => gc n0 (lendV (geto ob) [] r) (goneAt (lentV [] r) 0 ob)
  | .own l => match SV.own ob.length l r with
    | (r', os, _) => bif os.isEmpty then some (r, ob) else gc n0 r' (ob ++ os)
  | .tr l => match SV.own ob.length l r with
    | (r', os, _) => bif os.isEmpty then some (r, toTree ob) else match gc n0 r' (ob ++ os) with
      | some (r2, ob2) => some (r2, toTree ob2)
      | none => none
theorem order_fun {P : Program} {f : FuncId} {args : List SV} {ob ob1 ob2 : List Ob} {r r2 : SV} {res : RM} (h : Fun P f args ob r ob1) (ho : order res ob.length r ob1 = some (r2, ob2)) : Fun P f args ob r2 ob2 := by
  unfold order at ho
  split at ho
  · simp only [Option.some.injEq, Prod.mk.injEq] at ho
    obtain ⟨rfl, rfl⟩ := ho
    exact h
  · simp only [Option.some.injEq, Prod.mk.injEq] at ho
    obtain ⟨rfl, rfl⟩ := ho
    exact h
  · exact h.give.weak (gc_weak ho)
  · exact h.give.weak (gc_weak ho)
  · rename_i l
    split at ho
    rename_i r' os l' he
    cases hb : os.isEmpty with
    | true =>
      rw [hb] at ho
      simp only [cond_true, Option.some.injEq, Prod.mk.injEq] at ho
      obtain ⟨rfl, rfl⟩ := ho
      exact h
    | false =>
      rw [hb] at ho
      have := h.rows l
      rw [he] at this
      exact this.weak (gc_weak ho)
  · rename_i l
    split at ho
    rename_i r' os l' he
    cases hb : os.isEmpty with
    | true =>
      rw [hb] at ho
      simp only [cond_true, Option.some.injEq, Prod.mk.injEq] at ho
      obtain ⟨rfl, rfl⟩ := ho
      exact h.trees
    | false =>
      rw [hb] at ho
      simp only [cond_false] at ho
      have := h.rows l
      rw [he] at this
      cases hg : gc ob.length r' (ob1 ++ os) with
      | none => rw [hg] at ho; cases ho
      | some q =>
        rw [hg] at ho
        obtain ⟨r3, ob3⟩ := q
        simp only [Option.some.injEq, Prod.mk.injEq] at ho
        obtain ⟨rfl, rfl⟩ := ho
        exact (this.weak (gc_weak hg)).trees
def keepS (m : List Nat) : List Nat → List SV → List SV
  | [], [] => []
  | _ :: _, [] => []
  | [], _ :: xs => .any :: keepS m [] xs
  | 0 :: ks, _ :: xs => .any :: keepS m ks xs
  | (_ + 1) :: ks, x :: xs => (match x.back m with | some y => y | none => .any) :: keepS m ks xs
def keepRefs : List Nat → List SV → List Nat
  | (_ + 1) :: ks, x :: xs => x.refs ++ keepRefs ks xs
  | 0 :: ks, _ :: xs => keepRefs ks xs
  | _, _ => []
def setG : List Ob → Nat → Ob → List Ob
  | [], _, _ => []
  | _ :: r, 0, o => o :: r
  | x :: r, g + 1, o => x :: setG r g o
def plugH (live : List Nat) (ob : List Ob) (g : Nat) : Ob → List Ob
  | .tree es ((k, o, q) :: r) => bif memB q live || (q == g) then ob else match geto ob q with
    | .tree e2 [] => match es[k]? with
      | some l => bif decide (o < l.length) then setG (setG ob g (.tree (es.set k (l.set o (.ow e2))) r)) q .gone else ob
      | none => ob
    | _ => ob
  | _ => ob
def plugG (live : List Nat) : Nat → Nat → List Ob → List Ob
  | 0, _, ob => ob
  | n + 1, g, ob => plugG live n g (plugH live ob g (geto ob g))
def plugA (live : List Nat) : List Nat → List Ob → List Ob
  | [], ob => ob
  | g :: r, ob => plugA live r (match geto ob g with
    | .tree _ (_ :: _) => plugG live 8 g ob
    | _ => ob)
def canonO (n0 : Nat) (keep : List Nat) (sl : List SV) (ob : List Ob) : St :=
  ⟨keepS (names n0 ob (keepRefs keep sl)) keep sl, gcObs (names n0 ob (keepRefs keep sl)) ob (names n0 ob (keepRefs keep sl))⟩
def canonP (n0 : Nat) (keep : List Nat) (st : St) : St := canonO n0 keep st.sl (plugA (keepRefs keep st.sl) (upTo st.ob.length) st.ob)
def frz1 (n : Nat) (st : St) : St :=
  match gets st.sl n with
  | .ref g => match geto st.ob g with
    | .row _ _ es => bif OT.fullss es then ⟨st.sl.set n (.arr (OT.erss es)), setG st.ob g .gone⟩ else st
    | _ => st
  | .nil => ⟨st.sl.set n (.arr []), st.ob⟩
  | _ => st
def canon (n0 : Nat) : List Nat → St → St
  | (n + 7) :: ks, st => canon n0 ks (frz1 n st)
  | ks, st => canonP n0 ks st
theorem canon_z {n0 : Nat} {ks : List Nat} {st : St} : canon n0 (0 :: ks) st = canonP n0 (0 :: ks) st := rfl
theorem canon_o {n0 : Nat} {ks : List Nat} {st : St} : canon n0 (1 :: ks) st = canonP n0 (1 :: ks) st := rfl
theorem canon_m {n0 n : Nat} {ks : List Nat} {st : St} : canon n0 ((n + 7) :: ks) st = canon n0 ks (frz1 n st) := rfl
theorem geto_setG : ∀ {l : List Ob} {g j : Nat} {o : Ob}, geto (setG l g o) j = if j = g ∧ g < l.length then o else geto l j
  | [], g, j, o => by simp [setG, geto]
  | x :: r, 0, 0, o => by simp [setG, geto]
  | x :: r, 0, j + 1, o => by simp [setG, geto]
  | x :: r, g + 1, 0, o => by simp [setG, geto]
  | x :: r, g + 1, j + 1, o => by
    simp only [setG, geto, List.length_cons, Nat.add_lt_add_iff_right, Nat.add_right_cancel_iff]
    exact geto_setG
theorem Wf.plug {w : World} {I : Nat → Prop} {V : Nat → Option Value} {B : Nat → Nat → Prop} {ob ob' : Nat → Ob} (h : Wf w I V B ob) {g q k o : Nat} {es e2 : List (List OT)} {r : List (Nat × Nat × Nat)} {l : List OT} (hg : ob g = .tree es ((k, o, q) :: r)) (hq : ob q = .tree e2 []) (hne : q ≠ g) (hl : es[k]? = some l) (ho : o < l.length)
    (h1 : ob' g = .tree (es.set k (l.set o (.ow e2))) r) (h2 : ob' q = .gone) (h3 : ∀ j, j ≠ g → j ≠ q → ob' j = ob j) : Wf w I V (fun j x => if j = g then B g x ∨ B q x else B j x) ob' := by
  have lg : (ob g).live := by rw [hg]; trivial
  have lq : (ob q).live := by rw [hq]; trivial
  obtain ⟨val, hV, t, sz, hR, hH⟩ : ∃ val, V g = some val ∧ TreeR w I V (B g) es ((k, o, q) :: r) val := by
    obtain ⟨val, a, b⟩ := h.obj g lg
    rw [hg] at b; exact ⟨val, a, b⟩
  obtain ⟨val2, hV2, t2, sz2, hR2, _⟩ : ∃ val, V q = some val ∧ TreeR w I V (B q) e2 [] val := by
    obtain ⟨val, a, b⟩ := h.obj q lq
    rw [hq] at b; exact ⟨val, a, b⟩
  refine h.upd (w' := w) (fun j => j = g ∨ j = q) (Nat.le_refl _) (fun _ _ _ => rfl) (fun _ h => h) (VLe.refl _) (fun j hj => ?_) (fun b hb => .inl hb) h.ilt (fun j hj hlv => ?_) (fun j b hj hlv hb => ?_) (fun j b hj hlv hb hI => ?_) (fun j j' b hj hj' hlv hlv' _ _ => ?_) (fun j hj hf => ?_)
  · have a : ¬ j = g := fun e => hj (.inl e)
    have b : ¬ j = q := fun e => hj (.inr e)
    exact ⟨h3 j a b, by funext x; simp only [if_neg a], fun hf => h.fr j hf⟩
  · rcases hj with rfl | rfl
    · refine ⟨val, hV, ?_⟩
      rw [h1]
      obtain ⟨g1, g2, b2, c2, v2, e4, g3, g4, g5⟩ := hH (k, o, q) (by simp)
      obtain ⟨b, cap, v, S0, e1, e5, hb1, hb2, hc, _, hS, hnew⟩ := hR.leaf (l := l) (off := o) hl (.inr ho) ho
      subst e1
      have hbb : b2 = b := by rw [e4] at e5; simp at e5; exact e5.1
      subst hbb
      rw [hc] at g3
      obtain rfl := Option.some.inj g3
      rw [hV2] at g4
      obtain rfl := Option.some.inj g4
      refine ⟨t, l.length, (hnew (.ow e2) (B q) hR2.ot (fun x hx hx' => absurd (h.dO q j x lq lg hx hx') hne)).up fun x hx => ?_, fun p hp => ?_⟩
      · simp only [if_true]
        exact hx.imp (fun h => h.1) id
      · rw [List.length_set]
        exact hH p (by simp [hp])
    · rw [h2] at hlv; exact hlv.elim
  · rcases hj with rfl | rfl
    · simp only [if_true] at hb
      rcases hb with hb | hb
      · exact .inr ⟨j, .inl rfl, lg, hb⟩
      · exact .inr ⟨q, .inr rfl, lq, hb⟩
    · rw [h2] at hlv; exact hlv.elim
  · rcases hj with rfl | rfl
    · simp only [if_true] at hb
      rcases hb with hb | hb
      · exact h.dI j b lg hb hI
      · exact h.dI q b lq hb hI
    · rw [h2] at hlv; exact hlv.elim
  · rcases hj with rfl | rfl
    · rcases hj' with rfl | rfl
      · rfl
      · rw [h2] at hlv'; exact hlv'.elim
    · rw [h2] at hlv; exact hlv.elim
  · rcases hj with rfl | rfl
    · rw [h1] at hf; cases hf
    · rw [h2] at hf; cases hf
theorem plugH_weak {c : Ctx} {live : List Nat} {sl : List SV} {ob : List Ob} {g : Nat} : Weak c ⟨sl, ob⟩ ⟨sl, plugH live ob g (geto ob g)⟩ := by
  cases hgo : geto ob g with
  | free => exact Weak.refl_ _
  | gone => exact Weak.refl_ _
  | box t l => exact Weak.refl_ _
  | row t sz es => exact Weak.refl_ _
  | mp ks m => exact Weak.refl_ _
  | it ks m seen cur => exact Weak.refl_ _
  | tree es hs =>
    cases hs with
    | nil => exact Weak.refl_ _
    | cons h r =>
      obtain ⟨k, o, q⟩ := h
      simp only [plugH]
      cases hc : (memB q live || (q == g)) with
      | true => exact Weak.refl_ _
      | false =>
        simp only [cond_false]
        split
        · rename_i e2 hq
          split
          · rename_i l hl
            cases hd : decide (o < l.length) with
            | false => exact Weak.refl_ _
            | true =>
              have ho := of_decide_eq_true hd
              simp only [cond_true]
              have hne : q ≠ g := by
                rw [Bool.or_eq_false_iff] at hc
                simpa using hc.2
              have lt : ∀ j, (geto ob j).live → j < ob.length := fun j hj => by
                rcases Nat.lt_or_ge j ob.length with h | h
                · exact h
                · rw [geto_big _ _ h] at hj; exact hj.elim
              have hlg := lt g (by rw [hgo]; trivial)
              have hlq := lt q (by rw [hq]; trivial)
              have hsl : ∀ (l : List Ob) (j : Nat) (x : Ob), (setG l j x).length = l.length := by
                intro l
                induction l with
                | nil => intro j x; rfl
                | cons y r ih => intro j x; cases j <;> simp [setG, ih]
              have e1 : geto (setG (setG ob g (.tree (es.set k (l.set o (.ow e2))) r)) q .gone) g = .tree (es.set k (l.set o (.ow e2))) r := by
                rw [geto_setG, if_neg (fun h => hne h.1.symm), geto_setG, if_pos ⟨rfl, hlg⟩]
              have e2' : geto (setG (setG ob g (.tree (es.set k (l.set o (.ow e2))) r)) q .gone) q = .gone := by
                rw [geto_setG, if_pos ⟨rfl, by rw [hsl]; exact hlq⟩]
              have e3 : ∀ j, j ≠ g → j ≠ q → geto (setG (setG ob g (.tree (es.set k (l.set o (.ow e2))) r)) q .gone) j = geto ob j := fun j h1 h2 => by
                rw [geto_setG, if_neg (fun h => h2 h.1), geto_setG, if_neg (fun h => h1 h.1)]
              intro hlen
              refine ⟨hlen, fun a w hr => ?_⟩
              obtain ⟨I, V, B, hr⟩ := hr
              refine ⟨I, V, _, hr.fr, hr.i0, hr.i1, hr.v0, hr.wf.plug (es := es) (e2 := e2) (ob' := geto (setG (setG ob g (.tree (es.set k (l.set o (.ow e2))) r)) q .gone)) hgo hq hne hl ho e1 e2' e3, fun j b hj hb => ?_, hr.nd, hr.sz, hr.slots⟩
              have hj : (geto (setG (setG ob g (.tree (es.set k (l.set o (.ow e2))) r)) q .gone) j).live := hj
              by_cases hjg : j = g
              · subst hjg
                simp only [if_true] at hb
                rcases hb with hb | hb
                · exact hr.bh j b (by show (geto ob j).live; rw [hgo]; trivial) hb
                · exact hr.bh q b (by show (geto ob q).live; rw [hq]; trivial) hb
              · simp only [if_neg hjg] at hb
                by_cases hjq : j = q
                · subst hjq; rw [e2'] at hj; exact hj.elim
                · rw [e3 j hjg hjq] at hj
                  exact hr.bh j b hj hb
          · exact Weak.refl_ _
        · exact Weak.refl_ _
theorem plugG_weak {c : Ctx} {live : List Nat} {sl : List SV} {g : Nat} : ∀ {n : Nat} {ob : List Ob}, Weak c ⟨sl, ob⟩ ⟨sl, plugG live n g ob⟩
  | 0, ob => Weak.refl_ _
  | n + 1, ob => Weak.trans plugH_weak plugG_weak
theorem plugA_weak {c : Ctx} {live : List Nat} {sl : List SV} : ∀ {gs : List Nat} {ob : List Ob}, Weak c ⟨sl, ob⟩ ⟨sl, plugA live gs ob⟩
  | [], ob => Weak.refl_ _
  | g :: r, ob => by
    have h1 : Weak c ⟨sl, ob⟩ ⟨sl, match geto ob g with
      | .tree _ (_ :: _) => plugG live 8 g ob
      | _ => ob⟩ := by
      split
      · exact plugG_weak
      · exact Weak.refl_ _
    exact Weak.trans h1 (plugA_weak (gs := r))
theorem keepS_le {m : List Nat} {p : Nat} : ∀ {ks : List Nat} {xs : List SV}, leL (sgp m p) (keepS m ks xs) xs
  | [], [] => trivial
  | _ :: _, [] => trivial
  | [], x :: xs => ⟨trivial, keepS_le (ks := []) (xs := xs)⟩
  | 0 :: ks, x :: xs => ⟨trivial, keepS_le (ks := ks) (xs := xs)⟩
  | (k + 1) :: ks, x :: xs => by
    refine ⟨?_, keepS_le (ks := ks) (xs := xs)⟩
    split
    · rename_i y h
      exact leV_of (SV.back_ren h)
    · trivial
theorem canonP_weak {c : Ctx} {keep : List Nat} {st : St} : Weak c st (canonP c.m keep st) := Weak.trans (plugA_weak (sl := st.sl) (ob := st.ob)) (weak_by _ (names_weak keepS_le))
theorem gets_set {sl : List SV} {n k : Nat} {x : SV} : gets (sl.set n x) k = if n = k ∧ n < sl.length then x else gets sl k := by
  induction sl generalizing n k with
  | nil => simp [gets]
  | cons y r ih =>
    cases n with
    | zero => cases k with
      | zero => simp [gets]
      | succ k => simp [gets]
    | succ n => cases k with
      | zero => simp [gets]
      | succ k => simp only [List.set_cons_succ, gets, List.length_cons, Nat.add_lt_add_iff_right, Nat.add_right_cancel_iff]; exact ih
theorem frz1_weak {c : Ctx} {n : Nat} {st : St} : Weak c st (frz1 n st) := by
  unfold frz1
  split
  · rename_i g hg
    split
    · rename_i t sz es hob
      cases hf : OT.fullss es with
      | false => exact Weak.refl_ _
      | true =>
        rw [cond_true]
        intro hlen
        refine ⟨by simpa using hlen, fun a w hr => ?_⟩
        obtain ⟨I, V, B, hr⟩ := hr
        have hl : (geto st.ob g).live := by rw [hob]; trivial
        have hlt : g < st.ob.length := by
          rcases Nat.lt_or_ge g st.ob.length with h | h
          · exact h
          · rw [geto_big _ _ h] at hl; exact hl.elim
        have k := hr.after (After.frz hr.wf (g := g) hl)
        have eob : obUpd (geto st.ob) [(g, .gone)] = geto (setG st.ob g .gone) := by
          funext j
          rw [geto_setG]
          by_cases e : j = g
          · subst e; simp [obUpd, lookO, hlt]
          · have e' : ¬ g = j := fun h => e h.symm
            simp [obUpd, lookO, e, e']
        have kw : Wf w (fun b => I b ∨ B g b) V B (obUpd (geto st.ob) [(g, .gone)]) := k.wf
        have kb : ∀ j b, (obUpd (geto st.ob) [(g, .gone)] j).live → B j b → c.H b ∨ c.w0.heap.size ≤ b := k.bh
        rw [eob] at kw kb
        refine ⟨_, V, B, k.fr, k.i0, k.i1, k.v0, kw, kb, k.nd, k.sz, fun j => ?_⟩
        have hs := k.slots j
        show RepV w _ V (gets (st.sl.set n (.arr (OT.erss es))) j) _
        rw [gets_set]
        split
        · rename_i hj
          obtain ⟨rfl, _⟩ := hj
          have hv := hr.slots n
          have hv : RepV w I V (gets st.sl n) (a.tmps.getD n undef) := hv
          rw [hg] at hv
          simp only [RepV] at hv
          obtain ⟨val, h1, h2⟩ := hr.wf.obj g hl
          rw [hv.1] at h1
          obtain rfl := Option.some.inj h1
          have h2 : ObR w I V (B g) _ (geto st.ob g) := h2
          rw [hob] at h2
          simp only [RepV]
          exact RowR.er h2 (fun b hb => .inr hb) (fun b hb => .inl hb) hf
        · exact hs
    · exact Weak.refl_ _
  · rename_i hg
    intro hlen
    refine ⟨by simpa using hlen, fun a w hr => ?_⟩
    obtain ⟨I, V, B, hr⟩ := hr
    refine ⟨I, V, B, hr.fr, hr.i0, hr.i1, hr.v0, hr.wf, hr.bh, hr.nd, hr.sz, fun j => ?_⟩
    have hs := hr.slots j
    show RepV w _ V (gets (st.sl.set n (.arr [])) j) _
    rw [gets_set]
    split
    · rename_i hj
      obtain ⟨rfl, _⟩ := hj
      have hv : RepV w I V (gets st.sl n) (a.tmps.getD n undef) := hr.slots n
      rw [hg] at hv
      simp only [RepV] at hv ⊢
      rw [hv]
      exact arr_nil_rep _
    · exact hs
  · exact Weak.refl_ _
theorem canon_weak {c : Ctx} : ∀ {keep : List Nat} {st : St}, Weak c st (canon c.m keep st)
  | [], st => canonP_weak
  | 0 :: ks, st => canonP_weak
  | 1 :: ks, st => canonP_weak
  | 2 :: ks, st => canonP_weak
  | 3 :: ks, st => canonP_weak
  | 4 :: ks, st => canonP_weak
  | 5 :: ks, st => canonP_weak
  | 6 :: ks, st => canonP_weak
  | (n + 7) :: ks, st => Weak.trans frz1_weak (canon_weak (keep := ks))
def thenF (r : Option (X × St)) (k : St → Option (X × St)) : Option (X × St) :=
  match r with
  | some (.normal, st) => k st
  | some (.exit i, st) => some (.exit i, st)
  | some (.ret, st) => some (.ret, st)
  | none => none
def blockF (id : Nat) (r : Option (X × St)) : Option (X × St) :=
  match r with
  | some (.normal, st) => some (.normal, st)
  | some (.exit i, st) => if i = id then some (.normal, st) else some (.exit i, st)
  | some (.ret, st) => some (.ret, st)
  | none => none
structure MI where
  keepO : List Nat
  it : SX
  nx : Nat
  more : Nat
abbrev LoopF := Option MI → List Nat → (St → Option (X × St)) → St → Option (X × St)
noncomputable def fr (P : Program) (C : CallF) (L : LoopF) : SC → St → Option (X × St)
  | .skip, st => some (.normal, st)
  | .reg ops, st => match fSeq P C ops st with
    | some st' => some (.normal, st')
    | none => none
  | .dreg anc ops, st => match fOps P C ops [] st with
    | some (es, st') => bif obB anc [] (locs es) 0 then some (.normal, st') else none
    | none => none
  | .seq a b, st => thenF (fr P C L a st) (fr P C L b)
  | .cond q a b, st => match getX (gets st.sl) q with
    | .bool t => bif t then fr P C L a st else fr P C L b st
    | _ => none
  | .block id b, st => blockF id (fr P C L b st)
  | .loop keep b, st => L none keep (fr P C L b) st
  | .exit id, st => some (.exit id, st)
  | .ret, st => some (.ret, st)
  | .next _ _ _, _ => none
  | .mloop keep keepO it nx more b, st => L (some ⟨keepO, it, nx, more⟩) keep (fr P C L b) st
def loopN (n0 : Nat) (keep : List Nat) (step : St → Option (X × St)) : Nat → St → Option (X × St)
  | 0, _ => none
  | n + 1, st => thenF (step (canon n0 keep st)) (loopN n0 keep step n)
abbrev EL := List (MK × MV)
structure Enum (f : MF) (l : EL) : Prop where
  nd : (l.map (·.1)).Nodup
  mem : ∀ k x, (k, x) ∈ l ↔ f k = some x
noncomputable def sameOf {α β : Type} (p : α → Prop) (f : α → Option β) : Option β :=
  match Classical.propDecidable ((∃ a, p a) ∧ ∃ o, ∀ a, p a → f a = some o) with
  | .isTrue h => some (Classical.choose h.2)
  | .isFalse _ => none
theorem sameOf_iff {α β : Type} {p : α → Prop} {f : α → Option β} {o : β} : sameOf p f = some o ↔ (∃ a, p a) ∧ ∀ a, p a → f a = some o := by
  unfold sameOf
  split
  · rename_i h _
    have hs := Classical.choose_spec h.2
    constructor
    · intro e
      obtain rfl := Option.some.inj e
      exact ⟨h.1, hs⟩
    · rintro ⟨⟨a, ha⟩, h2⟩
      have := (hs a ha).symm.trans (h2 a ha)
      exact this
  · rename_i h _
    exact ⟨fun e => (by cases e), fun ⟨h1, h2⟩ => absurd ⟨h1, o, h2⟩ h⟩
def itOf (it : SX) (st : St) : Option (Nat × Bool × MF × List MK) :=
  match getX (gets st.sl) it with
  | .ptr g o => match geto st.ob g with
    | .it ks m seen _ => bif (o == 0) then some (g, ks, m, seen) else none
    | _ => none
  | _ => none
def endM : Option (X × St) → Option (X × St)
  | some (.normal, _) => none
  | some (.exit i, st) => some (.exit i, st)
  | some (.ret, st) => some (.ret, st)
  | none => none
noncomputable def mrun (n0 : Nat) (mi : MI) (keep : List Nat) (step : St → Option (X × St)) (f : MF) : EL → List MK → St → Option (X × St)
  | [], seen, st => match itOf mi.it (canon n0 keep st) with
    | some (_, _, f', seen') => bif dec (f' = f) && dec (seen' = seen) then endM (step (nextSt mi.nx mi.more (canon n0 keep st) false [])) else none
    | none => none
  | (k, x) :: l, seen, st => match itOf mi.it (canon n0 keep st) with
    | some (g, ks, f', seen') => bif dec (f' = f) && dec (seen' = seen) then thenF (step (nextSt mi.nx mi.more (canon n0 keep st) true [(g, .it ks f (k :: seen) (some (k, x)))])) (mrun n0 mi keep step f l (k :: seen)) else none
    | none => none
def outM (n0 : Nat) (keepO : List Nat) : Option (X × St) → Option (X × St)
  | some (x, st) => some (x, canon n0 keepO st)
  | none => none
noncomputable def loopM (n0 : Nat) (mi : MI) (keep : List Nat) (step : St → Option (X × St)) (st : St) : Option (X × St) :=
  match itOf mi.it (canon n0 keep st) with
  | some (_, _, f, []) => sameOf (Enum f) fun l => outM n0 mi.keepO (mrun n0 mi keep step f l [] st)
  | _ => none
noncomputable def loopNA (n0 : Nat) : Option MI → List Nat → (St → Option (X × St)) → Nat → St → Option (X × St)
  | none, keep, step, n, st => loopN n0 keep step n st
  | some mi, keep, step, _, st => loopM n0 mi keep step st
def likeC : SC → SC → Prop
  | .skip, .skip => True
  | .reg a, .reg b => a = b
  | .dreg x a, .dreg y b => x = y ∧ a = b
  | .seq a b, .seq a' b' => likeC a a' ∧ likeC b b'
  | .cond q a b, .cond q' a' b' => q = q' ∧ likeC a a' ∧ likeC b b'
  | .block i b, .block i' b' => i = i' ∧ likeC b b'
  | .loop _ b, .loop _ b' => likeC b b'
  | .exit i, .exit i' => i = i'
  | .ret, .ret => True
  | .next a b d, .next a' b' d' => a = a' ∧ b = b' ∧ d = d'
  | .next _ _ _, .mloop _ _ _ _ _ _ => True
  | .mloop _ _ it nx more b, .loop _ (.seq (.next it' nx' more') b') => it = it' ∧ nx = nx' ∧ more = more' ∧ likeC b b'
  | _, _ => False
section
variable {P : Program} {c : Ctx} {C : CallF}
def bodyM (mi : Option MI) (b : SC) : SC :=
  match mi with
  | none => b
  | some mi => .seq (.next mi.it mi.nx mi.more) b
def LoopTold (P : Program) (c : Ctx) (L : LoopF) : Prop := ∀ (mi : Option MI) (keep junk : List Nat) (step : St → Option (X × St)) (b : SC) (st : St) (out : X × St),
  (∀ st out, step st = some out → ∀ K : X → St → Prop, K out.1 out.2 → sw P c b K st) → L mi keep step st = some out → ∀ K : X → St → Prop, K out.1 out.2 → Run P c (.loop junk (bodyM mi b)) K st
theorem loopN_told (hm : P.follows .mixedOrders = true) (n : Nat) (keep junk : List Nat) (step : St → Option (X × St)) (b : SC) (st : St) (out : X × St) (hstep : ∀ st out, step st = some out → ∀ K : X → St → Prop, K out.1 out.2 → sw P c b K st) (h : loopN c.m keep step n st = some out) (K : X → St → Prop) (hK : K out.1 out.2) : Run P c (.loop junk b) K st := by
  let A := { p : Nat × St // thenF (step p.2) (loopN c.m keep step p.1) = some out }
  have start : ∀ n st, loopN c.m keep step n st = some out → ∃ a : A, a.1.2 = canon c.m keep st ∧ a.1.1 < n := fun n st h => by
    cases n with
    | zero => cases h
    | succ n => exact ⟨⟨(n, canon c.m keep st), h⟩, rfl, Nat.lt_succ_self n⟩
  obtain ⟨a0, ha0, _⟩ := start n st h
  refine run_loop (α := A) (fun a => a.1.2) (fun a => a.1.1) a0 (by show Weak c st a0.1.2; rw [ha0]; exact canon_weak) fun a => ?_
  obtain ⟨⟨m, s⟩, ha⟩ := a
  simp only at ha ⊢
  unfold thenF at ha
  split at ha
  · rename_i st' hs
    refine sw_run hm _ _ _ (hstep s _ hs _ ?_)
    obtain ⟨y, hy1, hy2⟩ := start m st' ha
    exact ⟨y, hy2, by show Weak c st' y.1.2; rw [hy1]; exact canon_weak⟩
  · rename_i i st' hs
    obtain rfl := Option.some.inj ha
    exact sw_run hm _ _ _ (hstep s _ hs _ hK)
  · rename_i st' hs
    obtain rfl := Option.some.inj ha
    exact sw_run hm _ _ _ (hstep s _ hs _ hK)
  · cases ha
theorem Run.weakR {sc : SC} {K : X → St → Prop} {st : St} (h : Run P c sc (fun x s => ∃ s', Weak c s s' ∧ K x s') st) : Run P c sc K st := by
  intro code hc a w Q hl hr hq
  refine h code hc a w Q hl hr fun x s a' w' hk hl' hr' => ?_
  obtain ⟨s', hw, hk⟩ := hk
  obtain ⟨h1, h2⟩ := hw hl'
  exact hq x s' a' w' hk h1 (h2 a' w' hr')
theorem itOf_spec {it : SX} {st : St} {g : Nat} {ks : Bool} {f : MF} {seen : List MK} (h : itOf it st = some (g, ks, f, seen)) : getX (gets st.sl) it = .ptr g 0 ∧ ∃ cur, geto st.ob g = .it ks f seen cur := by
  unfold itOf at h
  split at h
  · rename_i g' o hg
    split at h
    · rename_i ks' m' seen' cur hob
      obtain ⟨h1, h2⟩ := bif_some h
      simp only [Option.some.injEq, Prod.mk.injEq] at h2
      obtain ⟨rfl, rfl, rfl, rfl⟩ := h2
      have : o = 0 := by simpa using h1
      subst this
      exact ⟨hg, cur, hob⟩
    · cases h
  · cases h
theorem endM_some {r : Option (X × St)} {o : X × St} (h : endM r = some o) : r = some o ∧ o.1 ≠ .normal := by
  unfold endM at h
  split at h
  · cases h
  · obtain rfl := Option.some.inj h; exact ⟨rfl, fun e => by cases e⟩
  · obtain rfl := Option.some.inj h; exact ⟨rfl, fun e => by cases e⟩
  · cases h
theorem outM_some {n0 : Nat} {keepO : List Nat} {r : Option (X × St)} {o : X × St} (h : outM n0 keepO r = some o) : ∃ st, r = some (o.1, st) ∧ o.2 = canon n0 keepO st := by
  unfold outM at h
  split at h
  · obtain rfl := Option.some.inj h; exact ⟨_, rfl, rfl⟩
  · cases h
theorem filter_lt {α : Type} {p q : α → Bool} : ∀ {l : List α} {a : α}, (∀ x, q x = true → p x = true) → a ∈ l → p a = true → q a = false → (l.filter q).length < (l.filter p).length
  | [], a, _, ha, _, _ => by cases ha
  | x :: l, a, hpq, ha, hp, hq => by
    have mono : ∀ l : List α, (l.filter q).length ≤ (l.filter p).length := by
      intro l
      induction l with
      | nil => exact Nat.le_refl _
      | cons y l ih =>
        rw [List.filter_cons, List.filter_cons]
        cases hy : q y with
        | true => rw [hpq y hy]; simpa using ih
        | false =>
          cases p y with
          | true => simp only [if_true, List.length_cons]; simp; omega
          | false => simpa using ih
    rw [List.filter_cons, List.filter_cons]
    rcases List.mem_cons.1 ha with rfl | ha
    · rw [hp, hq]
      have := mono l
      simp; omega
    · have ih := filter_lt hpq ha hp hq
      cases hx : q x with
      | true => rw [hpq x hx]; simpa using ih
      | false =>
        cases p x with
        | true => simp; omega
        | false => simpa using ih
theorem loopM_told (hm : P.follows .mixedOrders = true) (mi : MI) (keep junk : List Nat) (step : St → Option (X × St)) (b : SC) (st : St) (out : X × St) (hstep : ∀ st out, step st = some out → ∀ K : X → St → Prop, K out.1 out.2 → sw P c b K st) (h : loopM c.m mi keep step st = some out) (K : X → St → Prop) (hK : K out.1 out.2) : Run P c (.loop junk (.seq (.next mi.it mi.nx mi.more) b)) K st := by
  unfold loopM at h
  split at h
  · rename_i g0 ks0 f hit
    obtain ⟨⟨L0, hL0⟩, hall⟩ := sameOf_iff.1 h
    let G : EL → St → Prop := fun l s => (l.map (·.1)).Nodup ∧ (∀ e, e ∈ l → f e.1 = some e.2) ∧ ∀ rest, Enum f (l ++ rest) → outM c.m mi.keepO (mrun c.m mi keep step f rest (l.map (·.1)).reverse s) = some out
    have more : ∀ l : EL, (l.map (·.1)).Nodup → (∀ e, e ∈ l → f e.1 = some e.2) → ∃ rest, Enum f (l ++ rest) := fun l h1 h2 => by
      refine ⟨L0.filter fun e => !dec (e.1 ∈ l.map (·.1)), ?_, fun k x => ?_⟩
      · rw [List.map_append, List.nodup_append]
        refine ⟨h1, (List.filter_sublist.map _).nodup hL0.nd, fun a ha b hb e => ?_⟩
        obtain ⟨q, hq, rfl⟩ := List.mem_map.1 hb
        rw [List.mem_filter, Bool.not_eq_true', dec_not] at hq
        subst e
        exact hq.2 ha
      · rw [List.mem_append, List.mem_filter, Bool.not_eq_true', dec_not]
        constructor
        · rintro (h3 | h3)
          · exact h2 _ h3
          · exact (hL0.mem k x).1 h3.1
        · intro h3
          by_cases h4 : k ∈ l.map (·.1)
          · obtain ⟨⟨k', x'⟩, h5, rfl⟩ := List.mem_map.1 h4
            have h6 := h2 _ h5
            have h6 : f k' = some x' := h6
            rw [h3] at h6
            obtain rfl := Option.some.inj h6
            exact .inl h5
          · exact .inr ⟨(hL0.mem k x).2 h3, h4⟩
    have hG0 : G [] st := ⟨List.nodup_nil, fun e he => (by cases he), fun rest hr => hall rest (by simpa using hr)⟩
    let A := { q : EL × St // G q.1 q.2 }
    let μ : A → Nat := fun q => (L0.filter fun e => !dec (e.1 ∈ q.1.1.map (·.1))).length
    refine Run.weakR (run_loop (α := A) (fun q => canon c.m keep q.1.2) μ ⟨([], st), hG0⟩ canon_weak fun q => ?_)
    obtain ⟨⟨l, s⟩, hG⟩ := q
    obtain ⟨g1, g2, g3⟩ := hG
    refine sw_run hm _ _ _ ?_
    obtain ⟨r0, hr0⟩ := more l g1 g2
    have hitl : ∃ g ks, itOf mi.it (canon c.m keep s) = some (g, ks, f, (l.map (·.1)).reverse) := by
      obtain ⟨st1, h1, _⟩ := outM_some (g3 r0 hr0)
      have key : ∀ rest, ∀ o, mrun c.m mi keep step f rest (l.map (·.1)).reverse s = some o → ∃ g ks, itOf mi.it (canon c.m keep s) = some (g, ks, f, (l.map (·.1)).reverse) := fun rest o ho => by
        cases rest with
        | nil =>
          unfold mrun at ho
          split at ho
          · rename_i g ks f' seen' he
            obtain ⟨h2, _⟩ := bif_some ho
            rw [Bool.and_eq_true, dec_iff, dec_iff] at h2
            obtain ⟨rfl, rfl⟩ := h2
            exact ⟨g, ks, he⟩
          · cases ho
        | cons e rest =>
          obtain ⟨k, x⟩ := e
          unfold mrun at ho
          split at ho
          · rename_i g ks f' seen' he
            obtain ⟨h2, _⟩ := bif_some ho
            rw [Bool.and_eq_true, dec_iff, dec_iff] at h2
            obtain ⟨rfl, rfl⟩ := h2
            exact ⟨g, ks, he⟩
          · cases ho
      exact key r0 _ h1
    obtain ⟨g, ks, hitl⟩ := hitl
    obtain ⟨e1, cur, e2⟩ := itOf_spec hitl
    simp only [sw]
    rw [e1]
    simp only
    rw [e2]
    simp only
    refine ⟨trivial, fun hend => ?_, fun k x hk hn => ?_⟩
    ·
      have hE : Enum f (l ++ []) := by
        rw [List.append_nil]
        refine ⟨g1, fun k x => ⟨fun hm => g2 _ hm, fun hk => ?_⟩⟩
        have := hend k x hk
        rw [List.mem_reverse] at this
        obtain ⟨⟨k', x'⟩, h5, rfl⟩ := List.mem_map.1 this
        have h6 : f k' = some x' := g2 _ h5
        rw [hk] at h6
        obtain rfl := Option.some.inj h6
        exact h5
      obtain ⟨st1, h1, h2⟩ := outM_some (g3 [] hE)
      unfold mrun at h1
      rw [hitl] at h1
      simp only [dec_t rfl, dec_t True.intro, Bool.and_self, cond_true] at h1
      obtain ⟨h3, h4⟩ := endM_some h1
      have hfin : ∃ s', Weak c st1 s' ∧ K out.1 s' := ⟨canon c.m mi.keepO st1, canon_weak, by rw [← h2]; exact hK⟩
      refine hstep _ (out.1, st1) h3 _ ?_
      dsimp only
      cases ho : out.1 with
      | normal => exact absurd ho h4
      | exit i => rw [ho] at hfin; exact hfin
      | ret => rw [ho] at hfin; exact hfin
    ·
      have hn' : k ∉ l.map (·.1) := fun hm => hn (List.mem_reverse.2 hm)
      have k1 : ((l ++ [(k, x)]).map (·.1)).Nodup := by
        rw [List.map_append, List.nodup_append]
        refine ⟨g1, by simp, fun a ha b hb e => ?_⟩
        simp only [List.map_cons, List.map_nil, List.mem_singleton] at hb
        subst hb e
        exact hn' ha
      have k2 : ∀ e, e ∈ l ++ [(k, x)] → f e.1 = some e.2 := fun e he => by
        rcases List.mem_append.1 he with he | he
        · exact g2 e he
        · rw [List.mem_singleton.1 he]; exact hk
      have hrev : ((l ++ [(k, x)]).map (·.1)).reverse = k :: (l.map (·.1)).reverse := by simp
      have one : ∀ rest, Enum f ((l ++ [(k, x)]) ++ rest) → outM c.m mi.keepO (thenF (step (nextSt mi.nx mi.more (canon c.m keep s) true [(g, .it ks f (k :: (l.map (·.1)).reverse) (some (k, x)))])) (mrun c.m mi keep step f rest (k :: (l.map (·.1)).reverse))) = some out := fun rest hr => by
        have h3 := g3 ((k, x) :: rest) (by rw [List.append_assoc] at hr; exact hr)
        rw [mrun] at h3
        rw [hitl] at h3
        simp only [dec_t rfl, dec_t True.intro, Bool.and_self, cond_true] at h3
        exact h3
      obtain ⟨r1, hr1⟩ := more _ k1 k2
      obtain ⟨st1, h1, h2⟩ := outM_some (one r1 hr1)
      cases hs : step (nextSt mi.nx mi.more (canon c.m keep s) true [(g, .it ks f (k :: (l.map (·.1)).reverse) (some (k, x)))]) with
      | none => rw [hs] at h1; cases h1
      | some o1 =>
        obtain ⟨x1, s1⟩ := o1
        rw [hs] at h1
        refine hstep _ _ hs _ ?_
        have hfin : some (x1, s1) = some (out.1, st1) → ∃ s', Weak c s1 s' ∧ K x1 s' := fun e => by
          simp only [Option.some.injEq, Prod.mk.injEq] at e
          obtain ⟨rfl, rfl⟩ := e
          exact ⟨canon c.m mi.keepO s1, canon_weak, by rw [← h2]; exact hK⟩
        cases x1 with
        | normal =>
          have hG' : G (l ++ [(k, x)]) s1 := ⟨k1, k2, fun rest hr => by
            have h3 := one rest hr
            rw [hs] at h3
            rw [hrev]
            exact h3⟩
          refine ⟨⟨(l ++ [(k, x)], s1), hG'⟩, ?_, canon_weak⟩
          refine filter_lt (a := (k, x)) (fun e he => ?_) ((hL0.mem k x).2 hk) (by rw [Bool.not_eq_true', dec_not]; exact hn') (by rw [Bool.not_eq_false', dec_iff]; simp)
          rw [Bool.not_eq_true', dec_not] at he ⊢
          exact fun hm => he (by simp only [List.map_append, List.mem_append]; exact .inl hm)
        | exit i => exact hfin h1
        | ret => exact hfin h1
  · cases h
theorem loopNA_told (hm : P.follows .mixedOrders = true) (n : Nat) : LoopTold P c fun mi keep step st => loopNA c.m mi keep step n st := by
  intro mi keep junk step b st out hstep h K hK
  cases mi with
  | none => exact loopN_told hm n keep junk step b st out hstep h K hK
  | some mi => exact loopM_told hm mi keep junk step b st out hstep h K hK
theorem fr_sw (hC : CallsTold P C) {L : LoopF} (hL : LoopTold P c L) : ∀ (sc' sc : SC) (st : St) (out : X × St), likeC sc' sc → fr P C L sc' st = some out → ∀ K : X → St → Prop, K out.1 out.2 → sw P c sc K st
  | .skip, sc, st, out, hl, h, K, hK => by
    cases sc <;> simp only [likeC] at hl
    obtain rfl := Option.some.inj h
    exact hK
  | .reg ops, sc, st, out, hl, h, K, hK => by
    cases sc <;> simp only [likeC] at hl
    subst hl
    simp only [fr] at h
    split at h
    · rename_i st' hs
      obtain rfl := Option.some.inj h
      exact fSeq_e hC hs hK
    · cases h
  | .dreg anc ops, sc, st, out, hl, h, K, hK => by
    cases sc <;> simp only [likeC] at hl
    obtain ⟨rfl, rfl⟩ := hl
    simp only [fr] at h
    split at h
    · rename_i es st' hs
      obtain ⟨h1, h2⟩ := bif_some h
      obtain rfl := Option.some.inj h2
      exact fOps_e hC hs ⟨h1, hK⟩
    · cases h
  | .seq a b, sc, st, out, hl, h, K, hK => by
    cases sc <;> simp only [likeC] at hl
    simp only [fr, thenF] at h
    split at h
    · rename_i st' hs
      exact fr_sw hC hL a _ st _ hl.1 hs _ (fr_sw hC hL b _ st' out hl.2 h K hK)
    · rename_i i st' hs
      obtain rfl := Option.some.inj h
      exact fr_sw hC hL a _ st _ hl.1 hs _ hK
    · rename_i st' hs
      obtain rfl := Option.some.inj h
      exact fr_sw hC hL a _ st _ hl.1 hs _ hK
    · cases h
  | .cond q a b, sc, st, out, hl, h, K, hK => by
    cases sc <;> simp only [likeC] at hl
    obtain ⟨rfl, h1, h2⟩ := hl
    simp only [fr] at h
    simp only [sw]
    split at h
    · rename_i t ht
      try simp only [ht]
      cases t with
      | true => exact ⟨fun _ => fr_sw hC hL a _ st out h1 h K hK, fun e => (by cases e)⟩
      | false => exact ⟨fun e => (by cases e), fun _ => fr_sw hC hL b _ st out h2 h K hK⟩
    · cases h
  | .block id b, sc, st, out, hl, h, K, hK => by
    cases sc <;> simp only [likeC] at hl
    obtain ⟨rfl, h1⟩ := hl
    simp only [fr, blockF] at h
    simp only [sw]
    split at h
    · rename_i st' hs
      obtain rfl := Option.some.inj h
      exact fr_sw hC hL b _ st _ h1 hs _ hK
    · rename_i i st' hs
      refine fr_sw hC hL b _ st _ h1 hs _ ?_
      by_cases hi : i = id
      · simp only [if_pos hi] at h ⊢
        obtain rfl := Option.some.inj h
        exact hK
      · simp only [if_neg hi] at h ⊢
        obtain rfl := Option.some.inj h
        exact hK
    · rename_i st' hs
      obtain rfl := Option.some.inj h
      exact fr_sw hC hL b _ st _ h1 hs _ hK
    · cases h
  | .loop keep b, sc, st, out, hl, h, K, hK => by
    cases sc <;> simp only [likeC] at hl
    simp only [fr] at h
    exact hL none keep _ _ _ st out (fun st out hs K hK => fr_sw hC hL b _ st out hl hs K hK) h K hK
  | .next _ _ _, sc, st, out, hl, h, K, hK => by cases h
  | .mloop keep keepO it nx more b, sc, st, out, hl, h, K, hK => by
    cases sc <;> (try simp only [likeC] at hl)
    case loop j b' =>
      cases b' <;> (try simp only [likeC] at hl)
      case seq x y =>
        cases x <;> (try simp only [likeC] at hl)
        case next it' nx' more' =>
          obtain ⟨rfl, rfl, rfl, hl⟩ := hl
          simp only [fr] at h
          exact hL (some ⟨keepO, it, nx, more⟩) keep j _ _ st out (fun st out hs K hK => fr_sw hC hL b _ st out hl hs K hK) h K hK
  | .exit id, sc, st, out, hl, h, K, hK => by
    cases sc <;> simp only [likeC] at hl
    subst hl
    obtain rfl := Option.some.inj h
    exact hK
  | .ret, sc, st, out, hl, h, K, hK => by
    cases sc <;> simp only [likeC] at hl
    obtain rfl := Option.some.inj h
    exact hK
end
def bitIn (k s : Nat) : Nat := s ||| (1 <<< k)
def bitOut (k s : Nat) : Nat := s ^^^ (s &&& (1 <<< k))
def SX.live (s : Nat) : SX → Nat
  | .t k => bitIn k s
  | .c _ => s
def SX.lives (s : Nat) : List SX → Nat
  | [] => s
  | x :: r => SX.lives (x.live s) r
def SX.liveO (s : Nat) : Option SX → Nat
  | some x => x.live s
  | none => s
def SOp.live (s : Nat) : SOp → Nat
  | .mv x => x.live s
  | .pick a b c => c.live (b.live (a.live s))
  | .alloc _ _ => s
  | .boxv _ _ x => x.live s
  | .build _ parts => SX.lives s (parts.map (·.2.2))
  | .mkrow _ _ _ _ parts => SX.lives s (parts.map (·.2))
  | .load _ _ x => x.live s
  | .store _ x v => v.live (x.live s)
  | .nilchk x => x.live s
  | .bin _ _ x y => y.live (x.live s)
  | .un _ x => x.live s
  | .conv _ x => x.live s
  | .mkfn _ caps => SX.lives s caps
  | .mkslice _ _ _ _ x => x.live s
  | .slice _ _ x lo hi => SX.liveO (SX.liveO (x.live s) lo) hi
  | .faddr _ x => x.live s
  | .field _ _ _ x => x.live s
  | .iaddr _ x i => i.live (x.live s)
  | .idx x i => i.live (x.live s)
  | .ext x _ => x.live s
  | .call _ args => SX.lives s args
  | .callv x args => SX.lives (x.live s) args
  | .len _ x => x.live s
  | .append _ _ _ _ x y => y.live (x.live s)
  | .minmax _ x y => y.live (x.live s)
  | .mkmap _ x => SX.liveO s x
  | .mset _ m k v => v.live (k.live (m.live s))
  | .mget _ _ _ _ m k => k.live (m.live s)
  | .mkit x => x.live s
  | .mcur x => x.live s
def SOper.live (o : SOper) (s : Nat) : Nat :=
  let s1 := match o.dst with | some d => bitOut d s | none => s
  let s2 := o.op.live s1
  match o.gd with | some (k, _) => bitIn k s2 | none => s2
def opsLive : List SOper → Nat → Nat
  | [], s => s
  | o :: r, s => o.live (opsLive r s)
def exLive : List (Nat × Nat) → Nat → Nat
  | [], _ => 0
  | (i, s) :: r, k => if i = k then s else exLive r k
def scLive (ex : List (Nat × Nat)) (ret : Nat) : SC → Nat → Nat
  | .skip, out => out
  | .reg ops, out => opsLive ops out
  | .dreg _ ops, out => opsLive ops out
  | .seq a b, out => scLive ex ret a (scLive ex ret b out)
  | .cond q a b, out => q.live (scLive ex ret a out ||| scLive ex ret b out)
  | .block id b, out => scLive ((id, out) :: ex) ret b out
  | .loop _ b, _ => scLive ex ret b (scLive ex ret b 0)
  | .exit id, _ => exLive ex id
  | .ret, _ => ret
  | .next it nx more, out => it.live (bitOut nx (bitOut more out))
  | .mloop _ _ _ _ _ b, out => scLive ex ret b out
def exAll : List (Nat × Nat) → Nat
  | [] => 0
  | (_, s) :: r => s ||| exAll r
def mask (nt s : Nat) : List Nat := (List.range nt).map fun k => (s >>> k) % 2
def ann (nt : Nat) (ex : List (Nat × Nat)) (ret : Nat) : SC → Nat → SC
  | .seq a b, out => .seq (ann nt ex ret a (scLive ex ret b out)) (ann nt ex ret b out)
  | .cond q a b, out => .cond q (ann nt ex ret a out) (ann nt ex ret b out)
  | .block id b, out => .block id (ann nt ((id, out) :: ex) ret b out)
  | .loop j (.seq (.next it nx more) b), out => .mloop (mask nt (scLive ex ret (.loop j (.seq (.next it nx more) b)) out)) (mask nt (ret ||| exAll ex)) it nx more (ann nt ex ret b (scLive ex ret (.loop j (.seq (.next it nx more) b)) out))
  | .loop j b, out => .loop (mask nt (scLive ex ret (.loop j b) out)) (ann nt ex ret b (scLive ex ret (.loop j b) out))
  | .mloop _ _ it nx more _, _ => .next it nx more
  | sc, _ => sc
theorem ann_like {nt : Nat} {ret : Nat} : ∀ (sc : SC) (ex : List (Nat × Nat)) (out : Nat), likeC (ann nt ex ret sc out) sc
  | .skip, _, _ => trivial
  | .reg _, _, _ => rfl
  | .dreg _ _, _, _ => ⟨rfl, rfl⟩
  | .seq a b, ex, out => ⟨ann_like a _ _, ann_like b _ _⟩
  | .cond q a b, ex, out => ⟨rfl, ann_like a _ _, ann_like b _ _⟩
  | .block id b, ex, out => ⟨rfl, ann_like b _ _⟩
  | .loop j b, ex, out => by
    cases b with
    | seq x y =>
      cases x with
      | next it nx more => exact ⟨rfl, rfl, rfl, ann_like y _ _⟩
      | skip => exact ann_like (.seq .skip y) _ _
      | reg o => exact ann_like (.seq (.reg o) y) _ _
      | dreg a o => exact ann_like (.seq (.dreg a o) y) _ _
      | seq u v => exact ann_like (.seq (.seq u v) y) _ _
      | cond q u v => exact ann_like (.seq (.cond q u v) y) _ _
      | block i u => exact ann_like (.seq (.block i u) y) _ _
      | loop j' u => exact ann_like (.seq (.loop j' u) y) _ _
      | exit i => exact ann_like (.seq (.exit i) y) _ _
      | ret => exact ann_like (.seq .ret y) _ _
      | mloop a b' d e g u => exact ann_like (.seq (.mloop a b' d e g u) y) _ _
    | skip => exact trivial
    | reg o => exact rfl
    | dreg a o => exact ⟨rfl, rfl⟩
    | cond q u v => exact ann_like (nt := nt) (ret := ret) (.cond q u v) ex _
    | block i u => exact ann_like (nt := nt) (ret := ret) (.block i u) ex _
    | loop j' u => exact ann_like (nt := nt) (ret := ret) (.loop j' u) ex _
    | exit i => exact rfl
    | ret => exact trivial
    | next a b' d => exact ⟨rfl, rfl, rfl⟩
    | mloop a b' d e g u => exact trivial
  | .next _ _ _, _, _ => ⟨rfl, rfl, rfl⟩
  | .mloop _ _ _ _ _ _, _, _ => trivial
  | .exit id, _, _ => rfl
  | .ret, _, _ => trivial
def rxLive : List RX → Nat → Nat
  | [], s => s
  | .tmp t :: r, s => bitIn t (rxLive r s)
  | .cell a _ _ :: r, s => bitIn a (rxLive r s)
def SC.mark (l : List Nat) : SC → SC
  | .seq a b => .seq (SC.mark l a) (SC.mark l b)
  | .cond q a b => .cond q (SC.mark l a) (SC.mark l b)
  | .block id b => .block id (SC.mark l b)
  | .loop j b => .loop (l ++ j) (SC.mark l b)
  | sc => sc
theorem mark_like {l : List Nat} : ∀ (a sc : SC), likeC a sc → likeC (SC.mark l a) sc
  | .seq a b, sc, h => by
    cases sc <;> first | exact h.elim | exact ⟨mark_like a _ h.1, mark_like b _ h.2⟩
  | .cond q a b, sc, h => by
    cases sc <;> first | exact h.elim | exact ⟨h.1, mark_like a _ h.2.1, mark_like b _ h.2.2⟩
  | .block id b, sc, h => by
    cases sc <;> first | exact h.elim | exact ⟨h.1, mark_like b _ h.2⟩
  | .loop j b, sc, h => by
    cases sc <;> first | exact h.elim | exact mark_like b _ h
  | .skip, sc, h => h
  | .reg _, sc, h => h
  | .dreg _ _, sc, h => h
  | .next _ _ _, sc, h => h
  | .mloop _ _ _ _ _ _, sc, h => h
  | .exit _, sc, h => h
  | .ret, sc, h => h
def markR : RM → SC → SC
  | .frl l, sc => SC.mark l sc
  | .asis, sc => sc
  | .frz, sc => sc
  | .late, sc => sc
  | .own _, sc => sc
  | .tr _, sc => sc
theorem markR_like {res : RM} {a sc : SC} (h : likeC a sc) : likeC (markR res a) sc := by
  cases res <;> first | exact h | exact mark_like _ _ h
theorem markR_a {sc : SC} : markR .asis sc = sc := rfl
theorem markR_f {sc : SC} : markR .frz sc = sc := rfl
theorem markR_s {sc : SC} : markR .late sc = sc := rfl
theorem markR_o {l : List (Option (Nat × Nat))} {sc : SC} : markR (.own l) sc = sc := rfl
theorem markR_t {l : List (Option (Nat × Nat))} {sc : SC} : markR (.tr l) sc = sc := rfl
theorem markR_l {l : List Nat} {sc : SC} : markR (.frl l) sc = SC.mark l sc := rfl
structure FC where
  nt : Nat
  sc : SC
  rs : List RX
def codeOf (P : Program) (f : FuncId) : Option FC :=
  match P.funcs[f]? with
  | some fn => match fn.body with
    | some code => match trC P fn.ntmps code with
      | some sc => match allSome (fn.results.toList.map (resX P fn.ntmps)) with
        | some rs => some ⟨fn.ntmps, ann fn.ntmps [] (rxLive rs 0) sc (rxLive rs 0), rs⟩
        | none => none
      | none => none
    | none => none
  | none => none
def fin (res : RM) (n0 : Nat) (rs : List RX) (x : X) (st : St) : Option (SV × List Ob) :=
  match x with
  | .exit _ => none
  | _ => match resV st rs with
    | some r0 => match gc n0 r0 st.ob with
      | some (r, ob) => order res n0 r ob
      | none => none
    | none => none
def finF (res : RM) (n0 : Nat) (rs : List RX) : Option (X × St) → Option (SV × List Ob)
  | some (x, st) => fin res n0 rs x st
  | none => none
def valX (g : List SV → Option SV) (xs : List SV) (ob : List Ob) : Option (SV × List Ob) :=
  match ob with
  | [] => match g xs with
    | some r => some (r, [])
    | none => none
  | _ :: _ => none
theorem valX_told {P : Program} {g : List SV → Option SV} {f : FuncId} (h : ∀ {xs : List SV} {r : SV}, g xs = some r → Fun P f xs [] r []) {xs : List SV} {ob : List Ob} {r : SV} {ob' : List Ob} (hx : valX g xs ob = some (r, ob')) : Fun P f xs ob r ob' := by
  unfold valX at hx
  split at hx
  · split at hx
    · rename_i r1 h1
      simp only [Option.some.injEq, Prod.mk.injEq] at hx
      obtain ⟨rfl, rfl⟩ := hx
      exact h h1
    · cases hx
  · cases hx
def ExtTold (P : Program) (M : FuncId → FM) : Prop := ∀ f g xs ob r ob', (M f).ext = some g → g xs ob = some (r, ob') → Fun P f xs ob r ob'
def entry (b : Bool) (ob : List Ob) : List Ob := bif b then toTree ob else ob
theorem entry_len (b : Bool) (ob : List Ob) : (entry b ob).length = ob.length := by cases b <;> simp [entry, toTree_len]
theorem Fun.entry {P : Program} {f : FuncId} {args : List SV} {ob : List Ob} {r : SV} {ob' : List Ob} {b : Bool} (h : Fun P f args (entry b ob) r ob') : Fun P f args ob r ob' := by
  cases b with
  | true => exact h.tree
  | false => exact h
noncomputable def bodyF (P : Program) (M : FuncId → FM) (E : FEnv) (L : Nat → LoopF) : FEnv := fun f xs ob =>
  match (M f).ext with
  | some g => g xs ob
  | none => match codeOf P f with
    | some fc => bif decide (xs.length ≤ fc.nt) then finF (M f).res ob.length fc.rs (fr P (fCall M E) (L ob.length) (markR (M f).res fc.sc) ⟨xs ++ anys (fc.nt - xs.length), entry (M f).tree ob⟩) else none
    | none => none
noncomputable def evN (P : Program) (M : FuncId → FM) : Nat → FEnv
  | 0 => fun _ _ _ => none
  | n + 1 => bodyF P M (evN P M n) fun n0 mi keep step st => loopNA n0 mi keep step n st
theorem body_told {P : Program} (hm : P.follows .mixedOrders = true) {M : FuncId → FM} (hX : ExtTold P M) {E : FEnv} (hE : EnvTold P E) {L : Nat → LoopF} (hL : ∀ c : Ctx, LoopTold P c (L c.m)) : EnvTold P (bodyF P M E L) := by
  intro f xs ob r ob' h
  unfold bodyF codeOf at h
  split at h
  · rename_i g hg
    exact hX f g xs _ _ _ hg h
  cases hf : P.funcs[f]? with
  | none => rw [hf] at h; cases h
  | some fn =>
    rw [hf] at h
    simp only at h
    cases hb : fn.body with
    | none => rw [hb] at h; cases h
    | some code =>
      rw [hb] at h
      simp only at h
      cases ht : trC P fn.ntmps code with
      | none => rw [ht] at h; cases h
      | some sc =>
        rw [ht] at h
        simp only at h
        cases hr : allSome (fn.results.toList.map (resX P fn.ntmps)) with
        | none => rw [hr] at h; cases h
        | some rs =>
          rw [hr] at h
          simp only at h
          obtain ⟨h1, h2⟩ := bif_some h
          have hn : xs.length ≤ fn.ntmps := of_decide_eq_true h1
          cases ho : fr P (fCall M E) (L ob.length) (markR (M f).res (ann fn.ntmps [] (rxLive rs 0) sc (rxLive rs 0))) ⟨xs ++ anys (fn.ntmps - xs.length), entry (M f).tree ob⟩ with
          | none => rw [ho] at h2; cases h2
          | some out =>
            rw [ho] at h2
            obtain ⟨x, st⟩ := out
            have h2 : fin (M f).res ob.length rs x st = some (r, ob') := h2
            unfold fin at h2
            have hx : x = .ret ∨ x = .normal := by
              cases x with
              | exit i => cases h2
              | normal => exact .inr rfl
              | ret => exact .inl rfl
            have h3 : (match resV st rs with
              | some r0 => match gc ob.length r0 st.ob with
                | some (r, ob2) => order (M f).res ob.length r ob2
                | none => none
              | none => none) = some (r, ob') := by
              rcases hx with rfl | rfl <;> exact h2
            clear h2
            split at h3
            · rename_i r0 hr0
              split at h3
              · rename_i r1 ob1 hg
                refine order_fun (Fun.entry (b := (M f).tree) (fun_of hf hb ht hr hn fun c hc1 hc2 => sw_run hm _ _ _ ?_)) h3
                refine fr_sw (fCall_told hE) (hL c) _ sc _ (x, st) (markR_like (ann_like sc _ _)) (by rw [hc2, entry_len]; exact ho) _ ?_
                rw [entry_len]
                exact ⟨hx, r0, _, hr0, gc_weak hg⟩
              · cases h3
            · cases h3
theorem evN_told {P : Program} (hm : P.follows .mixedOrders = true) {M : FuncId → FM} (hX : ExtTold P M) : ∀ n, EnvTold P (evN P M n)
  | 0 => fun f xs ob r ob' h => by cases h
  | n + 1 => body_told hm hX (evN_told hm hX n) fun c => loopNA_told hm n
def ELe (E E' : FEnv) : Prop := ∀ f xs ob r, E f xs ob = some r → E' f xs ob = some r
def CLe (C C' : CallF) : Prop := ∀ f xs ob r, C f xs ob = some r → C' f xs ob = some r
theorem callWith_mono {hd : List Bool} {E E' : FEnv} (h : ELe E E') {f : FuncId} {xs : List SV} {ob : List Ob} {sel : List Nat} {r : R3} (hr : callWith hd E f xs ob sel = some r) : callWith hd E' f xs ob sel = some r := by
  unfold callWith at hr ⊢
  split at hr
  · obtain ⟨h1, h2⟩ := bif_some hr
    rw [h1]
    split at h2
    · rename_i r0 fob' he
      rw [cond_true, h _ _ _ _ he]
      exact h2
    · cases h2
  · cases hr
theorem lateF_mono {m : RM} {a b : Option R3} (h : ∀ r, a = some r → b = some r) {r : R3} (hr : lateF m a = some r) : lateF m b = some r := by
  cases m with
  | asis => exact h r hr
  | frz => exact h r hr
  | own l => exact h r hr
  | tr l => exact h r hr
  | frl l => exact h r hr
  | late =>
    cases a with
    | none => cases hr
    | some q => rw [h q rfl]; exact hr
theorem fCall_mono {M : FuncId → FM} {E E' : FEnv} (h : ELe E E') : CLe (fCall M E) (fCall M E') := fun f xs ob r hr => lateF_mono (fun r hr => callWith_mono h hr) hr
section
variable {P : Program} {C C' : CallF}
theorem fOp_mono (h : CLe C C') {so : SOp} {sl : List SV} {ob : List Ob} {r : R3} (hr : fOp P C so sl ob = some r) : fOp P C' so sl ob = some r := by
  cases so
  case call f args => exact h _ _ _ _ hr
  case callv x args =>
    simp only [fOp] at hr ⊢
    split at hr
    · obtain ⟨h1, h2⟩ := bif_some hr
      rw [h1]
      exact h _ _ _ _ h2
    · cases hr
  all_goals exact hr
theorem fStep_mono (h : CLe C C') {o : SOper} {st : St} {r : Ent × St} (hr : fStep P C o st = some r) : fStep P C' o st = some r := by
  have one : ∀ r, appF o.dst st (fOp P C o.op st.sl st.ob) = some r → appF o.dst st (fOp P C' o.op st.sl st.ob) = some r := fun r hr => by
    cases he : fOp P C o.op st.sl st.ob with
    | none => rw [he] at hr; cases hr
    | some q => rw [fOp_mono h he]; rw [he] at hr; exact hr
  unfold fStep at hr ⊢
  split at hr
  · exact one _ hr
  · split at hr
    · cases hb : eqBo _ _ with
      | true => rw [hb] at hr; exact one _ hr
      | false => rw [hb] at hr; exact hr
    · exact hr
    · cases hr
theorem fSeq_mono (h : CLe C C') : ∀ {l : List SOper} {st st' : St}, fSeq P C l st = some st' → fSeq P C' l st = some st'
  | [], st, st', hr => hr
  | o :: r, st, st', hr => by
    simp only [fSeq] at hr ⊢
    split at hr
    · rename_i e st1 h1
      rw [fStep_mono h h1]
      exact fSeq_mono h hr
    · cases hr
theorem fOps_mono (h : CLe C C') : ∀ {l : List SOper} {acc : List Ent} {st : St} {r : List Ent × St}, fOps P C l acc st = some r → fOps P C' l acc st = some r
  | [], acc, st, r, hr => hr
  | o :: l, acc, st, r, hr => by
    simp only [fOps] at hr ⊢
    split at hr
    · rename_i e st1 h1
      rw [fStep_mono h h1]
      exact fOps_mono h hr
    · cases hr
def LLe (L L' : LoopF) : Prop := ∀ mi keep (step step' : St → Option (X × St)) st o, (∀ st o, step st = some o → step' st = some o) → L mi keep step st = some o → L' mi keep step' st = some o
theorem thenF_mono {r r' : Option (X × St)} {k k' : St → Option (X × St)} {o : X × St} (h1 : ∀ o, r = some o → r' = some o) (h2 : ∀ st o, k st = some o → k' st = some o) (h : thenF r k = some o) : thenF r' k' = some o := by
  unfold thenF at h
  split at h
  · rw [h1 _ rfl]; exact h2 _ _ h
  · rw [h1 _ rfl]; exact h
  · rw [h1 _ rfl]; exact h
  · cases h
theorem blockF_mono {id : Nat} {r r' : Option (X × St)} {o : X × St} (h1 : ∀ o, r = some o → r' = some o) (h : blockF id r = some o) : blockF id r' = some o := by
  cases r with
  | none => cases h
  | some q => rw [h1 _ rfl]; exact h
theorem fr_mono (h : CLe C C') {L L' : LoopF} (hL : LLe L L') : ∀ (sc : SC) (st : St) (o : X × St), fr P C L sc st = some o → fr P C' L' sc st = some o
  | .skip, st, o, hr => hr
  | .reg ops, st, o, hr => by
    simp only [fr] at hr ⊢
    split at hr
    · rename_i st' hs
      rw [fSeq_mono h hs]; exact hr
    · cases hr
  | .dreg anc ops, st, o, hr => by
    simp only [fr] at hr ⊢
    split at hr
    · rename_i es st' hs
      rw [fOps_mono h hs]; exact hr
    · cases hr
  | .seq a b, st, o, hr => thenF_mono (fun o => fr_mono h hL a st o) (fun st o => fr_mono h hL b st o) hr
  | .cond q a b, st, o, hr => by
    simp only [fr] at hr ⊢
    split at hr
    · rename_i t ht
      cases t with
      | true => exact fr_mono h hL a st o hr
      | false => exact fr_mono h hL b st o hr
    · cases hr
  | .block id b, st, o, hr => blockF_mono (fun o => fr_mono h hL b st o) hr
  | .loop keep b, st, o, hr => hL none keep _ _ st o (fun st o => fr_mono h hL b st o) hr
  | .next _ _ _, st, o, hr => by cases hr
  | .mloop keep keepO it nx more b, st, o, hr => hL (some ⟨keepO, it, nx, more⟩) keep _ _ st o (fun st o => fr_mono h hL b st o) hr
  | .exit id, st, o, hr => hr
  | .ret, st, o, hr => hr
end
theorem loopN_mono {n0 : Nat} {keep : List Nat} {step step' : St → Option (X × St)} (h : ∀ st o, step st = some o → step' st = some o) : ∀ {n m : Nat} {st : St} {o : X × St}, n ≤ m → loopN n0 keep step n st = some o → loopN n0 keep step' m st = some o
  | 0, m, st, o, _, hr => by cases hr
  | n + 1, 0, st, o, hn, hr => absurd hn (by omega)
  | n + 1, m + 1, st, o, hn, hr => thenF_mono (fun o ho => h _ o ho) (fun st o ho => loopN_mono h (by omega) ho) hr
theorem endM_mono {r r' : Option (X × St)} {o : X × St} (h : ∀ o, r = some o → r' = some o) (hr : endM r = some o) : endM r' = some o := by
  cases r with
  | none => cases hr
  | some q => rw [h q rfl]; exact hr
theorem outM_mono {n0 : Nat} {keepO : List Nat} {r r' : Option (X × St)} {o : X × St} (h : ∀ o, r = some o → r' = some o) (hr : outM n0 keepO r = some o) : outM n0 keepO r' = some o := by
  cases r with
  | none => cases hr
  | some q => rw [h q rfl]; exact hr
theorem mrun_mono {n0 : Nat} {mi : MI} {keep : List Nat} {step step' : St → Option (X × St)} {f : MF} (h : ∀ st o, step st = some o → step' st = some o) : ∀ {l : EL} {seen : List MK} {st : St} {o : X × St}, mrun n0 mi keep step f l seen st = some o → mrun n0 mi keep step' f l seen st = some o
  | [], seen, st, o, hr => by
    unfold mrun at hr ⊢
    split at hr
    · obtain ⟨h1, h2⟩ := bif_some hr
      rw [h1, cond_true]
      exact endM_mono (fun o => h _ o) h2
    · cases hr
  | (k, x) :: l, seen, st, o, hr => by
    unfold mrun at hr ⊢
    split at hr
    · obtain ⟨h1, h2⟩ := bif_some hr
      rw [h1, cond_true]
      exact thenF_mono (fun o => h _ o) (fun st o => mrun_mono h) h2
    · cases hr
theorem loopM_mono {n0 : Nat} {mi : MI} {keep : List Nat} {step step' : St → Option (X × St)} (h : ∀ st o, step st = some o → step' st = some o) {st : St} {o : X × St} (hr : loopM n0 mi keep step st = some o) : loopM n0 mi keep step' st = some o := by
  unfold loopM at hr ⊢
  split at hr
  · obtain ⟨h1, h2⟩ := sameOf_iff.1 hr
    exact sameOf_iff.2 ⟨h1, fun l hl => outM_mono (fun o => mrun_mono h) (h2 l hl)⟩
  · cases hr
theorem loopNA_mono {n0 : Nat} {mi : Option MI} {keep : List Nat} {step step' : St → Option (X × St)} (h : ∀ st o, step st = some o → step' st = some o) {n m : Nat} {st : St} {o : X × St} (hn : n ≤ m) (hr : loopNA n0 mi keep step n st = some o) : loopNA n0 mi keep step' m st = some o := by
  cases mi with
  | none => exact loopN_mono h hn hr
  | some mi => exact loopM_mono h hr
theorem finF_some {res : RM} {n0 : Nat} {rs : List RX} {r : Option (X × St)} {o : SV × List Ob} (h : finF res n0 rs r = some o) : ∃ q, r = some q ∧ fin res n0 rs q.1 q.2 = some o := by
  cases r with
  | none => cases h
  | some q => exact ⟨q, rfl, h⟩
theorem bodyF_mono {P : Program} {M : FuncId → FM} {E E' : FEnv} (h : ELe E E') {L L' : Nat → LoopF} (hL : ∀ n0, LLe (L n0) (L' n0)) : ELe (bodyF P M E L) (bodyF P M E' L') := by
  intro f xs ob r hr
  unfold bodyF at hr ⊢
  split at hr
  · exact hr
  split at hr
  · obtain ⟨h1, h2⟩ := bif_some hr
    rw [h1]
    obtain ⟨q, h3, h4⟩ := finF_some h2
    rw [cond_true, fr_mono (fCall_mono h) (hL _) _ _ _ h3]
    exact h4
  · cases hr
theorem evN_succ {P : Program} {M : FuncId → FM} : ∀ n, ELe (evN P M n) (evN P M (n + 1))
  | 0 => fun f xs ob r h => by cases h
  | n + 1 => bodyF_mono (evN_succ n) fun n0 mi keep step step' st o hs h => loopNA_mono hs (Nat.le_succ n) h
theorem evN_mono {P : Program} {M : FuncId → FM} {n m : Nat} (h : n ≤ m) : ELe (evN P M n) (evN P M m) := by
  induction h with
  | refl => exact fun f xs ob r h => h
  | step _ ih => exact fun f xs ob r h => evN_succ _ _ _ _ _ (ih f xs ob r h)
noncomputable def loopW (n0 : Nat) : List Nat → (St → Option (X × St)) → St → Option (X × St) := fun keep step st =>
  match Classical.propDecidable (∃ n o, loopN n0 keep step n st = some o) with
  | .isTrue h => loopN n0 keep step (Classical.choose h) st
  | .isFalse _ => none
theorem loopW_iff {n0 : Nat} {keep : List Nat} {step : St → Option (X × St)} {st : St} {o : X × St} : loopW n0 keep step st = some o ↔ ∃ n, loopN n0 keep step n st = some o := by
  unfold loopW
  split
  · rename_i h _
    constructor
    · intro e; exact ⟨_, e⟩
    · rintro ⟨n, hn⟩
      obtain ⟨o', ho'⟩ := Classical.choose_spec h
      have h1 := loopN_mono (fun _ _ h => h) (Nat.le_max_left n (Classical.choose h)) hn
      have h2 := loopN_mono (fun _ _ h => h) (Nat.le_max_right n (Classical.choose h)) ho'
      rw [h1] at h2
      rw [ho', ← h2]
  · rename_i h _
    exact ⟨fun e => (by cases e), fun ⟨n, hn⟩ => absurd ⟨n, o, hn⟩ h⟩
theorem loopW_eq {n0 : Nat} {keep : List Nat} {step : St → Option (X × St)} {st : St} : loopW n0 keep step st = thenF (step (canon n0 keep st)) (loopW n0 keep step) := by
  refine Option.ext fun o => ?_
  rw [loopW_iff]
  constructor
  · rintro ⟨n, hn⟩
    cases n with
    | zero => cases hn
    | succ n => exact thenF_mono (fun o h => h) (fun st o ho => loopW_iff.2 ⟨n, ho⟩) hn
  · intro h
    unfold thenF at h
    split at h
    · rename_i st' hs
      obtain ⟨n, hn⟩ := loopW_iff.1 h
      exact ⟨n + 1, by simp only [loopN, thenF, hs]; exact hn⟩
    · rename_i i st' hs
      exact ⟨1, by simp only [loopN, thenF, hs]; exact h⟩
    · rename_i st' hs
      exact ⟨1, by simp only [loopN, thenF, hs]; exact h⟩
    · cases h
noncomputable def loopWA (n0 : Nat) : LoopF := fun mi keep step st =>
  match mi with
  | none => loopW n0 keep step st
  | some mi => loopM n0 mi keep step st
theorem unif {α : Type} (A : List α) : ∀ (k : Nat) (Q : Nat → List α → Prop), (∀ n m l, n ≤ m → Q n l → Q m l) → (∀ l : List α, l.length = k → (∀ a, a ∈ l → a ∈ A) → ∃ n, Q n l) → ∃ n, ∀ l : List α, l.length = k → (∀ a, a ∈ l → a ∈ A) → Q n l
  | 0, Q, _, h => by
    obtain ⟨n, hn⟩ := h [] rfl (fun a ha => by cases ha)
    exact ⟨n, fun l hl _ => by rw [List.eq_nil_of_length_eq_zero hl]; exact hn⟩
  | k + 1, Q, hQ, h => by
    have one : ∀ a, a ∈ A → ∃ n, ∀ l : List α, l.length = k → (∀ b, b ∈ l → b ∈ A) → Q n (a :: l) := fun a ha =>
      unif A k (fun n l => Q n (a :: l)) (fun n m l hn hq => hQ n m _ hn hq) fun l hl hm => h (a :: l) (by simp [hl]) fun b hb => by
        rcases List.mem_cons.1 hb with rfl | hb
        · exact ha
        · exact hm b hb
    have many : ∀ B : List α, (∀ a, a ∈ B → a ∈ A) → ∃ n, ∀ a, a ∈ B → ∀ l : List α, l.length = k → (∀ b, b ∈ l → b ∈ A) → Q n (a :: l) := by
      intro B
      induction B with
      | nil => intro _; exact ⟨0, fun a ha => by cases ha⟩
      | cons a B ih =>
        intro hB
        obtain ⟨n1, h1⟩ := one a (hB a (by simp))
        obtain ⟨n2, h2⟩ := ih fun b hb => hB b (by simp [hb])
        refine ⟨max n1 n2, fun b hb l hl hm => ?_⟩
        rcases List.mem_cons.1 hb with rfl | hb
        · exact hQ _ _ _ (Nat.le_max_left _ _) (h1 l hl hm)
        · exact hQ _ _ _ (Nat.le_max_right _ _) (h2 b hb l hl hm)
    obtain ⟨n, hn⟩ := many A fun _ h => h
    refine ⟨n, fun l hl hm => ?_⟩
    cases l with
    | nil => cases hl
    | cons a l => exact hn a (hm a (by simp)) l (by simpa using hl) fun b hb => hm b (by simp [hb])
theorem nodup_le {α : Type} : ∀ {l A : List α}, l.Nodup → (∀ a, a ∈ l → a ∈ A) → l.length ≤ A.length
  | [], A, _, _ => Nat.zero_le _
  | a :: l, A, hn, hm => by
    classical
    obtain ⟨h1, h2⟩ := List.nodup_cons.1 hn
    have ha := hm a (by simp)
    have := nodup_le (l := l) (A := A.erase a) h2 fun b hb => by
      have hb' := hm b (by simp [hb])
      exact (List.mem_erase_of_ne (fun e => h1 (by rw [← e]; exact hb))).2 hb'
    rw [List.length_erase_of_mem ha] at this
    have hp : 0 < A.length := List.length_pos_of_mem ha
    simp only [List.length_cons]; omega
theorem Enum.nodup {f : MF} {l : EL} (h : Enum f l) : l.Nodup := List.Pairwise.of_map (fun x : MK × MV => x.1) (fun a b hab e => hab (by rw [e])) h.nd
theorem Enum.len {f : MF} {l l' : EL} (h : Enum f l) (h' : Enum f l') : l.length = l'.length :=
  Nat.le_antisymm (nodup_le h.nodup fun a ha => (h'.mem a.1 a.2).2 ((h.mem a.1 a.2).1 ha)) (nodup_le h'.nodup fun a ha => (h.mem a.1 a.2).2 ((h'.mem a.1 a.2).1 ha))
noncomputable def ev (P : Program) (M : FuncId → FM) : FEnv := fun f xs ob =>
  match Classical.propDecidable (∃ n o, evN P M n f xs ob = some o) with
  | .isTrue h => evN P M (Classical.choose h) f xs ob
  | .isFalse _ => none
section
variable {P : Program} {M : FuncId → FM}
theorem ev_iff {f : FuncId} {xs : List SV} {ob : List Ob} {o : SV × List Ob} : ev P M f xs ob = some o ↔ ∃ n, evN P M n f xs ob = some o := by
  unfold ev
  split
  · rename_i h _
    constructor
    · intro e; exact ⟨_, e⟩
    · rintro ⟨n, hn⟩
      obtain ⟨o', ho'⟩ := Classical.choose_spec h
      have h1 := evN_mono (Nat.le_max_left n (Classical.choose h)) _ _ _ _ hn
      have h2 := evN_mono (Nat.le_max_right n (Classical.choose h)) _ _ _ _ ho'
      rw [h1] at h2
      rw [ho', ← h2]
  · rename_i h _
    exact ⟨fun e => (by cases e), fun ⟨n, hn⟩ => absurd ⟨n, o, hn⟩ h⟩
theorem ev_told (hm : P.follows .mixedOrders = true) (hX : ExtTold P M) : EnvTold P (ev P M) := fun f xs ob r ob' h => by
  obtain ⟨n, hn⟩ := ev_iff.1 h
  exact evN_told hm hX n f xs ob r ob' hn
theorem ev_ge (n : Nat) : ELe (evN P M n) (ev P M) := fun f xs ob r h => ev_iff.2 ⟨n, h⟩
theorem callWith_cont {hd : List Bool} {f : FuncId} {xs : List SV} {ob : List Ob} {sel : List Nat} {r : R3} (h : callWith hd (ev P M) f xs ob sel = some r) : ∃ n, callWith hd (evN P M n) f xs ob sel = some r := by
  unfold callWith at h
  split at h
  · rename_i fob hfob
    obtain ⟨h1, h2⟩ := bif_some h
    split at h2
    · rename_i r0 fob' he
      obtain ⟨n, hn⟩ := ev_iff.1 he
      refine ⟨n, ?_⟩
      unfold callWith
      rw [hfob]
      simp only
      rw [h1, cond_true, hn]
      exact h2
    · cases h2
  · cases h
theorem fCall_cont {f : FuncId} {xs : List SV} {ob : List Ob} {r : R3} (h : fCall M (ev P M) f xs ob = some r) : ∃ n, fCall M (evN P M n) f xs ob = some r := by
  unfold fCall at h ⊢
  cases hq : callWith (M f).hand (ev P M) f xs ob (reach ob 64 (handRefs (M f).hand xs) []) with
  | none =>
    rw [hq] at h
    cases hm : (M f).res <;> rw [hm] at h <;> cases h
  | some q =>
    obtain ⟨n, hn⟩ := callWith_cont hq
    exact ⟨n, by rw [hn, ← hq]; exact h⟩
theorem fOp_cont {so : SOp} {sl : List SV} {ob : List Ob} {r : R3} (hr : fOp P (fCall M (ev P M)) so sl ob = some r) : ∃ n, fOp P (fCall M (evN P M n)) so sl ob = some r := by
  cases so
  case call f args => exact fCall_cont hr
  case callv x args =>
    simp only [fOp] at hr ⊢
    split at hr
    · obtain ⟨h1, h2⟩ := bif_some hr
      rw [h1]
      exact fCall_cont h2
    · cases hr
  all_goals exact ⟨0, hr⟩
theorem fStep_cont {o : SOper} {st : St} {r : Ent × St} (hr : fStep P (fCall M (ev P M)) o st = some r) : ∃ n, fStep P (fCall M (evN P M n)) o st = some r := by
  have one : ∀ r, appF o.dst st (fOp P (fCall M (ev P M)) o.op st.sl st.ob) = some r → ∃ n, appF o.dst st (fOp P (fCall M (evN P M n)) o.op st.sl st.ob) = some r := fun r hr => by
    cases he : fOp P (fCall M (ev P M)) o.op st.sl st.ob with
    | none => rw [he] at hr; cases hr
    | some q =>
      obtain ⟨n, hn⟩ := fOp_cont he
      exact ⟨n, by rw [hn]; rw [he] at hr; exact hr⟩
  unfold fStep at hr ⊢
  split at hr
  · exact one _ hr
  · split at hr
    · cases hb : eqBo _ _ with
      | true => rw [hb] at hr; exact one _ hr
      | false => rw [hb] at hr; exact ⟨0, hr⟩
    · exact ⟨0, hr⟩
    · cases hr
theorem fSeq_cont : ∀ {l : List SOper} {st st' : St}, fSeq P (fCall M (ev P M)) l st = some st' → ∃ n, fSeq P (fCall M (evN P M n)) l st = some st'
  | [], st, st', hr => ⟨0, hr⟩
  | o :: r, st, st', hr => by
    simp only [fSeq] at hr ⊢
    split at hr
    · rename_i e st1 h1
      obtain ⟨n1, g1⟩ := fStep_cont h1
      obtain ⟨n2, g2⟩ := fSeq_cont hr
      refine ⟨max n1 n2, ?_⟩
      rw [fStep_mono (fCall_mono (evN_mono (Nat.le_max_left n1 n2))) g1]
      exact fSeq_mono (fCall_mono (evN_mono (Nat.le_max_right n1 n2))) g2
    · cases hr
theorem fOps_cont : ∀ {l : List SOper} {acc : List Ent} {st : St} {r : List Ent × St}, fOps P (fCall M (ev P M)) l acc st = some r → ∃ n, fOps P (fCall M (evN P M n)) l acc st = some r
  | [], acc, st, r, hr => ⟨0, hr⟩
  | o :: l, acc, st, r, hr => by
    simp only [fOps] at hr ⊢
    split at hr
    · rename_i e st1 h1
      obtain ⟨n1, g1⟩ := fStep_cont h1
      obtain ⟨n2, g2⟩ := fOps_cont hr
      refine ⟨max n1 n2, ?_⟩
      rw [fStep_mono (fCall_mono (evN_mono (Nat.le_max_left n1 n2))) g1]
      exact fOps_mono (fCall_mono (evN_mono (Nat.le_max_right n1 n2))) g2
    · cases hr
noncomputable abbrev frN (P : Program) (M : FuncId → FM) (n0 n : Nat) : SC → St → Option (X × St) := fr P (fCall M (evN P M n)) fun mi keep step st => loopNA n0 mi keep step n st
theorem frN_mono {n0 n m : Nat} (h : n ≤ m) (sc : SC) (st : St) (o : X × St) (hr : frN P M n0 n sc st = some o) : frN P M n0 m sc st = some o :=
  fr_mono (L := fun mi keep step st => loopNA n0 mi keep step n st) (L' := fun mi keep step st => loopNA n0 mi keep step m st) (fCall_mono (evN_mono h)) (fun mi keep step step' st o hs h' => loopNA_mono hs h h') sc st o hr
theorem endM_some' {r : Option (X × St)} {o : X × St} (h : endM r = some o) : r = some o ∧ endM (some o) = some o := by
  obtain ⟨h1, _⟩ := endM_some h
  exact ⟨h1, by rw [h1] at h; exact h⟩
theorem mrun_cont {n0 : Nat} {mi : MI} {keep : List Nat} {step : St → Option (X × St)} {stepN : Nat → St → Option (X × St)} {f : MF} (hm : ∀ n m st o, n ≤ m → stepN n st = some o → stepN m st = some o) (h : ∀ st o, step st = some o → ∃ n, stepN n st = some o) : ∀ {l : EL} {seen : List MK} {st : St} {o : X × St}, mrun n0 mi keep step f l seen st = some o → ∃ n, mrun n0 mi keep (stepN n) f l seen st = some o
  | [], seen, st, o, hr => by
    unfold mrun at hr
    split at hr
    · rename_i g ks f' seen' he
      obtain ⟨h1, h2⟩ := bif_some hr
      obtain ⟨h3, h4⟩ := endM_some' h2
      obtain ⟨n, hn⟩ := h _ _ h3
      refine ⟨n, ?_⟩
      unfold mrun
      rw [he]
      simp only
      rw [h1, cond_true, hn]
      exact h4
    · cases hr
  | (k, x) :: l, seen, st, o, hr => by
    unfold mrun at hr
    split at hr
    · rename_i g ks f' seen' he
      obtain ⟨h1, h2⟩ := bif_some hr
      unfold thenF at h2
      split at h2
      · rename_i st' hs
        obtain ⟨n1, g1⟩ := h _ _ hs
        obtain ⟨n2, g2⟩ := mrun_cont hm h h2
        refine ⟨max n1 n2, ?_⟩
        unfold mrun
        rw [he]
        simp only
        rw [h1, cond_true, hm _ _ _ _ (Nat.le_max_left n1 n2) g1]
        exact mrun_mono (fun st o => hm _ _ st o (Nat.le_max_right n1 n2)) g2
      · rename_i i st' hs
        obtain ⟨n1, g1⟩ := h _ _ hs
        refine ⟨n1, ?_⟩
        unfold mrun
        rw [he]
        simp only
        rw [h1, cond_true, g1]
        exact h2
      · rename_i st' hs
        obtain ⟨n1, g1⟩ := h _ _ hs
        refine ⟨n1, ?_⟩
        unfold mrun
        rw [he]
        simp only
        rw [h1, cond_true, g1]
        exact h2
      · cases h2
    · cases hr
theorem outM_cont {n0 : Nat} {keepO : List Nat} {r : Option (X × St)} {rN : Nat → Option (X × St)} {o : X × St} (h : ∀ o, r = some o → ∃ n, rN n = some o) (hr : outM n0 keepO r = some o) : ∃ n, outM n0 keepO (rN n) = some o := by
  cases r with
  | none => cases hr
  | some q =>
    obtain ⟨n, hn⟩ := h q rfl
    exact ⟨n, by rw [hn]; exact hr⟩
theorem loopM_cont {n0 : Nat} {mi : MI} {keep : List Nat} {step : St → Option (X × St)} {stepN : Nat → St → Option (X × St)} (hm : ∀ n m st o, n ≤ m → stepN n st = some o → stepN m st = some o) (h : ∀ st o, step st = some o → ∃ n, stepN n st = some o) {st : St} {o : X × St} (hr : loopM n0 mi keep step st = some o) : ∃ n, loopM n0 mi keep (stepN n) st = some o := by
  unfold loopM at hr
  split at hr
  · rename_i g ks f he
    obtain ⟨⟨L0, h1⟩, h2⟩ := sameOf_iff.1 hr
    obtain ⟨n, hn⟩ := unif L0 L0.length (fun n l => Enum f l → outM n0 mi.keepO (mrun n0 mi keep (stepN n) f l [] st) = some o) (fun n m l hn hq hl => outM_mono (fun o => mrun_mono fun st o => hm _ _ st o hn) (hq hl)) fun l _ _ => by
      by_cases hl : Enum f l
      · obtain ⟨n, hn⟩ := outM_cont (rN := fun n => mrun n0 mi keep (stepN n) f l [] st) (fun o ho => mrun_cont hm h ho) (h2 l hl)
        exact ⟨n, fun _ => hn⟩
      · exact ⟨0, fun hl' => absurd hl' hl⟩
    refine ⟨n, ?_⟩
    unfold loopM
    rw [he]
    exact sameOf_iff.2 ⟨⟨L0, h1⟩, fun l hl => hn l (hl.len h1) (fun a ha => (h1.mem a.1 a.2).2 ((hl.mem a.1 a.2).1 ha)) hl⟩
  · cases hr
theorem fr_cont {n0 : Nat} : ∀ (sc : SC) (st : St) (o : X × St), fr P (fCall M (ev P M)) (loopWA n0) sc st = some o → ∃ n, frN P M n0 n sc st = some o
  | .skip, st, o, hr => ⟨0, hr⟩
  | .reg ops, st, o, hr => by
    simp only [fr] at hr
    split at hr
    · rename_i st' hs
      obtain ⟨n, hn⟩ := fSeq_cont hs
      exact ⟨n, by simp only [frN, fr, hn]; exact hr⟩
    · cases hr
  | .dreg anc ops, st, o, hr => by
    simp only [fr] at hr
    split at hr
    · rename_i es st' hs
      obtain ⟨n, hn⟩ := fOps_cont hs
      exact ⟨n, by simp only [frN, fr, hn]; exact hr⟩
    · cases hr
  | .seq a b, st, o, hr => by
    simp only [fr, thenF] at hr
    split at hr
    · rename_i st' hs
      obtain ⟨n1, g1⟩ := fr_cont a st _ hs
      obtain ⟨n2, g2⟩ := fr_cont b st' _ hr
      refine ⟨max n1 n2, ?_⟩
      have h1 := frN_mono (Nat.le_max_left n1 n2) _ _ _ g1
      have h2 := frN_mono (Nat.le_max_right n1 n2) _ _ _ g2
      simp only [frN] at h1 h2
      simp only [frN, fr, thenF, h1, h2]
    · rename_i i st' hs
      obtain ⟨n1, g1⟩ := fr_cont a st _ hs
      simp only [frN] at g1
      exact ⟨n1, by simp only [frN, fr, thenF, g1]; exact hr⟩
    · rename_i st' hs
      obtain ⟨n1, g1⟩ := fr_cont a st _ hs
      simp only [frN] at g1
      exact ⟨n1, by simp only [frN, fr, thenF, g1]; exact hr⟩
    · cases hr
  | .cond q a b, st, o, hr => by
    simp only [fr] at hr
    split at hr
    · rename_i t ht
      cases t with
      | true =>
        obtain ⟨n, hn⟩ := fr_cont a st o hr
        exact ⟨n, by simp only [frN, fr, ht]; exact hn⟩
      | false =>
        obtain ⟨n, hn⟩ := fr_cont b st o hr
        exact ⟨n, by simp only [frN, fr, ht]; exact hn⟩
    · cases hr
  | .block id b, st, o, hr => by
    simp only [fr] at hr
    cases he : fr P (fCall M (ev P M)) (loopWA n0) b st with
    | none => rw [he] at hr; cases hr
    | some q =>
      obtain ⟨n, hn⟩ := fr_cont b st q he
      rw [he] at hr
      simp only [frN] at hn
      exact ⟨n, by simp only [frN, fr, hn]; exact hr⟩
  | .loop keep b, st, o, hr => by
    simp only [fr] at hr
    obtain ⟨m, hm⟩ := loopW_iff.1 hr
    clear hr
    have key : ∀ (m : Nat) (st : St), loopN n0 keep (fr P (fCall M (ev P M)) (loopWA n0) b) m st = some o → ∃ n, loopN n0 keep (frN P M n0 n b) n st = some o := by
      intro m
      induction m with
      | zero => intro st h; cases h
      | succ m ih =>
        intro st h
        simp only [loopN, thenF] at h
        split at h
        · rename_i st' hs
          obtain ⟨n1, g1⟩ := fr_cont b _ _ hs
          obtain ⟨n2, g2⟩ := ih st' h
          refine ⟨max n1 n2 + 1, ?_⟩
          have h1 := frN_mono (Nat.le_trans (Nat.le_max_left n1 n2) (Nat.le_succ _)) _ _ _ g1
          have h2 := loopN_mono (step' := frN P M n0 (max n1 n2 + 1) b) (fun st o h => frN_mono (Nat.le_trans (Nat.le_max_right n1 n2) (Nat.le_succ _)) _ _ _ h) (Nat.le_max_right n1 n2) g2
          simp only [loopN, thenF, h1]
          exact h2
        · rename_i i st' hs
          obtain ⟨n1, g1⟩ := fr_cont b _ _ hs
          refine ⟨n1 + 1, ?_⟩
          have h1 := frN_mono (Nat.le_succ n1) _ _ _ g1
          simp only [loopN, thenF, h1]; exact h
        · rename_i st' hs
          obtain ⟨n1, g1⟩ := fr_cont b _ _ hs
          refine ⟨n1 + 1, ?_⟩
          have h1 := frN_mono (Nat.le_succ n1) _ _ _ g1
          simp only [loopN, thenF, h1]; exact h
        · cases h
    obtain ⟨n, hn⟩ := key m st hm
    exact ⟨n, hn⟩
  | .next _ _ _, st, o, hr => by cases hr
  | .mloop keep keepO it nx more b, st, o, hr => by
    simp only [fr] at hr
    obtain ⟨n, hn⟩ := loopM_cont (stepN := fun n => frN P M n0 n b) (fun n m st o hn => frN_mono hn b st o) (fun st o => fr_cont b st o) hr
    exact ⟨n, hn⟩
  | .exit id, st, o, hr => ⟨0, hr⟩
  | .ret, st, o, hr => ⟨0, hr⟩
theorem ev_eq {f : FuncId} {xs : List SV} {ob : List Ob} : ev P M f xs ob = bodyF P M (ev P M) loopWA f xs ob := by
  refine Option.ext fun o => ?_
  rw [ev_iff]
  constructor
  · rintro ⟨n, hn⟩
    cases n with
    | zero => cases hn
    | succ n =>
      refine bodyF_mono (L := fun n0 mi keep step st => loopNA n0 mi keep step n st) (L' := loopWA) (ev_ge n) (fun n0 mi keep step step' st o hs h => ?_) _ _ _ _ hn
      cases mi with
      | none => exact loopW_iff.2 ⟨n, loopN_mono hs (Nat.le_refl n) h⟩
      | some mi => exact loopM_mono hs h
  · intro h
    unfold bodyF at h
    cases hg : (M f).ext with
    | some g =>
      rw [hg] at h
      refine ⟨1, ?_⟩
      show bodyF P M (evN P M 0) _ f xs ob = some o
      unfold bodyF
      rw [hg]; exact h
    | none =>
    rw [hg] at h
    simp only at h
    cases hc : codeOf P f with
    | none => rw [hc] at h; cases h
    | some fc =>
      rw [hc] at h
      simp only at h
      obtain ⟨h1, h2⟩ := bif_some h
      obtain ⟨q, h3, h4⟩ := finF_some h2
      obtain ⟨n, hn⟩ := fr_cont _ _ _ h3
      refine ⟨n + 1, ?_⟩
      show bodyF P M (evN P M n) _ f xs ob = some o
      unfold bodyF
      rw [hg, hc]
      simp only
      rw [h1, cond_true]
      show finF (M f).res ob.length fc.rs (frN P M ob.length n (markR (M f).res fc.sc) ⟨xs ++ anys (fc.nt - xs.length), entry (M f).tree ob⟩) = some o
      rw [hn]
      exact h4
end
end Go.Proofs.YtibdknkacmimgaaGreat
set_option maxRecDepth 100000
set_option linter.unusedSimpArgs false
set_option linter.unusedVariables false
set_option linter.unusedSectionVars false
namespace Go.Proofs.YtibdknkacmimgaaGreat
open Go.RowKit
structure Tb where
  name : ByteArray
  arity : Int
  pred : Bool
  vals : List Int
def tbC (t : Tb) (s : Value) (j : Nat) : Value := match j with | 0 => .string t.name | 1 => .int .i64 t.arity | 2 => .bool t.pred | _ => s
def TabAt (w : World) (lo : Nat) (t : Tb) (s : Value) : Prop := IntsAt w lo s t.vals ∧ t.name.size ≤ 9223372036854775807
def TabsAt (w : World) (lo : Nat) (v : Value) (ts : List Tb) : Prop := ∃ s : Nat → Value, Sl w lo 4 ts.length (fun i j => tbC (ts.getD i ⟨⟨#[]⟩, 0, false, []⟩) (s i) j) v ∧ ∀ i (h : i < ts.length), TabAt w lo ts[i] (s i)
theorem TabAt.keep {w w' : World} {lo : Nat} {t : Tb} {s : Value} (h : TabAt w lo t s) (hb : Keeps lo w w') : TabAt w' lo t s := ⟨h.1.keep hb, h.2⟩
theorem TabAt.low {w : World} {lo lo' : Nat} {t : Tb} {s : Value} (h : TabAt w lo t s) (hl : lo' ≤ lo) : TabAt w lo' t s := ⟨h.1.low hl, h.2⟩
theorem getD_at {α : Type} {l : List α} {i : Nat} (d : α) (h : i < l.length) : l.getD i d = l[i] := by rw [List.getD_eq_getElem?_getD, List.getElem?_eq_getElem h]; rfl
theorem TabsAt.keep {w w' : World} {lo : Nat} {v : Value} {ts : List Tb} (h : TabsAt w lo v ts) (hb : Keeps lo w w') : TabsAt w' lo v ts := by
  obtain ⟨f, h1, h2⟩ := h
  exact ⟨f, h1.keep hb, fun i hi => (h2 i hi).keep hb⟩
theorem TabsAt.low {w : World} {lo lo' : Nat} {v : Value} {ts : List Tb} (h : TabsAt w lo v ts) (hl : lo' ≤ lo) : TabsAt w lo' v ts := by
  obtain ⟨f, h1, h2⟩ := h
  exact ⟨f, h1.low hl, fun i hi => (h2 i hi).low hl⟩
inductive Tm where
  | mk (name : ByteArray) (args : List Tm)
def Tm.name : Tm → ByteArray
  | .mk a _ => a
def Tm.args : Tm → List Tm
  | .mk _ a => a
mutual
def Tm.d : Tm → List D
  | .mk name args => [.str name, .arr (Tm.ds args)]
def Tm.ds : List Tm → List (List D)
  | [] => []
  | x :: xs => Tm.d x :: Tm.ds xs
end
theorem Tm.ds_eq : ∀ xs : List Tm, Tm.ds xs = xs.map Tm.d
  | [] => rfl
  | x :: xs => by rw [Tm.ds, Tm.ds_eq xs]; rfl
theorem Tm.d_eq (x : Tm) : Tm.d x = [.str x.name, .arr (x.args.map Tm.d)] := by
  obtain ⟨name, args⟩ := x
  rw [Tm.d, Tm.ds_eq]; rfl
mutual
def Tm.bulk : Tm → Nat
  | .mk name args => name.size + (args.length + Tm.sumB args)
def Tm.sumB : List Tm → Nat
  | [] => 0
  | x :: xs => Tm.bulk x + Tm.sumB xs
end
theorem Tm.bulk_eq (x : Tm) : x.bulk = x.name.size + (x.args.length + Tm.sumB x.args) := by
  obtain ⟨name, args⟩ := x
  rw [Tm.bulk]; rfl
theorem Tm.lt_of_mem {x y : Tm} (h : y ∈ x.args) : SizeOf.sizeOf y < SizeOf.sizeOf x := by
  obtain ⟨name, args⟩ := x
  have := List.sizeOf_lt_of_mem h
  simp only [Tm.args] at this
  simp only [Tm.mk.sizeOf_spec]
  omega
def Tm.zero : Tm := .mk ⟨#[]⟩ []
theorem Tm.bulk_le : ∀ (xs : List Tm) (k : Nat) (h : k < xs.length), xs[k].bulk ≤ Tm.sumB xs
  | [], k, h => absurd h (by simp)
  | x :: xs, 0, _ => by rw [Tm.sumB]; simp
  | x :: xs, k + 1, h => by
    have := Tm.bulk_le xs k (by simpa using h)
    rw [Tm.sumB]; simp only [List.getElem_cons_succ]; omega
def Tm.c (x : Tm) (s0 : Value) (j : Nat) : Value := match j with | 0 => .string x.name | _ => s0
abbrev TmsAt (w : World) (xs : List Tm) (v : Value) : Prop := DAt w (.arr (xs.map Tm.d)) v
def Tm.At (w : World) (x : Tm) (s0 : Value) : Prop := x.name.size ≤ 9223372036854775807 ∧ TmsAt w x.args s0
theorem Tm.At.keep {w w' : World} {x : Tm} {s0 : Value} (h : Tm.At w x s0) (hb : Below w.heap.size w w') : Tm.At w' x s0 := ⟨h.1, DAt.keep h.2 hb⟩
theorem TmsAt.open_ {w : World} {xs : List Tm} {v : Value} (h : TmsAt w xs v) : ∃ (a : Option Addr) (cap : Nat) (S0 : Nat → Value), v = .slice a xs.length cap ∧ xs.length ≤ cap ∧ cap ≤ 9223372036854775807 ∧ SlA w 0 2 xs.length (fun i j => Tm.c (xs.getD i Tm.zero) (S0 i) j) a ∧ ∀ i (h : i < xs.length), Tm.At w xs[i] (S0 i) := by
  obtain ⟨sz, a, cap, f, e, h1, h2, h3, h4, h5⟩ := h.arr_inv
  simp only [List.length_map] at e h1 h3 h4 h5
  have hl : ∀ i, i < xs.length → sz = 2 := fun i hi => by
    have := h4 i hi
    rw [List.getElem_map, Tm.d_eq] at this
    exact this.symm
  have hk : ∀ i (hi : i < xs.length) j (d : D), (Tm.d xs[i])[j]? = some d → DAt w d (f i j) := by
    intro i hi j d hd
    have hj : j < (Tm.d xs[i]).length := (List.getElem?_eq_some_iff.1 hd).1
    have := h5 i j hi (by rw [List.getElem_map]; exact hj)
    simp only [List.getElem_map] at this
    rw [List.getElem?_eq_getElem hj] at hd
    rw [Option.some.inj hd] at this
    exact this
  refine ⟨a, cap, fun i => f i 1, e, h1, h2, ?_, fun i hi => ?_⟩
  · rcases Nat.eq_zero_or_pos xs.length with h0 | h0
    · exact .inl h0
    · rw [hl 0 h0] at h3
      refine h3.congr fun i j hi hj => ?_
      rw [getD_at _ hi]
      match j, hj with
      | 0, _ => exact (hk i hi 0 _ (by rw [Tm.d_eq]; rfl)).str_inv.1
      | 1, _ => rfl
  · exact ⟨(hk i hi 0 _ (by rw [Tm.d_eq]; rfl)).str_inv.2, hk i hi 1 _ (by rw [Tm.d_eq]; rfl)⟩
theorem TmsAt.keep {w w' : World} {xs : List Tm} {v : Value} (h : TmsAt w xs v) (hb : Below w.heap.size w w') : TmsAt w' xs v := DAt.keep h hb
theorem TmsAt.elem {w : World} {xs : List Tm} {a : Option Addr} {n cap : Nat} (h : TmsAt w xs (.slice a n cap)) {k : Nat} (hk : k < xs.length) : ∃ (b off : Nat) (y0 : Option Addr) (n0 c0 : Nat), a = some ⟨b, off, none⟩ ∧ b < w.heap.size ∧ w.cell? ⟨b, off + k * 2, none⟩ = some (.string xs[k].name) ∧ w.cell? ⟨b, off + k * 2 + 1, none⟩ = some (.slice y0 n0 c0) ∧ Tm.At w xs[k] (.slice y0 n0 c0) := by
  obtain ⟨a', cap', S0, e, h1, h2, h3, h4⟩ := h.open_
  injection e with e1 e2 e3
  subst e1
  obtain ⟨b, off, rfl, hb, c0, c1⟩ := h3.at2 hk
  have hF := h4 k hk
  obtain ⟨y0, n0, cc0, e0⟩ := DAt.form hF.2
  simp only [getD_at _ hk, Tm.c] at c0 c1
  rw [e0] at c1
  refine ⟨b, off, y0, n0, cc0, rfl, hb, c0, c1, ?_⟩
  rw [e0] at hF
  exact hF
inductive Fm where
  | mk (op : Int) (atom : Tm) (var : ByteArray) (parts : List Fm)
def Fm.op : Fm → Int
  | .mk a _ _ _ => a
def Fm.atom : Fm → Tm
  | .mk _ a _ _ => a
def Fm.var : Fm → ByteArray
  | .mk _ _ a _ => a
def Fm.parts : Fm → List Fm
  | .mk _ _ _ a => a
mutual
def Fm.d : Fm → List D
  | .mk op atom var parts => [.int op, .str atom.name, .arr (atom.args.map Tm.d), .str var, .arr (Fm.ds parts)]
def Fm.ds : List Fm → List (List D)
  | [] => []
  | x :: xs => Fm.d x :: Fm.ds xs
end
theorem Fm.ds_eq : ∀ xs : List Fm, Fm.ds xs = xs.map Fm.d
  | [] => rfl
  | x :: xs => by rw [Fm.ds, Fm.ds_eq xs]; rfl
theorem Fm.d_eq (x : Fm) : Fm.d x = [.int x.op, .str x.atom.name, .arr (x.atom.args.map Tm.d), .str x.var, .arr (x.parts.map Fm.d)] := by
  obtain ⟨op, atom, var, parts⟩ := x
  rw [Fm.d, Fm.ds_eq]; rfl
mutual
def Fm.bulk : Fm → Nat
  | .mk _ atom var parts => Tm.bulk atom + var.size + (parts.length + Fm.sumB parts)
def Fm.sumB : List Fm → Nat
  | [] => 0
  | x :: xs => Fm.bulk x + Fm.sumB xs
end
theorem Fm.bulk_eq (x : Fm) : x.bulk = x.atom.bulk + x.var.size + (x.parts.length + Fm.sumB x.parts) := by
  obtain ⟨op, atom, var, parts⟩ := x
  rw [Fm.bulk]; rfl
theorem Fm.lt_of_mem {x y : Fm} (h : y ∈ x.parts) : SizeOf.sizeOf y < SizeOf.sizeOf x := by
  obtain ⟨op, atom, var, parts⟩ := x
  have := List.sizeOf_lt_of_mem h
  simp only [Fm.parts] at this
  simp only [Fm.mk.sizeOf_spec]
  omega
def Fm.zero : Fm := .mk 0 Tm.zero ⟨#[]⟩ []
theorem Fm.bulk_le : ∀ (xs : List Fm) (k : Nat) (h : k < xs.length), xs[k].bulk ≤ Fm.sumB xs
  | [], k, h => absurd h (by simp)
  | x :: xs, 0, _ => by rw [Fm.sumB]; simp
  | x :: xs, k + 1, h => by
    have := Fm.bulk_le xs k (by simpa using h)
    rw [Fm.sumB]; simp only [List.getElem_cons_succ]; omega
def Fm.c (x : Fm) (s0 : Value) (s1 : Value) (j : Nat) : Value := match j with | 0 => .int .i64 x.op | 1 => .string x.atom.name | 2 => s0 | 3 => .string x.var | _ => s1
abbrev FmsAt (w : World) (xs : List Fm) (v : Value) : Prop := DAt w (.arr (xs.map Fm.d)) v
def Fm.At (w : World) (x : Fm) (s0 : Value) (s1 : Value) : Prop := x.atom.name.size ≤ 9223372036854775807 ∧ TmsAt w x.atom.args s0 ∧ x.var.size ≤ 9223372036854775807 ∧ FmsAt w x.parts s1
theorem Fm.At.keep {w w' : World} {x : Fm} {s0 : Value} {s1 : Value} (h : Fm.At w x s0 s1) (hb : Below w.heap.size w w') : Fm.At w' x s0 s1 := ⟨h.1, DAt.keep h.2.1 hb, h.2.2.1, DAt.keep h.2.2.2 hb⟩
theorem FmsAt.open_ {w : World} {xs : List Fm} {v : Value} (h : FmsAt w xs v) : ∃ (a : Option Addr) (cap : Nat) (S0 : Nat → Value) (S1 : Nat → Value), v = .slice a xs.length cap ∧ xs.length ≤ cap ∧ cap ≤ 9223372036854775807 ∧ SlA w 0 5 xs.length (fun i j => Fm.c (xs.getD i Fm.zero) (S0 i) (S1 i) j) a ∧ ∀ i (h : i < xs.length), Fm.At w xs[i] (S0 i) (S1 i) := by
  obtain ⟨sz, a, cap, f, e, h1, h2, h3, h4, h5⟩ := h.arr_inv
  simp only [List.length_map] at e h1 h3 h4 h5
  have hl : ∀ i, i < xs.length → sz = 5 := fun i hi => by
    have := h4 i hi
    rw [List.getElem_map, Fm.d_eq] at this
    exact this.symm
  have hk : ∀ i (hi : i < xs.length) j (d : D), (Fm.d xs[i])[j]? = some d → DAt w d (f i j) := by
    intro i hi j d hd
    have hj : j < (Fm.d xs[i]).length := (List.getElem?_eq_some_iff.1 hd).1
    have := h5 i j hi (by rw [List.getElem_map]; exact hj)
    simp only [List.getElem_map] at this
    rw [List.getElem?_eq_getElem hj] at hd
    rw [Option.some.inj hd] at this
    exact this
  refine ⟨a, cap, fun i => f i 2, fun i => f i 4, e, h1, h2, ?_, fun i hi => ?_⟩
  · rcases Nat.eq_zero_or_pos xs.length with h0 | h0
    · exact .inl h0
    · rw [hl 0 h0] at h3
      refine h3.congr fun i j hi hj => ?_
      rw [getD_at _ hi]
      match j, hj with
      | 0, _ => exact (hk i hi 0 _ (by rw [Fm.d_eq]; rfl)).int_inv
      | 1, _ => exact (hk i hi 1 _ (by rw [Fm.d_eq]; rfl)).str_inv.1
      | 2, _ => rfl
      | 3, _ => exact (hk i hi 3 _ (by rw [Fm.d_eq]; rfl)).str_inv.1
      | 4, _ => rfl
  · exact ⟨(hk i hi 1 _ (by rw [Fm.d_eq]; rfl)).str_inv.2, hk i hi 2 _ (by rw [Fm.d_eq]; rfl), (hk i hi 3 _ (by rw [Fm.d_eq]; rfl)).str_inv.2, hk i hi 4 _ (by rw [Fm.d_eq]; rfl)⟩
theorem FmsAt.keep {w w' : World} {xs : List Fm} {v : Value} (h : FmsAt w xs v) (hb : Below w.heap.size w w') : FmsAt w' xs v := DAt.keep h hb
theorem FmsAt.elem {w : World} {xs : List Fm} {a : Option Addr} {n cap : Nat} (h : FmsAt w xs (.slice a n cap)) {k : Nat} (hk : k < xs.length) : ∃ (b off : Nat) (y0 : Option Addr) (n0 c0 : Nat) (y1 : Option Addr) (n1 c1 : Nat), a = some ⟨b, off, none⟩ ∧ b < w.heap.size ∧ w.cell? ⟨b, off + k * 5, none⟩ = some (.int .i64 xs[k].op) ∧ w.cell? ⟨b, off + k * 5 + 1, none⟩ = some (.string xs[k].atom.name) ∧ w.cell? ⟨b, off + k * 5 + 2, none⟩ = some (.slice y0 n0 c0) ∧ w.cell? ⟨b, off + k * 5 + 3, none⟩ = some (.string xs[k].var) ∧ w.cell? ⟨b, off + k * 5 + 4, none⟩ = some (.slice y1 n1 c1) ∧ Fm.At w xs[k] (.slice y0 n0 c0) (.slice y1 n1 c1) := by
  obtain ⟨a', cap', S0, S1, e, h1, h2, h3, h4⟩ := h.open_
  injection e with e1 e2 e3
  subst e1
  obtain ⟨b, off, rfl, hb, c0, c1, c2, c3, c4⟩ := h3.at5 hk
  have hF := h4 k hk
  obtain ⟨y0, n0, cc0, e0⟩ := DAt.form hF.2.1
  obtain ⟨y1, n1, cc1, e1⟩ := DAt.form hF.2.2.2
  simp only [getD_at _ hk, Fm.c] at c0 c1 c2 c3 c4
  rw [e0] at c2
  rw [e1] at c4
  refine ⟨b, off, y0, n0, cc0, y1, n1, cc1, rfl, hb, c0, c1, c2, c3, c4, ?_⟩
  rw [e0, e1] at hF
  exact hF
structure Lt where
  pos : Bool
  atom : Tm
def Lt.d (x : Lt) : List D := [.bool x.pos, .str x.atom.name, .arr (x.atom.args.map Tm.d)]
theorem Lt.d_eq (x : Lt) : Lt.d x = [.bool x.pos, .str x.atom.name, .arr (x.atom.args.map Tm.d)] := rfl
def Lt.bulk (x : Lt) : Nat := x.atom.bulk
theorem Lt.bulk_eq (x : Lt) : x.bulk = x.atom.bulk := rfl
def Lt.sumB : List Lt → Nat
  | [] => 0
  | x :: xs => x.bulk + Lt.sumB xs
def Lt.zero : Lt := ⟨false, Tm.zero⟩
theorem Lt.bulk_le : ∀ (xs : List Lt) (k : Nat) (h : k < xs.length), xs[k].bulk ≤ Lt.sumB xs
  | [], k, h => absurd h (by simp)
  | x :: xs, 0, _ => by rw [Lt.sumB]; simp
  | x :: xs, k + 1, h => by
    have := Lt.bulk_le xs k (by simpa using h)
    rw [Lt.sumB]; simp only [List.getElem_cons_succ]; omega
def Lt.c (x : Lt) (s0 : Value) (j : Nat) : Value := match j with | 0 => .bool x.pos | 1 => .string x.atom.name | _ => s0
abbrev LtsAt (w : World) (xs : List Lt) (v : Value) : Prop := DAt w (.arr (xs.map Lt.d)) v
def Lt.At (w : World) (x : Lt) (s0 : Value) : Prop := x.atom.name.size ≤ 9223372036854775807 ∧ TmsAt w x.atom.args s0
theorem Lt.At.keep {w w' : World} {x : Lt} {s0 : Value} (h : Lt.At w x s0) (hb : Below w.heap.size w w') : Lt.At w' x s0 := ⟨h.1, DAt.keep h.2 hb⟩
theorem LtsAt.open_ {w : World} {xs : List Lt} {v : Value} (h : LtsAt w xs v) : ∃ (a : Option Addr) (cap : Nat) (S0 : Nat → Value), v = .slice a xs.length cap ∧ xs.length ≤ cap ∧ cap ≤ 9223372036854775807 ∧ SlA w 0 3 xs.length (fun i j => Lt.c (xs.getD i Lt.zero) (S0 i) j) a ∧ ∀ i (h : i < xs.length), Lt.At w xs[i] (S0 i) := by
  obtain ⟨sz, a, cap, f, e, h1, h2, h3, h4, h5⟩ := h.arr_inv
  simp only [List.length_map] at e h1 h3 h4 h5
  have hl : ∀ i, i < xs.length → sz = 3 := fun i hi => by
    have := h4 i hi
    rw [List.getElem_map, Lt.d_eq] at this
    exact this.symm
  have hk : ∀ i (hi : i < xs.length) j (d : D), (Lt.d xs[i])[j]? = some d → DAt w d (f i j) := by
    intro i hi j d hd
    have hj : j < (Lt.d xs[i]).length := (List.getElem?_eq_some_iff.1 hd).1
    have := h5 i j hi (by rw [List.getElem_map]; exact hj)
    simp only [List.getElem_map] at this
    rw [List.getElem?_eq_getElem hj] at hd
    rw [Option.some.inj hd] at this
    exact this
  refine ⟨a, cap, fun i => f i 2, e, h1, h2, ?_, fun i hi => ?_⟩
  · rcases Nat.eq_zero_or_pos xs.length with h0 | h0
    · exact .inl h0
    · rw [hl 0 h0] at h3
      refine h3.congr fun i j hi hj => ?_
      rw [getD_at _ hi]
      match j, hj with
      | 0, _ => exact (hk i hi 0 _ (by rw [Lt.d_eq]; rfl)).bool_inv
      | 1, _ => exact (hk i hi 1 _ (by rw [Lt.d_eq]; rfl)).str_inv.1
      | 2, _ => rfl
  · exact ⟨(hk i hi 1 _ (by rw [Lt.d_eq]; rfl)).str_inv.2, hk i hi 2 _ (by rw [Lt.d_eq]; rfl)⟩
theorem LtsAt.keep {w w' : World} {xs : List Lt} {v : Value} (h : LtsAt w xs v) (hb : Below w.heap.size w w') : LtsAt w' xs v := DAt.keep h hb
theorem LtsAt.elem {w : World} {xs : List Lt} {a : Option Addr} {n cap : Nat} (h : LtsAt w xs (.slice a n cap)) {k : Nat} (hk : k < xs.length) : ∃ (b off : Nat) (y0 : Option Addr) (n0 c0 : Nat), a = some ⟨b, off, none⟩ ∧ b < w.heap.size ∧ w.cell? ⟨b, off + k * 3, none⟩ = some (.bool xs[k].pos) ∧ w.cell? ⟨b, off + k * 3 + 1, none⟩ = some (.string xs[k].atom.name) ∧ w.cell? ⟨b, off + k * 3 + 2, none⟩ = some (.slice y0 n0 c0) ∧ Lt.At w xs[k] (.slice y0 n0 c0) := by
  obtain ⟨a', cap', S0, e, h1, h2, h3, h4⟩ := h.open_
  injection e with e1 e2 e3
  subst e1
  obtain ⟨b, off, rfl, hb, c0, c1, c2⟩ := h3.at3 hk
  have hF := h4 k hk
  obtain ⟨y0, n0, cc0, e0⟩ := DAt.form hF.2
  simp only [getD_at _ hk, Lt.c] at c0 c1 c2
  rw [e0] at c2
  refine ⟨b, off, y0, n0, cc0, rfl, hb, c0, c1, c2, ?_⟩
  rw [e0] at hF
  exact hF
structure Cl where
  lits : List Lt
def Cl.d (x : Cl) : List D := [.arr (x.lits.map Lt.d)]
theorem Cl.d_eq (x : Cl) : Cl.d x = [.arr (x.lits.map Lt.d)] := rfl
def Cl.bulk (x : Cl) : Nat := (x.lits.length + Lt.sumB x.lits)
theorem Cl.bulk_eq (x : Cl) : x.bulk = (x.lits.length + Lt.sumB x.lits) := rfl
def Cl.sumB : List Cl → Nat
  | [] => 0
  | x :: xs => x.bulk + Cl.sumB xs
def Cl.zero : Cl := ⟨[]⟩
theorem Cl.bulk_le : ∀ (xs : List Cl) (k : Nat) (h : k < xs.length), xs[k].bulk ≤ Cl.sumB xs
  | [], k, h => absurd h (by simp)
  | x :: xs, 0, _ => by rw [Cl.sumB]; simp
  | x :: xs, k + 1, h => by
    have := Cl.bulk_le xs k (by simpa using h)
    rw [Cl.sumB]; simp only [List.getElem_cons_succ]; omega
def Cl.c (x : Cl) (s0 : Value) (j : Nat) : Value := match j with | _ => s0
abbrev ClsAt (w : World) (xs : List Cl) (v : Value) : Prop := DAt w (.arr (xs.map Cl.d)) v
def Cl.At (w : World) (x : Cl) (s0 : Value) : Prop := LtsAt w x.lits s0
theorem Cl.At.keep {w w' : World} {x : Cl} {s0 : Value} (h : Cl.At w x s0) (hb : Below w.heap.size w w') : Cl.At w' x s0 := DAt.keep h hb
theorem ClsAt.open_ {w : World} {xs : List Cl} {v : Value} (h : ClsAt w xs v) : ∃ (a : Option Addr) (cap : Nat) (S0 : Nat → Value), v = .slice a xs.length cap ∧ xs.length ≤ cap ∧ cap ≤ 9223372036854775807 ∧ SlA w 0 1 xs.length (fun i j => Cl.c (xs.getD i Cl.zero) (S0 i) j) a ∧ ∀ i (h : i < xs.length), Cl.At w xs[i] (S0 i) := by
  obtain ⟨sz, a, cap, f, e, h1, h2, h3, h4, h5⟩ := h.arr_inv
  simp only [List.length_map] at e h1 h3 h4 h5
  have hl : ∀ i, i < xs.length → sz = 1 := fun i hi => by
    have := h4 i hi
    rw [List.getElem_map, Cl.d_eq] at this
    exact this.symm
  have hk : ∀ i (hi : i < xs.length) j (d : D), (Cl.d xs[i])[j]? = some d → DAt w d (f i j) := by
    intro i hi j d hd
    have hj : j < (Cl.d xs[i]).length := (List.getElem?_eq_some_iff.1 hd).1
    have := h5 i j hi (by rw [List.getElem_map]; exact hj)
    simp only [List.getElem_map] at this
    rw [List.getElem?_eq_getElem hj] at hd
    rw [Option.some.inj hd] at this
    exact this
  refine ⟨a, cap, fun i => f i 0, e, h1, h2, ?_, fun i hi => ?_⟩
  · rcases Nat.eq_zero_or_pos xs.length with h0 | h0
    · exact .inl h0
    · rw [hl 0 h0] at h3
      refine h3.congr fun i j hi hj => ?_
      rw [getD_at _ hi]
      match j, hj with
      | 0, _ => rfl
  · exact hk i hi 0 _ (by rw [Cl.d_eq]; rfl)
theorem ClsAt.keep {w w' : World} {xs : List Cl} {v : Value} (h : ClsAt w xs v) (hb : Below w.heap.size w w') : ClsAt w' xs v := DAt.keep h hb
theorem ClsAt.elem {w : World} {xs : List Cl} {a : Option Addr} {n cap : Nat} (h : ClsAt w xs (.slice a n cap)) {k : Nat} (hk : k < xs.length) : ∃ (b off : Nat) (y0 : Option Addr) (n0 c0 : Nat), a = some ⟨b, off, none⟩ ∧ b < w.heap.size ∧ w.cell? ⟨b, off + k, none⟩ = some (.slice y0 n0 c0) ∧ Cl.At w xs[k] (.slice y0 n0 c0) := by
  obtain ⟨a', cap', S0, e, h1, h2, h3, h4⟩ := h.open_
  injection e with e1 e2 e3
  subst e1
  obtain ⟨b, off, rfl, hb, c0⟩ := h3.at1 hk
  have hF := h4 k hk
  obtain ⟨y0, n0, cc0, e0⟩ := DAt.form hF
  simp only [getD_at _ hk, Cl.c] at c0
  rw [e0] at c0
  refine ⟨b, off, y0, n0, cc0, rfl, hb, c0, ?_⟩
  rw [e0] at hF
  exact hF
structure Ag where
  var : ByteArray
  elem : Int
def Ag.d (x : Ag) : List D := [.str x.var, .int x.elem]
theorem Ag.d_eq (x : Ag) : Ag.d x = [.str x.var, .int x.elem] := rfl
def Ag.bulk (x : Ag) : Nat := x.var.size
theorem Ag.bulk_eq (x : Ag) : x.bulk = x.var.size := rfl
def Ag.sumB : List Ag → Nat
  | [] => 0
  | x :: xs => x.bulk + Ag.sumB xs
def Ag.zero : Ag := ⟨⟨#[]⟩, 0⟩
theorem Ag.bulk_le : ∀ (xs : List Ag) (k : Nat) (h : k < xs.length), xs[k].bulk ≤ Ag.sumB xs
  | [], k, h => absurd h (by simp)
  | x :: xs, 0, _ => by rw [Ag.sumB]; simp
  | x :: xs, k + 1, h => by
    have := Ag.bulk_le xs k (by simpa using h)
    rw [Ag.sumB]; simp only [List.getElem_cons_succ]; omega
def Ag.c (x : Ag) (j : Nat) : Value := match j with | 0 => .string x.var | _ => .int .i64 x.elem
abbrev AgsAt (w : World) (xs : List Ag) (v : Value) : Prop := DAt w (.arr (xs.map Ag.d)) v
def Ag.At (w : World) (x : Ag) : Prop := x.var.size ≤ 9223372036854775807
theorem Ag.At.keep {w w' : World} {x : Ag} (h : Ag.At w x) (hb : Below w.heap.size w w') : Ag.At w' x := h
theorem AgsAt.open_ {w : World} {xs : List Ag} {v : Value} (h : AgsAt w xs v) : ∃ (a : Option Addr) (cap : Nat), v = .slice a xs.length cap ∧ xs.length ≤ cap ∧ cap ≤ 9223372036854775807 ∧ SlA w 0 2 xs.length (fun i j => Ag.c (xs.getD i Ag.zero) j) a ∧ ∀ i (h : i < xs.length), Ag.At w xs[i] := by
  obtain ⟨sz, a, cap, f, e, h1, h2, h3, h4, h5⟩ := h.arr_inv
  simp only [List.length_map] at e h1 h3 h4 h5
  have hl : ∀ i, i < xs.length → sz = 2 := fun i hi => by
    have := h4 i hi
    rw [List.getElem_map, Ag.d_eq] at this
    exact this.symm
  have hk : ∀ i (hi : i < xs.length) j (d : D), (Ag.d xs[i])[j]? = some d → DAt w d (f i j) := by
    intro i hi j d hd
    have hj : j < (Ag.d xs[i]).length := (List.getElem?_eq_some_iff.1 hd).1
    have := h5 i j hi (by rw [List.getElem_map]; exact hj)
    simp only [List.getElem_map] at this
    rw [List.getElem?_eq_getElem hj] at hd
    rw [Option.some.inj hd] at this
    exact this
  refine ⟨a, cap, e, h1, h2, ?_, fun i hi => ?_⟩
  · rcases Nat.eq_zero_or_pos xs.length with h0 | h0
    · exact .inl h0
    · rw [hl 0 h0] at h3
      refine h3.congr fun i j hi hj => ?_
      rw [getD_at _ hi]
      match j, hj with
      | 0, _ => exact (hk i hi 0 _ (by rw [Ag.d_eq]; rfl)).str_inv.1
      | 1, _ => exact (hk i hi 1 _ (by rw [Ag.d_eq]; rfl)).int_inv
  · exact (hk i hi 0 _ (by rw [Ag.d_eq]; rfl)).str_inv.2
theorem AgsAt.keep {w w' : World} {xs : List Ag} {v : Value} (h : AgsAt w xs v) (hb : Below w.heap.size w w') : AgsAt w' xs v := DAt.keep h hb
theorem AgsAt.elem {w : World} {xs : List Ag} {a : Option Addr} {n cap : Nat} (h : AgsAt w xs (.slice a n cap)) {k : Nat} (hk : k < xs.length) : ∃ (b off : Nat), a = some ⟨b, off, none⟩ ∧ b < w.heap.size ∧ w.cell? ⟨b, off + k * 2, none⟩ = some (.string xs[k].var) ∧ w.cell? ⟨b, off + k * 2 + 1, none⟩ = some (.int .i64 xs[k].elem) ∧ Ag.At w xs[k] := by
  obtain ⟨a', cap', e, h1, h2, h3, h4⟩ := h.open_
  injection e with e1 e2 e3
  subst e1
  obtain ⟨b, off, rfl, hb, c0, c1⟩ := h3.at2 hk
  have hF := h4 k hk
  simp only [getD_at _ hk, Ag.c] at c0 c1
  exact ⟨b, off, rfl, hb, c0, c1, hF⟩
structure Bd where
  var : ByteArray
  term : Tm
def Bd.d (x : Bd) : List D := [.str x.var, .str x.term.name, .arr (x.term.args.map Tm.d)]
theorem Bd.d_eq (x : Bd) : Bd.d x = [.str x.var, .str x.term.name, .arr (x.term.args.map Tm.d)] := rfl
def Bd.bulk (x : Bd) : Nat := x.var.size + x.term.bulk
theorem Bd.bulk_eq (x : Bd) : x.bulk = x.var.size + x.term.bulk := rfl
def Bd.sumB : List Bd → Nat
  | [] => 0
  | x :: xs => x.bulk + Bd.sumB xs
def Bd.zero : Bd := ⟨⟨#[]⟩, Tm.zero⟩
theorem Bd.bulk_le : ∀ (xs : List Bd) (k : Nat) (h : k < xs.length), xs[k].bulk ≤ Bd.sumB xs
  | [], k, h => absurd h (by simp)
  | x :: xs, 0, _ => by rw [Bd.sumB]; simp
  | x :: xs, k + 1, h => by
    have := Bd.bulk_le xs k (by simpa using h)
    rw [Bd.sumB]; simp only [List.getElem_cons_succ]; omega
def Bd.c (x : Bd) (s0 : Value) (j : Nat) : Value := match j with | 0 => .string x.var | 1 => .string x.term.name | _ => s0
abbrev BdsAt (w : World) (xs : List Bd) (v : Value) : Prop := DAt w (.arr (xs.map Bd.d)) v
def Bd.At (w : World) (x : Bd) (s0 : Value) : Prop := x.var.size ≤ 9223372036854775807 ∧ x.term.name.size ≤ 9223372036854775807 ∧ TmsAt w x.term.args s0
theorem Bd.At.keep {w w' : World} {x : Bd} {s0 : Value} (h : Bd.At w x s0) (hb : Below w.heap.size w w') : Bd.At w' x s0 := ⟨h.1, h.2.1, DAt.keep h.2.2 hb⟩
theorem BdsAt.open_ {w : World} {xs : List Bd} {v : Value} (h : BdsAt w xs v) : ∃ (a : Option Addr) (cap : Nat) (S0 : Nat → Value), v = .slice a xs.length cap ∧ xs.length ≤ cap ∧ cap ≤ 9223372036854775807 ∧ SlA w 0 3 xs.length (fun i j => Bd.c (xs.getD i Bd.zero) (S0 i) j) a ∧ ∀ i (h : i < xs.length), Bd.At w xs[i] (S0 i) := by
  obtain ⟨sz, a, cap, f, e, h1, h2, h3, h4, h5⟩ := h.arr_inv
  simp only [List.length_map] at e h1 h3 h4 h5
  have hl : ∀ i, i < xs.length → sz = 3 := fun i hi => by
    have := h4 i hi
    rw [List.getElem_map, Bd.d_eq] at this
    exact this.symm
  have hk : ∀ i (hi : i < xs.length) j (d : D), (Bd.d xs[i])[j]? = some d → DAt w d (f i j) := by
    intro i hi j d hd
    have hj : j < (Bd.d xs[i]).length := (List.getElem?_eq_some_iff.1 hd).1
    have := h5 i j hi (by rw [List.getElem_map]; exact hj)
    simp only [List.getElem_map] at this
    rw [List.getElem?_eq_getElem hj] at hd
    rw [Option.some.inj hd] at this
    exact this
  refine ⟨a, cap, fun i => f i 2, e, h1, h2, ?_, fun i hi => ?_⟩
  · rcases Nat.eq_zero_or_pos xs.length with h0 | h0
    · exact .inl h0
    · rw [hl 0 h0] at h3
      refine h3.congr fun i j hi hj => ?_
      rw [getD_at _ hi]
      match j, hj with
      | 0, _ => exact (hk i hi 0 _ (by rw [Bd.d_eq]; rfl)).str_inv.1
      | 1, _ => exact (hk i hi 1 _ (by rw [Bd.d_eq]; rfl)).str_inv.1
      | 2, _ => rfl
  · exact ⟨(hk i hi 0 _ (by rw [Bd.d_eq]; rfl)).str_inv.2, (hk i hi 1 _ (by rw [Bd.d_eq]; rfl)).str_inv.2, hk i hi 2 _ (by rw [Bd.d_eq]; rfl)⟩
theorem BdsAt.keep {w w' : World} {xs : List Bd} {v : Value} (h : BdsAt w xs v) (hb : Below w.heap.size w w') : BdsAt w' xs v := DAt.keep h hb
theorem BdsAt.elem {w : World} {xs : List Bd} {a : Option Addr} {n cap : Nat} (h : BdsAt w xs (.slice a n cap)) {k : Nat} (hk : k < xs.length) : ∃ (b off : Nat) (y0 : Option Addr) (n0 c0 : Nat), a = some ⟨b, off, none⟩ ∧ b < w.heap.size ∧ w.cell? ⟨b, off + k * 3, none⟩ = some (.string xs[k].var) ∧ w.cell? ⟨b, off + k * 3 + 1, none⟩ = some (.string xs[k].term.name) ∧ w.cell? ⟨b, off + k * 3 + 2, none⟩ = some (.slice y0 n0 c0) ∧ Bd.At w xs[k] (.slice y0 n0 c0) := by
  obtain ⟨a', cap', S0, e, h1, h2, h3, h4⟩ := h.open_
  injection e with e1 e2 e3
  subst e1
  obtain ⟨b, off, rfl, hb, c0, c1, c2⟩ := h3.at3 hk
  have hF := h4 k hk
  obtain ⟨y0, n0, cc0, e0⟩ := DAt.form hF.2.2
  simp only [getD_at _ hk, Bd.c] at c0 c1 c2
  rw [e0] at c2
  refine ⟨b, off, y0, n0, cc0, rfl, hb, c0, c1, c2, ?_⟩
  rw [e0] at hF
  exact hF
structure Sb where
  binds : List Bd
def Sb.d (x : Sb) : List D := [.arr (x.binds.map Bd.d)]
theorem Sb.d_eq (x : Sb) : Sb.d x = [.arr (x.binds.map Bd.d)] := rfl
def Sb.bulk (x : Sb) : Nat := (x.binds.length + Bd.sumB x.binds)
theorem Sb.bulk_eq (x : Sb) : x.bulk = (x.binds.length + Bd.sumB x.binds) := rfl
def Sb.sumB : List Sb → Nat
  | [] => 0
  | x :: xs => x.bulk + Sb.sumB xs
def Sb.zero : Sb := ⟨[]⟩
theorem Sb.bulk_le : ∀ (xs : List Sb) (k : Nat) (h : k < xs.length), xs[k].bulk ≤ Sb.sumB xs
  | [], k, h => absurd h (by simp)
  | x :: xs, 0, _ => by rw [Sb.sumB]; simp
  | x :: xs, k + 1, h => by
    have := Sb.bulk_le xs k (by simpa using h)
    rw [Sb.sumB]; simp only [List.getElem_cons_succ]; omega
def Sb.c (x : Sb) (s0 : Value) (j : Nat) : Value := match j with | _ => s0
abbrev SbsAt (w : World) (xs : List Sb) (v : Value) : Prop := DAt w (.arr (xs.map Sb.d)) v
def Sb.At (w : World) (x : Sb) (s0 : Value) : Prop := BdsAt w x.binds s0
theorem Sb.At.keep {w w' : World} {x : Sb} {s0 : Value} (h : Sb.At w x s0) (hb : Below w.heap.size w w') : Sb.At w' x s0 := DAt.keep h hb
theorem SbsAt.open_ {w : World} {xs : List Sb} {v : Value} (h : SbsAt w xs v) : ∃ (a : Option Addr) (cap : Nat) (S0 : Nat → Value), v = .slice a xs.length cap ∧ xs.length ≤ cap ∧ cap ≤ 9223372036854775807 ∧ SlA w 0 1 xs.length (fun i j => Sb.c (xs.getD i Sb.zero) (S0 i) j) a ∧ ∀ i (h : i < xs.length), Sb.At w xs[i] (S0 i) := by
  obtain ⟨sz, a, cap, f, e, h1, h2, h3, h4, h5⟩ := h.arr_inv
  simp only [List.length_map] at e h1 h3 h4 h5
  have hl : ∀ i, i < xs.length → sz = 1 := fun i hi => by
    have := h4 i hi
    rw [List.getElem_map, Sb.d_eq] at this
    exact this.symm
  have hk : ∀ i (hi : i < xs.length) j (d : D), (Sb.d xs[i])[j]? = some d → DAt w d (f i j) := by
    intro i hi j d hd
    have hj : j < (Sb.d xs[i]).length := (List.getElem?_eq_some_iff.1 hd).1
    have := h5 i j hi (by rw [List.getElem_map]; exact hj)
    simp only [List.getElem_map] at this
    rw [List.getElem?_eq_getElem hj] at hd
    rw [Option.some.inj hd] at this
    exact this
  refine ⟨a, cap, fun i => f i 0, e, h1, h2, ?_, fun i hi => ?_⟩
  · rcases Nat.eq_zero_or_pos xs.length with h0 | h0
    · exact .inl h0
    · rw [hl 0 h0] at h3
      refine h3.congr fun i j hi hj => ?_
      rw [getD_at _ hi]
      match j, hj with
      | 0, _ => rfl
  · exact hk i hi 0 _ (by rw [Sb.d_eq]; rfl)
theorem SbsAt.keep {w w' : World} {xs : List Sb} {v : Value} (h : SbsAt w xs v) (hb : Below w.heap.size w w') : SbsAt w' xs v := DAt.keep h hb
theorem SbsAt.elem {w : World} {xs : List Sb} {a : Option Addr} {n cap : Nat} (h : SbsAt w xs (.slice a n cap)) {k : Nat} (hk : k < xs.length) : ∃ (b off : Nat) (y0 : Option Addr) (n0 c0 : Nat), a = some ⟨b, off, none⟩ ∧ b < w.heap.size ∧ w.cell? ⟨b, off + k, none⟩ = some (.slice y0 n0 c0) ∧ Sb.At w xs[k] (.slice y0 n0 c0) := by
  obtain ⟨a', cap', S0, e, h1, h2, h3, h4⟩ := h.open_
  injection e with e1 e2 e3
  subst e1
  obtain ⟨b, off, rfl, hb, c0⟩ := h3.at1 hk
  have hF := h4 k hk
  obtain ⟨y0, n0, cc0, e0⟩ := DAt.form hF
  simp only [getD_at _ hk, Sb.c] at c0
  rw [e0] at c0
  refine ⟨b, off, y0, n0, cc0, rfl, hb, c0, ?_⟩
  rw [e0] at hF
  exact hF
structure Df where
  name : ByteArray
  vars : List ByteArray
  form : Fm
def Df.d (x : Df) : List D := [.str x.name, .arr (x.vars.map fun s => [.str s]), .int x.form.op, .str x.form.atom.name, .arr (x.form.atom.args.map Tm.d), .str x.form.var, .arr (x.form.parts.map Fm.d)]
theorem Df.d_eq (x : Df) : Df.d x = [.str x.name, .arr (x.vars.map fun s => [.str s]), .int x.form.op, .str x.form.atom.name, .arr (x.form.atom.args.map Tm.d), .str x.form.var, .arr (x.form.parts.map Fm.d)] := rfl
def Df.bulk (x : Df) : Nat := x.name.size + (x.vars.length + strB x.vars) + x.form.bulk
theorem Df.bulk_eq (x : Df) : x.bulk = x.name.size + (x.vars.length + strB x.vars) + x.form.bulk := rfl
def Df.sumB : List Df → Nat
  | [] => 0
  | x :: xs => x.bulk + Df.sumB xs
def Df.zero : Df := ⟨⟨#[]⟩, [], Fm.zero⟩
theorem Df.bulk_le : ∀ (xs : List Df) (k : Nat) (h : k < xs.length), xs[k].bulk ≤ Df.sumB xs
  | [], k, h => absurd h (by simp)
  | x :: xs, 0, _ => by rw [Df.sumB]; simp
  | x :: xs, k + 1, h => by
    have := Df.bulk_le xs k (by simpa using h)
    rw [Df.sumB]; simp only [List.getElem_cons_succ]; omega
def Df.c (x : Df) (s0 : Value) (s1 : Value) (s2 : Value) (j : Nat) : Value := match j with | 0 => .string x.name | 1 => s0 | 2 => .int .i64 x.form.op | 3 => .string x.form.atom.name | 4 => s1 | 5 => .string x.form.var | _ => s2
abbrev DfsAt (w : World) (xs : List Df) (v : Value) : Prop := DAt w (.arr (xs.map Df.d)) v
def Df.At (w : World) (x : Df) (s0 : Value) (s1 : Value) (s2 : Value) : Prop := x.name.size ≤ 9223372036854775807 ∧ StrsAt w x.vars s0 ∧ x.form.atom.name.size ≤ 9223372036854775807 ∧ TmsAt w x.form.atom.args s1 ∧ x.form.var.size ≤ 9223372036854775807 ∧ FmsAt w x.form.parts s2
theorem Df.At.keep {w w' : World} {x : Df} {s0 : Value} {s1 : Value} {s2 : Value} (h : Df.At w x s0 s1 s2) (hb : Below w.heap.size w w') : Df.At w' x s0 s1 s2 := ⟨h.1, DAt.keep h.2.1 hb, h.2.2.1, DAt.keep h.2.2.2.1 hb, h.2.2.2.2.1, DAt.keep h.2.2.2.2.2 hb⟩
theorem DfsAt.open_ {w : World} {xs : List Df} {v : Value} (h : DfsAt w xs v) : ∃ (a : Option Addr) (cap : Nat) (S0 : Nat → Value) (S1 : Nat → Value) (S2 : Nat → Value), v = .slice a xs.length cap ∧ xs.length ≤ cap ∧ cap ≤ 9223372036854775807 ∧ SlA w 0 7 xs.length (fun i j => Df.c (xs.getD i Df.zero) (S0 i) (S1 i) (S2 i) j) a ∧ ∀ i (h : i < xs.length), Df.At w xs[i] (S0 i) (S1 i) (S2 i) := by
  obtain ⟨sz, a, cap, f, e, h1, h2, h3, h4, h5⟩ := h.arr_inv
  simp only [List.length_map] at e h1 h3 h4 h5
  have hl : ∀ i, i < xs.length → sz = 7 := fun i hi => by
    have := h4 i hi
    rw [List.getElem_map, Df.d_eq] at this
    exact this.symm
  have hk : ∀ i (hi : i < xs.length) j (d : D), (Df.d xs[i])[j]? = some d → DAt w d (f i j) := by
    intro i hi j d hd
    have hj : j < (Df.d xs[i]).length := (List.getElem?_eq_some_iff.1 hd).1
    have := h5 i j hi (by rw [List.getElem_map]; exact hj)
    simp only [List.getElem_map] at this
    rw [List.getElem?_eq_getElem hj] at hd
    rw [Option.some.inj hd] at this
    exact this
  refine ⟨a, cap, fun i => f i 1, fun i => f i 4, fun i => f i 6, e, h1, h2, ?_, fun i hi => ?_⟩
  · rcases Nat.eq_zero_or_pos xs.length with h0 | h0
    · exact .inl h0
    · rw [hl 0 h0] at h3
      refine h3.congr fun i j hi hj => ?_
      rw [getD_at _ hi]
      match j, hj with
      | 0, _ => exact (hk i hi 0 _ (by rw [Df.d_eq]; rfl)).str_inv.1
      | 1, _ => rfl
      | 2, _ => exact (hk i hi 2 _ (by rw [Df.d_eq]; rfl)).int_inv
      | 3, _ => exact (hk i hi 3 _ (by rw [Df.d_eq]; rfl)).str_inv.1
      | 4, _ => rfl
      | 5, _ => exact (hk i hi 5 _ (by rw [Df.d_eq]; rfl)).str_inv.1
      | 6, _ => rfl
  · exact ⟨(hk i hi 0 _ (by rw [Df.d_eq]; rfl)).str_inv.2, hk i hi 1 _ (by rw [Df.d_eq]; rfl), (hk i hi 3 _ (by rw [Df.d_eq]; rfl)).str_inv.2, hk i hi 4 _ (by rw [Df.d_eq]; rfl), (hk i hi 5 _ (by rw [Df.d_eq]; rfl)).str_inv.2, hk i hi 6 _ (by rw [Df.d_eq]; rfl)⟩
theorem DfsAt.keep {w w' : World} {xs : List Df} {v : Value} (h : DfsAt w xs v) (hb : Below w.heap.size w w') : DfsAt w' xs v := DAt.keep h hb
theorem DfsAt.elem {w : World} {xs : List Df} {a : Option Addr} {n cap : Nat} (h : DfsAt w xs (.slice a n cap)) {k : Nat} (hk : k < xs.length) : ∃ (b off : Nat) (y0 : Option Addr) (n0 c0 : Nat) (y1 : Option Addr) (n1 c1 : Nat) (y2 : Option Addr) (n2 c2 : Nat), a = some ⟨b, off, none⟩ ∧ b < w.heap.size ∧ w.cell? ⟨b, off + k * 7, none⟩ = some (.string xs[k].name) ∧ w.cell? ⟨b, off + k * 7 + 1, none⟩ = some (.slice y0 n0 c0) ∧ w.cell? ⟨b, off + k * 7 + 2, none⟩ = some (.int .i64 xs[k].form.op) ∧ w.cell? ⟨b, off + k * 7 + 3, none⟩ = some (.string xs[k].form.atom.name) ∧ w.cell? ⟨b, off + k * 7 + 4, none⟩ = some (.slice y1 n1 c1) ∧ w.cell? ⟨b, off + k * 7 + 5, none⟩ = some (.string xs[k].form.var) ∧ w.cell? ⟨b, off + k * 7 + 6, none⟩ = some (.slice y2 n2 c2) ∧ Df.At w xs[k] (.slice y0 n0 c0) (.slice y1 n1 c1) (.slice y2 n2 c2) := by
  obtain ⟨a', cap', S0, S1, S2, e, h1, h2, h3, h4⟩ := h.open_
  injection e with e1 e2 e3
  subst e1
  obtain ⟨b, off, rfl, hb, c0, c1, c2, c3, c4, c5, c6⟩ := h3.at7 hk
  have hF := h4 k hk
  obtain ⟨y0, n0, cc0, e0⟩ := DAt.form hF.2.1
  obtain ⟨y1, n1, cc1, e1⟩ := DAt.form hF.2.2.2.1
  obtain ⟨y2, n2, cc2, e2⟩ := DAt.form hF.2.2.2.2.2
  simp only [getD_at _ hk, Df.c] at c0 c1 c2 c3 c4 c5 c6
  rw [e0] at c1
  rw [e1] at c4
  rw [e2] at c6
  refine ⟨b, off, y0, n0, cc0, y1, n1, cc1, y2, n2, cc2, rfl, hb, c0, c1, c2, c3, c4, c5, c6, ?_⟩
  rw [e0, e1, e2] at hF
  exact hF
instance flagNo : Flag := ⟨False⟩
abbrev flagYes : Flag := ⟨True⟩
abbrev FunD (P : Program) (f : FuncId) (xs : List SV) (ob : List Ob) (r : SV) (ob' : List Ob) : Prop := @Fun flagYes P f xs ob r ob'
theorem Fun.of_ret {f : FuncId} {args : List SV} {r : SV} {rv : Value} (hr : ∀ (w : World) (I : Nat → Prop) (V : Nat → Option Value), RepV w I V r rv)
    (h : ∀ (w : World) (I : Nat → Prop) (V : Nat → Option Value) (vs : List Value), RepVs w I V args vs → Calls Tryz.prog f vs.toArray w (Ret w rv)) : Fun Tryz.prog f args [] r [] := by
  intro w I V B vs hwf hvs
  refine (h w I V vs hvs).mono ?_
  rintro e w' ⟨rfl, hb⟩
  refine ⟨rv, I, V, B, rfl, hr _ _ _, ⟨⟨hb.os, ⟨hb.tape, fun h => False.elim h⟩, hb.output, hb.size, fun b hlt _ => hb.block b hlt⟩, fun _ h => h, fun _ h => .inl h, VLe.refl _, ?_, fun g b hl => by simp [geto, Ob.live] at hl⟩⟩
  exact ⟨fun b hb' => Nat.lt_of_lt_of_le (hwf.ilt b hb') hb.size, fun g hl => by simp [geto, Ob.live] at hl, fun g b hl => by simp [geto, Ob.live] at hl, fun g b hl => by simp [geto, Ob.live] at hl, fun g g' b hl => by simp [geto, Ob.live] at hl, fun g hf => hwf.fr g rfl, hwf.gl.keep ⟨hb.size, fun b _ hlt => hb.block b hlt⟩ fun _ h => h⟩
theorem Fun.of_same {f : FuncId} {args : List SV} {r : SV} {rv : Value} (hr : ∀ (w : World) (I : Nat → Prop) (V : Nat → Option Value), RepV w I V r rv)
    (h : ∀ (w : World) (I : Nat → Prop) (V : Nat → Option Value) (vs : List Value), RepVs w I V args vs → Calls Tryz.prog f vs.toArray w (Same w rv)) : Fun Tryz.prog f args [] r [] :=
  Fun.of_ret hr fun w I V vs hvs => Same.ret (h w I V vs hvs)
section
variable {w : World} {I : Nat → Prop} {V : Nat → Option Value} {vs : List Value}
theorem args0 (h : RepVs w I V [] vs) : vs = [] := by simpa [RepVs] using h
theorem args_cons {x : SV} {xs : List SV} (h : RepVs w I V (x :: xs) vs) : ∃ v r, vs = v :: r ∧ RepV w I V x v ∧ RepVs w I V xs r := by simpa only [RepVs] using h
theorem rep_str {s : ByteArray} {v : Value} (h : RepV w I V (.str s) v) : v = .string s ∧ s.size ≤ 9223372036854775807 := by simpa only [RepV] using h
theorem rep_int {k : IntKind} {n : Int} {v : Value} (h : RepV w I V (.int k n) v) : v = .int k n := by simpa only [RepV] using h
end
mutual
def SV.fits : SV → Prop
  | .str s => s.size ≤ 9223372036854775807
  | .arr es => es.length ≤ 9223372036854775807
  | .agg l => fitsL l
  | _ => True
def fitsL : List SV → Prop
  | [] => True
  | x :: xs => x.fits ∧ fitsL xs
end
section
variable {w : World} {I : Nat → Prop} {V : Nat → Option Value}
end
theorem er_strs (xs : List ByteArray) : OT.erss (xs.map fun s => [OT.str s]) = xs.map fun s => [D.str s] := by
  induction xs with
  | nil => rfl
  | cons x r ih => simp only [List.map_cons, OT.erss, OT.ers, OT.er, ih]
theorem er_ints (xs : List Int) : OT.erss (xs.map fun s => [OT.int s]) = xs.map fun s => [D.int s] := by
  induction xs with
  | nil => rfl
  | cons x r ih => simp only [List.map_cons, OT.erss, OT.ers, OT.er, ih]
theorem no_strs (xs : List ByteArray) : OT.noShss (xs.map fun s => [OT.str s]) = true := by
  induction xs with
  | nil => rfl
  | cons x r ih => simp only [List.map_cons, OT.noShss, OT.noShs, OT.noSh, ih, Bool.and_self]
theorem no_ints (xs : List Int) : OT.noShss (xs.map fun s => [OT.int s]) = true := by
  induction xs with
  | nil => rfl
  | cons x r ih => simp only [List.map_cons, OT.noShss, OT.noShs, OT.noSh, ih, Bool.and_self]
def szR (left : Int) (n : Nat) : Int := if (n : Int) ≤ left then left - n else -1
def mkT (k : Nat) (acc : List UInt8) : List UInt8 := if h : k = 0 then acc else mkT (k / 10) (UInt8.ofNat (48 + k % 10) :: acc)
termination_by k
decreasing_by omega
def markT (k : Int) : ByteArray := ⟨(109 :: mkT k.toNat []).toArray⟩
theorem bytes_cat (a b : Array UInt8) : (⟨a⟩ ++ ⟨b⟩ : ByteArray) = ⟨a ++ b⟩ := by apply ByteArray.ext; simp
theorem mkT_len (k : Nat) (acc : List UInt8) : (mkT k acc).length ≤ acc.length + k := by
  induction k using Nat.strongRecOn generalizing acc with
  | _ k ih =>
    unfold mkT
    split
    · omega
    · have := ih (k / 10) (by omega) (UInt8.ofNat (48 + k % 10) :: acc)
      simp only [List.length_cons] at this
      omega
theorem markT_size {k : Int} (h : 0 ≤ k) (h1 : k ≤ 1099511627776) : (markT k).size ≤ 9223372036854775807 := by
  have := mkT_len k.toNat []
  show (109 :: mkT k.toNat []).toArray.size ≤ _
  simp only [List.size_toArray, List.length_cons, List.length_nil] at *
  omega
set_option maxHeartbeats 1000000 in
theorem markText_any (K : Nat) (w : World) (h1 : 1 ≤ K) (h2 : (K : Int) ≤ 1099511627776) : Calls Tryz.prog 49 #[.int .i64 (K : Int)] w (Ret w (.string (markT K))) := by
  go_enter Tryz.func49, Tryz.ntmps49
  go_wp2
  go_loopw [0, 3] (fun n s wr => ∃ (k : Nat) (acc : List UInt8), n = .int .i64 k ∧ s = .string ⟨acc.toArray⟩ ∧ acc.length + k ≤ K ∧ mkT k acc = mkT K [] ∧ Below w.heap.size w wr) (fun n _ _ => (intOf n).toNat)
  case atStart => exact ⟨K, [], rfl, rfl, by simp, rfl, Below.refl _ _⟩
  case round =>
    obtain ⟨k, acc, rfl, rfl, hle, hok, hbw⟩ := hrel
    have hzw := hbw.size
    have Hok := Lib.hid hok
    clear hok
    by_cases hlt : k = 0
    · subst hlt
      go_wp2_with fail
      go_ret
      refine Ret.bel ?_ hbw
      have h0 := Hok.out
      rw [mkT, dif_pos rfl] at h0
      unfold markT
      rw [Int.toNat_natCast, ← h0]
      show Value.string (⟨#[109]⟩ ++ ⟨acc.toArray⟩) = _
      rw [bytes_cat]
      simp
    · have hk0 : (0 : Int) < k := by omega
      have hr : (wr.alloc (.cells #[.int .u8 (48 + (k : Int) % 10)] 5)).cell? ⟨wr.heap.size, 0, none⟩ = some (.int .u8 (48 + (k : Int) % 10)) := by rw [World.cell?_alloc_at _ _ _ _ rfl]; rfl
      have hcv := run_convert_bytes_back (P := Tryz.prog) (wr.alloc (.cells #[.int .u8 (48 + (k : Int) % 10)] 5)) 102 9 5 ⟨wr.heap.size, 0, none⟩ 1 [UInt8.ofNat (48 + k % 10)] Tryz.underlying102 Tryz.underlying5 Tryz.underlying9 (fun j hj => by
        obtain rfl : j = 0 := by simpa using hj
        rw [show (⟨wr.heap.size, 0, none⟩ : Addr).add 0 = ⟨wr.heap.size, 0, none⟩ from rfl, hr]
        have : (UInt8.ofNat (48 + k % 10)).toNat = 48 + k % 10 := by rw [UInt8.toNat_ofNat']; omega
        simp only [List.getElem_cons_zero, this]
        push_cast
        rfl)
      simp only [List.length_cons, List.length_nil, Nat.zero_add] at hcv
      clear hr
      go_wp2_with fail
      refine ⟨⟨k / 10, UInt8.ofNat (48 + k % 10) :: acc, by go_num, ?_, ?_, ?_, (by (repeat' first | (with_reducible exact Below.refl _ _) | (with_reducible refine Below.setCell ?_ ?_ _) | (with_reducible refine Below.alloc ?_ ?_ _) | (with_reducible refine Below.drewN' ?_ _) | (with_reducible refine Below.via ?_ (by assumption) ?_) | (with_reducible exact Nat.le_refl _) | (simp; done) | (simp; omega) | omega))⟩, ?_⟩
      · rw [bytes_cat]; simp
      · simp only [List.length_cons]; omega
      · rw [← Hok.out, mkT.eq_def k acc, dif_neg hlt]
      · simp only [intOf]; omega
def lowB (b : Int) : Bool := decide (97 ≤ b) && decide (b ≤ 122)
def digB (b : Int) : Bool := decide (48 ≤ b) && decide (b ≤ 57)
def uppB (b : Int) : Bool := decide (65 ≤ b) && decide (b ≤ 90)
def inB (n lo hi : Int) : Bool := decide (lo ≤ n) && decide (n ≤ hi)
theorem within_any (n lo hi : Int) (w : World) :
    Calls Tryz.prog 65 #[.int .i64 n, .int .i64 lo, .int .i64 hi] w (Same w (.bool (inB n lo hi))) := by
  by_cases h1 : lo ≤ n <;> by_cases h2 : n ≤ hi
  all_goals
    go_enter Tryz.func65, Tryz.ntmps65
    go_wp2
    go_ret
    exact Same.mk' _ (by simp [inB, h1, h2])
theorem l1In_any (n lo hi : Int) (w : World) :
    Calls Tryz.prog 53 #[.int .i64 n, .int .i64 lo, .int .i64 hi] w (Same w (.bool (inB n lo hi))) := by
  by_cases h1 : lo ≤ n <;> by_cases h2 : n ≤ hi
  all_goals
    go_enter Tryz.func53, Tryz.ntmps53
    go_wp2
    go_ret
    exact Same.mk' _ (by simp [inB, h1, h2])
theorem isLower_any (n : Int) (w : World) : Calls Tryz.prog 63 #[.int .u8 n] w (Same w (.bool (lowB n))) := by
  by_cases h1 : 97 ≤ n <;> by_cases h2 : n ≤ 122
  all_goals
    go_enter Tryz.func63, Tryz.ntmps63
    go_wp2
    go_ret
    exact Same.mk' _ (by simp [lowB, h1, h2])
theorem isDigit_any (n : Int) (w : World) : Calls Tryz.prog 64 #[.int .u8 n] w (Same w (.bool (digB n))) := by
  by_cases h1 : 48 ≤ n <;> by_cases h2 : n ≤ 57
  all_goals
    go_enter Tryz.func64, Tryz.ntmps64
    go_wp2
    go_ret
    exact Same.mk' _ (by simp [digB, h1, h2])
theorem isUpper_any (n : Int) (w : World) : Calls Tryz.prog 62 #[.int .u8 n] w (Same w (.bool (uppB n))) := by
  by_cases h1 : 65 ≤ n <;> by_cases h2 : n ≤ 90
  all_goals
    go_enter Tryz.func62, Tryz.ntmps62
    go_wp2
    go_ret
    exact Same.mk' _ (by simp [uppB, h1, h2])
def smallB (n : Int) : Bool := lowB n || digB n
theorem l2Small_any (n : Int) (w : World) : Calls Tryz.prog 54 #[.int .u8 n] w (Same w (.bool (smallB n))) := by
  by_cases h1 : 97 ≤ n <;> by_cases h2 : n ≤ 122 <;> by_cases h3 : 48 ≤ n <;> by_cases h4 : n ≤ 57 <;> first | (exfalso; omega) | skip
  all_goals
    go_enter Tryz.func54, Tryz.ntmps54
    go_wp2
    go_ret
    exact Same.mk' _ (by simp [smallB, lowB, digB, h1, h2, h3, h4])
def byteZ (s : ByteArray) (k : Nat) : Int := ((s.toList.getD k 0).toNat : Int)
theorem byteZ_get {s : ByteArray} {k : Nat} (h : k < s.size) : (s[k].toNat : Int) = byteZ s k := by
  have h' : k < s.data.toList.length := h
  unfold byteZ
  rw [ByteArray.toList_eq, List.getD_eq_getElem?_getD, List.getElem?_eq_getElem h']
  rfl
def loopB (p : Nat → Int → Bool) (s : ByteArray) (k : Nat) : Bool := (List.range k).all fun j => p j (byteZ s j)
theorem loopB_succ {p : Nat → Int → Bool} {s : ByteArray} {k : Nat} : loopB p s (k + 1) = (loopB p s k && p k (byteZ s k)) := by
  unfold loopB
  rw [List.range_succ, List.all_append]
  simp
theorem loopB_next {p : Nat → Int → Bool} {s : ByteArray} {k : Nat} (h : loopB p s k = true) (hk : p k (byteZ s k) = true) : loopB p s (k + 1) = true := by
  rw [loopB_succ, h, hk]; rfl
theorem loopB_mono {p : Nat → Int → Bool} {s : ByteArray} {k n : Nat} (h : loopB p s k = false) (hn : k ≤ n) : loopB p s n = false := by
  induction n with
  | zero => have : k = 0 := by omega
            subst this; exact h
  | succ n ih =>
    by_cases hk : k = n + 1
    · subst hk; exact h
    · rw [loopB_succ, ih (by omega)]; rfl
theorem loopB_stop {p : Nat → Int → Bool} {s : ByteArray} {k : Nat} (hk : k < s.size) (h : p k (byteZ s k) = false) : loopB p s s.size = false :=
  loopB_mono (k := k + 1) (by rw [loopB_succ, h]; simp) (by omega)
def symOk (k : Nat) (b : Int) : Bool := (k != 0 || lowB b) && (smallB b || b == 95)
def varOk (k : Nat) (b : Int) : Bool := (k != 0 || uppB b) && (k == 0 || smallB b)
def words : List (List UInt8) := [[116, 114, 117, 101], [102, 97, 108, 115, 101], [116, 114, 117, 116, 104], [98, 111, 116, 104], [101, 105, 116, 104, 101, 114], [105, 102], [97, 108, 108], [115, 111, 109, 101]]
def resB (s : ByteArray) : Bool := anyB (fun k => s.toList == words.getD k []) 8
def symB (s : ByteArray) : Bool := loopB symOk s s.size && inB s.size 1 6 && !resB s
def varB (s : ByteArray) : Bool := loopB varOk s s.size && inB s.size 1 4
set_option maxHeartbeats 1000000 in
theorem isVariable_any (s : ByteArray) (w : World) (hs : s.size ≤ 9223372036854775807) : Calls Tryz.prog 40 #[.string s] w (Same w (.bool (varB s))) := by
  go_enter Tryz.func40, Tryz.ntmps40
  go_wp2
  go_loopw [6] (fun i wr => Cnt w s.size (fun k => loopB varOk s k = true) i wr) (fun i _ => s.size - (intOf i).toNat)
  case atStart => exact ⟨0, Nat.zero_le _, rfl, rfl, rfl⟩
  case round =>
    obtain ⟨k, hk, rfl, hok, rfl⟩ := hrel
    have Hok := Lib.hid hok
    clear hok
    by_cases hlt : k < s.size
    · have Hb := Lib.hid (byteZ_get hlt)
      rcases Nat.eq_zero_or_pos k with rfl | hpos
      all_goals
        go_wp2_with (first
          | (go_at_call 63; refine (isLower_any _ _).mono ?_; rintro e w' ⟨rfl, rfl⟩)
          | (go_at_call 62; refine (isUpper_any _ _).mono ?_; rintro e w' ⟨rfl, rfl⟩)
          | (go_at_call 64; refine (isDigit_any _ _).mono ?_; rintro e w' ⟨rfl, rfl⟩))
        all_goals first
          | (go_ret
             refine Same.mk' _ ?_
             unfold varB
             rw [loopB_stop hlt (by rw [← Hb.out]; simp_all [varOk, smallB] <;> omega)]
             rfl)
          | (go_roundw
             case rel => exact ⟨_, hlt, by go_num, loopB_next Hok.out (by rw [← Hb.out]; simp_all [varOk, smallB] <;> omega), rfl⟩
             case measure => first | exact intOf_lt hlt | (simp [intOf]; omega))
    · obtain rfl : k = s.size := by omega
      go_wp2_with (first
        | (go_at_call 65; refine (within_any _ _ _ _).mono ?_; rintro e w' ⟨rfl, rfl⟩))
      go_ret
      exact Same.mk' _ (by unfold varB; rw [Hok.out]; rfl)
set_option maxHeartbeats 1000000 in
theorem indexS_any (b n c : Nat) (f : Nat → ByteArray) (x : ByteArray) (w : World) (hn : n ≤ 9223372036854775807)
   (hc : ∀ k, k < n → w.cell? ⟨b, k, none⟩ = some (.string (f k))) : Calls Tryz.prog 119 #[.slice (some ⟨b, 0, none⟩) n c, .string x] w (Same w (.int .i64 (idxZ (fun k => x.toList == (f k).toList) n))) := by
  go_enter Tryz.func119, Tryz.ntmps119
  go_wp2
  go_loopw [8] (fun i wr => Cnt w n (fun k => ∀ j, j < k → (x.toList == (f j).toList) = false) i wr) (fun i _ => n - (intOf i).toNat)
  case atStart => exact ⟨0, Nat.zero_le _, rfl, fun j hj => absurd hj (by omega), rfl⟩
  case round =>
    obtain ⟨k, hk, rfl, hok, rfl⟩ := hrel
    have Hok := Lib.hid hok
    clear hok
    by_cases hlt : k < n
    · have hck := hc k (by omega)
      go_wp2_with fail
      · go_ret
        exact Same.mk' _ (by rw [idxZ_hit hlt Hok.out (by assumption)]; rfl)
      · go_roundw
        case rel => exact ⟨_, hlt, by go_num, all_lt_succ Hok.out (by assumption), rfl⟩
        case measure => exact intOf_lt hlt
    · obtain rfl : k = n := by omega
      go_wp2_with fail
      go_ret
      exact Same.mk' _ (by rw [idxZ_miss Hok.out]; rfl)
theorem containsS_any (b n c : Nat) (f : Nat → ByteArray) (x : ByteArray) (w : World) (hn : n ≤ 9223372036854775807)
   (hc : ∀ k, k < n → w.cell? ⟨b, k, none⟩ = some (.string (f k))) : Calls Tryz.prog 101 #[.slice (some ⟨b, 0, none⟩) n c, .string x] w (Same w (.bool (anyB (fun k => x.toList == (f k).toList) n))) := by
  have Hc := Lib.hid hc
  clear hc
  go_enter Tryz.func101, Tryz.ntmps101
  go_wp2_with (first
    | (go_at_call 119; refine (indexS_any _ _ _ f _ _ hn Hc.out).mono ?_; rintro e w' ⟨rfl, rfl⟩))
  go_ret
  exact Same.mk' _ (by rw [← idxZ_ge]; rfl)
theorem reserved_any (w : World) : Calls Tryz.prog 102 #[] w fun e w' => e = .returned (.slice (some ⟨w.heap.size, 0, none⟩) 8 8) ∧ w' = w.alloc (.cells ((words.map fun l => Value.string ⟨l.toArray⟩).toArray) 9) := by
  go_enter Tryz.func102, Tryz.ntmps102
  go_wp2
  go_ret
  exact ⟨rfl, rfl⟩
theorem words_cells (w : World) : ∀ k, k < 8 → (w.alloc (.cells ((words.map fun l => Value.string ⟨l.toArray⟩).toArray) 9)).cell? ⟨w.heap.size, k, none⟩ = some (.string ⟨(words.getD k []).toArray⟩) := by
  intro k hk
  have hh : (w.alloc (.cells ((words.map fun l => Value.string ⟨l.toArray⟩).toArray) 9)).heap[w.heap.size]? = some (.cells ((words.map fun l => Value.string ⟨l.toArray⟩).toArray) 9) := heap_alloc_new w _
  unfold World.cell?
  rw [hh]
  match k, hk with
  | 0, _ => rfl
  | 1, _ => rfl
  | 2, _ => rfl
  | 3, _ => rfl
  | 4, _ => rfl
  | 5, _ => rfl
  | 6, _ => rfl
  | 7, _ => rfl
set_option maxHeartbeats 1000000 in
theorem isSymbol_any (s : ByteArray) (w : World) (hs : s.size ≤ 9223372036854775807) : Calls Tryz.prog 86 #[.string s] w (Ret w (.bool (symB s))) := by
  go_enter Tryz.func86, Tryz.ntmps86
  go_wp2
  go_loopw [6] (fun i wr => Cnt w s.size (fun k => loopB symOk s k = true) i wr) (fun i _ => s.size - (intOf i).toNat)
  case atStart => exact ⟨0, Nat.zero_le _, rfl, rfl, rfl⟩
  case round =>
    obtain ⟨k, hk, rfl, hok, rfl⟩ := hrel
    have Hok := Lib.hid hok
    clear hok
    by_cases hlt : k < s.size
    · have Hb := Lib.hid (byteZ_get hlt)
      rcases Nat.eq_zero_or_pos k with rfl | hpos
      all_goals
        go_wp2_with (first
          | (go_at_call 63; refine (isLower_any _ _).mono ?_; rintro e w' ⟨rfl, rfl⟩)
          | (go_at_call 64; refine (isDigit_any _ _).mono ?_; rintro e w' ⟨rfl, rfl⟩))
        all_goals first
          | (go_ret
             refine Ret.same _ ?_
             unfold symB
             rw [loopB_stop hlt (by rw [← Hb.out]; simp_all [symOk, smallB] <;> omega)]
             rfl)
          | (go_roundw
             case rel => exact ⟨_, hlt, by go_num, loopB_next Hok.out (by rw [← Hb.out]; simp_all [symOk, smallB] <;> omega), rfl⟩
             case measure => first | exact intOf_lt hlt | (simp [intOf]; omega))
    · obtain rfl : k = s.size := by omega
      cases hin : inB s.size 1 6
      · go_wp2_with (first
          | (go_at_call 65; refine (within_any _ _ _ _).mono ?_; rintro e w' ⟨rfl, rfl⟩))
        go_ret
        exact Ret.same _ (by unfold symB; rw [hin]; simp)
      · go_wp2_with (first
          | (go_at_call 65; refine (within_any _ _ _ _).mono ?_; rintro e w' ⟨rfl, rfl⟩)
          | (go_at_call 102; refine (reserved_any _).mono ?_; rintro e w' ⟨rfl, rfl⟩)
          | (go_at_call 101; refine (containsS_any _ _ _ (fun k => ⟨(words.getD k []).toArray⟩) _ _ (by omega) (words_cells w)).mono ?_; rintro e w' ⟨rfl, rfl⟩))
        go_ret
        refine Ret.bel ?_ ((Below.refl _ _).alloc (Nat.le_refl _) _)
        unfold symB resB
        rw [hin, Hok.out]
        simp
set_option maxHeartbeats 1000000 in
theorem l2Var_any (s : ByteArray) (w : World) (hs : s.size ≤ 9223372036854775807) : Calls Tryz.prog 32 #[.string s] w (Same w (.bool (varB s))) := by
  cases hin : inB s.size 1 4
  · go_enter Tryz.func32, Tryz.ntmps32
    go_wp2_with (first
      | (go_at_call 53; refine (l1In_any _ _ _ _).mono ?_; rintro e w' ⟨rfl, rfl⟩))
    go_ret
    exact Same.mk' _ (by unfold varB; rw [hin]; simp)
  · have hpos : 0 < s.size := by simp [inB] at hin; omega
    have Hb := Lib.hid (byteZ_get hpos)
    go_enter Tryz.func32, Tryz.ntmps32
    go_wp2_with (first
      | (go_at_call 53; refine (l1In_any _ _ _ _).mono ?_; rintro e w' ⟨rfl, rfl⟩))
    all_goals first
      | (go_ret
         refine Same.mk' _ ?_
         unfold varB
         rw [loopB_stop hpos (by rw [← Hb.out]; simp [varOk, uppB]; omega)]
         rfl)
      | skip
    · go_loopw [3] (fun i wr => Cnt w s.size (fun k => 1 ≤ k ∧ loopB varOk s k = true) i wr) (fun i _ => s.size - (intOf i).toNat)
      case atStart => exact ⟨1, hpos, rfl, ⟨Nat.le_refl _, by rw [loopB_succ, ← Hb.out]; simp [loopB, varOk, uppB]; omega⟩, rfl⟩
      case round =>
        obtain ⟨k, hk, rfl, ⟨hk1, hok⟩, rfl⟩ := hrel
        have Hok := Lib.hid hok
        clear hok
        by_cases hlt : k < s.size
        · have Hbk := Lib.hid (byteZ_get hlt)
          have hk0 : k ≠ 0 := by omega
          go_wp2_with (first
            | (go_at_call 54; refine (l2Small_any _ _).mono ?_; rintro e w' ⟨rfl, rfl⟩))
          all_goals first
            | (go_ret
               refine Same.mk' _ ?_
               unfold varB
               rw [loopB_stop hlt (by rw [← Hbk.out]; simp_all [varOk] <;> omega)]
               rfl)
            | (go_roundw
               case rel => exact ⟨_, hlt, by go_num, ⟨by omega, loopB_next Hok.out (by rw [← Hbk.out]; simp_all [varOk] <;> omega)⟩, rfl⟩
               case measure => first | exact intOf_lt hlt | (simp [intOf]; omega))
        · obtain rfl : k = s.size := by omega
          go_wp2_with fail
          go_ret
          exact Same.mk' _ (by unfold varB; rw [Hok.out, hin]; rfl)
theorem resB_eq (s : ByteArray) : resB s = (s.toList == [116, 114, 117, 101] || s.toList == [102, 97, 108, 115, 101] || s.toList == [116, 114, 117, 116, 104] || s.toList == [98, 111, 116, 104] || s.toList == [101, 105, 116, 104, 101, 114] || s.toList == [105, 102] || s.toList == [97, 108, 108] || s.toList == [115, 111, 109, 101]) := by
  unfold resB anyB words
  simp [List.range, List.range.loop, Bool.or_assoc]
set_option maxHeartbeats 2000000 in
theorem l2Symbol_any (s : ByteArray) (w : World) (hs : s.size ≤ 9223372036854775807) : Calls Tryz.prog 57 #[.string s] w (Same w (.bool (symB s))) := by
  cases hin : inB s.size 1 6
  · go_enter Tryz.func57, Tryz.ntmps57
    go_wp2_with (first
      | (go_at_call 53; refine (l1In_any _ _ _ _).mono ?_; rintro e w' ⟨rfl, rfl⟩))
    go_ret
    exact Same.mk' _ (by unfold symB; rw [hin]; simp)
  · have hpos : 0 < s.size := by simp [inB] at hin; omega
    have Hb := Lib.hid (byteZ_get hpos)
    cases hres : resB s
    case true =>
      have Hres := Lib.hid hres
      rw [resB_eq] at hres
      go_enter Tryz.func57, Tryz.ntmps57
      go_wp2_with (first
        | (go_at_call 53; refine (l1In_any _ _ _ _).mono ?_; rintro e w' ⟨rfl, rfl⟩))
      all_goals first
        | (go_ret
           refine Same.mk' _ ?_
           unfold symB
           rw [Hres.out]; simp)
        | (exfalso; simp_all; done)
    have Hres := Lib.hid hres
    rw [resB_eq] at hres
    simp only [Bool.or_eq_false_iff] at hres
    obtain ⟨⟨⟨⟨⟨⟨⟨e1, e2⟩, e3⟩, e4⟩, e5⟩, e6⟩, e7⟩, e8⟩ := hres
    go_enter Tryz.func57, Tryz.ntmps57
    go_wp2_with (first
      | (go_at_call 53; refine (l1In_any _ _ _ _).mono ?_; rintro e w' ⟨rfl, rfl⟩))
    all_goals first
      | (go_ret
         refine Same.mk' _ ?_
         unfold symB
         rw [loopB_stop hpos (by rw [← Hb.out]; simp [symOk, lowB]; omega)]; rfl)
      | skip
    go_loopw [3] (fun i wr => Cnt w s.size (fun k => 1 ≤ k ∧ loopB symOk s k = true) i wr) (fun i _ => s.size - (intOf i).toNat)
    case atStart => exact ⟨1, hpos, rfl, ⟨Nat.le_refl _, by rw [loopB_succ, ← Hb.out]; simp [loopB, symOk, smallB, lowB]; omega⟩, rfl⟩
    case round =>
      obtain ⟨k, hk, rfl, ⟨hk1, hok⟩, rfl⟩ := hrel
      have Hok := Lib.hid hok
      clear hok
      by_cases hlt : k < s.size
      · have Hbk := Lib.hid (byteZ_get hlt)
        have hk0 : k ≠ 0 := by omega
        go_wp2_with (first
          | (go_at_call 54; refine (l2Small_any _ _).mono ?_; rintro e w' ⟨rfl, rfl⟩))
        all_goals first
          | (go_ret
             refine Same.mk' _ ?_
             unfold symB
             rw [loopB_stop hlt (by rw [← Hbk.out]; simp_all [symOk] <;> omega)]
             rfl)
          | (go_roundw
             case rel => exact ⟨_, hlt, by go_num, ⟨by omega, loopB_next Hok.out (by rw [← Hbk.out]; simp_all [symOk] <;> omega)⟩, rfl⟩
             case measure => first | exact intOf_lt hlt | (simp [intOf]; omega))
      · obtain rfl : k = s.size := by omega
        go_wp2_with fail
        go_ret
        exact Same.mk' _ (by unfold symB; rw [Hok.out, hin, Hres.out]; rfl)
end Go.Proofs.YtibdknkacmimgaaGreat
set_option maxRecDepth 100000
set_option linter.unusedSimpArgs false
set_option linter.unusedVariables false
set_option linter.unusedSectionVars false
namespace Go.Proofs.YtibdknkacmimgaaGreat
open Go.RowKit Go.Shelf Go.Lib Go.Sort
theorem row_new {w w' : World} {I : Nat → Prop} {V : Nat → Option Value} {B : Nat → Nat → Prop} {t : TypeId} {sz : Nat} {es es' : List (List OT)} {b cap : Nat} {cur cur' : Array Value} (Sub : Nat → Nat → Nat → Prop)
    (hwf : Wf w I V B (geto [.row t sz es])) (hv : V 0 = some (.slice (some ⟨b, 0, none⟩) es.length cap)) (hn : es'.length = es.length) (hs : B 0 b) (hb : w.heap[b]? = some (.cells cur t (0, 0)))
    (h1 : es.length ≤ cap) (h2 : cap ≤ 9223372036854775807) (h3 : cur.size = cap * sz) (h4 : ∀ i (h : i < es'.length), es'[i].length = sz) (h5 : ∀ i j x, Sub i j x → B 0 x ∧ x ≠ b)
    (h6 : ∀ i j i' j' x, Sub i j x → Sub i' j' x → i = i' ∧ j = j')
    (hos : w'.os = w.os) (htape : TapeOk w w') (hout : w'.output = w.output) (hsz : w.heap.size ≤ w'.heap.size) (hblk : ∀ x, x < w.heap.size → x ≠ b → w'.heap[x]? = w.heap[x]?)
    (hb' : w'.heap[b]? = some (.cells cur' t (0, 0))) (hcs : cur'.size = cur.size)
    (h7 : ∀ i j (h : i < es'.length) (h' : j < es'[i].length), ORep w' I (Sub i j) (es'[i][j]) (cur'.getD (i * sz + j) undef)) :
    FunPost w I V B [.row t sz es] [.row t sz es'] w' I V B := by
  have g0 : ∀ (e : List (List OT)), geto [Ob.row t sz e] 0 = .row t sz e := fun _ => rfl
  have gS : ∀ (e : List (List OT)) (g : Nat), geto [Ob.row t sz e] (g + 1) = .free := fun _ _ => rfl
  have lv : ∀ (e e' : List (List OT)) (g : Nat), (geto [Ob.row t sz e] g).live → (geto [Ob.row t sz e'] g).live := fun e e' g h => by
    cases g with
    | zero => trivial
    | succ g => rw [gS] at h; exact h.elim
  have hbS : ∀ x, B 0 x → HB B [Ob.row t sz es] x := fun x hx => ⟨0, trivial, hx⟩
  refine ⟨⟨hos, htape, hout, hsz, fun x hx hn => hblk x hx fun e => hn (hbS x (e ▸ hs))⟩, fun _ h => h, fun _ h => .inl h, VLe.refl _, ?_, fun g x hl hx => .inl ⟨g, lv _ _ g hl, hx⟩⟩
  refine ⟨fun x hx => Nat.lt_of_lt_of_le (hwf.ilt x hx) hsz, fun g hl => ?_, fun g x hl hx => Nat.lt_of_lt_of_le (hwf.lt g x (lv _ _ g hl) hx) hsz, fun g x hl hx => hwf.dI g x (lv _ _ g hl) hx, fun g g' x hl hl' hx hx' => hwf.dO g g' x (lv _ _ g hl) (lv _ _ g' hl') hx hx', fun g hf => ?_, hwf.gl.keep ⟨hsz, fun x hx hlt => hblk x hlt fun e => hwf.dI 0 x trivial (e ▸ hs) hx⟩ fun _ h => h⟩
  · cases g with
    | zero =>
      refine ⟨_, hv, .inr ⟨b, cap, cur', Sub, by rw [hn], hs, hb', by rw [hn]; exact h1, h2, by rw [hcs]; exact h3, h4, h5, h6, h7⟩⟩
    | succ g => rw [gS] at hl; exact hl.elim
  · cases g with
    | zero => cases hf
    | succ g => exact hwf.fr (g + 1) rfl
theorem row_same {w : World} {I : Nat → Prop} {V : Nat → Option Value} {B : Nat → Nat → Prop} {ob : List Ob} (hwf : Wf w I V B (geto ob)) : FunPost w I V B ob ob w I V B :=
  ⟨⟨rfl, TapeOk.mk' rfl rfl, rfl, Nat.le_refl _, fun _ _ _ => rfl⟩, fun _ h => h, fun _ h => .inl h, VLe.refl _, hwf, fun g b hl hb => .inl ⟨g, hl, hb⟩⟩
def cmpL (x y : List UInt8) : Int := if Op.bytesLess x y then -1 else if x == y then 0 else 1
theorem ORep.oneCell {w : World} {I S : Nat → Prop} {o : OT} {v : Value} (h : ORep w I S o v) : v.oneCell' = true := by
  cases h with
  | int S n => rfl
  | bool S b => rfl
  | str S s h => rfl
  | sh S es v h => obtain ⟨a, c, rfl, _⟩ := h.slice_form; rfl
  | nil S => rfl
  | hole S v h => exact h
  | row S t sz es b cap cur Sub hS hb h1 h2 h3 h4 h5 h6 h7 => rfl
theorem ORep.owV {w : World} {I S : Nat → Prop} {es : List (List OT)} {v : Value} (h : ORep w I S (.ow es) v) : ∃ a n c, v = .slice a n c := by
  cases h with
  | nil => exact ⟨_, _, _, rfl⟩
  | row => exact ⟨_, _, _, rfl⟩
theorem sortW_heap {α : Type} [Inhabited α] (enc : α → List Value) (k : Nat) (w : World) (b m : Nat) (dk : Array α) (os : Array Obj) (x : Nat) (hx : x < w.heap.size) :
    (sortWorldK enc k w b 0 m dk os).heap[x]? = if b = x then (w.heap[x]?).map (onCells (putCells id 0 (flatK enc k dk))) else w.heap[x]? := by
  unfold sortWorldK grow putRowK putRow mapBlock Sort.ahead
  have hx' : x < (w.heap.modify b (onCells (putCells id 0 (flatK enc k dk)))).size := by simpa using hx
  simp only [Array.getElem?_append, Array.size_modify, hx, if_true, Array.getElem?_modify]
theorem sortW_block {α : Type} [Inhabited α] (enc : α → List Value) (k : Nat) (w : World) (b m : Nat) (dk : Array α) (os : Array Obj) {cur : Array Value} {t : TypeId} {fr : Nat × Nat} (hb : w.heap[b]? = some (.cells cur t fr)) :
    (sortWorldK enc k w b 0 m dk os).heap[b]? = some (.cells (putCells id 0 (flatK enc k dk) cur) t fr) := by
  rw [sortW_heap enc k w b m dk os b (Array.getElem?_eq_some_iff.1 hb).1, if_pos rfl, hb]
  rfl
theorem putFlat_get {α : Type} [Inhabited α] (enc : α → List Value) (k : Nat) (dk : Array α) (cur : Array Value) {i j : Nat} (hi : i < dk.size) (hj : j < k) (hc : dk.size * k ≤ cur.size) :
    (putCells id 0 (flatK enc k dk) cur).getD (i * k + j) undef = (enc dk[i]!)[j]! := by
  have hlt : i * k + j < dk.size * k := mul_lt hi hj
  have e1 : (i * k + j) / k = i := by rw [Nat.mul_comm, Nat.mul_add_div (by omega), Nat.div_eq_of_lt hj, Nat.add_zero]
  have e2 : (i * k + j) % k = j := by rw [Nat.mul_comm, Nat.mul_add_mod, Nat.mod_eq_of_lt hj]
  have h := get_flatK enc k dk (i * k + j) hlt
  rw [e1, e2] at h
  have hlt2 : i * k + j < cur.size := Nat.lt_of_lt_of_le hlt hc
  simp only [putCells, Array.getD_eq_getD_getElem?, Array.getElem?_mapIdx, Array.getElem?_eq_getElem hlt2, Option.map_some, Option.getD_some, Nat.zero_le, true_and, size_flatK, Nat.zero_add, hlt, if_true, Nat.sub_zero, id]
  exact h
end Go.Proofs.YtibdknkacmimgaaGreat
set_option maxRecDepth 100000
set_option linter.unusedSimpArgs false
set_option linter.unusedVariables false
set_option linter.unusedSectionVars false
namespace Go.Proofs.YtibdknkacmimgaaGreat
open Go.RowKit
noncomputable def cmpB (a b : ByteArray) : Int := bif strLt a b then -1 else bif dec (a = b) then 0 else 1
noncomputable def cmpI (a b : Int) : Int := bif dec (a < b) then -1 else bif dec (b < a) then 1 else 0
def orZ (x y : Int) : Int := if x = 0 then y else x
mutual
noncomputable def Tm.cmp : Tm → Tm → Int
  | .mk n xs, y => if varB n && !varB y.name then -1 else if varB y.name && !varB n then 1 else orZ (orZ (cmpB n y.name) (cmpI xs.length y.args.length)) (Tm.cmpL xs y.args)
noncomputable def Tm.cmpL : List Tm → List Tm → Int
  | [], [] => 0
  | [], _ :: _ => -1
  | _ :: _, [] => 1
  | x :: xs, y :: ys => orZ (Tm.cmp x y) (Tm.cmpL xs ys)
end
theorem Tm.cmp_eq (x y : Tm) : x.cmp y = if varB x.name && !varB y.name then -1 else if varB y.name && !varB x.name then 1 else orZ (orZ (cmpB x.name y.name) (cmpI x.args.length y.args.length)) (Tm.cmpL x.args y.args) := by
  obtain ⟨n, xs⟩ := x
  rw [Tm.cmp]; rfl
def nameC (s : ByteArray) : Bool := decide (0 < s.size) && (uppB (byteZ s 0) == varB s)
mutual
def Tm.cok : Tm → Bool
  | .mk n xs => nameC n && Tm.cokS xs
def Tm.cokS : List Tm → Bool
  | [] => true
  | x :: xs => Tm.cok x && Tm.cokS xs
end
theorem Tm.cok_eq (x : Tm) : x.cok = (nameC x.name && Tm.cokS x.args) := by
  obtain ⟨n, xs⟩ := x
  rw [Tm.cok]; rfl
theorem Tm.cokS_mem {xs : List Tm} (h : Tm.cokS xs = true) {y : Tm} (hy : y ∈ xs) : y.cok = true := by
  induction xs with
  | nil => cases hy
  | cons x xs ih =>
    rw [Tm.cokS, Bool.and_eq_true] at h
    rcases List.mem_cons.1 hy with rfl | hy
    · exact h.1
    · exact ih h.2 hy
def flagZ (b : Bool) : Int := if b then 1 else 0
noncomputable def Lt.cmp (x y : Lt) : Int := orZ (x.atom.cmp y.atom) (cmpI (flagZ x.pos) (flagZ y.pos))
theorem ob_irrefl : ∀ x : List UInt8, Op.bytesLess x x = false
  | [] => rfl
  | a :: x => by simp [Op.bytesLess, ob_irrefl x]
theorem ob_trans : ∀ x y z : List UInt8, Op.bytesLess x y = true → Op.bytesLess y z = true → Op.bytesLess x z = true
  | [], _, [], _, h => by cases ‹List UInt8› <;> simp [Op.bytesLess] at *
  | [], _, _ :: _, _, _ => rfl
  | _ :: _, [], _, h, _ => by simp [Op.bytesLess] at h
  | _ :: _, _ :: _, [], _, h => by simp [Op.bytesLess] at h
  | a :: x, b :: y, c :: z, h, k => by
    simp only [Op.bytesLess, Bool.or_eq_true, decide_eq_true_eq, Bool.and_eq_true, beq_iff_eq] at h k ⊢
    rcases h with h | ⟨rfl, h⟩
    · rcases k with k | ⟨rfl, k⟩
      · exact .inl (UInt8.lt_trans h k)
      · exact .inl h
    · rcases k with k | ⟨rfl, k⟩
      · exact .inl k
      · exact .inr ⟨rfl, ob_trans x y z h k⟩
theorem ob_tot : ∀ x y : List UInt8, Op.bytesLess x y = false → Op.bytesLess y x = false → x = y
  | [], [], _, _ => rfl
  | [], _ :: _, h, _ => by simp [Op.bytesLess] at h
  | _ :: _, [], _, h => by simp [Op.bytesLess] at h
  | a :: x, b :: y, h, k => by
    simp only [Op.bytesLess, Bool.or_eq_false_iff, decide_eq_false_iff_not] at h k
    have hab : a = b := by
      have h1 := h.1; have h2 := k.1
      rw [UInt8.lt_iff_toNat_lt] at h1 h2
      exact UInt8.toNat_inj.1 (by omega)
    subst hab
    have h1 : Op.bytesLess x y = false := by simpa using h.2
    have h2 : Op.bytesLess y x = false := by simpa using k.2
    rw [ob_tot x y h1 h2]
theorem ob_bytes {a b : ByteArray} (h : a.toList = b.toList) : a = b := by
  rw [ByteArray.toList_eq, ByteArray.toList_eq] at h
  obtain ⟨⟨x⟩⟩ := a
  obtain ⟨⟨y⟩⟩ := b
  simp at h
  rw [h]
structure Ord3 {α : Type} (c : α → α → Int) (a b d : α) : Prop where
  anti : c b a = - c a b
  zero : c a b = 0 ↔ a = b
  trans : c a b < 0 → c b d < 0 → c a d < 0
theorem cmpB_ord (a b d : ByteArray) : Ord3 cmpB a b d := by
  have key : ∀ x y : ByteArray, (cmpB x y = -1 ∧ strLt x y = true ∧ x ≠ y) ∨ (cmpB x y = 0 ∧ x = y) ∨ (cmpB x y = 1 ∧ strLt y x = true ∧ strLt x y = false ∧ x ≠ y) := by
    intro x y
    unfold cmpB
    cases h : strLt x y with
    | true =>
      refine .inl ⟨rfl, rfl, ?_⟩
      rintro rfl
      unfold strLt at h
      rw [ob_irrefl] at h; cases h
    | false =>
      by_cases e : x = y
      · refine .inr (.inl ⟨?_, e⟩)
        rw [dec_t e]; rfl
      · refine .inr (.inr ⟨?_, ?_, rfl, e⟩)
        · rw [dec_f e]; rfl
        · cases h2 : strLt y x with
          | true => rfl
          | false => exact absurd (ob_bytes (ob_tot _ _ h h2)) e
  have asy : ∀ x y : ByteArray, strLt x y = true → strLt y x = true → False := fun x y h k => by
    have := ob_trans _ _ _ h k
    rw [ob_irrefl] at this; cases this
  refine ⟨?_, ?_, ?_⟩
  · rcases key a b with ⟨h, h1, h2⟩ | ⟨h, rfl⟩ | ⟨h, h1, h2, h3⟩
    · rcases key b a with ⟨k, k1, k2⟩ | ⟨k, rfl⟩ | ⟨k, k1, k2, k3⟩
      · exact (asy _ _ h1 k1).elim
      · exact absurd rfl h2
      · rw [h, k]; rfl
    · rw [h]; rfl
    · rcases key b a with ⟨k, k1, k2⟩ | ⟨k, rfl⟩ | ⟨k, k1, k2, k3⟩
      · rw [h, k]
      · exact absurd rfl h3
      · exact (asy _ _ h1 k1).elim
  · rcases key a b with ⟨h, h1, h2⟩ | ⟨h, rfl⟩ | ⟨h, h1, h2, h3⟩
    · rw [h]; constructor
      · intro e; cases e
      · intro e; exact absurd e h2
    · rw [h]; simp
    · rw [h]; constructor
      · intro e; cases e
      · intro e; exact absurd e h3
  · intro h k
    rcases key a b with ⟨_, h1, h2⟩ | ⟨e, _⟩ | ⟨e, _⟩
    · rcases key b d with ⟨_, k1, k2⟩ | ⟨e, _⟩ | ⟨e, _⟩
      · have := ob_trans _ _ _ h1 k1
        have e : strLt a d = true := this
        unfold cmpB
        rw [e]; exact (by decide : (-1 : Int) < 0)
      · omega
      · omega
    · omega
    · omega
theorem cmpI_ord (a b d : Int) : Ord3 cmpI a b d := by
  have key : ∀ x y : Int, cmpI x y = if x < y then -1 else if y < x then 1 else 0 := fun x y => by
    unfold cmpI
    by_cases h : x < y
    · rw [dec_t h, if_pos h]; rfl
    · rw [dec_f h, if_neg h]
      by_cases h2 : y < x
      · rw [dec_t h2, if_pos h2]; rfl
      · rw [dec_f h2, if_neg h2]; rfl
  refine ⟨?_, ?_, ?_⟩ <;> simp only [key]
  · split <;> split <;> omega
  · split
    · constructor <;> omega
    · split <;> constructor <;> omega
  · split <;> split <;> split <;> omega
theorem orZ_anti {a b a' b' : Int} (h : a' = -a) (k : b' = -b) : orZ a' b' = - orZ a b := by
  unfold orZ
  subst h k
  split <;> split <;> omega
theorem orZ_zero {a b : Int} : orZ a b = 0 ↔ a = 0 ∧ b = 0 := by
  unfold orZ
  split
  · rename_i h; simp [h]
  · rename_i h; simp [h]
theorem orZ_neg {a b : Int} : orZ a b < 0 ↔ a < 0 ∨ (a = 0 ∧ b < 0) := by
  unfold orZ
  split <;> omega
theorem or_trans {α : Type} {c : α → α → Int} (hc : ∀ a b d, Ord3 c a b d) {a b d : α} {p q r : Int} (hk : p < 0 → q < 0 → r < 0) (h1 : orZ (c a b) p < 0) (h2 : orZ (c b d) q < 0) : orZ (c a d) r < 0 := by
  rw [orZ_neg] at h1 h2 ⊢
  rcases h1 with h1 | ⟨h1, h3⟩
  · rcases h2 with h2 | ⟨h2, h4⟩
    · exact .inl ((hc a b d).trans h1 h2)
    · have e := (hc b d d).zero.1 h2
      subst e
      exact .inl h1
  · have e := (hc a b d).zero.1 h1
    subst e
    rcases h2 with h2 | ⟨h2, h4⟩
    · exact .inl h2
    · exact .inr ⟨h2, hk h3 h4⟩
def kvZ (n : ByteArray) : Int := if varB n then 0 else 1
theorem Tm.cmp_or (x y : Tm) : x.cmp y = orZ (cmpI (kvZ x.name) (kvZ y.name)) (orZ (cmpB x.name y.name) (orZ (cmpI x.args.length y.args.length) (Tm.cmpL x.args y.args))) := by
  rw [Tm.cmp_eq]
  have hI : ∀ p q : Int, cmpI p q = if p < q then -1 else if q < p then 1 else 0 := fun x y => by
    unfold cmpI
    by_cases h : x < y
    · rw [dec_t h, if_pos h]; rfl
    · rw [dec_f h, if_neg h]
      by_cases h2 : y < x
      · rw [dec_t h2, if_pos h2]; rfl
      · rw [dec_f h2, if_neg h2]; rfl
  rw [hI (kvZ _) (kvZ _)]
  have e : ∀ p q r : Int, orZ (orZ p q) r = orZ p (orZ q r) := fun p q r => by
    unfold orZ
    by_cases h : p = 0
    · simp [h]
    · simp [h]
  unfold kvZ
  cases varB x.name <;> cases varB y.name <;> simp [e] <;> rfl
mutual
theorem Tm.cmp_anti : ∀ x y : Tm, y.cmp x = - x.cmp y
  | .mk n xs, .mk m ys => by
    rw [Tm.cmp_or, Tm.cmp_or (.mk n xs)]
    exact orZ_anti (cmpI_ord _ _ 0).anti (orZ_anti (cmpB_ord _ _ m).anti (orZ_anti (cmpI_ord _ _ 0).anti (Tm.cmpL_anti xs ys)))
theorem Tm.cmpL_anti : ∀ xs ys : List Tm, Tm.cmpL ys xs = - Tm.cmpL xs ys
  | [], [] => rfl
  | [], y :: ys => by rw [Tm.cmpL, Tm.cmpL]; rfl
  | x :: xs, [] => by rw [Tm.cmpL, Tm.cmpL]
  | x :: xs, y :: ys => by
    rw [Tm.cmpL, Tm.cmpL]
    exact orZ_anti (Tm.cmp_anti x y) (Tm.cmpL_anti xs ys)
end
mutual
theorem Tm.cmp_zero : ∀ x y : Tm, x.cmp y = 0 ↔ x = y
  | .mk n xs, .mk m ys => by
    rw [Tm.cmp_or, orZ_zero, orZ_zero, orZ_zero, (cmpI_ord _ _ 0).zero, (cmpB_ord _ _ m).zero, (cmpI_ord _ _ 0).zero, show Tm.cmpL (Tm.mk n xs).args (Tm.mk m ys).args = 0 ↔ xs = ys from Tm.cmpL_zero xs ys]
    constructor
    · rintro ⟨_, h1, _, h2⟩
      have h1 : n = m := h1
      rw [h1, h2]
    · intro h
      injection h with h1 h2
      subst h1 h2
      exact ⟨rfl, rfl, rfl, rfl⟩
theorem Tm.cmpL_zero : ∀ xs ys : List Tm, Tm.cmpL xs ys = 0 ↔ xs = ys
  | [], [] => by rw [Tm.cmpL]; simp
  | [], y :: ys => by rw [Tm.cmpL]; simp
  | x :: xs, [] => by rw [Tm.cmpL]; simp
  | x :: xs, y :: ys => by rw [Tm.cmpL, orZ_zero, Tm.cmp_zero x y, Tm.cmpL_zero xs ys, List.cons.injEq]
end
mutual
theorem Tm.cmp_trans : ∀ x y z : Tm, x.cmp y < 0 → y.cmp z < 0 → x.cmp z < 0
  | .mk n xs, .mk m ys, .mk k zs => by
    rw [Tm.cmp_or, Tm.cmp_or (.mk m ys), Tm.cmp_or (.mk n xs)]
    exact or_trans cmpI_ord (or_trans cmpB_ord (or_trans cmpI_ord (Tm.cmpL_trans xs ys zs)))
theorem Tm.cmpL_trans : ∀ xs ys zs : List Tm, Tm.cmpL xs ys < 0 → Tm.cmpL ys zs < 0 → Tm.cmpL xs zs < 0
  | [], [], zs => by rw [Tm.cmpL]; intro h; omega
  | [], y :: ys, [] => by intro _ h; rw [Tm.cmpL] at h; omega
  | [], y :: ys, z :: zs => by intro _ _; rw [Tm.cmpL]; omega
  | x :: xs, [], zs => by intro h; rw [Tm.cmpL] at h; omega
  | x :: xs, y :: ys, [] => by intro _ h; rw [Tm.cmpL] at h; omega
  | x :: xs, y :: ys, z :: zs => by
    rw [Tm.cmpL, Tm.cmpL, Tm.cmpL, orZ_neg, orZ_neg, orZ_neg]
    intro h1 h2
    rcases h1 with h1 | ⟨h1, h3⟩
    · rcases h2 with h2 | ⟨h2, h4⟩
      · exact .inl (Tm.cmp_trans x y z h1 h2)
      · obtain rfl := (Tm.cmp_zero y z).1 h2
        exact .inl h1
    · obtain rfl := (Tm.cmp_zero x y).1 h1
      rcases h2 with h2 | ⟨h2, h4⟩
      · exact .inl h2
      · exact .inr ⟨h2, Tm.cmpL_trans xs ys zs h3 h4⟩
end
theorem Tm.cmp_ord (x y z : Tm) : Ord3 Tm.cmp x y z := ⟨Tm.cmp_anti x y, Tm.cmp_zero x y, Tm.cmp_trans x y z⟩
theorem flagZ_inj {a b : Bool} : flagZ a = flagZ b ↔ a = b := by cases a <;> cases b <;> decide
theorem Lt.cmp_ord (x y z : Lt) : Ord3 Lt.cmp x y z := by
  refine ⟨orZ_anti (Tm.cmp_anti _ _) (cmpI_ord _ _ 0).anti, ?_, ?_⟩
  · unfold Lt.cmp
    rw [orZ_zero, (Tm.cmp_ord _ _ x.atom).zero, (cmpI_ord _ _ 0).zero, flagZ_inj]
    cases x; cases y
    simp [and_comm]
  · exact or_trans Tm.cmp_ord fun h k => (cmpI_ord _ _ _).trans h k
abbrev Tm.sv (x : Tm) : SV := .agg [.str x.name, .arr (x.args.map Tm.d)]
mutual
def Tm.o : Tm → List OT
  | .mk name args => [.str name, .ow (Tm.os args)]
def Tm.os : List Tm → List (List OT)
  | [] => []
  | x :: xs => Tm.o x :: Tm.os xs
end
theorem Tm.os_eq : ∀ xs : List Tm, Tm.os xs = xs.map Tm.o
  | [] => rfl
  | x :: xs => by rw [Tm.os, Tm.os_eq xs]; rfl
theorem Tm.o_eq (x : Tm) : Tm.o x = [.str x.name, .ow (x.args.map Tm.o)] := by
  obtain ⟨name, args⟩ := x
  rw [Tm.o, Tm.os_eq]; rfl
theorem Tm.ers_of : ∀ xs : List Tm, (∀ x ∈ xs, OT.ers (Tm.o x) = Tm.d x) → OT.erss (xs.map Tm.o) = xs.map Tm.d
  | [], _ => rfl
  | x :: xs, h => by
    simp only [List.map_cons, OT.erss]
    rw [h x (by simp), Tm.ers_of xs fun y hy => h y (by simp [hy])]
theorem Tm.er (x : Tm) : OT.ers (Tm.o x) = Tm.d x := by
  have h := Tm.ers_of x.args fun y hy => Tm.er y
  rw [Tm.o_eq, Tm.d_eq]
  simp only [OT.ers, OT.er, h]
termination_by SizeOf.sizeOf x
decreasing_by exact Tm.lt_of_mem hy
theorem Tm.erss (xs : List Tm) : OT.erss (xs.map Tm.o) = xs.map Tm.d := Tm.ers_of xs fun x _ => Tm.er x
theorem Tm.nos_of : ∀ xs : List Tm, (∀ x ∈ xs, OT.noShs (Tm.o x) = true) → OT.noShss (xs.map Tm.o) = true
  | [], _ => rfl
  | x :: xs, h => by
    simp only [List.map_cons, OT.noShss]
    rw [h x (by simp), Tm.nos_of xs fun y hy => h y (by simp [hy])]; rfl
theorem Tm.no (x : Tm) : OT.noShs (Tm.o x) = true := by
  have h := Tm.nos_of x.args fun y hy => Tm.no y
  rw [Tm.o_eq]
  simp only [OT.noShs, OT.noSh, h, Bool.and_self, Bool.and_true]
termination_by SizeOf.sizeOf x
decreasing_by exact Tm.lt_of_mem hy
theorem Tm.noss (xs : List Tm) : OT.noShss (xs.map Tm.o) = true := Tm.nos_of xs fun x _ => Tm.no x
abbrev Tm.osv (x : Tm) : SV := .agg [.str x.name, .ref 0]
abbrev Tm.obs (x : Tm) : List Ob := [.row 68 2 (x.args.map Tm.o)]
abbrev Lt.sv (x : Lt) : SV := .agg [.bool x.pos, .str x.atom.name, .arr (x.atom.args.map Tm.d)]
def Lt.o (x : Lt) : List OT := [.bool x.pos, .str x.atom.name, .ow (x.atom.args.map Tm.o)]
theorem Lt.o_eq (x : Lt) : Lt.o x = [.bool x.pos, .str x.atom.name, .ow (x.atom.args.map Tm.o)] := rfl
theorem Lt.er (x : Lt) : OT.ers (Lt.o x) = Lt.d x := by
  simp only [Lt.o, Lt.d, OT.ers, OT.er, Tm.erss]
theorem Lt.erss : ∀ xs : List Lt, OT.erss (xs.map Lt.o) = xs.map Lt.d
  | [] => rfl
  | x :: xs => by simp only [List.map_cons, OT.erss, Lt.er, Lt.erss xs]
theorem Lt.no (x : Lt) : OT.noShs (Lt.o x) = true := by
  simp only [Lt.o, OT.noShs, OT.noSh, Tm.noss, Bool.and_self, Bool.and_true]
theorem Lt.noss : ∀ xs : List Lt, OT.noShss (xs.map Lt.o) = true
  | [] => rfl
  | x :: xs => by simp only [List.map_cons, OT.noShss, Lt.no, Lt.noss xs, Bool.and_self]
abbrev Lt.osv (x : Lt) : SV := .agg [.bool x.pos, .str x.atom.name, .ref 0]
abbrev Lt.obs (x : Lt) : List Ob := [.row 68 2 (x.atom.args.map Tm.o)]
abbrev Cl.sv (x : Cl) : SV := .agg [.arr (x.lits.map Lt.d)]
def Cl.o (x : Cl) : List OT := [.ow (x.lits.map Lt.o)]
theorem Cl.o_eq (x : Cl) : Cl.o x = [.ow (x.lits.map Lt.o)] := rfl
theorem Cl.er (x : Cl) : OT.ers (Cl.o x) = Cl.d x := by
  simp only [Cl.o, Cl.d, OT.ers, OT.er, Lt.erss]
theorem Cl.erss : ∀ xs : List Cl, OT.erss (xs.map Cl.o) = xs.map Cl.d
  | [] => rfl
  | x :: xs => by simp only [List.map_cons, OT.erss, Cl.er, Cl.erss xs]
theorem Cl.no (x : Cl) : OT.noShs (Cl.o x) = true := by
  simp only [Cl.o, OT.noShs, OT.noSh, Lt.noss, Bool.and_self, Bool.and_true]
theorem Cl.noss : ∀ xs : List Cl, OT.noShss (xs.map Cl.o) = true
  | [] => rfl
  | x :: xs => by simp only [List.map_cons, OT.noShss, Cl.no, Cl.noss xs, Bool.and_self]
abbrev Cl.osv (x : Cl) : SV := .agg [.ref 0]
abbrev Cl.obs (x : Cl) : List Ob := [.row 74 3 (x.lits.map Lt.o)]
abbrev Bd.sv (x : Bd) : SV := .agg [.str x.var, .str x.term.name, .arr (x.term.args.map Tm.d)]
def Bd.o (x : Bd) : List OT := [.str x.var, .str x.term.name, .ow (x.term.args.map Tm.o)]
theorem Bd.o_eq (x : Bd) : Bd.o x = [.str x.var, .str x.term.name, .ow (x.term.args.map Tm.o)] := rfl
theorem Bd.er (x : Bd) : OT.ers (Bd.o x) = Bd.d x := by
  simp only [Bd.o, Bd.d, OT.ers, OT.er, Tm.erss]
theorem Bd.erss : ∀ xs : List Bd, OT.erss (xs.map Bd.o) = xs.map Bd.d
  | [] => rfl
  | x :: xs => by simp only [List.map_cons, OT.erss, Bd.er, Bd.erss xs]
theorem Bd.no (x : Bd) : OT.noShs (Bd.o x) = true := by
  simp only [Bd.o, OT.noShs, OT.noSh, Tm.noss, Bool.and_self, Bool.and_true]
theorem Bd.noss : ∀ xs : List Bd, OT.noShss (xs.map Bd.o) = true
  | [] => rfl
  | x :: xs => by simp only [List.map_cons, OT.noShss, Bd.no, Bd.noss xs, Bool.and_self]
abbrev Bd.osv (x : Bd) : SV := .agg [.str x.var, .str x.term.name, .ref 0]
abbrev Bd.obs (x : Bd) : List Ob := [.row 68 2 (x.term.args.map Tm.o)]
abbrev Sb.sv (x : Sb) : SV := .agg [.arr (x.binds.map Bd.d)]
def Sb.o (x : Sb) : List OT := [.ow (x.binds.map Bd.o)]
theorem Sb.o_eq (x : Sb) : Sb.o x = [.ow (x.binds.map Bd.o)] := rfl
theorem Sb.er (x : Sb) : OT.ers (Sb.o x) = Sb.d x := by
  simp only [Sb.o, Sb.d, OT.ers, OT.er, Bd.erss]
theorem Sb.erss : ∀ xs : List Sb, OT.erss (xs.map Sb.o) = xs.map Sb.d
  | [] => rfl
  | x :: xs => by simp only [List.map_cons, OT.erss, Sb.er, Sb.erss xs]
theorem Sb.no (x : Sb) : OT.noShs (Sb.o x) = true := by
  simp only [Sb.o, OT.noShs, OT.noSh, Bd.noss, Bool.and_self, Bool.and_true]
theorem Sb.noss : ∀ xs : List Sb, OT.noShss (xs.map Sb.o) = true
  | [] => rfl
  | x :: xs => by simp only [List.map_cons, OT.noShss, Sb.no, Sb.noss xs, Bool.and_self]
abbrev Sb.osv (x : Sb) : SV := .agg [.ref 0]
abbrev Sb.obs (x : Sb) : List Ob := [.row 70 3 (x.binds.map Bd.o)]
end Go.Proofs.YtibdknkacmimgaaGreat
set_option maxRecDepth 100000
namespace Go.Proofs.YtibdknkacmimgaaGreat
open Go.Shelf
def so_SortL_ren : Go.Shelf.Ren := ⟨fun | 6 => 75 | 15 => 97 | 14 => 96 | 28 => 116 | 29 => 117 | 20 => 108 | 21 => 109 | 22 => 110 | 23 => 111 | 24 => 112 | 25 => 113 | 26 => 114 | 27 => 115 | 46 => 120 | 47 => 121 | 48 => 122 | 49 => 123 | 50 => 124 | 57 => 125 | n => n, fun | 22 => 30 | 24 => 74 | 25 => 75 | 3 => 3 | 39 => 115 | 0 => 0 | 53 => 133 | 55 => 135 | 4 => 4 | 46 => 127 | 45 => 126 | 50 => 121 | 5 => 5 | 9 => 9 | 66 => 138 | 70 => 142 | 76 => 144 | 77 => 145 | n => n, fun | n => n⟩
theorem so_SortL : Go.Proofs.SlLaysF0.n6 Tryz.prog so_SortL_ren := {
  mixed := by kernel_rfl,
  f6 := ⟨Tryz.f75.name, by decide, Tryz.func75.trans (congrArg some (by kernel_rfl))⟩,
  f14 := ⟨Tryz.f96.name, by decide, Tryz.func96.trans (congrArg some (by kernel_rfl))⟩,
  f15 := Tryz.func97.trans (congrArg some (by kernel_rfl)),
  f20 := ⟨Tryz.f108.name, by decide, Tryz.func108.trans (congrArg some (by kernel_rfl))⟩,
  f21 := ⟨Tryz.f109.name, by decide, Tryz.func109.trans (congrArg some (by kernel_rfl))⟩,
  f22 := ⟨Tryz.f110.name, by decide, Tryz.func110.trans (congrArg some (by kernel_rfl))⟩,
  f23 := ⟨Tryz.f111.name, by decide, Tryz.func111.trans (congrArg some (by kernel_rfl))⟩,
  f24 := ⟨Tryz.f112.name, by decide, Tryz.func112.trans (congrArg some (by kernel_rfl))⟩,
  f25 := ⟨Tryz.f113.name, by decide, Tryz.func113.trans (congrArg some (by kernel_rfl))⟩,
  f26 := ⟨Tryz.f114.name, by decide, Tryz.func114.trans (congrArg some (by kernel_rfl))⟩,
  f27 := ⟨Tryz.f115.name, by decide, Tryz.func115.trans (congrArg some (by kernel_rfl))⟩,
  f28 := Tryz.func116.trans (congrArg some (by kernel_rfl)),
  f29 := Tryz.func117.trans (congrArg some (by kernel_rfl)),
  f46 := ⟨Tryz.f120.name, by decide, Tryz.func120.trans (congrArg some (by kernel_rfl))⟩,
  f47 := Tryz.func121.trans (congrArg some (by kernel_rfl)),
  f48 := Tryz.func122.trans (congrArg some (by kernel_rfl)),
  f49 := ⟨Tryz.f123.name, by decide, Tryz.func123.trans (congrArg some (by kernel_rfl))⟩,
  f50 := ⟨Tryz.f124.name, by decide, Tryz.func124.trans (congrArg some (by kernel_rfl))⟩,
  f57 := ⟨Tryz.f125.name, by decide, Tryz.func125.trans (congrArg some (by kernel_rfl))⟩,
  t0 := Tryz.underlying0,
  a0 := Tryz.isAgg0,
  z0 := Tryz.sizeOf0,
  v0 := Tryz.zeroValue0,
  t3 := Tryz.underlying3,
  a3 := Tryz.isAgg3,
  z3 := Tryz.sizeOf3,
  v3 := Tryz.zeroValue3,
  t4 := Tryz.underlying4,
  a4 := Tryz.isAgg4,
  z4 := Tryz.sizeOf4,
  v4 := Tryz.zeroValue4,
  t5 := Tryz.underlying5,
  a5 := Tryz.isAgg5,
  z5 := Tryz.sizeOf5,
  v5 := Tryz.zeroValue5,
  t9 := Tryz.underlying9,
  a9 := Tryz.isAgg9,
  z9 := Tryz.sizeOf9,
  v9 := Tryz.zeroValue9,
  t22 := Tryz.underlying30,
  a22 := Tryz.isAgg30,
  z22 := Tryz.sizeOf30,
  v22 := Tryz.zeroValue30,
  t25 := Tryz.underlying75,
  a25 := Tryz.isAgg75,
  z25 := Tryz.sizeOf75,
  v25 := Tryz.zeroValue75,
  t39 := Tryz.underlying115,
  a39 := Tryz.isAgg115,
  z39 := Tryz.sizeOf115,
  v39 := Tryz.zeroValue115,
  t45 := Tryz.underlying126,
  a45 := Tryz.isAgg126,
  z45 := Tryz.sizeOf126,
  v45 := Tryz.zeroValue126,
  t46 := Tryz.underlying127,
  a46 := Tryz.isAgg127,
  z46 := Tryz.sizeOf127,
  v46 := Tryz.zeroValue127,
  t50 := Tryz.underlying121,
  a50 := Tryz.isAgg121,
  z50 := Tryz.sizeOf121,
  v50 := Tryz.zeroValue121,
  t53 := Tryz.underlying133,
  a53 := Tryz.isAgg133,
  z53 := Tryz.sizeOf133,
  v53 := Tryz.zeroValue133,
  t55 := Tryz.underlying135,
  a55 := Tryz.isAgg135,
  z55 := Tryz.sizeOf135,
  v55 := Tryz.zeroValue135,
  t66 := Tryz.underlying138,
  a66 := Tryz.isAgg138,
  z66 := Tryz.sizeOf138,
  v66 := Tryz.zeroValue138,
  t70 := Tryz.underlying142,
  a70 := Tryz.isAgg142,
  z70 := Tryz.sizeOf142,
  v70 := Tryz.zeroValue142,
  t76 := Tryz.underlying144,
  a76 := Tryz.isAgg144,
  z76 := Tryz.sizeOf144,
  v76 := Tryz.zeroValue144,
  t77 := Tryz.underlying145,
  a77 := Tryz.isAgg145,
  z77 := Tryz.sizeOf145,
  v77 := Tryz.zeroValue145 }
end Go.Proofs.YtibdknkacmimgaaGreat
set_option maxRecDepth 100000
set_option linter.unusedSimpArgs false
set_option linter.unusedVariables false
set_option linter.unusedSectionVars false
namespace Go.Proofs.YtibdknkacmimgaaGreat
open Go.RowKit Go.Shelf Go.Lib Go.Sort
mutual
theorem Tm.o_inj : ∀ x y : Tm, Tm.o x = Tm.o y → x = y
  | .mk n xs, .mk m ys, h => by
    rw [Tm.o_eq, Tm.o_eq] at h
    simp only [List.cons.injEq, OT.str.injEq, OT.ow.injEq, and_true] at h
    have h1 : n = m := h.1
    rw [h1, Tm.os_inj xs ys h.2]
theorem Tm.os_inj : ∀ xs ys : List Tm, xs.map Tm.o = ys.map Tm.o → xs = ys
  | [], [], _ => rfl
  | [], y :: ys, h => by simp at h
  | x :: xs, [], h => by simp at h
  | x :: xs, y :: ys, h => by
    simp only [List.map_cons, List.cons.injEq] at h
    rw [Tm.o_inj x y h.1, Tm.os_inj xs ys h.2]
end
theorem Lt.o_inj (x y : Lt) (h : Lt.o x = Lt.o y) : x = y := by
  rw [Lt.o_eq, Lt.o_eq] at h
  simp only [List.cons.injEq, OT.bool.injEq, OT.str.injEq, OT.ow.injEq, and_true] at h
  obtain ⟨p, ⟨n, xs⟩⟩ := x
  obtain ⟨q, ⟨m, ys⟩⟩ := y
  obtain ⟨h1, h2, h3⟩ := h
  have h1 : p = q := h1
  have h2 : n = m := h2
  rw [h1, h2, Tm.os_inj xs ys h3]
theorem Lt.os_inj : ∀ {xs ys : List Lt}, xs.map Lt.o = ys.map Lt.o → xs = ys
  | [], [], _ => rfl
  | [], y :: ys, h => by simp at h
  | x :: xs, [], h => by simp at h
  | x :: xs, y :: ys, h => by
    simp only [List.map_cons, List.cons.injEq] at h
    rw [Lt.o_inj x y h.1, Lt.os_inj h.2]
theorem lfu_of : ∀ xs : List Tm, (∀ x ∈ xs, OT.fulls (Tm.o x) = true) → OT.fullss (xs.map Tm.o) = true
  | [], _ => rfl
  | x :: xs, h => by
    simp only [List.map_cons, OT.fullss]
    rw [h x (by simp), lfu_of xs fun y hy => h y (by simp [hy])]; rfl
theorem lfu (x : Tm) : OT.fulls (Tm.o x) = true := by
  have h := lfu_of x.args fun y hy => lfu y
  rw [Tm.o_eq]
  simp only [OT.fulls, OT.full, h, Bool.and_self, Bool.and_true]
termination_by SizeOf.sizeOf x
decreasing_by exact Tm.lt_of_mem hy
noncomputable def unL (es : List (List OT)) : List Lt := match Classical.propDecidable (∃ xs : List Lt, es = xs.map Lt.o) with
  | .isTrue h => Classical.choose h
  | .isFalse _ => []
theorem unL_map (xs : List Lt) : unL (xs.map Lt.o) = xs := by
  unfold unL
  split
  · rename_i h _
    exact (Lt.os_inj (Classical.choose_spec h)).symm
  · rename_i h _
    exact absurd ⟨xs, rfl⟩ h
theorem Lt.cmp_le_trans {x y z : Lt} (h : x.cmp y ≤ 0) (k : y.cmp z ≤ 0) : x.cmp z ≤ 0 := by
  by_cases h0 : x.cmp y = 0
  · rw [(Lt.cmp_ord x y z).zero.1 h0]; exact k
  · by_cases k0 : y.cmp z = 0
    · rw [← (Lt.cmp_ord y z z).zero.1 k0]; exact h
    · have := (Lt.cmp_ord x y z).trans (by omega) (by omega)
      omega
noncomputable def srtL (xs : List Lt) : List Lt := xs.mergeSort fun x y => decide (x.cmp y ≤ 0)
def SortedL (xs : List Lt) : Prop := xs.Pairwise fun x y => x.cmp y ≤ 0
theorem sortedL_uniq : ∀ {xs ys : List Lt}, xs.Perm ys → SortedL xs → SortedL ys → xs = ys
  | [], ys, h, _, _ => (List.nil_perm.1 h).symm
  | x :: xs, [], h, _, _ => by simp at h
  | x :: xs, y :: ys, h, h1, h2 => by
    have hx : x.cmp y ≤ 0 := by
      have hm : y ∈ x :: xs := h.mem_iff.2 (by simp)
      rcases List.mem_cons.1 hm with e | hm
      · subst e
        have := (Lt.cmp_ord y y y).zero.2 rfl
        omega
      · exact (List.pairwise_cons.1 h1).1 y hm
    have hy : y.cmp x ≤ 0 := by
      have hm : x ∈ y :: ys := h.mem_iff.1 (by simp)
      rcases List.mem_cons.1 hm with e | hm
      · subst e
        have := (Lt.cmp_ord x x x).zero.2 rfl
        omega
      · exact (List.pairwise_cons.1 h2).1 x hm
    have ha := (Lt.cmp_ord x y y).anti
    have e : x = y := (Lt.cmp_ord x y y).zero.1 (by omega)
    subst e
    rw [sortedL_uniq ((List.perm_cons x).1 h) (List.pairwise_cons.1 h1).2 (List.pairwise_cons.1 h2).2]
theorem srtL_perm (xs : List Lt) : (srtL xs).Perm xs := List.mergeSort_perm _ _
theorem srtL_sorted (xs : List Lt) : SortedL (srtL xs) := by
  have h := List.pairwise_mergeSort (le := fun x y : Lt => decide (x.cmp y ≤ 0)) (fun a b c h k => by
    simp only [decide_eq_true_eq] at h k ⊢
    exact Lt.cmp_le_trans h k) (fun a b => by
    have := (Lt.cmp_ord a b b).anti
    simp only [Bool.or_eq_true, decide_eq_true_eq]
    omega) xs
  exact h.imp fun h => by simpa using h
theorem nlive (g : Nat) : ¬ (geto ([] : List Ob) g).live := fun h => by
  have e : geto ([] : List Ob) g = .free := rfl
  rw [e] at h
  exact h
theorem wf_none {W : World} {J : Nat → Prop} (h : ∀ b, J b → b < W.heap.size) (hg : GL W J) : Wf W J (fun _ => none) (fun _ _ => False) (geto []) :=
  ⟨h, fun g hl => (nlive g hl).elim, fun g b hl => (nlive g hl).elim, fun g b hl => (nlive g hl).elim, fun g g' b hl => (nlive g hl).elim, fun g _ => rfl, hg⟩
theorem grown_of {W w' : World} (h : Below W.heap.size W w') (hd : W.drawn ≤ w'.drawn) : ∃ q os', w' = Sort.grow (W.drewN q) os' := by
  obtain ⟨⟨d, os⟩, e⟩ := regrown_of_below h
  refine ⟨d - W.drawn, os, ?_⟩
  have hd' : w'.drawn = d := by rw [e]; rfl
  have e2 : redrawn W d = W.drewN (d - W.drawn) := by
    unfold redrawn World.drewN
    rw [show W.drawn + (d - W.drawn) = d by omega]
  rw [e]
  show Sort.grow (redrawn W d) os = _
  rw [e2]
theorem fun_below [Flag] {f : FuncId} {x y z : SV} (hF : Fun Tryz.prog f [x, y] [] z []) {W : World} {J : Nat → Prop} (hJ : ∀ b, J b → b < W.heap.size) (hg : GL W J) {vx vy : Value} (hx : RepV W J (fun _ => none) x vx) (hy : RepV W J (fun _ => none) y vy) :
    Calls Tryz.prog f #[vx, vy] W fun e w' => (∃ v I' V', e = .returned v ∧ RepV w' I' V' z v) ∧ Below W.heap.size W w' ∧ (Flag.d → W.drawn ≤ w'.drawn) := by
  have h := hF W J (fun _ => none) (fun _ _ => False) [vx, vy] (wf_none hJ hg) (by simp only [RepVs]; exact ⟨vx, _, rfl, hx, vy, _, rfl, hy, rfl⟩)
  refine h.mono ?_
  rintro e w' ⟨v, I', V', B', rfl, hr, hp⟩
  exact ⟨⟨v, I', V', rfl, hr⟩, ⟨hp.fr.os, hp.fr.tape.1, hp.fr.output, hp.fr.size, fun b hb => hp.fr.block b hb fun ⟨g, hl, _⟩ => nlive g hl⟩, hp.fr.tape.2⟩
theorem funD_at {f : FuncId} {x y : SV} {z : Int} (hF : FunD Tryz.prog f [x, y] [] (.int .i64 z) []) {W : World} {J : Nat → Prop} (hJ : ∀ b, J b → b < W.heap.size) (hg : GL W J) {vx vy : Value} (hx : RepV W J (fun _ => none) x vx) (hy : RepV W J (fun _ => none) y vy) :
    Calls Tryz.prog f #[vx, vy] W fun e w' => e = .returned (.int .i64 z) ∧ ∃ q os', w' = Sort.grow (W.drewN q) os' := by
  refine (@fun_below flagYes f x y _ hF W J hJ hg vx vy hx hy).mono ?_
  rintro e w' ⟨⟨v, I', V', rfl, hr⟩, hb, hd⟩
  simp only [RepV] at hr
  subst hr
  exact ⟨rfl, grown_of hb (hd trivial)⟩
theorem fun_at {f : FuncId} {x y : SV} {z : Bool} (hF : Fun Tryz.prog f [x, y] [] (.bool z) []) {W : World} {J : Nat → Prop} (hJ : ∀ b, J b → b < W.heap.size) (hg : GL W J) {vx vy : Value} (hx : RepV W J (fun _ => none) x vx) (hy : RepV W J (fun _ => none) y vy) :
    Calls Tryz.prog f #[vx, vy] W (Ret W (.bool z)) := by
  refine (fun_below hF hJ hg hx hy).mono ?_
  rintro e w' ⟨⟨v, I', V', rfl, hr⟩, hb, _⟩
  simp only [RepV] at hr
  subst hr
  exact ⟨rfl, hb⟩
theorem ext_all {α : Type} (d : Array α) (n : Nat) (h : d.size = n) : d.extract 0 n = d := by
  subst h
  exact Array.extract_size
theorem lit_at {w : World} {I S : Nat → Prop} {b : Nat} {cur : Array Value} {Sub : Nat → Nat → Nat → Prop} {xs : List Lt}
    (h5 : ∀ i j x, Sub i j x → S x ∧ x ≠ b) (h7 : ∀ i j (h : i < (xs.map Lt.o).length) (h' : j < (xs.map Lt.o)[i].length), ORep w I (Sub i j) ((xs.map Lt.o)[i][j]) (cur.getD (i * 3 + j) undef)) (i : Nat) (hi : i < xs.length) :
    ∃ (a : Option Addr) (l c : Nat), cur.getD (i * 3 + 0) undef = .bool xs[i].pos ∧ cur.getD (i * 3 + 1) undef = .string xs[i].atom.name ∧ cur.getD (i * 3 + 2) undef = .slice a l c ∧
      RepV w (fun x => I x ∨ (S x ∧ x ≠ b)) (fun _ => none) xs[i].sv (.agg #[.bool xs[i].pos, .string xs[i].atom.name, .slice a l c]) := by
  have hi' : i < (xs.map Lt.o).length := by simpa using hi
  have he : (xs.map Lt.o)[i] = [.bool xs[i].pos, .str xs[i].atom.name, .ow (xs[i].atom.args.map Tm.o)] := by rw [List.getElem_map, Lt.o_eq]
  have l0 := h7 i 0 hi' (by rw [he]; simp)
  have l1 := h7 i 1 hi' (by rw [he]; simp)
  have l2 := h7 i 2 hi' (by rw [he]; simp)
  simp only [he, List.getElem_cons_zero, List.getElem_cons_succ] at l0 l1 l2
  obtain ⟨a, l, c, e2⟩ := l2.owV
  have e0 : cur.getD (i * 3 + 0) undef = .bool xs[i].pos := by cases h : cur.getD (i * 3 + 0) undef <;> rw [h] at l0 <;> cases l0 <;> rfl
  have e1 : cur.getD (i * 3 + 1) undef = .string xs[i].atom.name ∧ xs[i].atom.name.size ≤ 9223372036854775807 := by
    cases h : cur.getD (i * 3 + 1) undef <;> rw [h] at l1 <;> cases l1
    exact ⟨rfl, by assumption⟩
  refine ⟨a, l, c, e0, e1.1, e2, ?_⟩
  rw [e2] at l2
  have hd := l2.er (T := fun x => I x ∨ (S x ∧ x ≠ b)) (fun x hx => .inr (h5 _ _ _ hx)) (fun x hx => .inl hx) (by
    simp only [OT.full]
    exact lfu_of _ fun y _ => lfu y)
  simp only [OT.er, Tm.erss] at hd
  simp only [RepV, RepVs]
  exact ⟨_, rfl, _, _, rfl, rfl, _, _, rfl, ⟨rfl, e1.2⟩, _, _, rfl, hd, rfl⟩
noncomputable def sortLit (xs : List SV) (ob : List Ob) : Option (SV × List Ob) :=
  match xs, ob with
  | [.ref 0, .fn f []], [.row t sz es] => bif dec (f = 43 ∧ sz = 3 ∧ es.length ≤ 1099511627776 ∧ ∃ xs : List Lt, es = xs.map Lt.o ∧ ∀ x ∈ xs, ∀ y ∈ xs, FunD Tryz.prog f [x.sv, y.sv] [] (.int .i64 (x.cmp y)) []) then some (.tup [], [.row t sz ((srtL (unL es)).map Lt.o)]) else none
  | [.nil, .fn f []], [] => bif dec (f = 43) then some (.tup [], []) else none
  | _, _ => none
theorem swoL (n : Nat) (key : _root_.Fin n → Lt) : SWO (ltOf fun x y => (key x).cmp (key y)) := by
  refine ⟨fun x => ?_, fun x y z h k => ?_, fun x y z h k => ?_⟩
  · show decide ((key x).cmp (key x) < 0) = false
    rw [(Lt.cmp_ord (key x) (key x) (key x)).zero.2 rfl]; rfl
  · unfold ltOf at *
    simp only [decide_eq_true_eq] at *
    exact (Lt.cmp_ord _ _ _).trans h k
  · unfold ltOf at *
    simp only [decide_eq_false_iff_not] at *
    have a1 := (Lt.cmp_ord (key x) (key y) (key y)).anti
    have a2 := (Lt.cmp_ord (key y) (key z) (key z)).anti
    have a3 := (Lt.cmp_ord (key x) (key z) (key z)).anti
    have := Lt.cmp_le_trans (x := key z) (y := key y) (z := key x) (by omega) (by omega)
    omega
set_option maxHeartbeats 4000000 in
theorem sortLit_told {xs : List SV} {ob : List Ob} {r : SV} {ob' : List Ob} (h : sortLit xs ob = some (r, ob')) : Fun Tryz.prog 75 xs ob r ob' := by
  unfold sortLit at h
  split at h
  · rename_i f t sz es
    obtain ⟨h1, h2⟩ := bif_some h
    obtain ⟨rfl, rfl, hk3, xs, rfl, hF⟩ := dec_iff.1 h1
    simp only [Option.some.injEq, Prod.mk.injEq] at h2
    obtain ⟨rfl, rfl⟩ := h2
    rw [unL_map]
    rw [List.length_map] at hk3
    intro w I V B vs hwf hvs
    obtain ⟨v, q, rfl, hv, hvs⟩ := args_cons hvs
    obtain ⟨v2, q, rfl, hv2, hvs⟩ := args_cons hvs
    obtain rfl := args0 hvs
    simp only [RepV] at hv hv2
    obtain ⟨vs2, rfl, hv2⟩ := hv2
    simp only [RepVs] at hv2
    subst hv2
    obtain ⟨val, hval, hrow⟩ := hwf.obj 0 trivial
    rw [hv.1] at hval
    obtain rfl := Option.some.inj hval
    have hv0 := hv.1
    have hrow : RowR w I (B 0) t 3 (xs.map Lt.o) v := hrow
    rcases Nat.eq_zero_or_pos xs.length with h0 | h0
    · have he : xs = [] := List.eq_nil_of_length_eq_zero h0
      subst he
      obtain ⟨a, c, rfl, _⟩ := hrow.form
      have hcon := AnyF.slices_SortFunc_none so_SortL a c (.func (.func 43) #[] #[]) w
      change Calls Tryz.prog 75 _ _ _ at hcon
      refine hcon.mono ?_
      rintro e w' ⟨rfl, rfl⟩
      have e0 : srtL [] = [] := List.mergeSort_nil
      rw [e0]
      exact ⟨_, I, V, B, rfl, by simp only [RepV, RepVs]; exact ⟨[], rfl, rfl⟩, row_same hwf⟩
    · rcases hrow with ⟨he, _⟩ | ⟨b, cap, cur, Sub, rfl, hs, hb, g1, g2, g3, g4, g5, g6, g7⟩
      · simp only [List.map_eq_nil_iff] at he
        subst he; simp at h0
      have hblt := (Array.getElem?_eq_some_iff.1 hb).1
      have view := fun i hi => lit_at (xs := xs) (S := B 0) g5 g7 i hi
      rw [List.length_map] at g1
      haveI : Inhabited (_root_.Fin xs.length) := ⟨⟨0, h0⟩⟩
      let cell : Nat → Nat → Value := fun i j => cur.getD (i * 3 + j) undef
      let enc : _root_.Fin xs.length → List Value := fun i => [cell i 0, cell i 1, cell i 2]
      let d : Array (_root_.Fin xs.length) := (List.finRange xs.length).toArray
      have hdsz : d.size = xs.length := by simp [d]
      have hdget : ∀ i (hi : i < xs.length), d[i]! = ⟨i, hi⟩ := fun i hi => by
        rw [getElem!_pos d i (by rw [hdsz]; exact hi)]
        simp [d]
      have hJb : ∀ x, (I x ∨ (B 0 x ∧ x ≠ b)) → x ≠ b := fun x hx => by
        rcases hx with hx | hx
        · intro e; subst e; exact hwf.dI 0 x trivial hs hx
        · exact hx.2
      have hJl : ∀ x, (I x ∨ (B 0 x ∧ x ≠ b)) → x < w.heap.size := fun x hx => by
        rcases hx with hx | hx
        · exact hwf.ilt x hx
        · exact hwf.lt 0 x trivial hx.1
      have forms : ∀ i : _root_.Fin xs.length, ∃ (a : Option Addr) (l c : Nat), enc i = [.bool xs[i].pos, .string xs[i].atom.name, .slice a l c] ∧ RepV w (fun x => I x ∨ (B 0 x ∧ x ≠ b)) (fun _ => none) xs[i].sv (.agg #[.bool xs[i].pos, .string xs[i].atom.name, .slice a l c]) := fun i => by
        obtain ⟨a, l, c, e0, e1, e2, hr⟩ := view i i.2
        refine ⟨a, l, c, ?_, hr⟩
        show [cell i 0, cell i 1, cell i 2] = _
        rw [show cell i 0 = _ from e0, show cell i 1 = _ from e1, show cell i 2 = _ from e2]
        rfl
      have hlen : ∀ x, (enc x).length = 3 := fun _ => rfl
      have hone : ∀ x, ∀ v ∈ enc x, v.oneCell' = true := fun x v hv => by
        obtain ⟨a, l, c, e, _⟩ := forms x
        rw [e] at hv
        simp only [List.mem_cons, List.not_mem_nil, or_false] at hv
        rcases hv with rfl | rfl | rfl <;> rfl
      have hH : HoldsK enc 3 w b 0 d := by
        intro j hj
        rw [size_flatK] at hj
        have hq : j / 3 < d.size := by omega
        have hq' : j / 3 < xs.length := by rw [← hdsz]; exact hq
        have hlt : j < cur.size := by rw [g3]; have := Nat.mul_le_mul_right 3 g1; omega
        refine ⟨?_, ?_⟩
        · rw [Nat.zero_add, cell_of_row w b _ _ _ _ hb, get_flatK enc 3 d j hj, hdget _ hq']
          show cur[j]? = some ([cell (j / 3) 0, cell (j / 3) 1, cell (j / 3) 2][j % 3]!)
          have hm : j % 3 = 0 ∨ j % 3 = 1 ∨ j % 3 = 2 := by omega
          have e : cur[j]? = some (cell (j / 3) (j % 3)) := by
            show cur[j]? = some (cur.getD (j / 3 * 3 + j % 3) undef)
            rw [show j / 3 * 3 + j % 3 = j by omega, Array.getElem?_eq_getElem hlt]
            simp [Array.getD_eq_getD_getElem?, hlt]
          rw [e]
          rcases hm with hm | hm | hm <;> rw [hm] <;> rfl
        · unfold World.frozen?
          rw [hb]
          simp
      have hcmp : CmpLays Tryz.prog 43 #[] enc 3 (fun x y => xs[x].cmp xs[y]) b 0 d.size w := by
        intro m os dk _ x y
        obtain ⟨a, l, c, e, hrx⟩ := forms x
        obtain ⟨a', l', c', e', hry⟩ := forms y
        have hsz := size_sortWorldK_c enc 3 w b 0 m dk os
        have hk : KeepS (fun x => I x ∨ (B 0 x ∧ x ≠ b)) w (sortWorldK enc 3 w b 0 m dk os) := ⟨hsz, fun x hx hlt => by rw [sortW_heap enc 3 w b m _ os x hlt, if_neg (fun e => hJb x hx e.symm)]⟩
        have hc := funD_at (hF xs[x] (List.getElem_mem _) xs[y] (List.getElem_mem _)) (W := sortWorldK enc 3 w b 0 m dk os) (J := fun x => I x ∨ (B 0 x ∧ x ≠ b)) (fun x hx => Nat.lt_of_lt_of_le (hJl x hx) hsz) (hwf.gl.keep ⟨hsz, fun x hx hlt => hk.block x (.inl hx) hlt⟩ fun x hx => .inl hx) (RepV.mono hk (fun _ h => h) (VLe.refl _) _ _ hrx) (RepV.mono hk (fun _ h => h) (VLe.refl _) _ _ hry)
        rw [e, e']
        exact hc
      have eg : ∀ args w, (callFunc 43 args).run Tryz.prog w = .ok (.enter 43 args) w := enters_of Tryz.func43 (by kernel_rfl) rfl
      have hcon := AnyQ.slices_SortFunc so_SortL 3 Tryz.isAgg74 Tryz.sizeOf74 enc hlen hone (fun x y => xs[x].cmp xs[y]) (swoL _ fun i => xs[i]) 43 #[] b 0 cap d w eg hcmp hH hblt (by rw [hdsz]; omega)
      change Calls Tryz.prog 75 _ _ _ at hcon
      rw [hdsz] at hcon
      rw [List.length_map]
      refine hcon.mono ?_
      rintro e w' ⟨rfl, d', m, os, hp, hsd, rfl⟩
      refine ⟨_, I, V, B, rfl, by simp only [RepV, RepVs]; exact ⟨[], rfl, rfl⟩, ?_⟩
      obtain ⟨hp1, _, hp3⟩ := hp
      rw [hdsz] at hp1
      obtain ⟨L, rfl⟩ : ∃ L : List (_root_.Fin xs.length), d' = L.toArray := ⟨d'.toList, by simp⟩
      have hLp : L.Perm (List.finRange xs.length) := by
        rw [ext_all _ _ hp1, ext_all d _ hdsz] at hp3
        exact hp3
      have hLl : L.length = xs.length := by rw [hLp.length_eq]; simp
      have hLn : L.Nodup := hLp.nodup_iff.2 (List.nodup_finRange _)
      have hes : srtL xs = L.map fun i => xs[i] := by
        have e : (List.finRange xs.length).map (fun i => xs[i]) = xs := by
          apply List.ext_getElem
          · simp
          · intro i h1 h2; simp
        refine (sortedL_uniq ?_ ?_ (srtL_sorted xs)).symm
        · refine List.Perm.trans (hLp.map _) ?_
          rw [e]
          exact (srtL_perm xs).symm
        · unfold SortedL
          rw [List.pairwise_map, List.pairwise_iff_getElem]
          intro i j hi hj hij
          have := hsd i j (Nat.zero_le _) hij (by omega)
          rw [getElem!_pos L.toArray i (by simpa using hi), getElem!_pos L.toArray j (by simpa using hj)] at this
          simp only [List.getElem_toArray, ltOf, decide_eq_false_iff_not] at this
          have a1 := (Lt.cmp_ord xs[L[i]] xs[L[j]] xs[L[j]]).anti
          omega
      rw [hes]
      have hg : ∀ i (hi : i < L.length) (j : Nat), j < 3 → (putCells id 0 (flatK enc 3 L.toArray) cur).getD (i * 3 + j) undef = cell L[i] j := fun i hi j hj => by
        have := putFlat_get enc 3 L.toArray cur (i := i) (j := j) (by simpa using hi) hj (by rw [g3]; simp only [List.size_toArray, hLl]; exact Nat.mul_le_mul_right 3 g1)
        rw [this, getElem!_pos L.toArray i (by simpa using hi)]
        simp only [List.getElem_toArray]
        show [cell L[i] 0, cell L[i] 1, cell L[i] 2][j]! = _
        have hm : j = 0 ∨ j = 1 ∨ j = 2 := by omega
        rcases hm with rfl | rfl | rfl <;> rfl
      have hgrow : ∀ x, x < w.heap.size → x ≠ b → (sortWorldK enc 3 w b 0 m L.toArray os).heap[x]? = w.heap[x]? := fun x hx hne => by
        rw [sortW_heap enc 3 w b m _ os x hx, if_neg (fun e => hne e.symm)]
      have hlx : ∀ i : _root_.Fin xs.length, (Lt.o xs[i]).length = 3 := fun i => by rw [Lt.o_eq]; rfl
      refine row_new (es' := (L.map fun i => xs[i]).map Lt.o) (fun i j x => ∃ h : i < L.length, Sub (L[i]).val j x) hwf hv0 (by rw [List.length_map, List.length_map, List.length_map, hLl]) hs hb (by rw [List.length_map]; exact g1) g2 g3 (fun i hi => by rw [List.getElem_map, List.getElem_map]; exact hlx _) (fun i j x h => g5 _ _ _ h.2) (fun i j i' j' x h h' => ?_) rfl ⟨rfl, fun h => False.elim h⟩ rfl (size_sortWorldK_c enc 3 w b 0 m L.toArray os) hgrow (sortW_block enc 3 w b m L.toArray os hb) (by simp [putCells]) (fun i j hi hj => ?_)
      · obtain ⟨a1, a2⟩ := h
        obtain ⟨b1, b2⟩ := h'
        obtain ⟨c1, c2⟩ := g6 _ _ _ _ _ a2 b2
        exact ⟨(List.getElem_inj hLn).1 (_root_.Fin.ext c1), c2⟩
      · have hi' : i < L.length := by simpa using hi
        have e1 : ((L.map fun i => xs[i]).map Lt.o)[i] = (xs.map Lt.o)[(L[i]).val]'(by rw [List.length_map]; exact (L[i]).2) := by simp only [List.getElem_map]; rfl
        have hj' : j < 3 := by rw [e1] at hj; have := g4 (L[i]).val (by rw [List.length_map]; exact (L[i]).2); omega
        rw [hg i hi' j hj']
        have := g7 (L[i]).val j (by rw [List.length_map]; exact (L[i]).2) (by rw [g4]; exact hj')
        have hk : KeepS I w (sortWorldK enc 3 w b 0 m L.toArray os) := ⟨size_sortWorldK_c enc 3 w b 0 m _ os, fun x hx hlt => hgrow x hlt fun e => hwf.dI 0 x trivial (e ▸ hs) hx⟩
        have h2 := (this.keep hk (fun _ h => h) (fun x hx hlt => hgrow x hlt (g5 _ _ _ hx).2)).up (S' := fun x => ∃ h : i < L.length, Sub (L[i]).val j x) (fun x hx => ⟨hi', hx⟩)
        simp only [e1]
        exact h2
  · rename_i f
    obtain ⟨h1, h2⟩ := bif_some h
    obtain rfl := dec_iff.1 h1
    simp only [Option.some.injEq, Prod.mk.injEq] at h2
    obtain ⟨rfl, rfl⟩ := h2
    intro w I V B vs hwf hvs
    obtain ⟨v, q, rfl, hv, hvs⟩ := args_cons hvs
    obtain ⟨v2, q, rfl, hv2, hvs⟩ := args_cons hvs
    obtain rfl := args0 hvs
    simp only [RepV] at hv hv2
    obtain ⟨vs2, rfl, hv2⟩ := hv2
    simp only [RepVs] at hv2
    subst hv2 hv
    have hcon := AnyF.slices_SortFunc_none so_SortL none 0 (.func (.func 43) #[] #[]) w
    change Calls Tryz.prog 75 _ _ _ at hcon
    refine hcon.mono ?_
    rintro e w' ⟨rfl, rfl⟩
    exact ⟨_, I, V, B, rfl, by simp only [RepV, RepVs]; exact ⟨[], rfl, rfl⟩, row_same hwf⟩
  · cases h
end Go.Proofs.YtibdknkacmimgaaGreat
set_option maxRecDepth 100000
set_option linter.unusedSimpArgs false
set_option linter.unusedVariables false
set_option linter.unusedSectionVars false
namespace Go.Proofs.YtibdknkacmimgaaGreat
open Go.RowKit Go.Shelf
def keptAt (eq : Nat → Nat → Bool) (i : Nat) : Bool := i == 0 || !eq i (i - 1)
def kept (eq : Nat → Nat → Bool) (m : Nat) : List Nat := (List.range m).filter (keptAt eq)
theorem kept_succ (eq : Nat → Nat → Bool) (m : Nat) : kept eq (m + 1) = if keptAt eq m then kept eq m ++ [m] else kept eq m := by
  unfold kept
  rw [List.range_succ, List.filter_append]
  cases h : keptAt eq m <;> simp [h]
theorem kept_le (eq : Nat → Nat → Bool) (m : Nat) : (kept eq m).length ≤ m := by
  have := List.length_filter_le (keptAt eq) (List.range m)
  simpa [kept] using this
theorem kept_all {eq : Nat → Nat → Bool} {m : Nat} (h : ∀ i, i < m → keptAt eq i = true) : kept eq m = List.range m := by
  unfold kept
  exact List.filter_eq_self.2 fun i hi => h i (List.mem_range.1 hi)
structure RowOnly (w : World) (b : Nat) (t : TypeId) (cur : Array Value) (w' : World) : Prop where
  os : w'.os = w.os
  tape : w'.tape = w.tape
  output : w'.output = w.output
  size : w.heap.size ≤ w'.heap.size
  block : ∀ x, x < w.heap.size → x ≠ b → w'.heap[x]? = w.heap[x]?
  row : w'.heap[b]? = some (.cells cur t (0, 0))
structure CompI (eq : Nat → Nat → Bool) (cur : Array Value) (m kk : Nat) (cur2 : Array Value) : Prop where
  len : kk = (kept eq m).length
  lt : kk < m
  size : cur2.size = cur.size
  low : ∀ p (hp : p < (kept eq m).length) j, j < 3 → cur2.getD (p * 3 + j) undef = cur.getD ((kept eq m)[p] * 3 + j) undef
  high : ∀ {q}, kk * 3 ≤ q → cur2.getD q undef = cur.getD q undef
theorem CompI.start {eq : Nat → Nat → Bool} {cur : Array Value} {k : Nat} (h : kept eq (k + 1) = List.range k) : CompI eq cur (k + 1) k cur :=
  ⟨by rw [h]; simp, by omega, rfl, fun p hp j hj => by simp only [h, List.getElem_range], fun _ => rfl⟩
theorem CompI.skip {eq : Nat → Nat → Bool} {cur cur2 : Array Value} {m kk : Nat} (h : CompI eq cur m kk cur2) (hk : keptAt eq m = false) : CompI eq cur (m + 1) kk cur2 := by
  have e : kept eq (m + 1) = kept eq m := by rw [kept_succ, if_neg (by rw [hk]; simp)]
  exact ⟨by rw [e]; exact h.len, by have := h.lt; omega, h.size, fun p hp j hj => by simp only [e] at hp ⊢; exact h.low p hp j hj, h.high⟩
theorem RowOnly.below {w w1 w2 : World} {b : Nat} {t : TypeId} {cur : Array Value} (h : RowOnly w b t cur w1) (k : Below w1.heap.size w1 w2) (hb : b < w1.heap.size) : RowOnly w b t cur w2 :=
  ⟨k.os.trans h.os, k.tape.trans h.tape, k.output.trans h.output, Nat.le_trans h.size k.size, fun x hx hne => by rw [k.block x (Nat.lt_of_lt_of_le hx h.size), h.block x hx hne], by rw [k.block b hb]; exact h.row⟩
theorem rowFree {w : World} {b : Nat} {cur : Array Value} {t : TypeId} (hb : w.heap[b]? = some (.cells cur t (0, 0))) (o : Nat) : w.frozen? ⟨b, o, none⟩ = false := by
  unfold World.frozen?
  rw [hb]
  simp
theorem cellB {w : World} {b : Nat} {cur : Array Value} {t : TypeId} (hb : w.heap[b]? = some (.cells cur t (0, 0))) {i j : Nat} (hlt : i * 3 + j < cur.size) : w.cell? ⟨b, i * 3 + j, none⟩ = some cur[i * 3 + j] := by
  unfold World.cell?
  simp only [hb, Option.isSome_none, if_false]
  rw [Array.getElem?_eq_getElem hlt]
  rfl
theorem CompI.keep {eq : Nat → Nat → Bool} {cur cur2 : Array Value} {m kk : Nat} (h : CompI eq cur m kk cur2) (hk : keptAt eq m = true) (hs : kk * 3 + 2 < cur2.size) {v0 v1 v2 : Value} (e0 : cur.getD (m * 3 + 0) undef = v0) (e1 : cur.getD (m * 3 + 1) undef = v1) (e2 : cur.getD (m * 3 + 2) undef = v2) :
    CompI eq cur (m + 1) (kk + 1) (((cur2.setIfInBounds (kk * 3) v0).setIfInBounds (kk * 3 + 1) v1).setIfInBounds (kk * 3 + 2) v2) := by
  have e : kept eq (m + 1) = kept eq m ++ [m] := by rw [kept_succ, if_pos hk]
  have hl := h.len
  have hget : ∀ q, (((cur2.setIfInBounds (kk * 3) v0).setIfInBounds (kk * 3 + 1) v1).setIfInBounds (kk * 3 + 2) v2).getD q undef = if q = kk * 3 + 2 then v2 else if q = kk * 3 + 1 then v1 else if q = kk * 3 then v0 else cur2.getD q undef := fun q => by
    simp only [Array.getD_eq_getD_getElem?, Array.getElem?_setIfInBounds, Array.size_setIfInBounds]
    by_cases h2 : kk * 3 + 2 = q
    · subst h2; simp [hs]
    · rw [if_neg h2, if_neg (show ¬ q = kk * 3 + 2 from fun e => h2 e.symm)]
      by_cases h1 : kk * 3 + 1 = q
      · subst h1; simp [show kk * 3 + 1 < cur2.size by omega]
      · rw [if_neg h1, if_neg (show ¬ q = kk * 3 + 1 from fun e => h1 e.symm)]
        by_cases h0 : kk * 3 = q
        · subst h0; simp [show kk * 3 < cur2.size by omega]
        · rw [if_neg h0, if_neg (show ¬ q = kk * 3 from fun e => h0 e.symm)]
  refine ⟨by rw [e]; simp [hl], by have := h.lt; omega, by simp [h.size], fun p hp j hj => ?_, fun {q} hq => ?_⟩
  · simp only [e, List.length_append, List.length_singleton] at hp
    rw [hget]
    rcases Nat.lt_or_ge p (kept eq m).length with hlt | hge
    · rw [if_neg (by omega), if_neg (by omega), if_neg (by omega)]
      simp only [e, List.getElem_append_left hlt]
      exact h.low p hlt j hj
    · have hp2 : p = kk := by omega
      subst hp2
      have eg : (kept eq (m + 1))[p]'(by rw [e]; simpa using hp) = m := by
        simp only [e]
        rw [List.getElem_append_right (by omega)]
        simp [hl]
      rw [eg]
      have hj3 : j = 0 ∨ j = 1 ∨ j = 2 := by omega
      rcases hj3 with rfl | rfl | rfl
      · rw [if_neg (by omega), if_neg (by omega), if_pos (by omega), e0]
      · rw [if_neg (by omega), if_pos (by omega), e1]
      · rw [if_pos (by omega), e2]
  · rw [hget, if_neg (by omega), if_neg (by omega), if_neg (by omega)]
    exact h.high (by omega)
theorem RowOnly.set {w V : World} {b : Nat} {t : TypeId} {cur : Array Value} (h : RowOnly w b t cur V) (o : Nat) (v : Value) : RowOnly w b t (cur.setIfInBounds o v) (V.setCell ⟨b, o, none⟩ v) := by
  refine ⟨h.os, h.tape, h.output, by simpa [World.setCell] using h.size, fun x hx hne => ?_, ?_⟩
  · simp only [World.setCell, Array.getElem?_modify]
    rw [if_neg (fun e => hne e.symm)]
    exact h.block x hx hne
  · simp only [World.setCell, Array.getElem?_modify, if_true, h.row, Option.map_some, Option.isSome_none, if_false]
    rfl
theorem RowOnly.setCells {w : World} {b : Nat} {t : TypeId} : ∀ (vs : List Value) (o : Nat) {V : World} {cur : Array Value}, RowOnly w b t cur V → ∃ cur', RowOnly w b t cur' (V.setCells b o vs) ∧ cur'.size = cur.size ∧ ∀ q, q < o → cur'.getD q undef = cur.getD q undef
  | [], o, V, cur, h => ⟨cur, h, rfl, fun _ _ => rfl⟩
  | v :: r, o, V, cur, h => by
    obtain ⟨cur', h1, h2, h3⟩ := RowOnly.setCells r (o + 1) (h.set o v)
    refine ⟨cur', h1, by simpa using h2, fun q hq => ?_⟩
    rw [h3 q (by omega)]
    simp only [Array.getD_eq_getD_getElem?, Array.getElem?_setIfInBounds]
    rw [if_neg (by omega)]
def clearL (n : Nat) : List Value := (Builtin.zeroCells #[.bool false, .string ⟨#[]⟩, .slice none 0 0] n).toList
theorem clearL_mem {n : Nat} {v : Value} (h : v ∈ clearL n) : v.oneCell' = true := by
  unfold clearL Builtin.zeroCells at h
  simp only [Array.toList_map, List.mem_map, Array.toList_range, List.mem_range] at h
  obtain ⟨i, _, rfl⟩ := h
  have hm : i % 3 = 0 ∨ i % 3 = 1 ∨ i % 3 = 2 := by omega
  show (#[Value.bool false, .string ⟨#[]⟩, .slice none 0 0][i % 3]!).oneCell' = true
  rcases hm with e | e | e <;> rw [e] <;> rfl
theorem clearL_len (n : Nat) : (clearL n).length = n * 3 := by
  unfold clearL Builtin.zeroCells
  simp
theorem run_clearL (ty : TypeId) {w : World} {b : Nat} {cur : Array Value} {t : TypeId} {o n c : Nat} (hb : w.heap[b]? = some (.cells cur t (0, 0))) (hn : 0 < n) (hl : o + n * 3 ≤ cur.size) :
    (Builtin.clear_ #[30] ty #[.slice (some ⟨b, o, none⟩) n c]).run Tryz.prog w = .ok (.tuple #[]) (w.setCells b o (clearL n)) := by
  have hv := fun w => Tryz.zeroValue74 w
  have hst := run_storeCells_cells (P := Tryz.prog) b o (clearL n) 0 w (fun j hj => by
    rw [clearL_len] at hj
    have : o + j < cur.size := by omega
    unfold World.cell?
    simp only [hb, Option.isSome_none, if_false, Nat.add_zero]
    rw [Array.getElem?_eq_getElem this]
    rfl) (fun j hj => rowFree hb _) (fun v hv => clearL_mem hv)
  simp only [Nat.add_zero] at hst
  obtain ⟨m, rfl⟩ : ∃ m, n = m + 1 := ⟨n - 1, by omega⟩
  unfold clearL at hst ⊢
  simp [Builtin.clear_, Tryz.underlying30, hv, Value.cells, hst]
theorem cellA {w : World} {b : Nat} {cur : Array Value} {t : TypeId} (hb : w.heap[b]? = some (.cells cur t (0, 0))) {i j : Nat} {v : Value} (hlt : i * 3 + j < cur.size) (hv : True) (h : cur.getD (i * 3 + j) undef = v) : w.cell? ⟨b, i * 3 + j, none⟩ = some v := by
  unfold World.cell?
  simp only [hb, Option.isSome_none, if_false]
  rw [Array.getD_eq_getD_getElem?, Array.getElem?_eq_getElem hlt, Option.getD_some] at h
  rw [Array.getElem?_eq_getElem hlt, h]
  rfl
set_option maxHeartbeats 4000000 in
theorem compactFunc_any (n : Nat) (eq : Nat → Nat → Bool) (w : World) (b cap : Nat) (cur : Array Value) (t : TypeId) (hb : w.heap[b]? = some (.cells cur t (0, 0))) (hsz : cur.size = cap * 3) (hn : n ≤ cap) (hcap : cap ≤ 9223372036854775807)
    (pB : Nat → Bool) (pS : Nat → ByteArray) (pA : Nat → Option Addr) (pL pC : Nat → Nat)
    (hc : ∀ i, i < n → cur.getD (i * 3 + 0) undef = .bool (pB i) ∧ cur.getD (i * 3 + 1) undef = .string (pS i) ∧ cur.getD (i * 3 + 2) undef = .slice (pA i) (pL i) (pC i))
    (hcall : ∀ i j, i < n → j < n → ∀ W, w.heap.size ≤ W.heap.size → (∀ x, x < w.heap.size → x ≠ b → W.heap[x]? = w.heap[x]?) → Calls Tryz.prog 77 #[.agg #[.bool (pB i), .string (pS i), .slice (pA i) (pL i) (pC i)], .agg #[.bool (pB j), .string (pS j), .slice (pA j) (pL j) (pC j)]] W (Ret W (.bool (eq i j)))) :
    Calls Tryz.prog 76 #[.slice (some ⟨b, 0, none⟩) n cap, .func (.func 77) #[] #[]] w fun e w' => e = .returned (.slice (some ⟨b, 0, none⟩) (kept eq n).length cap) ∧ ∃ cur', RowOnly w b t cur' w' ∧ cur'.size = cur.size ∧ ∀ p (hp : p < (kept eq n).length) j, j < 3 → cur'.getD (p * 3 + j) undef = cur.getD ((kept eq n)[p] * 3 + j) undef := by
  have hF : ∀ (args : Array Value) (W : World), (callFunc 77 args).run Tryz.prog W = .ok (.enter 77 args) W := enters_of Tryz.func77 (by kernel_rfl) rfl
  have hblt := (Array.getElem?_eq_some_iff.1 hb).1
  have HC := Lib.hid hcall
  clear hcall
  have HE := Lib.hid hc
  clear hc
  by_cases h2 : n < 2
  · have hk : kept eq n = List.range n := kept_all fun i hi => by
      have : i = 0 := by omega
      subst this; rfl
    rw [hk]
    go_enter Tryz.func76, Tryz.ntmps76
    go_wp2
    go_ret
    refine ⟨by simp, cur, ⟨rfl, rfl, rfl, Nat.le_refl _, fun _ _ _ => rfl, hb⟩, rfl, fun p hp j hj => ?_⟩
    simp
  · go_enter Tryz.func76, Tryz.ntmps76
    go_wp2
    go_loopg [5] n (fun g s5 wr => ∃ k : Nat, 1 ≤ k ∧ k ≤ n ∧ n - k ≤ g ∧ s5 = .int .i64 k ∧ Below w.heap.size w wr ∧ ∀ j, j < k → keptAt eq j = true)
    case atStart =>
      refine ⟨1, Nat.le_refl _, by omega, by omega, rfl, Below.refl _ _, fun j hj => ?_⟩
      obtain rfl : j = 0 := by omega
      rfl
    case round =>
      have HB0 := Lib.hid hb
      obtain ⟨k, hk1, hk, hg, rfl, hbw, hall⟩ := hrel
      have HA := Lib.hid hall
      clear hall
      have hzw := hbw.size
      by_cases hlt : k < n
      · obtain ⟨e0, e1, e2⟩ := HE.out k hlt
        obtain ⟨d0, d1, d2⟩ := HE.out (k - 1) (by omega)
        have hbr : wr.heap[b]? = some (.cells cur t (0, 0)) := by rw [hbw.block b hblt]; exact hb
        have q0 := cellA hbr (i := k) (j := 0) (by omega) trivial e0
        have q1 := cellA hbr (i := k) (j := 1) (by omega) trivial e1
        have q2 := cellA hbr (i := k) (j := 2) (by omega) trivial e2
        have r0 := cellA hbr (i := k - 1) (j := 0) (by omega) trivial d0
        have r1 := cellA hbr (i := k - 1) (j := 1) (by omega) trivial d1
        have r2 := cellA hbr (i := k - 1) (j := 2) (by omega) trivial d2
        have hbrz : b < wr.heap.size := by omega
        simp only [Nat.add_zero] at q0 r0
        have z1 : IntKind.i64.wrap ((k : Int) - 1) = (k : Int) - 1 := IntWalk.i64_in _ (by omega)
        have z2 : (0 : Int) ≤ (k : Int) - 1 := by omega
        have z3 : (1 : Int) ≤ (k : Int) := by omega
        have z4 : (k : Int) - 1 < (n : Int) := by omega
        have z5 : ((k : Int) - 1).toNat = k - 1 := by omega
        have HB := Lib.hid hb
        clear hb hbr e0 e1 e2 d0 d1 d2
        go_wp2
        refine Flow.wp_region_flow 11 [(10, .fixed (.bool (eq k (k - 1))))] [] (by kernel_rfl) (by kernel_rfl) (exact_stable rfl) ?_
        intro hgrow
        simp only [List.take_succ_cons, List.take_zero]
        repeat (first | ((with_reducible refine Flow.flow_quiet ?_ ?_ ?_); (focus (exact rfl)); (focus (exact rfl)); intro K hK; go_simp; refine hK _ ?_; clear hK K) | ((with_reducible refine Flow.flow_pass ?_); intro K hK; go_simp; (first | refine hK _ ?_ | (refine ⟨?_, hK _ ?_⟩; (focus (simp [undef]; done)))); clear hK K))
        refine Flow.flow_exact _ rfl (by go_simp) (fun W hW => flow_ret (by go_simp) (HC.out k (k - 1) hlt (by omega) _ (by have := hW.size; omega) (fun x hx _ => by rw [hW.block x (by omega), hbw.block x hx]))) ?_
        repeat (first | ((with_reducible refine Flow.flow_quiet ?_ ?_ ?_); (focus (exact rfl)); (focus (exact rfl)); intro K hK; go_simp; refine hK _ ?_; clear hK K) | ((with_reducible refine Flow.flow_pass ?_); intro K hK; go_simp; (first | refine hK _ ?_ | (refine ⟨?_, hK _ ?_⟩; (focus (simp [undef]; done)))); clear hK K))
        with_reducible refine Flow.flow_nil ?_
        clear hgrow
        intro W hW _
        have hzW := hW.size
        try simp at hzW
        obtain ⟨hcW, hfW⟩ := bcell hW
        simp only [List.drop_succ_cons, List.drop_zero, List.drop_nil]
        have hWb : Below w.heap.size w W := hbw.trans (hW.mono hzw)
        cases heq : eq k (k - 1) with
        | false =>
          go_wp2
          go_roundg (n - (k + 1))
          case measure => omega
          case rel =>
            refine ⟨k + 1, by omega, by omega, Nat.le_refl _, by go_num, hWb, fun j hj => ?_⟩
            by_cases e : j = k
            · subst e; unfold keptAt; rw [heq]; simp
            · exact HA.out j (by omega)
        | true =>
          have hkk : kept eq (k + 1) = List.range k := by
            rw [kept_succ, kept_all HA.out]
            unfold keptAt
            rw [heq]
            simp; omega
          have hb2 : W.heap[b]? = some (.cells cur t (0, 0)) := by rw [hWb.block b hblt]; exact HB.out
          clear q0 q1 q2 r0 r1 r2 z1 z2 z3 z4 z5 hcW hfW hzW hW
          go_wp2
          go_loopg [5, 7] n (fun g s5 s7 wr2 => ∃ (kk k2 : Nat) (cur2 : Array Value), s5 = .int .i64 kk ∧ s7 = .int .i64 k2 ∧ 1 ≤ k2 ∧ k + k2 ≤ n ∧ n - (k + k2) ≤ g ∧ RowOnly w b t cur2 wr2 ∧ CompI eq cur (k + k2) kk cur2)
          case atStart => exact ⟨k, 1, cur, rfl, rfl, Nat.le_refl _, by omega, by omega, ⟨hWb.os, hWb.tape, hWb.output, hWb.size, fun x hx _ => hWb.block x hx, hb2⟩, CompI.start hkk⟩
          case round =>
            obtain ⟨kk, k2, cur2, rfl, rfl, hk2, hle, hg2, hro, hI⟩ := hrel
            have HI := Lib.hid hI
            have HR := Lib.hid hro
            have hkl := hI.lt
            have hs2 := hI.size
            have hzr := hro.size
            by_cases hlt2 : k + k2 < n
            · have hrow := hro.row
              obtain ⟨e0, e1, e2⟩ := HE.out (k + k2) hlt2
              obtain ⟨d0, d1, d2⟩ := HE.out (k + k2 - 1) (by omega)
              rw [← hI.high (by omega)] at e0 e1 e2 d0 d1 d2
              have q0 := cellA hrow (i := k + k2) (j := 0) (by omega) trivial e0
              have q1 := cellA hrow (i := k + k2) (j := 1) (by omega) trivial e1
              have q2 := cellA hrow (i := k + k2) (j := 2) (by omega) trivial e2
              have r0 := cellA hrow (i := k + k2 - 1) (j := 0) (by omega) trivial d0
              have r1 := cellA hrow (i := k + k2 - 1) (j := 1) (by omega) trivial d1
              have r2 := cellA hrow (i := k + k2 - 1) (j := 2) (by omega) trivial d2
              rw [show (k + k2) * 3 = k * 3 + k2 * 3 by omega] at q0 q1 q2
              rw [show (k + k2 - 1) * 3 = k * 3 + (k2 - 1) * 3 by omega] at r0 r1 r2
              simp only [Nat.add_zero] at q0 r0
              have hbz : b < wr.heap.size := by omega
              have z1 : IntKind.i64.wrap ((k2 : Int) - 1) = (k2 : Int) - 1 := IntWalk.i64_in _ (by omega)
              have z2 : (0 : Int) ≤ (k2 : Int) - 1 := by omega
              have z3 : (1 : Int) ≤ (k2 : Int) := by omega
              have z4 : (k2 : Int) - 1 < ((n - k : Nat) : Int) := by omega
              have z5 : ((k2 : Int) - 1).toNat = k2 - 1 := by omega
              clear hI hro hrow e0 e1 e2 d0 d1 d2 hb2
              go_wp2
              refine Flow.wp_region_flow 12 [(10, .fixed (.bool (eq (k + k2) (k + k2 - 1))))] [] (by kernel_rfl) (by kernel_rfl) (exact_stable rfl) ?_
              intro hgrow
              simp only [List.take_succ_cons, List.take_zero]
              repeat (first | ((with_reducible refine Flow.flow_quiet ?_ ?_ ?_); (focus (exact rfl)); (focus (exact rfl)); intro K hK; go_simp; refine hK _ ?_; clear hK K) | ((with_reducible refine Flow.flow_pass ?_); intro K hK; go_simp; (first | refine hK _ ?_ | (refine ⟨?_, hK _ ?_⟩; (focus (simp [undef]; done)))); clear hK K))
              refine Flow.flow_exact _ rfl (by go_simp) (fun W hW => flow_ret (by go_simp) (HC.out (k + k2) (k + k2 - 1) hlt2 (by omega) _ (by have := hW.size; omega) (fun x hx hxb => by rw [hW.block x (by omega), HR.out.block x hx hxb]))) ?_
              repeat (first | ((with_reducible refine Flow.flow_quiet ?_ ?_ ?_); (focus (exact rfl)); (focus (exact rfl)); intro K hK; go_simp; refine hK _ ?_; clear hK K) | ((with_reducible refine Flow.flow_pass ?_); intro K hK; go_simp; (first | refine hK _ ?_ | (refine ⟨?_, hK _ ?_⟩; (focus (simp [undef]; done)))); clear hK K))
              with_reducible refine Flow.flow_nil ?_
              clear hgrow
              intro V hV _
              have hzV := hV.size
              try simp at hzV
              obtain ⟨hcV, hfV⟩ := bcell hV
              simp only [List.drop_succ_cons, List.drop_zero, List.drop_nil]
              have hVR : RowOnly w b t cur2 V := HR.out.below hV (by omega)
              have f0 : ∀ o, wr.frozen? ⟨b, o, none⟩ = false := fun o => rowFree HR.out.row o
              cases heq2 : eq (k + k2) (k + k2 - 1) with
              | true =>
                go_wp2
                go_roundg (n - (k + (k2 + 1)))
                case measure => omega
                case rel => exact ⟨kk, k2 + 1, cur2, rfl, by go_num, by omega, by omega, Nat.le_refl _, hVR, HI.out.skip (by unfold keptAt; rw [heq2]; simp; omega)⟩
              | false =>
                have w0 := cellB HR.out.row (i := kk) (j := 0) (by omega)
                have w1 := cellB HR.out.row (i := kk) (j := 1) (by omega)
                have w2 := cellB HR.out.row (i := kk) (j := 2) (by omega)
                simp only [Nat.add_zero] at w0
                have g0 := f0 (kk * 3)
                have g1 := f0 (kk * 3 + 1)
                have g2 := f0 (kk * 3 + 2)
                have zz : kk < n := by omega
                have HVR := Lib.hid hVR
                clear hVR f0
                go_wp2
                go_roundg (n - (k + (k2 + 1)))
                case measure => omega
                case rel =>
                  refine ⟨kk + 1, k2 + 1, _, by go_num, by go_num, by omega, by omega, Nat.le_refl _, ((HVR.out.set _ _).set _ _).set _ _, ?_⟩
                  obtain ⟨e0, e1, e2⟩ := HE.out (k + k2) hlt2
                  exact HI.out.keep (by unfold keptAt; rw [heq2]; simp) (by omega) e0 e1 e2
            · have hend : k + k2 = n := by omega
              have hcl : ∀ ty, (Builtin.clear_ #[30] ty #[.slice (some ⟨b, kk * 3, none⟩) (n - kk) (cap - kk)]).run Tryz.prog wr = .ok (.tuple #[]) (wr.setCells b (kk * 3) (clearL (n - kk))) := fun ty => run_clearL ty hro.row (by omega) (by omega)
              clear hI hro
              go_wp2
              go_ret
              have hI := HI.out
              rw [hend] at hI
              obtain ⟨cur3, h1, h2, h3⟩ := HR.out.setCells (clearL (n - kk)) (kk * 3)
              refine ⟨by rw [hI.len]; rfl, cur3, h1, by rw [h2, hI.size], fun p hp j hj => ?_⟩
              have := hI.len
              rw [h3 _ (by omega)]
              exact hI.low p hp j hj
      · obtain rfl : k = n := by omega
        have hk : kept eq k = List.range k := kept_all HA.out
        clear hb
        go_wp2
        go_ret
        rw [hk]
        refine ⟨by simp, cur, ⟨hbw.os, hbw.tape, hbw.output, hbw.size, fun x hx _ => hbw.block x hx, by rw [hbw.block b hblt]; exact HB0.out⟩, rfl, fun p hp j hj => ?_⟩
        simp
end Go.Proofs.YtibdknkacmimgaaGreat
set_option maxRecDepth 100000
set_option linter.unusedSimpArgs false
set_option linter.unusedVariables false
set_option linter.unusedSectionVars false
namespace Go.Proofs.YtibdknkacmimgaaGreat
open Go.RowKit Go.Shelf
noncomputable def eqAt (xs : List Lt) (i j : Nat) : Bool := dec (xs[i]? = xs[j]?)
noncomputable def cmpct (xs : List Lt) : List Lt := (kept (eqAt xs) xs.length).filterMap fun i => xs[i]?
theorem kept_lt {eq : Nat → Nat → Bool} {m i : Nat} (h : i ∈ kept eq m) : i < m ∧ keptAt eq i = true := by
  unfold kept at h
  rw [List.mem_filter, List.mem_range] at h
  exact h
theorem kept_mem {eq : Nat → Nat → Bool} {m i : Nat} (h : i < m) (hk : keptAt eq i = true) : i ∈ kept eq m := by
  unfold kept
  rw [List.mem_filter, List.mem_range]
  exact ⟨h, hk⟩
theorem kept_sorted (eq : Nat → Nat → Bool) (m : Nat) : (kept eq m).Pairwise (· < ·) := (List.pairwise_lt_range (n := m)).filter _
theorem kept_nodup (eq : Nat → Nat → Bool) (m : Nat) : (kept eq m).Nodup := (kept_sorted eq m).imp fun h e => absurd e (Nat.ne_of_lt h)
theorem filterMap_get (xs : List Lt) : ∀ l : List Nat, (∀ i ∈ l, i < xs.length) → (l.filterMap fun i => xs[i]?).length = l.length ∧ ∀ p i : Nat, l[p]? = some i → (l.filterMap fun i => xs[i]?)[p]? = xs[i]?
  | [], _ => ⟨rfl, fun p i h => by simp at h⟩
  | i :: l, hl => by
    have hi := hl i (by simp)
    obtain ⟨h1, h2⟩ := filterMap_get xs l fun j hj => hl j (by simp [hj])
    have e : ((i :: l).filterMap fun i => xs[i]?) = xs[i] :: l.filterMap fun i => xs[i]? := by
      rw [List.filterMap_cons, List.getElem?_eq_getElem hi]
    refine ⟨by rw [e]; simp [h1], fun p j hp => ?_⟩
    rw [e]
    cases p with
    | zero =>
      simp only [List.getElem?_cons_zero, Option.some.injEq] at hp ⊢
      subst hp
      exact (List.getElem?_eq_getElem hi).symm
    | succ p =>
      simp only [List.getElem?_cons_succ] at hp ⊢
      exact h2 p j hp
theorem cmpct_len (xs : List Lt) : (cmpct xs).length = (kept (eqAt xs) xs.length).length := (filterMap_get xs _ fun i hi => (kept_lt hi).1).1
theorem cmpct_get (xs : List Lt) {p i : Nat} (h : (kept (eqAt xs) xs.length)[p]? = some i) (hp : p < (cmpct xs).length) : ∃ hi : i < xs.length, (cmpct xs)[p] = xs[i] := by
  have hi := (kept_lt (List.mem_of_getElem? h)).1
  have := (filterMap_get xs _ fun i hi => (kept_lt hi).1).2 p i h
  refine ⟨hi, ?_⟩
  have e : (cmpct xs)[p]? = xs[i]? := this
  rw [List.getElem?_eq_getElem hp, List.getElem?_eq_getElem hi] at e
  exact Option.some.inj e
def StrictL (xs : List Lt) : Prop := xs.Pairwise fun x y => x.cmp y < 0
theorem strictL_uniq : ∀ {xs ys : List Lt}, StrictL xs → StrictL ys → (∀ z, z ∈ xs ↔ z ∈ ys) → xs = ys
  | [], [], _, _, _ => rfl
  | [], y :: ys, _, _, h => by simpa using (h y).2 (by simp)
  | x :: xs, [], _, _, h => by simpa using (h x).1 (by simp)
  | x :: xs, y :: ys, h1, h2, h => by
    obtain ⟨a1, a2⟩ := List.pairwise_cons.1 h1
    obtain ⟨b1, b2⟩ := List.pairwise_cons.1 h2
    have irr : ∀ z : Lt, ¬ z.cmp z < 0 := fun z hz => by
      have := (Lt.cmp_ord z z z).zero.2 rfl
      omega
    have e : x = y := by
      rcases List.mem_cons.1 ((h x).1 (by simp)) with e | hx
      · exact e
      · rcases List.mem_cons.1 ((h y).2 (by simp)) with e | hy
        · exact e.symm
        · exact (irr x ((Lt.cmp_ord x y x).trans (a1 y hy) (b1 x hx))).elim
    subst e
    rw [strictL_uniq a2 b2 fun z => ?_]
    constructor
    · intro hz
      rcases List.mem_cons.1 ((h z).1 (by simp [hz])) with e | hz'
      · subst e; exact (irr _ (a1 _ hz)).elim
      · exact hz'
    · intro hz
      rcases List.mem_cons.1 ((h z).2 (by simp [hz])) with e | hz'
      · subst e; exact (irr _ (b1 _ hz)).elim
      · exact hz'
theorem cmpct_strict {xs : List Lt} (hs : SortedL xs) : StrictL (cmpct xs) := by
  unfold StrictL
  rw [List.pairwise_iff_getElem]
  intro p q hp hq hpq
  have e1 := cmpct_len xs
  obtain ⟨i, hpi⟩ : ∃ i, (kept (eqAt xs) xs.length)[p]? = some i := ⟨_, List.getElem?_eq_getElem (by omega)⟩
  obtain ⟨j, hqj⟩ : ∃ j, (kept (eqAt xs) xs.length)[q]? = some j := ⟨_, List.getElem?_eq_getElem (by omega)⟩
  have hlt := List.pairwise_iff_getElem.1 (kept_sorted (eqAt xs) xs.length) p q (by omega) (by omega) hpq
  rw [(List.getElem?_eq_some_iff.1 hpi).2, (List.getElem?_eq_some_iff.1 hqj).2] at hlt
  obtain ⟨hi, e2⟩ := cmpct_get xs hpi hp
  obtain ⟨hj, e3⟩ := cmpct_get xs hqj hq
  rw [e2, e3]
  have hkq := (kept_lt (List.mem_of_getElem? hqj)).2
  have hne : xs[j - 1] ≠ xs[j] := fun e => by
    unfold keptAt eqAt at hkq
    rw [List.getElem?_eq_getElem hj, List.getElem?_eq_getElem (show j - 1 < xs.length by omega), e, dec_t rfl] at hkq
    simp at hkq
    omega
  have h2 : xs[j - 1].cmp xs[j] ≤ 0 := List.pairwise_iff_getElem.1 hs (j - 1) j (by omega) hj (by omega)
  have h3 : xs[j - 1].cmp xs[j] < 0 := by
    have := (Lt.cmp_ord xs[j - 1] xs[j] xs[j]).zero
    have : xs[j - 1].cmp xs[j] ≠ 0 := fun e => hne (this.1 e)
    omega
  rcases Nat.lt_or_ge i (j - 1) with h4 | h4
  · have h5 : xs[i].cmp xs[j - 1] ≤ 0 := List.pairwise_iff_getElem.1 hs i (j - 1) (by omega) (by omega) h4
    by_cases h6 : xs[i].cmp xs[j - 1] = 0
    · rw [(Lt.cmp_ord xs[i] xs[j - 1] xs[j]).zero.1 h6]; exact h3
    · exact (Lt.cmp_ord xs[i] xs[j - 1] xs[j]).trans (by omega) h3
  · have : i = j - 1 := by omega
    subst this
    exact h3
theorem cmpct_mem (xs : List Lt) (z : Lt) : z ∈ cmpct xs ↔ z ∈ xs := by
  constructor
  · intro h
    unfold cmpct at h
    obtain ⟨i, _, h2⟩ := List.mem_filterMap.1 h
    exact List.mem_of_getElem? h2
  · intro h
    obtain ⟨i, hi, rfl⟩ := List.getElem_of_mem h
    have key : ∀ i (hi : i < xs.length), ∃ j, j ∈ kept (eqAt xs) xs.length ∧ xs[j]? = some xs[i] := by
      intro i
      induction i with
      | zero => intro hi; exact ⟨0, kept_mem hi rfl, List.getElem?_eq_getElem hi⟩
      | succ i ih =>
        intro hi
        cases hk : keptAt (eqAt xs) (i + 1) with
        | true => exact ⟨i + 1, kept_mem hi hk, List.getElem?_eq_getElem hi⟩
        | false =>
          obtain ⟨j, h1, h2⟩ := ih (by omega)
          refine ⟨j, h1, ?_⟩
          unfold keptAt eqAt at hk
          simp only [Nat.add_sub_cancel, Bool.or_eq_false_iff, Bool.not_eq_false', dec_iff] at hk
          rw [h2, ← List.getElem?_eq_getElem, ← List.getElem?_eq_getElem]
          exact hk.2.symm
    obtain ⟨j, h1, h2⟩ := key i hi
    exact List.mem_filterMap.2 ⟨j, h1, h2⟩
noncomputable def compactLit (xs : List SV) (ob : List Ob) : Option (SV × List Ob) :=
  match xs, ob with
  | [.ref 0, .fn f []], [.row t sz es] => bif dec (f = 77 ∧ sz = 3 ∧ es.length ≤ 1099511627776 ∧ ∃ xs : List Lt, es = xs.map Lt.o ∧ ∀ x ∈ xs, ∀ y ∈ xs, Fun Tryz.prog f [x.sv, y.sv] [] (.bool (dec (x = y))) []) then some (.ref 1, [.gone, .row t sz ((cmpct (unL es)).map Lt.o)]) else none
  | [.nil, .fn f []], [] => bif dec (f = 77) then some (.nil, []) else none
  | _, _ => none
def vB : Value → Bool
  | .bool b => b
  | _ => false
def vS : Value → ByteArray
  | .string s => s
  | _ => ⟨#[]⟩
def vA : Value → Option Addr × Nat × Nat
  | .slice a n c => (a, n, c)
  | _ => (none, 0, 0)
set_option maxHeartbeats 1000000 in
theorem compactFunc_nil (w : World) : Calls Tryz.prog 76 #[.slice none 0 0, .func (.func 77) #[] #[]] w fun e w' => e = .returned (.slice none 0 0) ∧ w' = w := by
  go_enter Tryz.func76, Tryz.ntmps76
  go_wp2
  go_ret
  exact ⟨rfl, rfl⟩
theorem row_part {w w' : World} {I : Nat → Prop} {V : Nat → Option Value} {B : Nat → Nat → Prop} {t : TypeId} {es es' : List (List OT)} {v' : Value} (hwf : Wf w I V B (geto [.row t 3 es]))
    (hos : w'.os = w.os) (htape : TapeOk w w') (hout : w'.output = w.output) (hsz : w.heap.size ≤ w'.heap.size) (hblk : ∀ x, x < w.heap.size → ¬ B 0 x → w'.heap[x]? = w.heap[x]?) (hrow : RowR w' I (B 0) t 3 es' v') :
    FunPost w I V B [.row t 3 es] [.gone, .row t 3 es'] w' I (fun g => if g = 1 then some v' else V g) (fun g => if g = 1 then B 0 else B g) := by
  have hB0 : ∀ x, B 0 x → HB B [Ob.row t 3 es] x := fun x hx => ⟨0, trivial, hx⟩
  have hlv : ∀ g, (geto [Ob.gone, .row t 3 es'] g).live → g = 1 := fun g h => by
    match g with
    | 0 => exact h.elim
    | 1 => rfl
    | g + 2 => exact h.elim
  refine ⟨⟨hos, htape, hout, hsz, fun x hx hn => hblk x hx fun h => hn (hB0 x h)⟩, fun _ h => h, fun _ h => .inl h, fun g u hu => ?_, ?_, fun g x hl hx => ?_⟩
  · by_cases e : g = 1
    · subst e
      rw [hwf.fr 1 rfl] at hu; cases hu
    · simp only [e, if_false]; exact hu
  · refine ⟨fun x hx => Nat.lt_of_lt_of_le (hwf.ilt x hx) hsz, fun g hl => ?_, fun g x hl hx => ?_, fun g x hl hx => ?_, fun g g' x hl hl' _ _ => by rw [hlv g hl, hlv g' hl'], fun g hf => ?_, hwf.gl.keep ⟨hsz, fun x hx hlt => hblk x hlt fun h => hwf.dI 0 x trivial h hx⟩ fun _ h => h⟩
    · obtain rfl := hlv g hl
      exact ⟨v', by simp, hrow⟩
    · obtain rfl := hlv g hl
      simp only [if_true] at hx
      exact Nat.lt_of_lt_of_le (hwf.lt 0 x trivial hx) hsz
    · obtain rfl := hlv g hl
      simp only [if_true] at hx
      exact hwf.dI 0 x trivial hx
    · match g with
      | 0 => cases hf
      | 1 => cases hf
      | g + 2 =>
        have e : ¬ g + 2 = 1 := by omega
        simp only [e, if_false]
        exact hwf.fr (g + 2) rfl
  · obtain rfl := hlv g hl
    simp only [if_true] at hx
    exact .inl (hB0 x hx)
set_option maxHeartbeats 4000000 in
theorem compactLit_told {xs : List SV} {ob : List Ob} {r : SV} {ob' : List Ob} (h : compactLit xs ob = some (r, ob')) : Fun Tryz.prog 76 xs ob r ob' := by
  unfold compactLit at h
  split at h
  · rename_i f t sz es
    obtain ⟨h1, h2⟩ := bif_some h
    obtain ⟨rfl, rfl, hk3, xs, rfl, hF⟩ := dec_iff.1 h1
    simp only [Option.some.injEq, Prod.mk.injEq] at h2
    obtain ⟨rfl, rfl⟩ := h2
    clear h h1
    rw [unL_map]
    rw [List.length_map] at hk3
    intro w I V B vs hwf hvs
    obtain ⟨v, q, rfl, hv, hvs⟩ := args_cons hvs
    obtain ⟨v2, q, rfl, hv2, hvs⟩ := args_cons hvs
    obtain rfl := args0 hvs
    simp only [RepV] at hv hv2
    obtain ⟨vs2, rfl, hv2⟩ := hv2
    simp only [RepVs] at hv2
    subst hv2
    obtain ⟨val, hval, hrow⟩ := hwf.obj 0 trivial
    rw [hv.1] at hval
    obtain rfl := Option.some.inj hval
    have hv0 := hv.1
    have hrow : RowR w I (B 0) t 3 (xs.map Lt.o) v := hrow
    have hrow0 := hrow
    rcases hrow with ⟨he, rfl⟩ | ⟨b, cap, cur, Sub, rfl, hs, hb, g1, g2, g3, g4, g5, g6, g7⟩
    · simp only [List.map_eq_nil_iff] at he
      subst he
      refine (compactFunc_nil w).mono ?_
      rintro e w' ⟨rfl, rfl⟩
      have e0 : cmpct [] = [] := rfl
      rw [e0]
      exact ⟨_, I, _, _, rfl, by simp only [RepV]; exact ⟨rfl, rfl⟩, row_part hwf rfl (TapeOk.mk' rfl rfl) rfl (Nat.le_refl _) (fun _ _ _ => rfl) (.inl ⟨rfl, rfl⟩)⟩
    · have hblt := (Array.getElem?_eq_some_iff.1 hb).1
      have view := fun i hi => lit_at (xs := xs) (S := B 0) g5 g7 i hi
      rw [List.length_map] at g1
      have hJb : ∀ x, (I x ∨ (B 0 x ∧ x ≠ b)) → x ≠ b := fun x hx => by
        rcases hx with hx | hx
        · intro e; subst e; exact hwf.dI 0 x trivial hs hx
        · exact hx.2
      have hJl : ∀ x, (I x ∨ (B 0 x ∧ x ≠ b)) → x < w.heap.size := fun x hx => by
        rcases hx with hx | hx
        · exact hwf.ilt x hx
        · exact hwf.lt 0 x trivial hx.1
      have hcon := compactFunc_any xs.length (eqAt xs) w b cap cur t hb g3 g1 g2 (fun i => vB (cur.getD (i * 3 + 0) undef)) (fun i => vS (cur.getD (i * 3 + 1) undef)) (fun i => (vA (cur.getD (i * 3 + 2) undef)).1) (fun i => (vA (cur.getD (i * 3 + 2) undef)).2.1) (fun i => (vA (cur.getD (i * 3 + 2) undef)).2.2)
        (fun i hi => by
          obtain ⟨a, l, c, e0, e1, e2, _⟩ := view i hi
          rw [e0, e1, e2]
          exact ⟨rfl, rfl, rfl⟩)
        (fun i j hi hj W hW1 hW2 => by
          obtain ⟨a, l, c, e0, e1, e2, hrx⟩ := view i hi
          obtain ⟨a', l', c', e0', e1', e2', hry⟩ := view j hj
          have hk : KeepS (fun x => I x ∨ (B 0 x ∧ x ≠ b)) w W := ⟨hW1, fun x hx hlt => hW2 x hlt (hJb x hx)⟩
          have hc := fun_at (hF xs[i] (List.getElem_mem _) xs[j] (List.getElem_mem _)) (W := W) (J := fun x => I x ∨ (B 0 x ∧ x ≠ b)) (fun x hx => Nat.lt_of_lt_of_le (hJl x hx) hW1) (hwf.gl.keep ⟨hW1, fun x hx hlt => hk.block x (.inl hx) hlt⟩ fun x hx => .inl hx) (RepV.mono hk (fun _ h => h) (VLe.refl _) _ _ hrx) (RepV.mono hk (fun _ h => h) (VLe.refl _) _ _ hry)
          rw [e0, e1, e2, e0', e1', e2']
          have e : eqAt xs i j = dec (xs[i] = xs[j]) := by
            unfold eqAt
            rw [List.getElem?_eq_getElem hi, List.getElem?_eq_getElem hj]
            by_cases h : xs[i] = xs[j]
            · rw [dec_t h, dec_t (by rw [h])]
            · rw [dec_f h, dec_f (fun e => h (Option.some.inj e))]
          rw [e]
          exact hc)
      rw [List.length_map]
      refine hcon.mono ?_
      rintro e w' ⟨rfl, cur', hro, hcs, hcell⟩
      have c1 := cmpct_len xs
      have hkl := kept_le (eqAt xs) xs.length
      refine ⟨_, I, _, _, rfl, by simp only [RepV]; exact ⟨rfl, rfl⟩, row_part hwf hro.os ⟨hro.tape, fun h => False.elim h⟩ hro.output hro.size (fun x hx hn => hro.block x hx fun e => hn (e ▸ hs)) ?_⟩
      refine .inr ⟨b, cap, cur', fun p j x => ∃ h : p < (kept (eqAt xs) xs.length).length, Sub ((kept (eqAt xs) xs.length)[p]) j x, by rw [List.length_map, c1], hs, hro.row, by rw [List.length_map, c1]; omega, g2, by rw [hcs]; exact g3, fun i hi => by rw [List.getElem_map, Lt.o_eq]; rfl, fun i j x h => g5 _ _ _ h.2, fun i j i' j' x h h' => ?_, fun i j hi hj => ?_⟩
      · obtain ⟨a1, a2⟩ := h
        obtain ⟨b1, b2⟩ := h'
        obtain ⟨d1, d2⟩ := g6 _ _ _ _ _ a2 b2
        exact ⟨(List.getElem_inj (kept_nodup _ _)).1 d1, d2⟩
      · have hi' : i < (kept (eqAt xs) xs.length).length := by rw [← c1]; simpa using hi
        have hlt := (kept_lt (List.getElem_mem hi')).1
        have e1 : ((cmpct xs).map Lt.o)[i] = (xs.map Lt.o)[(kept (eqAt xs) xs.length)[i]]'(by rw [List.length_map]; exact hlt) := by
          obtain ⟨_, c2⟩ := cmpct_get xs (List.getElem?_eq_getElem hi') (by rw [c1]; exact hi')
          rw [List.getElem_map, c2, List.getElem_map]
        have hj' : j < 3 := by rw [e1] at hj; have := g4 _ (show (kept (eqAt xs) xs.length)[i] < (xs.map Lt.o).length by rw [List.length_map]; exact hlt); omega
        rw [hcell i hi' j hj']
        have h7 := g7 ((kept (eqAt xs) xs.length)[i]) j (by rw [List.length_map]; exact hlt) (by rw [g4]; exact hj')
        have hk : KeepS I w w' := ⟨hro.size, fun x hx hlt => hro.block x hlt fun e => hwf.dI 0 x trivial (e ▸ hs) hx⟩
        have h2 := (h7.keep hk (fun _ h => h) (fun x hx hlt => hro.block x hlt (g5 _ _ _ hx).2)).up (S' := fun x => ∃ h : i < (kept (eqAt xs) xs.length).length, Sub ((kept (eqAt xs) xs.length)[i]) j x) (fun x hx => ⟨hi', hx⟩)
        simp only [e1]
        exact h2
  · rename_i f
    obtain ⟨h1, h2⟩ := bif_some h
    obtain rfl := dec_iff.1 h1
    simp only [Option.some.injEq, Prod.mk.injEq] at h2
    obtain ⟨rfl, rfl⟩ := h2
    intro w I V B vs hwf hvs
    obtain ⟨v, q, rfl, hv, hvs⟩ := args_cons hvs
    obtain ⟨v2, q, rfl, hv2, hvs⟩ := args_cons hvs
    obtain rfl := args0 hvs
    simp only [RepV] at hv hv2
    obtain ⟨vs2, rfl, hv2⟩ := hv2
    simp only [RepVs] at hv2
    subst hv2 hv
    refine (compactFunc_nil w).mono ?_
    rintro e w' ⟨rfl, rfl⟩
    exact ⟨_, I, V, B, rfl, by simp only [RepV], row_same hwf⟩
  · cases h
end Go.Proofs.YtibdknkacmimgaaGreat
set_option maxRecDepth 100000
set_option linter.unusedSimpArgs false
set_option linter.unusedVariables false
set_option linter.unusedSectionVars false
namespace Go.Proofs.YtibdknkacmimgaaGreat
open Go.RowKit
def lookM : List (Nat × FM) → Nat → FM
  | [], _ => ⟨[], .asis, none, false⟩
  | (f, m) :: r, g => bif f == g then m else lookM r g
theorem lookM_ext {l : List (Nat × FM)} {f : Nat} {g : List SV → List Ob → Option (SV × List Ob)} (h : (lookM l f).ext = some g) : ∃ m, (f, m) ∈ l ∧ m.ext = some g := by
  induction l with
  | nil => cases h
  | cons x r ih =>
    obtain ⟨f', m⟩ := x
    simp only [lookM] at h
    cases e : f' == f with
    | true =>
      rw [e] at h
      obtain rfl : f' = f := by simpa using e
      exact ⟨m, by simp, h⟩
    | false =>
      rw [e] at h
      obtain ⟨m', h1, h2⟩ := ih h
      exact ⟨m', by simp [h1], h2⟩
noncomputable def markX : List SV → Option SV
  | [.int .i64 k] => bif dec (1 ≤ k) && dec (k ≤ 1099511627776) then some (.str (markT k)) else none
  | _ => none
theorem markX_told {xs : List SV} {r : SV} (h : markX xs = some r) : Fun Tryz.prog 49 xs [] r [] := by
  unfold markX at h
  split at h
  · rename_i k
    obtain ⟨h1, h2⟩ := bif_some h
    rw [Bool.and_eq_true, dec_iff, dec_iff] at h1
    obtain rfl := Option.some.inj h2
    obtain ⟨n, rfl⟩ : ∃ n : Nat, k = n := ⟨k.toNat, by omega⟩
    refine Fun.of_ret (rv := .string (markT n)) (fun w I V => by simp only [RepV, true_and]; exact markT_size (by omega) (by omega)) fun w I V vs h => ?_
    obtain ⟨v, r, rfl, h3, h⟩ := args_cons h
    obtain rfl := args0 h
    obtain rfl := rep_int h3
    exact markText_any n w (by omega) (by omega)
  · cases h
def varX : List SV → Option SV
  | [.str s] => some (.bool (varB s))
  | _ => none
theorem varX_told {xs : List SV} {r : SV} (h : varX xs = some r) : Fun Tryz.prog 40 xs [] r [] := by
  unfold varX at h
  split at h
  · rename_i s
    obtain rfl := Option.some.inj h
    refine Fun.of_same (rv := .bool (varB s)) (fun w I V => by simp only [RepV]) fun w I V vs h => ?_
    obtain ⟨v, r, rfl, h3, h⟩ := args_cons h
    obtain rfl := args0 h
    obtain ⟨rfl, h4⟩ := rep_str h3
    exact isVariable_any s w h4
  · cases h
def varY : List SV → Option SV
  | [.str s] => some (.bool (varB s))
  | _ => none
theorem varY_told {xs : List SV} {r : SV} (h : varY xs = some r) : Fun Tryz.prog 32 xs [] r [] := by
  unfold varY at h
  split at h
  · rename_i s
    obtain rfl := Option.some.inj h
    refine Fun.of_same (rv := .bool (varB s)) (fun w I V => by simp only [RepV]) fun w I V vs h => ?_
    obtain ⟨v, r, rfl, h3, h⟩ := args_cons h
    obtain rfl := args0 h
    obtain ⟨rfl, h4⟩ := rep_str h3
    exact l2Var_any s w h4
  · cases h
def symX : List SV → Option SV
  | [.str s] => some (.bool (symB s))
  | _ => none
theorem symX_told {xs : List SV} {r : SV} (h : symX xs = some r) : Fun Tryz.prog 86 xs [] r [] := by
  unfold symX at h
  split at h
  · rename_i s
    obtain rfl := Option.some.inj h
    refine Fun.of_ret (rv := .bool (symB s)) (fun w I V => by simp only [RepV]) fun w I V vs h => ?_
    obtain ⟨v, r, rfl, h3, h⟩ := args_cons h
    obtain rfl := args0 h
    obtain ⟨rfl, h4⟩ := rep_str h3
    exact isSymbol_any s w h4
  · cases h
def symY : List SV → Option SV
  | [.str s] => some (.bool (symB s))
  | _ => none
theorem symY_told {xs : List SV} {r : SV} (h : symY xs = some r) : Fun Tryz.prog 57 xs [] r [] := by
  unfold symY at h
  split at h
  · rename_i s
    obtain rfl := Option.some.inj h
    refine Fun.of_same (rv := .bool (symB s)) (fun w I V => by simp only [RepV]) fun w I V vs h => ?_
    obtain ⟨v, r, rfl, h3, h⟩ := args_cons h
    obtain rfl := args0 h
    obtain ⟨rfl, h4⟩ := rep_str h3
    exact l2Symbol_any s w h4
  · cases h
noncomputable def modes : FuncId → FM := lookM [(49, ⟨[], .asis, some (valX markX), false⟩), (40, ⟨[], .asis, some (valX varX), false⟩), (32, ⟨[], .asis, some (valX varY), false⟩), (86, ⟨[], .asis, some (valX symX), false⟩), (57, ⟨[], .asis, some (valX symY), false⟩), (50, ⟨[true], .asis, none, true⟩), (28, ⟨[true], .asis, none, true⟩), (13, ⟨[true], .asis, none, false⟩), (27, ⟨[true], .asis, none, true⟩), (12, ⟨[true], .asis, none, false⟩), (107, ⟨[], .own [some (68, 2)], none, false⟩), (73, ⟨[], .own [none, some (68, 2)], none, false⟩), (44, ⟨[], .own [none, some (68, 2), none], none, false⟩), (60, ⟨[], .frz, none, false⟩), (36, ⟨[], .frz, none, false⟩), (94, ⟨[], .frz, none, false⟩), (75, ⟨[true], .asis, some sortLit, false⟩), (76, ⟨[true], .asis, some compactLit, false⟩), (74, ⟨[], .own [none, none, some (68, 2)], none, false⟩), (46, ⟨[], .own [some (74, 3)], none, false⟩), (45, ⟨[true], .own [some (74, 3), none], none, false⟩), (24, ⟨[], .own [some (74, 3), none], none, false⟩), (9, ⟨[], .own [some (74, 3), none], none, false⟩), (37, ⟨[], .frl [10], none, false⟩), (19, ⟨[], .frz, none, false⟩), (6, ⟨[], .frz, none, false⟩)]
theorem modes_told : ExtTold Tryz.prog modes := by
  intro f g xs ob r ob' hg hx
  obtain ⟨m, h1, h2⟩ := lookM_ext hg
  rcases List.mem_cons.1 h1 with h1 | h1
  · obtain ⟨rfl, rfl⟩ := Prod.mk.inj h1
    obtain rfl := Option.some.inj h2
    exact valX_told markX_told hx
  rcases List.mem_cons.1 h1 with h1 | h1
  · obtain ⟨rfl, rfl⟩ := Prod.mk.inj h1
    obtain rfl := Option.some.inj h2
    exact valX_told varX_told hx
  rcases List.mem_cons.1 h1 with h1 | h1
  · obtain ⟨rfl, rfl⟩ := Prod.mk.inj h1
    obtain rfl := Option.some.inj h2
    exact valX_told varY_told hx
  rcases List.mem_cons.1 h1 with h1 | h1
  · obtain ⟨rfl, rfl⟩ := Prod.mk.inj h1
    obtain rfl := Option.some.inj h2
    exact valX_told symX_told hx
  rcases List.mem_cons.1 h1 with h1 | h1
  · obtain ⟨rfl, rfl⟩ := Prod.mk.inj h1
    obtain rfl := Option.some.inj h2
    exact valX_told symY_told hx
  rcases List.mem_cons.1 h1 with h1 | h1
  · obtain ⟨rfl, rfl⟩ := Prod.mk.inj h1
    cases h2
  rcases List.mem_cons.1 h1 with h1 | h1
  · obtain ⟨rfl, rfl⟩ := Prod.mk.inj h1
    cases h2
  rcases List.mem_cons.1 h1 with h1 | h1
  · obtain ⟨rfl, rfl⟩ := Prod.mk.inj h1
    cases h2
  rcases List.mem_cons.1 h1 with h1 | h1
  · obtain ⟨rfl, rfl⟩ := Prod.mk.inj h1
    cases h2
  rcases List.mem_cons.1 h1 with h1 | h1
  · obtain ⟨rfl, rfl⟩ := Prod.mk.inj h1
    cases h2
  rcases List.mem_cons.1 h1 with h1 | h1
  · obtain ⟨rfl, rfl⟩ := Prod.mk.inj h1
    cases h2
  rcases List.mem_cons.1 h1 with h1 | h1
  · obtain ⟨rfl, rfl⟩ := Prod.mk.inj h1
    cases h2
  rcases List.mem_cons.1 h1 with h1 | h1
  · obtain ⟨rfl, rfl⟩ := Prod.mk.inj h1
    cases h2
  rcases List.mem_cons.1 h1 with h1 | h1
  · obtain ⟨rfl, rfl⟩ := Prod.mk.inj h1
    cases h2
  rcases List.mem_cons.1 h1 with h1 | h1
  · obtain ⟨rfl, rfl⟩ := Prod.mk.inj h1
    cases h2
  rcases List.mem_cons.1 h1 with h1 | h1
  · obtain ⟨rfl, rfl⟩ := Prod.mk.inj h1
    cases h2
  rcases List.mem_cons.1 h1 with h1 | h1
  · obtain ⟨rfl, rfl⟩ := Prod.mk.inj h1
    obtain rfl := Option.some.inj h2
    exact sortLit_told hx
  rcases List.mem_cons.1 h1 with h1 | h1
  · obtain ⟨rfl, rfl⟩ := Prod.mk.inj h1
    obtain rfl := Option.some.inj h2
    exact compactLit_told hx
  rcases List.mem_cons.1 h1 with h1 | h1
  · obtain ⟨rfl, rfl⟩ := Prod.mk.inj h1
    cases h2
  rcases List.mem_cons.1 h1 with h1 | h1
  · obtain ⟨rfl, rfl⟩ := Prod.mk.inj h1
    cases h2
  rcases List.mem_cons.1 h1 with h1 | h1
  · obtain ⟨rfl, rfl⟩ := Prod.mk.inj h1
    cases h2
  rcases List.mem_cons.1 h1 with h1 | h1
  · obtain ⟨rfl, rfl⟩ := Prod.mk.inj h1
    cases h2
  rcases List.mem_cons.1 h1 with h1 | h1
  · obtain ⟨rfl, rfl⟩ := Prod.mk.inj h1
    cases h2
  rcases List.mem_cons.1 h1 with h1 | h1
  · obtain ⟨rfl, rfl⟩ := Prod.mk.inj h1
    cases h2
  rcases List.mem_cons.1 h1 with h1 | h1
  · obtain ⟨rfl, rfl⟩ := Prod.mk.inj h1
    cases h2
  rcases List.mem_cons.1 h1 with h1 | h1
  · obtain ⟨rfl, rfl⟩ := Prod.mk.inj h1
    cases h2
  cases h1
noncomputable def E : FEnv := ev Tryz.prog modes
noncomputable def calls : CallF := fCall modes E
theorem E_told {f : FuncId} {xs : List SV} {ob : List Ob} {r : SV} {ob' : List Ob} (h : E f xs ob = some (r, ob')) : Fun Tryz.prog f xs ob r ob' := ev_told mixed_ modes_told f xs ob r ob' h
noncomputable def run (n0 : Nat) : SC → St → Option (X × St) := fr Tryz.prog calls (loopWA n0)
def go (n0 : Nat) (sc : SC) (st : St) (K : X → St → Prop) : Prop := ∃ x st', run n0 sc st = some (x, st') ∧ K x st'
def seqk (n0 : Nat) (b : SC) (K : X → St → Prop) : X → St → Prop
  | .normal, st => go n0 b st K
  | .exit i, st => K (.exit i) st
  | .ret, st => K .ret st
def blk (id : Nat) (K : X → St → Prop) : X → St → Prop
  | .normal, st => K .normal st
  | .exit i, st => if i = id then K .normal st else K (.exit i) st
  | .ret, st => K .ret st
def someP (r : Option St) (k : X → St → Prop) : Prop :=
  match r with
  | some st => k .normal st
  | none => False
def drawP (anc : List (List Nat)) (r : Option (List Ent × St)) (k : X → St → Prop) : Prop :=
  match r with
  | some (es, st) => obB anc [] (locs es) 0 = true ∧ k .normal st
  | none => False
def boolP (v : SV) (a b : Unit → Prop) : Prop :=
  match v with
  | .bool true => a ()
  | .bool false => b ()
  | _ => False
noncomputable def regF (ops : List SOper) (st : St) : Option St := fSeq Tryz.prog calls ops st
noncomputable def drgF (ops : List SOper) (acc : List Ent) (st : St) : Option (List Ent × St) := fOps Tryz.prog calls ops acc st
section
variable {n0 : Nat} {st : St} {K : X → St → Prop}
theorem go_skip : go n0 .skip st K = K .normal st := by
  refine propext ⟨fun ⟨x, st', h, k⟩ => ?_, fun k => ⟨_, _, rfl, k⟩⟩
  obtain ⟨rfl, rfl⟩ : X.normal = x ∧ st = st' := by simpa [run, fr] using h
  exact k
theorem go_exit {i : Nat} : go n0 (.exit i) st K = K (.exit i) st := by
  refine propext ⟨fun ⟨x, st', h, k⟩ => ?_, fun k => ⟨_, _, rfl, k⟩⟩
  obtain ⟨rfl, rfl⟩ : X.exit i = x ∧ st = st' := by simpa [run, fr] using h
  exact k
theorem go_ret : go n0 .ret st K = K .ret st := by
  refine propext ⟨fun ⟨x, st', h, k⟩ => ?_, fun k => ⟨_, _, rfl, k⟩⟩
  obtain ⟨rfl, rfl⟩ : X.ret = x ∧ st = st' := by simpa [run, fr] using h
  exact k
theorem go_reg {ops : List SOper} : go n0 (.reg ops) st K = someP (regF ops st) K := by
  unfold someP regF
  refine propext ⟨fun ⟨x, st', h, k⟩ => ?_, fun k => ?_⟩
  · simp only [run, fr] at h
    split at h
    · rename_i s hs
      simp only [Option.some.injEq, Prod.mk.injEq] at h
      obtain ⟨rfl, rfl⟩ := h
      first | exact k | (simp only [hs]; exact k)
    · cases h
  · split at k
    · rename_i s hs
      exact ⟨.normal, s, by simp only [run, fr, hs], k⟩
    · exact k.elim
theorem go_dreg {anc : List (List Nat)} {ops : List SOper} : go n0 (.dreg anc ops) st K = drawP anc (drgF ops [] st) K := by
  unfold drawP drgF
  refine propext ⟨fun ⟨x, st', h, k⟩ => ?_, fun k => ?_⟩
  · simp only [run, fr] at h
    split at h
    · rename_i es s hs
      obtain ⟨h1, h2⟩ := bif_some h
      simp only [Option.some.injEq, Prod.mk.injEq] at h2
      obtain ⟨rfl, rfl⟩ := h2
      first | exact ⟨h1, k⟩ | (simp only [hs]; exact ⟨h1, k⟩)
    · cases h
  · split at k
    · rename_i es s hs
      exact ⟨.normal, s, by simp only [run, fr, hs, k.1, cond_true], k.2⟩
    · exact k.elim
theorem go_seq {a b : SC} : go n0 (.seq a b) st K = go n0 a st (seqk n0 b K) := by
  refine propext ⟨fun ⟨x, st', h, k⟩ => ?_, fun ⟨x, st', h, k⟩ => ?_⟩
  · simp only [run, fr, thenF] at h
    split at h
    · rename_i s hs
      exact ⟨.normal, s, hs, x, st', h, k⟩
    · rename_i i s hs
      simp only [Option.some.injEq, Prod.mk.injEq] at h
      obtain ⟨rfl, rfl⟩ := h
      exact ⟨_, _, hs, k⟩
    · rename_i s hs
      simp only [Option.some.injEq, Prod.mk.injEq] at h
      obtain ⟨rfl, rfl⟩ := h
      exact ⟨_, _, hs, k⟩
    · cases h
  · simp only [run] at h
    cases x with
    | normal =>
      obtain ⟨x2, st2, h2, k2⟩ := k
      exact ⟨x2, st2, by simp only [run, fr, thenF, h]; exact h2, k2⟩
    | exit i => exact ⟨_, st', by simp only [run, fr, thenF, h], k⟩
    | ret => exact ⟨_, st', by simp only [run, fr, thenF, h], k⟩
theorem go_block {id : Nat} {b : SC} : go n0 (.block id b) st K = go n0 b st (blk id K) := by
  refine propext ⟨fun ⟨x, st', h, k⟩ => ?_, fun ⟨x, st', h, k⟩ => ?_⟩
  · simp only [run, fr, blockF] at h
    split at h
    · rename_i s hs
      simp only [Option.some.injEq, Prod.mk.injEq] at h
      obtain ⟨rfl, rfl⟩ := h
      exact ⟨.normal, s, hs, k⟩
    · rename_i i s hs
      refine ⟨.exit i, s, hs, ?_⟩
      simp only [blk]
      by_cases hi : i = id
      · simp only [if_pos hi, Option.some.injEq, Prod.mk.injEq] at h ⊢
        obtain ⟨rfl, rfl⟩ := h
        exact k
      · simp only [if_neg hi, Option.some.injEq, Prod.mk.injEq] at h ⊢
        obtain ⟨rfl, rfl⟩ := h
        exact k
    · rename_i s hs
      simp only [Option.some.injEq, Prod.mk.injEq] at h
      obtain ⟨rfl, rfl⟩ := h
      exact ⟨_, s, hs, k⟩
    · cases h
  · simp only [run] at h
    cases x with
    | normal => exact ⟨_, st', by simp only [run, fr, blockF, h], k⟩
    | exit i =>
      simp only [blk] at k
      by_cases hi : i = id
      · simp only [if_pos hi] at k
        exact ⟨.normal, st', by simp only [run, fr, blockF, h, if_pos hi], k⟩
      · simp only [if_neg hi] at k
        exact ⟨.exit i, st', by simp only [run, fr, blockF, h, if_neg hi], k⟩
    | ret => exact ⟨_, st', by simp only [run, fr, blockF, h], k⟩
theorem go_cond {q : SX} {a b : SC} : go n0 (.cond q a b) st K = boolP (getX (gets st.sl) q) (fun _ => go n0 a st K) (fun _ => go n0 b st K) := by
  unfold boolP
  refine propext ⟨fun ⟨x, st', h, k⟩ => ?_, fun k => ?_⟩
  · simp only [run, fr] at h
    split at h
    · rename_i t ht
      simp only [ht]
      cases t with
      | true => exact ⟨x, st', h, k⟩
      | false => exact ⟨x, st', h, k⟩
    · cases h
  · split at k
    · rename_i ht
      obtain ⟨x, st', h, k⟩ := k
      exact ⟨x, st', by simp only [run, fr, ht, cond_true]; exact h, k⟩
    · rename_i ht
      obtain ⟨x, st', h, k⟩ := k
      exact ⟨x, st', by simp only [run, fr, ht, cond_false]; exact h, k⟩
    · exact k.elim
theorem boolP_t {a b : Unit → Prop} : boolP (.bool true) a b = a () := rfl
theorem boolP_f {a b : Unit → Prop} : boolP (.bool false) a b = b () := rfl
theorem boolP_n {t : Bool} {a b : Unit → Prop} : boolP (.bool (!t)) a b = boolP (.bool t) b a := by cases t <;> rfl
theorem go_condT {q : SX} {a b : SC} (h : getX (gets st.sl) q = .bool true) (k : go n0 a st K) : go n0 (.cond q a b) st K := by rw [go_cond, h]; exact k
theorem go_condF {q : SX} {a b : SC} (h : getX (gets st.sl) q = .bool false) (k : go n0 b st K) : go n0 (.cond q a b) st K := by rw [go_cond, h]; exact k
theorem boolP_split {t : Bool} {a b : Unit → Prop} (h1 : t = true → a ()) (h2 : t = false → b ()) : boolP (.bool t) a b := by
  cases t with
  | true => exact h1 rfl
  | false => exact h2 rfl
theorem seqk_n {b : SC} : seqk n0 b K .normal st = go n0 b st K := rfl
theorem seqk_e {b : SC} {i : Nat} : seqk n0 b K (.exit i) st = K (.exit i) st := rfl
theorem seqk_r {b : SC} : seqk n0 b K .ret st = K .ret st := rfl
theorem blk_n {id : Nat} : blk id K .normal st = K .normal st := rfl
theorem blk_e {id i : Nat} : blk id K (.exit i) st = if i = id then K .normal st else K (.exit i) st := rfl
theorem blk_r {id : Nat} : blk id K .ret st = K .ret st := rfl
theorem someP_s : someP (some st) K = K .normal st := rfl
def quiet : List Ent → Bool
  | [] => true
  | ⟨_, _, [], _⟩ :: r => quiet r
  | ⟨_, _, _ :: _, _⟩ :: _ => false
theorem obBj_quiet {anc : List (List Nat)} {rd : List Nat} {j : Nat} : ∀ {l : List Ent} {i : Nat}, quiet l = true → obBj anc rd [] j (locs l) i = true
  | [], i, _ => rfl
  | ⟨_, _, [], rdi⟩ :: r, i, h => by
    have := obBj_quiet (anc := anc) (rd := rd) (j := j) (l := r) (i := i + 1) h
    simp only [locs, List.map_cons, List.map_nil] at this ⊢
    simp only [obBj, this, Bool.and_true]
    have e1 : meets [] (rd ++ []) = false := rfl
    have e2 : meets rdi [] = false := by cases rdi <;> simp [meets]
    rw [e1, e2]; rfl
theorem quiet_app {l l' : List Ent} (h : quiet l = true) (h' : quiet l' = true) : quiet (l ++ l') = true := by
  induction l with
  | nil => exact h'
  | cons x r ih =>
    obtain ⟨a, b, c, d⟩ := x
    cases c with
    | nil => exact ih h
    | cons _ _ => cases h
theorem obB_quiet {anc : List (List Nat)} : ∀ {l pre : List Ent} {j : Nat}, quiet pre = true → quiet l = true → obB anc (locs pre) (locs l) j = true
  | [], pre, j, _, _ => rfl
  | ⟨a, b, [], rd⟩ :: r, pre, j, hp, h => by
    have e := obB_quiet (anc := anc) (l := r) (pre := pre ++ [⟨a, b, [], rd⟩]) (j := j + 1) (quiet_app hp rfl) h
    have e2 := obBj_quiet (anc := anc) (rd := rd) (j := j) (i := 0) hp
    simp only [locs, List.map_append, List.map_cons, List.map_nil] at e e2 ⊢
    simp only [obB, e2, e, Bool.and_self]
theorem drawP_s {anc : List (List Nat)} {es : List Ent} : drawP anc (some (es, st)) K = match quiet es with
    | true => K .normal st
    | false => obB anc [] (locs es) 0 = true ∧ K .normal st := by
  show (obB anc [] (locs es) 0 = true ∧ K .normal st) = _
  cases h : quiet es with
  | true => exact propext ⟨fun h => h.2, fun h' => ⟨obB_quiet (pre := []) rfl h, h'⟩⟩
  | false => rfl
noncomputable def regN (r : List SOper) (e : Option (Ent × St)) : Option St :=
  match e with
  | some (_, st) => regF r st
  | none => none
noncomputable def drgN (r : List SOper) (acc : List Ent) (e : Option (Ent × St)) : Option (List Ent × St) :=
  match e with
  | some (x, st) => drgF r (acc ++ [x]) st
  | none => none
noncomputable def opF (so : SOp) (sl : List SV) (ob : List Ob) : Option R3 := fOp Tryz.prog calls so sl ob
theorem regF_nil : regF [] st = some st := rfl
theorem regF_cons {d : Option Tmp} {so : SOp} {r : List SOper} {sl : List SV} {ob : List Ob} : regF (⟨d, none, so⟩ :: r) ⟨sl, ob⟩ = regN r (appF d ⟨sl, ob⟩ (opF so sl ob)) := rfl
noncomputable def gdF (d : Option Tmp) (so : SOp) (want : Bool) (sl : List SV) (ob : List Ob) (v : SV) : Option (Ent × St) :=
  match v with
  | .bool b => bif eqBo b want then appF d ⟨sl, ob⟩ (opF so sl ob) else some (⟨false, .tup [], [], []⟩, ⟨putS sl d (.tup []), ob⟩)
  | .tup [] => some (⟨false, .tup [], [], []⟩, ⟨putS sl d (.tup []), ob⟩)
  | _ => none
theorem regF_gd {d : Option Tmp} {k : Nat} {want : Bool} {so : SOp} {r : List SOper} {sl : List SV} {ob : List Ob} : regF (⟨d, some (k, want), so⟩ :: r) ⟨sl, ob⟩ = regN r (gdF d so want sl ob (gets sl k)) := rfl
theorem drgF_nil {acc : List Ent} : drgF [] acc st = some (acc, st) := rfl
theorem drgF_cons {d : Option Tmp} {so : SOp} {r : List SOper} {acc : List Ent} {sl : List SV} {ob : List Ob} : drgF (⟨d, none, so⟩ :: r) acc ⟨sl, ob⟩ = drgN r acc (appF d ⟨sl, ob⟩ (opF so sl ob)) := rfl
theorem drgF_gd {d : Option Tmp} {k : Nat} {want : Bool} {so : SOp} {r : List SOper} {acc : List Ent} {sl : List SV} {ob : List Ob} : drgF (⟨d, some (k, want), so⟩ :: r) acc ⟨sl, ob⟩ = drgN r acc (gdF d so want sl ob (gets sl k)) := rfl
theorem regN_s {r : List SOper} {e : Ent} : regN r (some (e, st)) = regF r st := rfl
theorem drgN_s {r : List SOper} {acc : List Ent} {e : Ent} : drgN r acc (some (e, st)) = drgF r (acc ++ [e]) st := rfl
theorem gdF_t {d : Option Tmp} {so : SOp} {sl : List SV} {ob : List Ob} : gdF d so true sl ob (.bool true) = appF d ⟨sl, ob⟩ (opF so sl ob) := rfl
theorem gdF_ff {d : Option Tmp} {so : SOp} {sl : List SV} {ob : List Ob} : gdF d so false sl ob (.bool false) = appF d ⟨sl, ob⟩ (opF so sl ob) := rfl
theorem gdF_tf {d : Option Tmp} {so : SOp} {sl : List SV} {ob : List Ob} : gdF d so true sl ob (.bool false) = some (⟨false, .tup [], [], []⟩, ⟨putS sl d (.tup []), ob⟩) := rfl
theorem gdF_ft {d : Option Tmp} {so : SOp} {sl : List SV} {ob : List Ob} : gdF d so false sl ob (.bool true) = some (⟨false, .tup [], [], []⟩, ⟨putS sl d (.tup []), ob⟩) := rfl
theorem gdF_u {d : Option Tmp} {so : SOp} {want : Bool} {sl : List SV} {ob : List Ob} : gdF d so want sl ob (.tup []) = some (⟨false, .tup [], [], []⟩, ⟨putS sl d (.tup []), ob⟩) := rfl
theorem appF_n {d : Option Tmp} {x : SV} {rd : List Nat} : appF d st (some (x, [], rd)) = some (⟨true, x, [], rd⟩, ⟨putS st.sl d x, st.ob⟩) := rfl
theorem appF_c {d : Option Tmp} {x : SV} {q : Nat × Ob} {u : List (Nat × Ob)} {rd : List Nat} : appF d st (some (x, q :: u, rd)) = bif okUB (newOb st.ob (q :: u)).length (q :: u) then some (⟨true, x, q :: u, rd⟩, ⟨putS st.sl d x, newOb st.ob (q :: u)⟩) else none := rfl
def callN (ob : List Ob) (xs : List SV) (sel : List Nat) (r : Option (SV × List Ob)) (n : Nat) : Option R3 :=
  match r with
  | some (r, fob') => bif decide (n ≤ fob'.length) then some (callRes sel (lentL sel xs) ob.length r fob') else none
  | none => none
def selN (hd : List Bool) (f : FuncId) (xs : List SV) (ob : List Ob) (sel : List Nat) (e : List SV → List Ob → Option (SV × List Ob)) (b : Option (List Ob)) : Option R3 :=
  match b with
  | some fob => bif nodupB sel && allLtB ob.length sel && allIdsB fob.length fob then callN ob xs sel (e (lendN hd (geto ob) sel xs) fob) fob.length else none
  | none => none
def callS (hd : List Bool) (f : FuncId) (xs : List SV) (ob : List Ob) (sel : List Nat) (e : List SV → List Ob → Option (SV × List Ob)) : Option R3 := selN hd f xs ob sel e (backObs sel ob sel)
theorem calls_eq {f : FuncId} {xs : List SV} {ob : List Ob} : calls f xs ob = lateF (modes f).res (callS (modes f).hand f xs ob (reach ob 64 (handRefs (modes f).hand xs) []) (E f)) := rfl
theorem late_a {r : Option R3} : lateF .asis r = r := rfl
theorem late_f {r : Option R3} : lateF .frz r = r := rfl
theorem late_o {l : List (Option (Nat × Nat))} {r : Option R3} : lateF (.own l) r = r := rfl
theorem late_t {l : List (Option (Nat × Nat))} {r : Option R3} : lateF (.tr l) r = r := rfl
theorem late_l {l : List Nat} {r : Option R3} : lateF (.frl l) r = r := rfl
theorem late_s {r : R3} : lateF .late (some r) = lateC r := rfl
theorem goneIn_nil : ∀ u : List (Nat × Ob), goneIn [] u = u
  | [] => rfl
  | (g, o) :: u => by rw [goneIn, goneIn_nil u]; rfl
theorem late_b {m : RM} {b : Bool} {u : List (Nat × Ob)} {rd : List Nat} : lateF m (some (.bool b, u, rd)) = some (.bool b, u, rd) := by
  cases m <;> first | rfl | (show some (SV.bool b, goneIn [] u, rd) = _; rw [goneIn_nil])
theorem late_i {m : RM} {k : IntKind} {n : Int} {u : List (Nat × Ob)} {rd : List Nat} : lateF m (some (.int k n, u, rd)) = some (.int k n, u, rd) := by
  cases m <;> first | rfl | (show some (SV.int k n, goneIn [] u, rd) = _; rw [goneIn_nil])
theorem callS_nil {hd : List Bool} {f : FuncId} {xs : List SV} {ob : List Ob} {e : List SV → List Ob → Option (SV × List Ob)} : callS hd f xs ob [] e = callN ob xs [] (e (lendN hd (geto ob) [] xs) []) 0 := rfl
theorem callS_cons {hd : List Bool} {f : FuncId} {xs : List SV} {ob : List Ob} {g : Nat} {r : List Nat} {e : List SV → List Ob → Option (SV × List Ob)} : callS hd f xs ob (g :: r) e = selN hd f xs ob (g :: r) e (backObs (g :: r) ob (g :: r)) := rfl
theorem callN_z {ob : List Ob} {xs : List SV} {r : SV} {fob' : List Ob} : callN ob xs [] (some (r, fob')) 0 = some (callRes [] (lentL [] xs) ob.length r fob') := rfl
theorem callN_s {ob : List Ob} {xs : List SV} {sel : List Nat} {r : SV} {fob' : List Ob} {n : Nat} : callN ob xs sel (some (r, fob')) n = bif decide (n ≤ fob'.length) then some (callRes sel (lentL sel xs) ob.length r fob') else none := rfl
theorem selN_s {hd : List Bool} {f : FuncId} {xs : List SV} {ob : List Ob} {sel : List Nat} {fob : List Ob} {e : List SV → List Ob → Option (SV × List Ob)} : selN hd f xs ob sel e (some fob) = bif nodupB sel && allLtB ob.length sel && allIdsB fob.length fob then callN ob xs sel (e (lendN hd (geto ob) sel xs) fob) fob.length else none := rfl
theorem callRes_v {p : Nat} {r : SV} : callRes [] [] p r [] = (r.ren (sgp [] p), [], []) := rfl
def roundK {α : Type} (n0 : Nat) (keep : List Nat) (H : α → St) (R : α → Prop) (μ : α → Nat) (a : α) (K : X → St → Prop) : X → St → Prop
  | .normal, st' => ∃ y, R y ∧ μ y < μ a ∧ canon n0 keep st' = H y
  | .exit i, st' => K (.exit i) st'
  | .ret, st' => K .ret st'
theorem roundK_n {α : Type} {keep : List Nat} {H : α → St} {R : α → Prop} {μ : α → Nat} {a : α} {st' : St} : roundK n0 keep H R μ a K .normal st' = ∃ y, R y ∧ μ y < μ a ∧ canon n0 keep st' = H y := rfl
theorem roundK_e {α : Type} {keep : List Nat} {H : α → St} {R : α → Prop} {μ : α → Nat} {a : α} {i : Nat} {st' : St} : roundK n0 keep H R μ a K (.exit i) st' = K (.exit i) st' := rfl
theorem roundK_r {α : Type} {keep : List Nat} {H : α → St} {R : α → Prop} {μ : α → Nat} {a : α} {st' : St} : roundK n0 keep H R μ a K .ret st' = K .ret st' := rfl
theorem go_loop {α : Type} {keep : List Nat} {b : SC} (H : α → St) (R : α → Prop) (μ : α → Nat) (a0 : α) (hR : R a0) (h0 : canon n0 keep st = H a0) (round : ∀ a, R a → go n0 b (H a) (roundK n0 keep H R μ a K)) : go n0 (.loop keep b) st K := by
  have key : ∀ (n : Nat) (a : α) (st : St), μ a ≤ n → R a → canon n0 keep st = H a → ∃ x st', loopW n0 keep (run n0 b) st = some (x, st') ∧ K x st' := by
    intro n
    induction n with
    | zero =>
      intro a st hn hR hc
      obtain ⟨x, st', h, k⟩ := round a hR
      cases x with
      | normal =>
        obtain ⟨y, _, h2, _⟩ := k
        omega
      | exit i => exact ⟨_, st', by rw [loopW_eq, hc, h]; rfl, k⟩
      | ret => exact ⟨_, st', by rw [loopW_eq, hc, h]; rfl, k⟩
    | succ n ih =>
      intro a st hn hR hc
      obtain ⟨x, st', h, k⟩ := round a hR
      cases x with
      | normal =>
        obtain ⟨y, h1, h2, h3⟩ := k
        obtain ⟨x2, st2, h4, k2⟩ := ih y st' (by omega) h1 h3
        exact ⟨x2, st2, by rw [loopW_eq, hc, h]; exact h4, k2⟩
      | exit i => exact ⟨_, st', by rw [loopW_eq, hc, h]; rfl, k⟩
      | ret => exact ⟨_, st', by rw [loopW_eq, hc, h]; rfl, k⟩
  exact key (μ a0) a0 st (Nat.le_refl _) hR h0
def mroundK (n0 : Nat) (keep keepO : List Nat) (H : EL → St) (F : X × St) (p : EL) : X → St → Prop
  | .normal, st' => canon n0 keep st' = H p
  | .exit i, st' => F = (.exit i, canon n0 keepO st')
  | .ret, st' => F = (.ret, canon n0 keepO st')
def mendK (n0 : Nat) (keepO : List Nat) (F : X × St) : X → St → Prop
  | .normal, _ => False
  | .exit i, st' => F = (.exit i, canon n0 keepO st')
  | .ret, st' => F = (.ret, canon n0 keepO st')
theorem mroundK_n {keep keepO : List Nat} {H : EL → St} {F : X × St} {p : EL} {st' : St} : mroundK n0 keep keepO H F p .normal st' = (canon n0 keep st' = H p) := rfl
theorem mroundK_e {keep keepO : List Nat} {H : EL → St} {F : X × St} {p : EL} {i : Nat} {st' : St} : mroundK n0 keep keepO H F p (.exit i) st' = (F = (.exit i, canon n0 keepO st')) := rfl
theorem mroundK_r {keep keepO : List Nat} {H : EL → St} {F : X × St} {p : EL} {st' : St} : mroundK n0 keep keepO H F p .ret st' = (F = (.ret, canon n0 keepO st')) := rfl
theorem mendK_e {keepO : List Nat} {F : X × St} {i : Nat} {st' : St} : mendK n0 keepO F (.exit i) st' = (F = (.exit i, canon n0 keepO st')) := rfl
theorem mendK_r {keepO : List Nat} {F : X × St} {st' : St} : mendK n0 keepO F .ret st' = (F = (.ret, canon n0 keepO st')) := rfl
end
def slots : Nat → Nat → List (Nat × SV) → List SV
  | 0, _, _ => []
  | n + 1, k, [] => .any :: slots n (k + 1) []
  | n + 1, k, (j, x) :: r => bif j == k then x :: slots n (k + 1) r else .any :: slots n (k + 1) ((j, x) :: r)
def finK (res : RM) (n0 : Nat) (rs : List RX) (out : SV × List Ob) (x : X) (st : St) : Prop := fin res n0 rs x st = some out
def ordF (res : RM) (n0 : Nat) (r : Option (SV × List Ob)) : Option (SV × List Ob) :=
  match r with
  | some (r, ob) => order res n0 r ob
  | none => none
def resF1 (res : RM) (n0 : Nat) (ob : List Ob) (r : Option SV) : Option (SV × List Ob) :=
  match r with
  | some r0 => ordF res n0 (gc n0 r0 ob)
  | none => none
theorem finK_r {res : RM} {n0 : Nat} {rs : List RX} {out : SV × List Ob} {sl : List SV} {ob : List Ob} : finK res n0 rs out .ret ⟨sl, ob⟩ = (resF1 res n0 ob (resV ⟨sl, ob⟩ rs) = some out) := rfl
theorem finK_n {res : RM} {n0 : Nat} {rs : List RX} {out : SV × List Ob} {sl : List SV} {ob : List Ob} : finK res n0 rs out .normal ⟨sl, ob⟩ = (resF1 res n0 ob (resV ⟨sl, ob⟩ rs) = some out) := rfl
theorem resF1_s {res : RM} {n0 : Nat} {ob : List Ob} {r : SV} : resF1 res n0 ob (some r) = ordF res n0 (gc n0 r ob) := rfl
theorem ordF_s {n0 : Nat} {r : SV} {ob : List Ob} {res : RM} : ordF res n0 (some (r, ob)) = order res n0 r ob := rfl
theorem E_walk {f : FuncId} {fc : FC} {hand : List Bool} {res : RM} {tr : Bool} {xs : List SV} {ob : List Ob} {out : SV × List Ob} (hc : codeOf Tryz.prog f = some fc) (hr : modes f = ⟨hand, res, none, tr⟩) (hn : xs.length ≤ fc.nt) (h : go ob.length (markR res fc.sc) ⟨xs ++ anys (fc.nt - xs.length), entry tr ob⟩ (finK res ob.length fc.rs out)) : E f xs ob = some out := by
  obtain ⟨x, st', h1, h2⟩ := h
  unfold E
  rw [ev_eq]
  unfold bodyF
  rw [hc, hr]
  simp only
  rw [decide_eq_true hn, cond_true]
  have h1 : fr Tryz.prog (fCall modes (ev Tryz.prog modes)) (loopWA ob.length) (markR res fc.sc) ⟨xs ++ anys (fc.nt - xs.length), entry tr ob⟩ = some (x, st') := h1
  rw [h1]
  exact h2
theorem E_extO {f : FuncId} {g : List SV → List Ob → Option (SV × List Ob)} {xs : List SV} {ob : List Ob} (hg : (modes f).ext = some g) : E f xs ob = g xs ob := by
  unfold E
  rw [ev_eq]
  unfold bodyF
  rw [hg]
theorem E_ext {f : FuncId} {g : List SV → Option SV} {xs : List SV} {r : SV} (hg : (modes f).ext = some (valX g)) (h : g xs = some r) : E f xs [] = some (r, []) := by
  rw [E_extO hg]
  simp only [valX, h]
theorem m_laws_markText : modes 49 = ⟨[], .asis, some (valX markX), false⟩ := by unfold modes; rfl
theorem markText_E {k : Int} (h1 : 1 ≤ k) (h2 : k ≤ 1099511627776) : E 49 [.int .i64 k] [] = some (.str (markT k), []) := by
  refine E_ext (g := markX) (by unfold modes; rfl) ?_
  simp only [markX, dec_t h1, dec_t h2, Bool.and_self, cond_true]
theorem m_impl_isVariable : modes 40 = ⟨[], .asis, some (valX varX), false⟩ := by unfold modes; rfl
theorem isVariable_E (s : ByteArray) : E 40 [.str s] [] = some (.bool (varB s), []) := E_ext (g := varX) (congrArg FM.ext m_impl_isVariable) rfl
theorem m_spec_l2Var : modes 32 = ⟨[], .asis, some (valX varY), false⟩ := by unfold modes; rfl
theorem l2Var_E (s : ByteArray) : E 32 [.str s] [] = some (.bool (varB s), []) := E_ext (g := varY) (congrArg FM.ext m_spec_l2Var) rfl
theorem m_impl_isSymbol : modes 86 = ⟨[], .asis, some (valX symX), false⟩ := by unfold modes; rfl
theorem isSymbol_E (s : ByteArray) : E 86 [.str s] [] = some (.bool (symB s), []) := E_ext (g := symX) (congrArg FM.ext m_impl_isSymbol) rfl
theorem m_spec_l2Symbol : modes 57 = ⟨[], .asis, some (valX symY), false⟩ := by unfold modes; rfl
theorem l2Symbol_E (s : ByteArray) : E 57 [.str s] [] = some (.bool (symB s), []) := E_ext (g := symY) (congrArg FM.ext m_spec_l2Symbol) rfl
end Go.Proofs.YtibdknkacmimgaaGreat
