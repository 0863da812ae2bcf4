/-
  This text holds, one behind the other: This text runs code by functions, with loops and calls to the end, and says that what it tells is true of the program. No condition.
  This text takes what functions tell to the limit: no bound on rounds and depth is left, and a function's answer is its code's. No condition.
  This text says how tables lie in memory, and holds small laws of sizes. No condition.
  This text says how the records of the laws lie in memory. No condition.
  This text turns contracts of the kit's form into contracts by shadows, and holds small laws of lists. No condition.
  This text proves what the laws' text of a mark is. Condition: the number is from 1 to 2^40.
  This text proves what the functions on names compute: variables, symbols, bytes. Condition: a name has at most the greatest length.
  This text proves what the functions on symbols compute, the program's and the reference's. Condition: a name has at most the greatest length.
  This text proves what the reference's functions on names compute. Condition: a name has at most the greatest length.
  This text lays a contract of the library at the seat: which functions and types of the program are those that it speaks of. No condition.
  This text tells what joining texts answers: the library's strings.Join. No condition.
  This text lays a contract of the library at the seat: which functions and types of the program are those that it speaks of. No condition.
  This text tells what the library's slices.Clone answers, at names and at numbers: a row of the call's own. No condition.
  This text gives, for the seat's program, the steps by which code is run as a function, and the rule for loops. No condition.
  This text says how the records lie in memory of the call's own. No condition.
  This text holds small laws for runs of code as functions. No condition.
  This text holds plain laws of terms: sizes, depths, names, validity. No condition.
  This text tells what the order of terms answers in both packages. No condition.
  This text holds plain laws of interpretations: validity, values of terms, truth of atoms. No condition.
  This text holds plain laws of renaming the elements of an interpretation. No condition.
  This text holds plain laws of the order of names. No condition.
  This text holds plain laws of interpretations: assignments as maps, values of terms and atoms. No condition.
  This text holds a rule for runs of which a part of the answer is left open. No condition.
-/
import Derived.Test.YtolhlpglgheldaaK9a
import Derived.Test.YtolhlpglgheldaaK9b
import Derived.Laws.IdiomStrings
import Derived.Shelf.Lays
import Derived.Test.YtolhlpglgheldaaChecked
import Derived.Shelf.Strings.OnBuilder
import Derived.Shelf.Lays2
import Derived.Shelf.Slices.Clone
open Nat renaming reduceAdd → zA, reduceSub → zB, reduceLT → zC, reduceLeDiff → zD, reduceEqDiff → zE, reduceBEq → zF, reduceBneDiff → zG, reduceMul → zH
open Int renaming reduceToNat → zI, reduceNeg → zJ, reduceAdd → zK
set_option maxRecDepth 100000
set_option linter.unusedSimpArgs false
set_option linter.unusedVariables false
namespace Go.Proofs.Ytolhlpglgheldaa
open Go.RowKit
def keepS (m : List Nat) : List Nat → List SV → List SV
  | [], [] => []
  | _ :: _, [] => []
  | [], _ :: xs => .any :: keepS m [] xs
  | 0 :: ks, _ :: xs => .any :: keepS m ks xs
  | (_ + 1) :: ks, x :: xs => (match x.back m with | some y => y | none => .any) :: keepS m ks xs
def keepRefs : List Nat → List SV → List Nat
  | (_ + 1) :: ks, x :: xs => x.refs ++ keepRefs ks xs
  | 0 :: ks, _ :: xs => keepRefs ks xs
  | _, _ => []
def setG : List Ob → Nat → Ob → List Ob
  | [], _, _ => []
  | _ :: r, 0, o => o :: r
  | x :: r, g + 1, o => x :: setG r g o
def plugH (live : List Nat) (ob : List Ob) (g : Nat) : Ob → List Ob
  | .tree es ((k, o, q) :: r) => bif memB q live || (q == g) then ob else match geto ob q with
    | .tree e2 [] => match es[k]? with
      | some l => bif decide (o < l.length) then setG (setG ob g (.tree (es.set k (l.set o (.ow e2))) r)) q .gone else ob
      | none => ob
    | _ => ob
  | _ => ob
def plugG (live : List Nat) : Nat → Nat → List Ob → List Ob
  | 0, _, ob => ob
  | n + 1, g, ob => plugG live n g (plugH live ob g (geto ob g))
def plugA (live : List Nat) : List Nat → List Ob → List Ob
  | [], ob => ob
  | g :: r, ob => plugA live r (match geto ob g with
    | .tree _ (_ :: _) => plugG live 8 g ob
    | _ => ob)
def canonO (n0 : Nat) (keep : List Nat) (sl : List SV) (ob : List Ob) : St :=
  ⟨keepS (names n0 ob (keepRefs keep sl)) keep sl, gcObs (names n0 ob (keepRefs keep sl)) ob (names n0 ob (keepRefs keep sl))⟩
def canon (n0 : Nat) (keep : List Nat) (st : St) : St := canonO n0 keep st.sl (plugA (keepRefs keep st.sl) (upTo st.ob.length) st.ob)
theorem geto_setG : ∀ {l : List Ob} {g j : Nat} {o : Ob}, geto (setG l g o) j = if j = g ∧ g < l.length then o else geto l j
  | [], g, j, o => by simp [setG, geto]
  | x :: r, 0, 0, o => by simp [setG, geto]
  | x :: r, 0, j + 1, o => by simp [setG, geto]
  | x :: r, g + 1, 0, o => by simp [setG, geto]
  | x :: r, g + 1, j + 1, o => by
    simp only [setG, geto, List.length_cons, Nat.add_lt_add_iff_right, Nat.add_right_cancel_iff]
    exact geto_setG
theorem Wf.plug {w : World} {I : Nat → Prop} {V : Nat → Option Value} {B : Nat → Nat → Prop} {ob ob' : Nat → Ob} (h : Wf w I V B ob) {g q k o : Nat} {es e2 : List (List OT)} {r : List (Nat × Nat × Nat)} {l : List OT} (hg : ob g = .tree es ((k, o, q) :: r)) (hq : ob q = .tree e2 []) (hne : q ≠ g) (hl : es[k]? = some l) (ho : o < l.length)
    (h1 : ob' g = .tree (es.set k (l.set o (.ow e2))) r) (h2 : ob' q = .gone) (h3 : ∀ j, j ≠ g → j ≠ q → ob' j = ob j) : Wf w I V (fun j x => if j = g then B g x ∨ B q x else B j x) ob' := by
  have lg : (ob g).live := by rw [hg]; trivial
  have lq : (ob q).live := by rw [hq]; trivial
  obtain ⟨val, hV, t, sz, hR, hH⟩ : ∃ val, V g = some val ∧ TreeR w I V (B g) es ((k, o, q) :: r) val := by
    obtain ⟨val, a, b⟩ := h.obj g lg
    rw [hg] at b; exact ⟨val, a, b⟩
  obtain ⟨val2, hV2, t2, sz2, hR2, _⟩ : ∃ val, V q = some val ∧ TreeR w I V (B q) e2 [] val := by
    obtain ⟨val, a, b⟩ := h.obj q lq
    rw [hq] at b; exact ⟨val, a, b⟩
  refine h.upd (w' := w) (fun j => j = g ∨ j = q) (Nat.le_refl _) (fun _ _ _ => rfl) (fun _ h => h) (VLe.refl _) (fun j hj => ?_) (fun b hb => .inl hb) h.ilt (fun j hj hlv => ?_) (fun j b hj hlv hb => ?_) (fun j b hj hlv hb hI => ?_) (fun j j' b hj hj' hlv hlv' _ _ => ?_) (fun j hj hf => ?_)
  · have a : ¬ j = g := fun e => hj (.inl e)
    have b : ¬ j = q := fun e => hj (.inr e)
    exact ⟨h3 j a b, by funext x; simp only [if_neg a], fun hf => h.fr j hf⟩
  · rcases hj with rfl | rfl
    · refine ⟨val, hV, ?_⟩
      rw [h1]
      obtain ⟨g1, g2, b2, c2, v2, e4, g3, g4, g5⟩ := hH (k, o, q) (by simp)
      obtain ⟨b, cap, v, S0, e1, e5, hb1, hb2, hc, _, hS, hnew⟩ := hR.leaf (l := l) (off := o) hl (.inr ho) ho
      subst e1
      have hbb : b2 = b := by rw [e4] at e5; simp at e5; exact e5.1
      subst hbb
      rw [hc] at g3
      obtain rfl := Option.some.inj g3
      rw [hV2] at g4
      obtain rfl := Option.some.inj g4
      refine ⟨t, l.length, (hnew (.ow e2) (B q) hR2.ot (fun x hx hx' => absurd (h.dO q j x lq lg hx hx') hne)).up fun x hx => ?_, fun p hp => ?_⟩
      · simp only [if_true]
        exact hx.imp (fun h => h.1) id
      · rw [List.length_set]
        exact hH p (by simp [hp])
    · rw [h2] at hlv; exact hlv.elim
  · rcases hj with rfl | rfl
    · simp only [if_true] at hb
      rcases hb with hb | hb
      · exact .inr ⟨j, .inl rfl, lg, hb⟩
      · exact .inr ⟨q, .inr rfl, lq, hb⟩
    · rw [h2] at hlv; exact hlv.elim
  · rcases hj with rfl | rfl
    · simp only [if_true] at hb
      rcases hb with hb | hb
      · exact h.dI j b lg hb hI
      · exact h.dI q b lq hb hI
    · rw [h2] at hlv; exact hlv.elim
  · rcases hj with rfl | rfl
    · rcases hj' with rfl | rfl
      · rfl
      · rw [h2] at hlv'; exact hlv'.elim
    · rw [h2] at hlv; exact hlv.elim
  · rcases hj with rfl | rfl
    · rw [h1] at hf; cases hf
    · rw [h2] at hf; cases hf
theorem plugH_weak {c : Ctx} {live : List Nat} {sl : List SV} {ob : List Ob} {g : Nat} : Weak c ⟨sl, ob⟩ ⟨sl, plugH live ob g (geto ob g)⟩ := by
  cases hgo : geto ob g with
  | free => exact Weak.refl_ _
  | gone => exact Weak.refl_ _
  | box t l => exact Weak.refl_ _
  | row t sz es => exact Weak.refl_ _
  | mp ks m => exact Weak.refl_ _
  | it ks m seen cur => exact Weak.refl_ _
  | tree es hs =>
    cases hs with
    | nil => exact Weak.refl_ _
    | cons h r =>
      obtain ⟨k, o, q⟩ := h
      simp only [plugH]
      cases hc : (memB q live || (q == g)) with
      | true => exact Weak.refl_ _
      | false =>
        simp only [cond_false]
        split
        · rename_i e2 hq
          split
          · rename_i l hl
            cases hd : decide (o < l.length) with
            | false => exact Weak.refl_ _
            | true =>
              have ho := of_decide_eq_true hd
              simp only [cond_true]
              have hne : q ≠ g := by
                rw [Bool.or_eq_false_iff] at hc
                simpa using hc.2
              have lt : ∀ j, (geto ob j).live → j < ob.length := fun j hj => by
                rcases Nat.lt_or_ge j ob.length with h | h
                · exact h
                · rw [geto_big _ _ h] at hj; exact hj.elim
              have hlg := lt g (by rw [hgo]; trivial)
              have hlq := lt q (by rw [hq]; trivial)
              have hsl : ∀ (l : List Ob) (j : Nat) (x : Ob), (setG l j x).length = l.length := by
                intro l
                induction l with
                | nil => intro j x; rfl
                | cons y r ih => intro j x; cases j <;> simp [setG, ih]
              have e1 : geto (setG (setG ob g (.tree (es.set k (l.set o (.ow e2))) r)) q .gone) g = .tree (es.set k (l.set o (.ow e2))) r := by
                rw [geto_setG, if_neg (fun h => hne h.1.symm), geto_setG, if_pos ⟨rfl, hlg⟩]
              have e2' : geto (setG (setG ob g (.tree (es.set k (l.set o (.ow e2))) r)) q .gone) q = .gone := by
                rw [geto_setG, if_pos ⟨rfl, by rw [hsl]; exact hlq⟩]
              have e3 : ∀ j, j ≠ g → j ≠ q → geto (setG (setG ob g (.tree (es.set k (l.set o (.ow e2))) r)) q .gone) j = geto ob j := fun j h1 h2 => by
                rw [geto_setG, if_neg (fun h => h2 h.1), geto_setG, if_neg (fun h => h1 h.1)]
              intro hlen
              refine ⟨hlen, fun a w hr => ?_⟩
              obtain ⟨I, V, B, hr⟩ := hr
              refine ⟨I, V, _, hr.fr, hr.i0, hr.i1, hr.v0, hr.wf.plug (es := es) (e2 := e2) (ob' := geto (setG (setG ob g (.tree (es.set k (l.set o (.ow e2))) r)) q .gone)) hgo hq hne hl ho e1 e2' e3, fun j b hj hb => ?_, hr.nd, hr.sz, hr.slots⟩
              have hj : (geto (setG (setG ob g (.tree (es.set k (l.set o (.ow e2))) r)) q .gone) j).live := hj
              by_cases hjg : j = g
              · subst hjg
                simp only [if_true] at hb
                rcases hb with hb | hb
                · exact hr.bh j b (by show (geto ob j).live; rw [hgo]; trivial) hb
                · exact hr.bh q b (by show (geto ob q).live; rw [hq]; trivial) hb
              · simp only [if_neg hjg] at hb
                by_cases hjq : j = q
                · subst hjq; rw [e2'] at hj; exact hj.elim
                · rw [e3 j hjg hjq] at hj
                  exact hr.bh j b hj hb
          · exact Weak.refl_ _
        · exact Weak.refl_ _
theorem plugG_weak {c : Ctx} {live : List Nat} {sl : List SV} {g : Nat} : ∀ {n : Nat} {ob : List Ob}, Weak c ⟨sl, ob⟩ ⟨sl, plugG live n g ob⟩
  | 0, ob => Weak.refl_ _
  | n + 1, ob => Weak.trans plugH_weak plugG_weak
theorem plugA_weak {c : Ctx} {live : List Nat} {sl : List SV} : ∀ {gs : List Nat} {ob : List Ob}, Weak c ⟨sl, ob⟩ ⟨sl, plugA live gs ob⟩
  | [], ob => Weak.refl_ _
  | g :: r, ob => by
    have h1 : Weak c ⟨sl, ob⟩ ⟨sl, match geto ob g with
      | .tree _ (_ :: _) => plugG live 8 g ob
      | _ => ob⟩ := by
      split
      · exact plugG_weak
      · exact Weak.refl_ _
    exact Weak.trans h1 (plugA_weak (gs := r))
theorem keepS_le {m : List Nat} {p : Nat} : ∀ {ks : List Nat} {xs : List SV}, leL (sgp m p) (keepS m ks xs) xs
  | [], [] => trivial
  | _ :: _, [] => trivial
  | [], x :: xs => ⟨trivial, keepS_le (ks := []) (xs := xs)⟩
  | 0 :: ks, x :: xs => ⟨trivial, keepS_le (ks := ks) (xs := xs)⟩
  | (k + 1) :: ks, x :: xs => by
    refine ⟨?_, keepS_le (ks := ks) (xs := xs)⟩
    split
    · rename_i y h
      exact leV_of (SV.back_ren h)
    · trivial
theorem canon_weak {c : Ctx} {keep : List Nat} {st : St} : Weak c st (canon c.m keep st) := Weak.trans (plugA_weak (sl := st.sl) (ob := st.ob)) (weak_by _ (names_weak keepS_le))
def thenF (r : Option (X × St)) (k : St → Option (X × St)) : Option (X × St) :=
  match r with
  | some (.normal, st) => k st
  | some (.exit i, st) => some (.exit i, st)
  | some (.ret, st) => some (.ret, st)
  | none => none
def blockF (id : Nat) (r : Option (X × St)) : Option (X × St) :=
  match r with
  | some (.normal, st) => some (.normal, st)
  | some (.exit i, st) => if i = id then some (.normal, st) else some (.exit i, st)
  | some (.ret, st) => some (.ret, st)
  | none => none
structure MI where
  keepO : List Nat
  it : SX
  nx : Nat
  more : Nat
abbrev LoopF := Option MI → List Nat → (St → Option (X × St)) → St → Option (X × St)
noncomputable def fr (P : Program) (C : CallF) (L : LoopF) : SC → St → Option (X × St)
  | .skip, st => some (.normal, st)
  | .reg ops, st => match fSeq P C ops st with
    | some st' => some (.normal, st')
    | none => none
  | .dreg anc ops, st => match fOps P C ops [] st with
    | some (es, st') => bif obB anc [] (locs es) 0 then some (.normal, st') else none
    | none => none
  | .seq a b, st => thenF (fr P C L a st) (fr P C L b)
  | .cond q a b, st => match getX (gets st.sl) q with
    | .bool t => bif t then fr P C L a st else fr P C L b st
    | _ => none
  | .block id b, st => blockF id (fr P C L b st)
  | .loop keep b, st => L none keep (fr P C L b) st
  | .exit id, st => some (.exit id, st)
  | .ret, st => some (.ret, st)
  | .next _ _ _, _ => none
  | .mloop keep keepO it nx more b, st => L (some ⟨keepO, it, nx, more⟩) keep (fr P C L b) st
def loopN (n0 : Nat) (keep : List Nat) (step : St → Option (X × St)) : Nat → St → Option (X × St)
  | 0, _ => none
  | n + 1, st => thenF (step (canon n0 keep st)) (loopN n0 keep step n)
abbrev EL := List (MK × MV)
structure Enum (f : MF) (l : EL) : Prop where
  nd : (l.map (·.1)).Nodup
  mem : ∀ k x, (k, x) ∈ l ↔ f k = some x
noncomputable def sameOf {α β : Type} (p : α → Prop) (f : α → Option β) : Option β :=
  match Classical.propDecidable ((∃ a, p a) ∧ ∃ o, ∀ a, p a → f a = some o) with
  | .isTrue h => some (Classical.choose h.2)
  | .isFalse _ => none
theorem sameOf_iff {α β : Type} {p : α → Prop} {f : α → Option β} {o : β} : sameOf p f = some o ↔ (∃ a, p a) ∧ ∀ a, p a → f a = some o := by
  unfold sameOf
  split
  · rename_i h _
    have hs := Classical.choose_spec h.2
    constructor
    · intro e
      obtain rfl := Option.some.inj e
      exact ⟨h.1, hs⟩
    · rintro ⟨⟨a, ha⟩, h2⟩
      have := (hs a ha).symm.trans (h2 a ha)
      exact this
  · rename_i h _
    exact ⟨fun e => (by cases e), fun ⟨h1, h2⟩ => absurd ⟨h1, o, h2⟩ h⟩
def itOf (it : SX) (st : St) : Option (Nat × Bool × MF × List MK) :=
  match getX (gets st.sl) it with
  | .ptr g o => match geto st.ob g with
    | .it ks m seen _ => bif (o == 0) then some (g, ks, m, seen) else none
    | _ => none
  | _ => none
def endM : Option (X × St) → Option (X × St)
  | some (.normal, _) => none
  | some (.exit i, st) => some (.exit i, st)
  | some (.ret, st) => some (.ret, st)
  | none => none
noncomputable def mrun (n0 : Nat) (mi : MI) (keep : List Nat) (step : St → Option (X × St)) (f : MF) : EL → List MK → St → Option (X × St)
  | [], seen, st => match itOf mi.it (canon n0 keep st) with
    | some (_, _, f', seen') => bif dec (f' = f) && dec (seen' = seen) then endM (step (nextSt mi.nx mi.more (canon n0 keep st) false [])) else none
    | none => none
  | (k, x) :: l, seen, st => match itOf mi.it (canon n0 keep st) with
    | some (g, ks, f', seen') => bif dec (f' = f) && dec (seen' = seen) then thenF (step (nextSt mi.nx mi.more (canon n0 keep st) true [(g, .it ks f (k :: seen) (some (k, x)))])) (mrun n0 mi keep step f l (k :: seen)) else none
    | none => none
def outM (n0 : Nat) (keepO : List Nat) : Option (X × St) → Option (X × St)
  | some (x, st) => some (x, canon n0 keepO st)
  | none => none
noncomputable def loopM (n0 : Nat) (mi : MI) (keep : List Nat) (step : St → Option (X × St)) (st : St) : Option (X × St) :=
  match itOf mi.it (canon n0 keep st) with
  | some (_, _, f, []) => sameOf (Enum f) fun l => outM n0 mi.keepO (mrun n0 mi keep step f l [] st)
  | _ => none
noncomputable def loopNA (n0 : Nat) : Option MI → List Nat → (St → Option (X × St)) → Nat → St → Option (X × St)
  | none, keep, step, n, st => loopN n0 keep step n st
  | some mi, keep, step, _, st => loopM n0 mi keep step st
def likeC : SC → SC → Prop
  | .skip, .skip => True
  | .reg a, .reg b => a = b
  | .dreg x a, .dreg y b => x = y ∧ a = b
  | .seq a b, .seq a' b' => likeC a a' ∧ likeC b b'
  | .cond q a b, .cond q' a' b' => q = q' ∧ likeC a a' ∧ likeC b b'
  | .block i b, .block i' b' => i = i' ∧ likeC b b'
  | .loop _ b, .loop _ b' => likeC b b'
  | .exit i, .exit i' => i = i'
  | .ret, .ret => True
  | .next a b d, .next a' b' d' => a = a' ∧ b = b' ∧ d = d'
  | .next _ _ _, .mloop _ _ _ _ _ _ => True
  | .mloop _ _ it nx more b, .loop _ (.seq (.next it' nx' more') b') => it = it' ∧ nx = nx' ∧ more = more' ∧ likeC b b'
  | _, _ => False
section
variable {P : Program} {c : Ctx} {C : CallF}
def bodyM (mi : Option MI) (b : SC) : SC :=
  match mi with
  | none => b
  | some mi => .seq (.next mi.it mi.nx mi.more) b
def LoopTold (P : Program) (c : Ctx) (L : LoopF) : Prop := ∀ (mi : Option MI) (keep junk : List Nat) (step : St → Option (X × St)) (b : SC) (st : St) (out : X × St),
  (∀ st out, step st = some out → ∀ K : X → St → Prop, K out.1 out.2 → sw P c b K st) → L mi keep step st = some out → ∀ K : X → St → Prop, K out.1 out.2 → Run P c (.loop junk (bodyM mi b)) K st
theorem loopN_told (hm : P.follows .mixedOrders = true) (n : Nat) (keep junk : List Nat) (step : St → Option (X × St)) (b : SC) (st : St) (out : X × St) (hstep : ∀ st out, step st = some out → ∀ K : X → St → Prop, K out.1 out.2 → sw P c b K st) (h : loopN c.m keep step n st = some out) (K : X → St → Prop) (hK : K out.1 out.2) : Run P c (.loop junk b) K st := by
  let A := { p : Nat × St // thenF (step p.2) (loopN c.m keep step p.1) = some out }
  have start : ∀ n st, loopN c.m keep step n st = some out → ∃ a : A, a.1.2 = canon c.m keep st ∧ a.1.1 < n := fun n st h => by
    cases n with
    | zero => cases h
    | succ n => exact ⟨⟨(n, canon c.m keep st), h⟩, rfl, Nat.lt_succ_self n⟩
  obtain ⟨a0, ha0, _⟩ := start n st h
  refine run_loop (α := A) (fun a => a.1.2) (fun a => a.1.1) a0 (by show Weak c st a0.1.2; rw [ha0]; exact canon_weak) fun a => ?_
  obtain ⟨⟨m, s⟩, ha⟩ := a
  simp only at ha ⊢
  unfold thenF at ha
  split at ha
  · rename_i st' hs
    refine sw_run hm _ _ _ (hstep s _ hs _ ?_)
    obtain ⟨y, hy1, hy2⟩ := start m st' ha
    exact ⟨y, hy2, by show Weak c st' y.1.2; rw [hy1]; exact canon_weak⟩
  · rename_i i st' hs
    obtain rfl := Option.some.inj ha
    exact sw_run hm _ _ _ (hstep s _ hs _ hK)
  · rename_i st' hs
    obtain rfl := Option.some.inj ha
    exact sw_run hm _ _ _ (hstep s _ hs _ hK)
  · cases ha
theorem Run.weakR {sc : SC} {K : X → St → Prop} {st : St} (h : Run P c sc (fun x s => ∃ s', Weak c s s' ∧ K x s') st) : Run P c sc K st := by
  intro code hc a w Q hl hr hq
  refine h code hc a w Q hl hr fun x s a' w' hk hl' hr' => ?_
  obtain ⟨s', hw, hk⟩ := hk
  obtain ⟨h1, h2⟩ := hw hl'
  exact hq x s' a' w' hk h1 (h2 a' w' hr')
theorem itOf_spec {it : SX} {st : St} {g : Nat} {ks : Bool} {f : MF} {seen : List MK} (h : itOf it st = some (g, ks, f, seen)) : getX (gets st.sl) it = .ptr g 0 ∧ ∃ cur, geto st.ob g = .it ks f seen cur := by
  unfold itOf at h
  split at h
  · rename_i g' o hg
    split at h
    · rename_i ks' m' seen' cur hob
      obtain ⟨h1, h2⟩ := bif_some h
      simp only [Option.some.injEq, Prod.mk.injEq] at h2
      obtain ⟨rfl, rfl, rfl, rfl⟩ := h2
      have : o = 0 := by simpa using h1
      subst this
      exact ⟨hg, cur, hob⟩
    · cases h
  · cases h
theorem endM_some {r : Option (X × St)} {o : X × St} (h : endM r = some o) : r = some o ∧ o.1 ≠ .normal := by
  unfold endM at h
  split at h
  · cases h
  · obtain rfl := Option.some.inj h; exact ⟨rfl, fun e => by cases e⟩
  · obtain rfl := Option.some.inj h; exact ⟨rfl, fun e => by cases e⟩
  · cases h
theorem outM_some {n0 : Nat} {keepO : List Nat} {r : Option (X × St)} {o : X × St} (h : outM n0 keepO r = some o) : ∃ st, r = some (o.1, st) ∧ o.2 = canon n0 keepO st := by
  unfold outM at h
  split at h
  · obtain rfl := Option.some.inj h; exact ⟨_, rfl, rfl⟩
  · cases h
theorem filter_lt {α : Type} {p q : α → Bool} : ∀ {l : List α} {a : α}, (∀ x, q x = true → p x = true) → a ∈ l → p a = true → q a = false → (l.filter q).length < (l.filter p).length
  | [], a, _, ha, _, _ => by cases ha
  | x :: l, a, hpq, ha, hp, hq => by
    have mono : ∀ l : List α, (l.filter q).length ≤ (l.filter p).length := by
      intro l
      induction l with
      | nil => exact Nat.le_refl _
      | cons y l ih =>
        rw [List.filter_cons, List.filter_cons]
        cases hy : q y with
        | true => rw [hpq y hy]; simpa using ih
        | false =>
          cases p y with
          | true => simp only [if_true, List.length_cons]; simp; omega
          | false => simpa using ih
    rw [List.filter_cons, List.filter_cons]
    rcases List.mem_cons.1 ha with rfl | ha
    · rw [hp, hq]
      have := mono l
      simp; omega
    · have ih := filter_lt hpq ha hp hq
      cases hx : q x with
      | true => rw [hpq x hx]; simpa using ih
      | false =>
        cases p x with
        | true => simp; omega
        | false => simpa using ih
theorem loopM_told (hm : P.follows .mixedOrders = true) (mi : MI) (keep junk : List Nat) (step : St → Option (X × St)) (b : SC) (st : St) (out : X × St) (hstep : ∀ st out, step st = some out → ∀ K : X → St → Prop, K out.1 out.2 → sw P c b K st) (h : loopM c.m mi keep step st = some out) (K : X → St → Prop) (hK : K out.1 out.2) : Run P c (.loop junk (.seq (.next mi.it mi.nx mi.more) b)) K st := by
  unfold loopM at h
  split at h
  · rename_i g0 ks0 f hit
    obtain ⟨⟨L0, hL0⟩, hall⟩ := sameOf_iff.1 h
    let G : EL → St → Prop := fun l s => (l.map (·.1)).Nodup ∧ (∀ e, e ∈ l → f e.1 = some e.2) ∧ ∀ rest, Enum f (l ++ rest) → outM c.m mi.keepO (mrun c.m mi keep step f rest (l.map (·.1)).reverse s) = some out
    have more : ∀ l : EL, (l.map (·.1)).Nodup → (∀ e, e ∈ l → f e.1 = some e.2) → ∃ rest, Enum f (l ++ rest) := fun l h1 h2 => by
      refine ⟨L0.filter fun e => !dec (e.1 ∈ l.map (·.1)), ?_, fun k x => ?_⟩
      · rw [List.map_append, List.nodup_append]
        refine ⟨h1, (List.filter_sublist.map _).nodup hL0.nd, fun a ha b hb e => ?_⟩
        obtain ⟨q, hq, rfl⟩ := List.mem_map.1 hb
        rw [List.mem_filter, Bool.not_eq_true', dec_not] at hq
        subst e
        exact hq.2 ha
      · rw [List.mem_append, List.mem_filter, Bool.not_eq_true', dec_not]
        constructor
        · rintro (h3 | h3)
          · exact h2 _ h3
          · exact (hL0.mem k x).1 h3.1
        · intro h3
          by_cases h4 : k ∈ l.map (·.1)
          · obtain ⟨⟨k', x'⟩, h5, rfl⟩ := List.mem_map.1 h4
            have h6 := h2 _ h5
            have h6 : f k' = some x' := h6
            rw [h3] at h6
            obtain rfl := Option.some.inj h6
            exact .inl h5
          · exact .inr ⟨(hL0.mem k x).2 h3, h4⟩
    have hG0 : G [] st := ⟨List.nodup_nil, fun e he => (by cases he), fun rest hr => hall rest (by simpa using hr)⟩
    let A := { q : EL × St // G q.1 q.2 }
    let μ : A → Nat := fun q => (L0.filter fun e => !dec (e.1 ∈ q.1.1.map (·.1))).length
    refine Run.weakR (run_loop (α := A) (fun q => canon c.m keep q.1.2) μ ⟨([], st), hG0⟩ canon_weak fun q => ?_)
    obtain ⟨⟨l, s⟩, hG⟩ := q
    obtain ⟨g1, g2, g3⟩ := hG
    refine sw_run hm _ _ _ ?_
    obtain ⟨r0, hr0⟩ := more l g1 g2
    have hitl : ∃ g ks, itOf mi.it (canon c.m keep s) = some (g, ks, f, (l.map (·.1)).reverse) := by
      obtain ⟨st1, h1, _⟩ := outM_some (g3 r0 hr0)
      have key : ∀ rest, ∀ o, mrun c.m mi keep step f rest (l.map (·.1)).reverse s = some o → ∃ g ks, itOf mi.it (canon c.m keep s) = some (g, ks, f, (l.map (·.1)).reverse) := fun rest o ho => by
        cases rest with
        | nil =>
          unfold mrun at ho
          split at ho
          · rename_i g ks f' seen' he
            obtain ⟨h2, _⟩ := bif_some ho
            rw [Bool.and_eq_true, dec_iff, dec_iff] at h2
            obtain ⟨rfl, rfl⟩ := h2
            exact ⟨g, ks, he⟩
          · cases ho
        | cons e rest =>
          obtain ⟨k, x⟩ := e
          unfold mrun at ho
          split at ho
          · rename_i g ks f' seen' he
            obtain ⟨h2, _⟩ := bif_some ho
            rw [Bool.and_eq_true, dec_iff, dec_iff] at h2
            obtain ⟨rfl, rfl⟩ := h2
            exact ⟨g, ks, he⟩
          · cases ho
      exact key r0 _ h1
    obtain ⟨g, ks, hitl⟩ := hitl
    obtain ⟨e1, cur, e2⟩ := itOf_spec hitl
    simp only [sw]
    rw [e1]
    simp only
    rw [e2]
    simp only
    refine ⟨trivial, fun hend => ?_, fun k x hk hn => ?_⟩
    ·
      have hE : Enum f (l ++ []) := by
        rw [List.append_nil]
        refine ⟨g1, fun k x => ⟨fun hm => g2 _ hm, fun hk => ?_⟩⟩
        have := hend k x hk
        rw [List.mem_reverse] at this
        obtain ⟨⟨k', x'⟩, h5, rfl⟩ := List.mem_map.1 this
        have h6 : f k' = some x' := g2 _ h5
        rw [hk] at h6
        obtain rfl := Option.some.inj h6
        exact h5
      obtain ⟨st1, h1, h2⟩ := outM_some (g3 [] hE)
      unfold mrun at h1
      rw [hitl] at h1
      simp only [dec_t rfl, dec_t True.intro, Bool.and_self, cond_true] at h1
      obtain ⟨h3, h4⟩ := endM_some h1
      have hfin : ∃ s', Weak c st1 s' ∧ K out.1 s' := ⟨canon c.m mi.keepO st1, canon_weak, by rw [← h2]; exact hK⟩
      refine hstep _ (out.1, st1) h3 _ ?_
      dsimp only
      cases ho : out.1 with
      | normal => exact absurd ho h4
      | exit i => rw [ho] at hfin; exact hfin
      | ret => rw [ho] at hfin; exact hfin
    ·
      have hn' : k ∉ l.map (·.1) := fun hm => hn (List.mem_reverse.2 hm)
      have k1 : ((l ++ [(k, x)]).map (·.1)).Nodup := by
        rw [List.map_append, List.nodup_append]
        refine ⟨g1, by simp, fun a ha b hb e => ?_⟩
        simp only [List.map_cons, List.map_nil, List.mem_singleton] at hb
        subst hb e
        exact hn' ha
      have k2 : ∀ e, e ∈ l ++ [(k, x)] → f e.1 = some e.2 := fun e he => by
        rcases List.mem_append.1 he with he | he
        · exact g2 e he
        · rw [List.mem_singleton.1 he]; exact hk
      have hrev : ((l ++ [(k, x)]).map (·.1)).reverse = k :: (l.map (·.1)).reverse := by simp
      have one : ∀ rest, Enum f ((l ++ [(k, x)]) ++ rest) → outM c.m mi.keepO (thenF (step (nextSt mi.nx mi.more (canon c.m keep s) true [(g, .it ks f (k :: (l.map (·.1)).reverse) (some (k, x)))])) (mrun c.m mi keep step f rest (k :: (l.map (·.1)).reverse))) = some out := fun rest hr => by
        have h3 := g3 ((k, x) :: rest) (by rw [List.append_assoc] at hr; exact hr)
        rw [mrun] at h3
        rw [hitl] at h3
        simp only [dec_t rfl, dec_t True.intro, Bool.and_self, cond_true] at h3
        exact h3
      obtain ⟨r1, hr1⟩ := more _ k1 k2
      obtain ⟨st1, h1, h2⟩ := outM_some (one r1 hr1)
      cases hs : step (nextSt mi.nx mi.more (canon c.m keep s) true [(g, .it ks f (k :: (l.map (·.1)).reverse) (some (k, x)))]) with
      | none => rw [hs] at h1; cases h1
      | some o1 =>
        obtain ⟨x1, s1⟩ := o1
        rw [hs] at h1
        refine hstep _ _ hs _ ?_
        have hfin : some (x1, s1) = some (out.1, st1) → ∃ s', Weak c s1 s' ∧ K x1 s' := fun e => by
          simp only [Option.some.injEq, Prod.mk.injEq] at e
          obtain ⟨rfl, rfl⟩ := e
          exact ⟨canon c.m mi.keepO s1, canon_weak, by rw [← h2]; exact hK⟩
        cases x1 with
        | normal =>
          have hG' : G (l ++ [(k, x)]) s1 := ⟨k1, k2, fun rest hr => by
            have h3 := one rest hr
            rw [hs] at h3
            rw [hrev]
            exact h3⟩
          refine ⟨⟨(l ++ [(k, x)], s1), hG'⟩, ?_, canon_weak⟩
          refine filter_lt (a := (k, x)) (fun e he => ?_) ((hL0.mem k x).2 hk) (by rw [Bool.not_eq_true', dec_not]; exact hn') (by rw [Bool.not_eq_false', dec_iff]; simp)
          rw [Bool.not_eq_true', dec_not] at he ⊢
          exact fun hm => he (by simp only [List.map_append, List.mem_append]; exact .inl hm)
        | exit i => exact hfin h1
        | ret => exact hfin h1
  · cases h
theorem loopNA_told (hm : P.follows .mixedOrders = true) (n : Nat) : LoopTold P c fun mi keep step st => loopNA c.m mi keep step n st := by
  intro mi keep junk step b st out hstep h K hK
  cases mi with
  | none => exact loopN_told hm n keep junk step b st out hstep h K hK
  | some mi => exact loopM_told hm mi keep junk step b st out hstep h K hK
theorem fr_sw (hC : CallsTold P C) {L : LoopF} (hL : LoopTold P c L) : ∀ (sc' sc : SC) (st : St) (out : X × St), likeC sc' sc → fr P C L sc' st = some out → ∀ K : X → St → Prop, K out.1 out.2 → sw P c sc K st
  | .skip, sc, st, out, hl, h, K, hK => by
    cases sc <;> simp only [likeC] at hl
    obtain rfl := Option.some.inj h
    exact hK
  | .reg ops, sc, st, out, hl, h, K, hK => by
    cases sc <;> simp only [likeC] at hl
    subst hl
    simp only [fr] at h
    split at h
    · rename_i st' hs
      obtain rfl := Option.some.inj h
      exact fSeq_e hC hs hK
    · cases h
  | .dreg anc ops, sc, st, out, hl, h, K, hK => by
    cases sc <;> simp only [likeC] at hl
    obtain ⟨rfl, rfl⟩ := hl
    simp only [fr] at h
    split at h
    · rename_i es st' hs
      obtain ⟨h1, h2⟩ := bif_some h
      obtain rfl := Option.some.inj h2
      exact fOps_e hC hs ⟨h1, hK⟩
    · cases h
  | .seq a b, sc, st, out, hl, h, K, hK => by
    cases sc <;> simp only [likeC] at hl
    simp only [fr, thenF] at h
    split at h
    · rename_i st' hs
      exact fr_sw hC hL a _ st _ hl.1 hs _ (fr_sw hC hL b _ st' out hl.2 h K hK)
    · rename_i i st' hs
      obtain rfl := Option.some.inj h
      exact fr_sw hC hL a _ st _ hl.1 hs _ hK
    · rename_i st' hs
      obtain rfl := Option.some.inj h
      exact fr_sw hC hL a _ st _ hl.1 hs _ hK
    · cases h
  | .cond q a b, sc, st, out, hl, h, K, hK => by
    cases sc <;> simp only [likeC] at hl
    obtain ⟨rfl, h1, h2⟩ := hl
    simp only [fr] at h
    simp only [sw]
    split at h
    · rename_i t ht
      try simp only [ht]
      cases t with
      | true => exact ⟨fun _ => fr_sw hC hL a _ st out h1 h K hK, fun e => (by cases e)⟩
      | false => exact ⟨fun e => (by cases e), fun _ => fr_sw hC hL b _ st out h2 h K hK⟩
    · cases h
  | .block id b, sc, st, out, hl, h, K, hK => by
    cases sc <;> simp only [likeC] at hl
    obtain ⟨rfl, h1⟩ := hl
    simp only [fr, blockF] at h
    simp only [sw]
    split at h
    · rename_i st' hs
      obtain rfl := Option.some.inj h
      exact fr_sw hC hL b _ st _ h1 hs _ hK
    · rename_i i st' hs
      refine fr_sw hC hL b _ st _ h1 hs _ ?_
      by_cases hi : i = id
      · simp only [if_pos hi] at h ⊢
        obtain rfl := Option.some.inj h
        exact hK
      · simp only [if_neg hi] at h ⊢
        obtain rfl := Option.some.inj h
        exact hK
    · rename_i st' hs
      obtain rfl := Option.some.inj h
      exact fr_sw hC hL b _ st _ h1 hs _ hK
    · cases h
  | .loop keep b, sc, st, out, hl, h, K, hK => by
    cases sc <;> simp only [likeC] at hl
    simp only [fr] at h
    exact hL none keep _ _ _ st out (fun st out hs K hK => fr_sw hC hL b _ st out hl hs K hK) h K hK
  | .next _ _ _, sc, st, out, hl, h, K, hK => by cases h
  | .mloop keep keepO it nx more b, sc, st, out, hl, h, K, hK => by
    cases sc <;> (try simp only [likeC] at hl)
    case loop j b' =>
      cases b' <;> (try simp only [likeC] at hl)
      case seq x y =>
        cases x <;> (try simp only [likeC] at hl)
        case next it' nx' more' =>
          obtain ⟨rfl, rfl, rfl, hl⟩ := hl
          simp only [fr] at h
          exact hL (some ⟨keepO, it, nx, more⟩) keep j _ _ st out (fun st out hs K hK => fr_sw hC hL b _ st out hl hs K hK) h K hK
  | .exit id, sc, st, out, hl, h, K, hK => by
    cases sc <;> simp only [likeC] at hl
    subst hl
    obtain rfl := Option.some.inj h
    exact hK
  | .ret, sc, st, out, hl, h, K, hK => by
    cases sc <;> simp only [likeC] at hl
    obtain rfl := Option.some.inj h
    exact hK
end
def bitIn (k s : Nat) : Nat := s ||| (1 <<< k)
def bitOut (k s : Nat) : Nat := s ^^^ (s &&& (1 <<< k))
def SX.live (s : Nat) : SX → Nat
  | .t k => bitIn k s
  | .c _ => s
def SX.lives (s : Nat) : List SX → Nat
  | [] => s
  | x :: r => SX.lives (x.live s) r
def SX.liveO (s : Nat) : Option SX → Nat
  | some x => x.live s
  | none => s
def SOp.live (s : Nat) : SOp → Nat
  | .mv x => x.live s
  | .pick a b c => c.live (b.live (a.live s))
  | .alloc _ _ => s
  | .boxv _ _ x => x.live s
  | .build _ parts => SX.lives s (parts.map (·.2.2))
  | .mkrow _ _ _ _ parts => SX.lives s (parts.map (·.2))
  | .load _ _ x => x.live s
  | .store _ x v => v.live (x.live s)
  | .nilchk x => x.live s
  | .bin _ _ x y => y.live (x.live s)
  | .un _ x => x.live s
  | .conv _ x => x.live s
  | .mkfn _ caps => SX.lives s caps
  | .mkslice _ _ _ _ x => x.live s
  | .slice _ _ x lo hi => SX.liveO (SX.liveO (x.live s) lo) hi
  | .faddr _ x => x.live s
  | .field _ _ _ x => x.live s
  | .iaddr _ x i => i.live (x.live s)
  | .idx x i => i.live (x.live s)
  | .ext x _ => x.live s
  | .call _ args => SX.lives s args
  | .callv x args => SX.lives (x.live s) args
  | .len _ x => x.live s
  | .append _ _ _ _ x y => y.live (x.live s)
  | .minmax _ x y => y.live (x.live s)
  | .mkmap _ x => SX.liveO s x
  | .mset _ m k v => v.live (k.live (m.live s))
  | .mget _ _ _ _ m k => k.live (m.live s)
  | .mkit x => x.live s
  | .mcur x => x.live s
def SOper.live (o : SOper) (s : Nat) : Nat :=
  let s1 := match o.dst with | some d => bitOut d s | none => s
  let s2 := o.op.live s1
  match o.gd with | some (k, _) => bitIn k s2 | none => s2
def opsLive : List SOper → Nat → Nat
  | [], s => s
  | o :: r, s => o.live (opsLive r s)
def exLive : List (Nat × Nat) → Nat → Nat
  | [], _ => 0
  | (i, s) :: r, k => if i = k then s else exLive r k
def scLive (ex : List (Nat × Nat)) (ret : Nat) : SC → Nat → Nat
  | .skip, out => out
  | .reg ops, out => opsLive ops out
  | .dreg _ ops, out => opsLive ops out
  | .seq a b, out => scLive ex ret a (scLive ex ret b out)
  | .cond q a b, out => q.live (scLive ex ret a out ||| scLive ex ret b out)
  | .block id b, out => scLive ((id, out) :: ex) ret b out
  | .loop _ b, _ => scLive ex ret b (scLive ex ret b 0)
  | .exit id, _ => exLive ex id
  | .ret, _ => ret
  | .next it nx more, out => it.live (bitOut nx (bitOut more out))
  | .mloop _ _ _ _ _ b, out => scLive ex ret b out
def exAll : List (Nat × Nat) → Nat
  | [] => 0
  | (_, s) :: r => s ||| exAll r
def mask (nt s : Nat) : List Nat := (List.range nt).map fun k => (s >>> k) % 2
def ann (nt : Nat) (ex : List (Nat × Nat)) (ret : Nat) : SC → Nat → SC
  | .seq a b, out => .seq (ann nt ex ret a (scLive ex ret b out)) (ann nt ex ret b out)
  | .cond q a b, out => .cond q (ann nt ex ret a out) (ann nt ex ret b out)
  | .block id b, out => .block id (ann nt ((id, out) :: ex) ret b out)
  | .loop j (.seq (.next it nx more) b), out => .mloop (mask nt (scLive ex ret (.loop j (.seq (.next it nx more) b)) out)) (mask nt (ret ||| exAll ex)) it nx more (ann nt ex ret b (scLive ex ret (.loop j (.seq (.next it nx more) b)) out))
  | .loop j b, out => .loop (mask nt (scLive ex ret (.loop j b) out)) (ann nt ex ret b (scLive ex ret (.loop j b) out))
  | .mloop _ _ it nx more _, _ => .next it nx more
  | sc, _ => sc
theorem ann_like {nt : Nat} {ret : Nat} : ∀ (sc : SC) (ex : List (Nat × Nat)) (out : Nat), likeC (ann nt ex ret sc out) sc
  | .skip, _, _ => trivial
  | .reg _, _, _ => rfl
  | .dreg _ _, _, _ => ⟨rfl, rfl⟩
  | .seq a b, ex, out => ⟨ann_like a _ _, ann_like b _ _⟩
  | .cond q a b, ex, out => ⟨rfl, ann_like a _ _, ann_like b _ _⟩
  | .block id b, ex, out => ⟨rfl, ann_like b _ _⟩
  | .loop j b, ex, out => by
    cases b with
    | seq x y =>
      cases x with
      | next it nx more => exact ⟨rfl, rfl, rfl, ann_like y _ _⟩
      | skip => exact ann_like (.seq .skip y) _ _
      | reg o => exact ann_like (.seq (.reg o) y) _ _
      | dreg a o => exact ann_like (.seq (.dreg a o) y) _ _
      | seq u v => exact ann_like (.seq (.seq u v) y) _ _
      | cond q u v => exact ann_like (.seq (.cond q u v) y) _ _
      | block i u => exact ann_like (.seq (.block i u) y) _ _
      | loop j' u => exact ann_like (.seq (.loop j' u) y) _ _
      | exit i => exact ann_like (.seq (.exit i) y) _ _
      | ret => exact ann_like (.seq .ret y) _ _
      | mloop a b' d e g u => exact ann_like (.seq (.mloop a b' d e g u) y) _ _
    | skip => exact trivial
    | reg o => exact rfl
    | dreg a o => exact ⟨rfl, rfl⟩
    | cond q u v => exact ann_like (nt := nt) (ret := ret) (.cond q u v) ex _
    | block i u => exact ann_like (nt := nt) (ret := ret) (.block i u) ex _
    | loop j' u => exact ann_like (nt := nt) (ret := ret) (.loop j' u) ex _
    | exit i => exact rfl
    | ret => exact trivial
    | next a b' d => exact ⟨rfl, rfl, rfl⟩
    | mloop a b' d e g u => exact trivial
  | .next _ _ _, _, _ => ⟨rfl, rfl, rfl⟩
  | .mloop _ _ _ _ _ _, _, _ => trivial
  | .exit id, _, _ => rfl
  | .ret, _, _ => trivial
def rxLive : List RX → Nat → Nat
  | [], s => s
  | .tmp t :: r, s => bitIn t (rxLive r s)
  | .cell a _ _ :: r, s => bitIn a (rxLive r s)
structure FC where
  nt : Nat
  sc : SC
  rs : List RX
def codeOf (P : Program) (f : FuncId) : Option FC :=
  match P.funcs[f]? with
  | some fn => match fn.body with
    | some code => match trC P fn.ntmps code with
      | some sc => match allSome (fn.results.toList.map (resX P fn.ntmps)) with
        | some rs => some ⟨fn.ntmps, ann fn.ntmps [] (rxLive rs 0) sc (rxLive rs 0), rs⟩
        | none => none
      | none => none
    | none => none
  | none => none
def fin (res : RM) (n0 : Nat) (rs : List RX) (x : X) (st : St) : Option (SV × List Ob) :=
  match x with
  | .exit _ => none
  | _ => match resV st rs with
    | some r0 => match gc n0 r0 st.ob with
      | some (r, ob) => order res n0 r ob
      | none => none
    | none => none
def finF (res : RM) (n0 : Nat) (rs : List RX) : Option (X × St) → Option (SV × List Ob)
  | some (x, st) => fin res n0 rs x st
  | none => none
def valX (g : List SV → Option SV) (xs : List SV) (ob : List Ob) : Option (SV × List Ob) :=
  match ob with
  | [] => match g xs with
    | some r => some (r, [])
    | none => none
  | _ :: _ => none
theorem valX_told {P : Program} {g : List SV → Option SV} {f : FuncId} (h : ∀ {xs : List SV} {r : SV}, g xs = some r → Fun P f xs [] r []) {xs : List SV} {ob : List Ob} {r : SV} {ob' : List Ob} (hx : valX g xs ob = some (r, ob')) : Fun P f xs ob r ob' := by
  unfold valX at hx
  split at hx
  · split at hx
    · rename_i r1 h1
      simp only [Option.some.injEq, Prod.mk.injEq] at hx
      obtain ⟨rfl, rfl⟩ := hx
      exact h h1
    · cases hx
  · cases hx
def ExtTold (P : Program) (M : FuncId → FM) : Prop := ∀ f g xs ob r ob', (M f).ext = some g → g xs ob = some (r, ob') → Fun P f xs ob r ob'
def entry (b : Bool) (ob : List Ob) : List Ob := bif b then toTree ob else ob
theorem entry_len (b : Bool) (ob : List Ob) : (entry b ob).length = ob.length := by cases b <;> simp [entry, toTree_len]
theorem Fun.entry {P : Program} {f : FuncId} {args : List SV} {ob : List Ob} {r : SV} {ob' : List Ob} {b : Bool} (h : Fun P f args (entry b ob) r ob') : Fun P f args ob r ob' := by
  cases b with
  | true => exact h.tree
  | false => exact h
noncomputable def bodyF (P : Program) (M : FuncId → FM) (E : FEnv) (L : Nat → LoopF) : FEnv := fun f xs ob =>
  match (M f).ext with
  | some g => g xs ob
  | none => match codeOf P f with
    | some fc => bif decide (xs.length ≤ fc.nt) then finF (M f).res ob.length fc.rs (fr P (fCall M E) (L ob.length) fc.sc ⟨xs ++ anys (fc.nt - xs.length), entry (M f).tree ob⟩) else none
    | none => none
noncomputable def evN (P : Program) (M : FuncId → FM) : Nat → FEnv
  | 0 => fun _ _ _ => none
  | n + 1 => bodyF P M (evN P M n) fun n0 mi keep step st => loopNA n0 mi keep step n st
theorem body_told {P : Program} (hm : P.follows .mixedOrders = true) {M : FuncId → FM} (hX : ExtTold P M) {E : FEnv} (hE : EnvTold P E) {L : Nat → LoopF} (hL : ∀ c : Ctx, LoopTold P c (L c.m)) : EnvTold P (bodyF P M E L) := by
  intro f xs ob r ob' h
  unfold bodyF codeOf at h
  split at h
  · rename_i g hg
    exact hX f g xs _ _ _ hg h
  cases hf : P.funcs[f]? with
  | none => rw [hf] at h; cases h
  | some fn =>
    rw [hf] at h
    simp only at h
    cases hb : fn.body with
    | none => rw [hb] at h; cases h
    | some code =>
      rw [hb] at h
      simp only at h
      cases ht : trC P fn.ntmps code with
      | none => rw [ht] at h; cases h
      | some sc =>
        rw [ht] at h
        simp only at h
        cases hr : allSome (fn.results.toList.map (resX P fn.ntmps)) with
        | none => rw [hr] at h; cases h
        | some rs =>
          rw [hr] at h
          simp only at h
          obtain ⟨h1, h2⟩ := bif_some h
          have hn : xs.length ≤ fn.ntmps := of_decide_eq_true h1
          cases ho : fr P (fCall M E) (L ob.length) (ann fn.ntmps [] (rxLive rs 0) sc (rxLive rs 0)) ⟨xs ++ anys (fn.ntmps - xs.length), entry (M f).tree ob⟩ with
          | none => rw [ho] at h2; cases h2
          | some out =>
            rw [ho] at h2
            obtain ⟨x, st⟩ := out
            have h2 : fin (M f).res ob.length rs x st = some (r, ob') := h2
            unfold fin at h2
            have hx : x = .ret ∨ x = .normal := by
              cases x with
              | exit i => cases h2
              | normal => exact .inr rfl
              | ret => exact .inl rfl
            have h3 : (match resV st rs with
              | some r0 => match gc ob.length r0 st.ob with
                | some (r, ob2) => order (M f).res ob.length r ob2
                | none => none
              | none => none) = some (r, ob') := by
              rcases hx with rfl | rfl <;> exact h2
            clear h2
            split at h3
            · rename_i r0 hr0
              split at h3
              · rename_i r1 ob1 hg
                refine order_fun (Fun.entry (b := (M f).tree) (fun_of hf hb ht hr hn fun c hc1 hc2 => sw_run hm _ _ _ ?_)) h3
                refine fr_sw (fCall_told hE) (hL c) _ sc _ (x, st) (ann_like sc _ _) (by rw [hc2, entry_len]; exact ho) _ ?_
                rw [entry_len]
                exact ⟨hx, r0, _, hr0, gc_weak hg⟩
              · cases h3
            · cases h3
theorem evN_told {P : Program} (hm : P.follows .mixedOrders = true) {M : FuncId → FM} (hX : ExtTold P M) : ∀ n, EnvTold P (evN P M n)
  | 0 => fun f xs ob r ob' h => by cases h
  | n + 1 => body_told hm hX (evN_told hm hX n) fun c => loopNA_told hm n
def ELe (E E' : FEnv) : Prop := ∀ f xs ob r, E f xs ob = some r → E' f xs ob = some r
def CLe (C C' : CallF) : Prop := ∀ f xs ob r, C f xs ob = some r → C' f xs ob = some r
theorem callWith_mono {hd : List Bool} {E E' : FEnv} (h : ELe E E') {f : FuncId} {xs : List SV} {ob : List Ob} {sel : List Nat} {r : R3} (hr : callWith hd E f xs ob sel = some r) : callWith hd E' f xs ob sel = some r := by
  unfold callWith at hr ⊢
  split at hr
  · obtain ⟨h1, h2⟩ := bif_some hr
    rw [h1]
    split at h2
    · rename_i r0 fob' he
      rw [cond_true, h _ _ _ _ he]
      exact h2
    · cases h2
  · cases hr
theorem lateF_mono {m : RM} {a b : Option R3} (h : ∀ r, a = some r → b = some r) {r : R3} (hr : lateF m a = some r) : lateF m b = some r := by
  cases m with
  | asis => exact h r hr
  | frz => exact h r hr
  | own l => exact h r hr
  | tr l => exact h r hr
  | late =>
    cases a with
    | none => cases hr
    | some q => rw [h q rfl]; exact hr
theorem fCall_mono {M : FuncId → FM} {E E' : FEnv} (h : ELe E E') : CLe (fCall M E) (fCall M E') := fun f xs ob r hr => lateF_mono (fun r hr => callWith_mono h hr) hr
section
variable {P : Program} {C C' : CallF}
theorem fOp_mono (h : CLe C C') {so : SOp} {sl : List SV} {ob : List Ob} {r : R3} (hr : fOp P C so sl ob = some r) : fOp P C' so sl ob = some r := by
  cases so
  case call f args => exact h _ _ _ _ hr
  case callv x args =>
    simp only [fOp] at hr ⊢
    split at hr
    · obtain ⟨h1, h2⟩ := bif_some hr
      rw [h1]
      exact h _ _ _ _ h2
    · cases hr
  all_goals exact hr
theorem fStep_mono (h : CLe C C') {o : SOper} {st : St} {r : Ent × St} (hr : fStep P C o st = some r) : fStep P C' o st = some r := by
  have one : ∀ r, appF o.dst st (fOp P C o.op st.sl st.ob) = some r → appF o.dst st (fOp P C' o.op st.sl st.ob) = some r := fun r hr => by
    cases he : fOp P C o.op st.sl st.ob with
    | none => rw [he] at hr; cases hr
    | some q => rw [fOp_mono h he]; rw [he] at hr; exact hr
  unfold fStep at hr ⊢
  split at hr
  · exact one _ hr
  · split at hr
    · cases hb : eqBo _ _ with
      | true => rw [hb] at hr; exact one _ hr
      | false => rw [hb] at hr; exact hr
    · exact hr
    · cases hr
theorem fSeq_mono (h : CLe C C') : ∀ {l : List SOper} {st st' : St}, fSeq P C l st = some st' → fSeq P C' l st = some st'
  | [], st, st', hr => hr
  | o :: r, st, st', hr => by
    simp only [fSeq] at hr ⊢
    split at hr
    · rename_i e st1 h1
      rw [fStep_mono h h1]
      exact fSeq_mono h hr
    · cases hr
theorem fOps_mono (h : CLe C C') : ∀ {l : List SOper} {acc : List Ent} {st : St} {r : List Ent × St}, fOps P C l acc st = some r → fOps P C' l acc st = some r
  | [], acc, st, r, hr => hr
  | o :: l, acc, st, r, hr => by
    simp only [fOps] at hr ⊢
    split at hr
    · rename_i e st1 h1
      rw [fStep_mono h h1]
      exact fOps_mono h hr
    · cases hr
def LLe (L L' : LoopF) : Prop := ∀ mi keep (step step' : St → Option (X × St)) st o, (∀ st o, step st = some o → step' st = some o) → L mi keep step st = some o → L' mi keep step' st = some o
theorem thenF_mono {r r' : Option (X × St)} {k k' : St → Option (X × St)} {o : X × St} (h1 : ∀ o, r = some o → r' = some o) (h2 : ∀ st o, k st = some o → k' st = some o) (h : thenF r k = some o) : thenF r' k' = some o := by
  unfold thenF at h
  split at h
  · rw [h1 _ rfl]; exact h2 _ _ h
  · rw [h1 _ rfl]; exact h
  · rw [h1 _ rfl]; exact h
  · cases h
theorem blockF_mono {id : Nat} {r r' : Option (X × St)} {o : X × St} (h1 : ∀ o, r = some o → r' = some o) (h : blockF id r = some o) : blockF id r' = some o := by
  cases r with
  | none => cases h
  | some q => rw [h1 _ rfl]; exact h
theorem fr_mono (h : CLe C C') {L L' : LoopF} (hL : LLe L L') : ∀ (sc : SC) (st : St) (o : X × St), fr P C L sc st = some o → fr P C' L' sc st = some o
  | .skip, st, o, hr => hr
  | .reg ops, st, o, hr => by
    simp only [fr] at hr ⊢
    split at hr
    · rename_i st' hs
      rw [fSeq_mono h hs]; exact hr
    · cases hr
  | .dreg anc ops, st, o, hr => by
    simp only [fr] at hr ⊢
    split at hr
    · rename_i es st' hs
      rw [fOps_mono h hs]; exact hr
    · cases hr
  | .seq a b, st, o, hr => thenF_mono (fun o => fr_mono h hL a st o) (fun st o => fr_mono h hL b st o) hr
  | .cond q a b, st, o, hr => by
    simp only [fr] at hr ⊢
    split at hr
    · rename_i t ht
      cases t with
      | true => exact fr_mono h hL a st o hr
      | false => exact fr_mono h hL b st o hr
    · cases hr
  | .block id b, st, o, hr => blockF_mono (fun o => fr_mono h hL b st o) hr
  | .loop keep b, st, o, hr => hL none keep _ _ st o (fun st o => fr_mono h hL b st o) hr
  | .next _ _ _, st, o, hr => by cases hr
  | .mloop keep keepO it nx more b, st, o, hr => hL (some ⟨keepO, it, nx, more⟩) keep _ _ st o (fun st o => fr_mono h hL b st o) hr
  | .exit id, st, o, hr => hr
  | .ret, st, o, hr => hr
end
theorem loopN_mono {n0 : Nat} {keep : List Nat} {step step' : St → Option (X × St)} (h : ∀ st o, step st = some o → step' st = some o) : ∀ {n m : Nat} {st : St} {o : X × St}, n ≤ m → loopN n0 keep step n st = some o → loopN n0 keep step' m st = some o
  | 0, m, st, o, _, hr => by cases hr
  | n + 1, 0, st, o, hn, hr => absurd hn (by omega)
  | n + 1, m + 1, st, o, hn, hr => thenF_mono (fun o ho => h _ o ho) (fun st o ho => loopN_mono h (by omega) ho) hr
theorem endM_mono {r r' : Option (X × St)} {o : X × St} (h : ∀ o, r = some o → r' = some o) (hr : endM r = some o) : endM r' = some o := by
  cases r with
  | none => cases hr
  | some q => rw [h q rfl]; exact hr
theorem outM_mono {n0 : Nat} {keepO : List Nat} {r r' : Option (X × St)} {o : X × St} (h : ∀ o, r = some o → r' = some o) (hr : outM n0 keepO r = some o) : outM n0 keepO r' = some o := by
  cases r with
  | none => cases hr
  | some q => rw [h q rfl]; exact hr
theorem mrun_mono {n0 : Nat} {mi : MI} {keep : List Nat} {step step' : St → Option (X × St)} {f : MF} (h : ∀ st o, step st = some o → step' st = some o) : ∀ {l : EL} {seen : List MK} {st : St} {o : X × St}, mrun n0 mi keep step f l seen st = some o → mrun n0 mi keep step' f l seen st = some o
  | [], seen, st, o, hr => by
    unfold mrun at hr ⊢
    split at hr
    · obtain ⟨h1, h2⟩ := bif_some hr
      rw [h1, cond_true]
      exact endM_mono (fun o => h _ o) h2
    · cases hr
  | (k, x) :: l, seen, st, o, hr => by
    unfold mrun at hr ⊢
    split at hr
    · obtain ⟨h1, h2⟩ := bif_some hr
      rw [h1, cond_true]
      exact thenF_mono (fun o => h _ o) (fun st o => mrun_mono h) h2
    · cases hr
theorem loopM_mono {n0 : Nat} {mi : MI} {keep : List Nat} {step step' : St → Option (X × St)} (h : ∀ st o, step st = some o → step' st = some o) {st : St} {o : X × St} (hr : loopM n0 mi keep step st = some o) : loopM n0 mi keep step' st = some o := by
  unfold loopM at hr ⊢
  split at hr
  · obtain ⟨h1, h2⟩ := sameOf_iff.1 hr
    exact sameOf_iff.2 ⟨h1, fun l hl => outM_mono (fun o => mrun_mono h) (h2 l hl)⟩
  · cases hr
theorem loopNA_mono {n0 : Nat} {mi : Option MI} {keep : List Nat} {step step' : St → Option (X × St)} (h : ∀ st o, step st = some o → step' st = some o) {n m : Nat} {st : St} {o : X × St} (hn : n ≤ m) (hr : loopNA n0 mi keep step n st = some o) : loopNA n0 mi keep step' m st = some o := by
  cases mi with
  | none => exact loopN_mono h hn hr
  | some mi => exact loopM_mono h hr
theorem finF_some {res : RM} {n0 : Nat} {rs : List RX} {r : Option (X × St)} {o : SV × List Ob} (h : finF res n0 rs r = some o) : ∃ q, r = some q ∧ fin res n0 rs q.1 q.2 = some o := by
  cases r with
  | none => cases h
  | some q => exact ⟨q, rfl, h⟩
theorem bodyF_mono {P : Program} {M : FuncId → FM} {E E' : FEnv} (h : ELe E E') {L L' : Nat → LoopF} (hL : ∀ n0, LLe (L n0) (L' n0)) : ELe (bodyF P M E L) (bodyF P M E' L') := by
  intro f xs ob r hr
  unfold bodyF at hr ⊢
  split at hr
  · exact hr
  split at hr
  · obtain ⟨h1, h2⟩ := bif_some hr
    rw [h1]
    obtain ⟨q, h3, h4⟩ := finF_some h2
    rw [cond_true, fr_mono (fCall_mono h) (hL _) _ _ _ h3]
    exact h4
  · cases hr
theorem evN_succ {P : Program} {M : FuncId → FM} : ∀ n, ELe (evN P M n) (evN P M (n + 1))
  | 0 => fun f xs ob r h => by cases h
  | n + 1 => bodyF_mono (evN_succ n) fun n0 mi keep step step' st o hs h => loopNA_mono hs (Nat.le_succ n) h
theorem evN_mono {P : Program} {M : FuncId → FM} {n m : Nat} (h : n ≤ m) : ELe (evN P M n) (evN P M m) := by
  induction h with
  | refl => exact fun f xs ob r h => h
  | step _ ih => exact fun f xs ob r h => evN_succ _ _ _ _ _ (ih f xs ob r h)
noncomputable def loopW (n0 : Nat) : List Nat → (St → Option (X × St)) → St → Option (X × St) := fun keep step st =>
  match Classical.propDecidable (∃ n o, loopN n0 keep step n st = some o) with
  | .isTrue h => loopN n0 keep step (Classical.choose h) st
  | .isFalse _ => none
theorem loopW_iff {n0 : Nat} {keep : List Nat} {step : St → Option (X × St)} {st : St} {o : X × St} : loopW n0 keep step st = some o ↔ ∃ n, loopN n0 keep step n st = some o := by
  unfold loopW
  split
  · rename_i h _
    constructor
    · intro e; exact ⟨_, e⟩
    · rintro ⟨n, hn⟩
      obtain ⟨o', ho'⟩ := Classical.choose_spec h
      have h1 := loopN_mono (fun _ _ h => h) (Nat.le_max_left n (Classical.choose h)) hn
      have h2 := loopN_mono (fun _ _ h => h) (Nat.le_max_right n (Classical.choose h)) ho'
      rw [h1] at h2
      rw [ho', ← h2]
  · rename_i h _
    exact ⟨fun e => (by cases e), fun ⟨n, hn⟩ => absurd ⟨n, o, hn⟩ h⟩
theorem loopW_eq {n0 : Nat} {keep : List Nat} {step : St → Option (X × St)} {st : St} : loopW n0 keep step st = thenF (step (canon n0 keep st)) (loopW n0 keep step) := by
  refine Option.ext fun o => ?_
  rw [loopW_iff]
  constructor
  · rintro ⟨n, hn⟩
    cases n with
    | zero => cases hn
    | succ n => exact thenF_mono (fun o h => h) (fun st o ho => loopW_iff.2 ⟨n, ho⟩) hn
  · intro h
    unfold thenF at h
    split at h
    · rename_i st' hs
      obtain ⟨n, hn⟩ := loopW_iff.1 h
      exact ⟨n + 1, by simp only [loopN, thenF, hs]; exact hn⟩
    · rename_i i st' hs
      exact ⟨1, by simp only [loopN, thenF, hs]; exact h⟩
    · rename_i st' hs
      exact ⟨1, by simp only [loopN, thenF, hs]; exact h⟩
    · cases h
noncomputable def loopWA (n0 : Nat) : LoopF := fun mi keep step st =>
  match mi with
  | none => loopW n0 keep step st
  | some mi => loopM n0 mi keep step st
theorem unif {α : Type} (A : List α) : ∀ (k : Nat) (Q : Nat → List α → Prop), (∀ n m l, n ≤ m → Q n l → Q m l) → (∀ l : List α, l.length = k → (∀ a, a ∈ l → a ∈ A) → ∃ n, Q n l) → ∃ n, ∀ l : List α, l.length = k → (∀ a, a ∈ l → a ∈ A) → Q n l
  | 0, Q, _, h => by
    obtain ⟨n, hn⟩ := h [] rfl (fun a ha => by cases ha)
    exact ⟨n, fun l hl _ => by rw [List.eq_nil_of_length_eq_zero hl]; exact hn⟩
  | k + 1, Q, hQ, h => by
    have one : ∀ a, a ∈ A → ∃ n, ∀ l : List α, l.length = k → (∀ b, b ∈ l → b ∈ A) → Q n (a :: l) := fun a ha =>
      unif A k (fun n l => Q n (a :: l)) (fun n m l hn hq => hQ n m _ hn hq) fun l hl hm => h (a :: l) (by simp [hl]) fun b hb => by
        rcases List.mem_cons.1 hb with rfl | hb
        · exact ha
        · exact hm b hb
    have many : ∀ B : List α, (∀ a, a ∈ B → a ∈ A) → ∃ n, ∀ a, a ∈ B → ∀ l : List α, l.length = k → (∀ b, b ∈ l → b ∈ A) → Q n (a :: l) := by
      intro B
      induction B with
      | nil => intro _; exact ⟨0, fun a ha => by cases ha⟩
      | cons a B ih =>
        intro hB
        obtain ⟨n1, h1⟩ := one a (hB a (by simp))
        obtain ⟨n2, h2⟩ := ih fun b hb => hB b (by simp [hb])
        refine ⟨max n1 n2, fun b hb l hl hm => ?_⟩
        rcases List.mem_cons.1 hb with rfl | hb
        · exact hQ _ _ _ (Nat.le_max_left _ _) (h1 l hl hm)
        · exact hQ _ _ _ (Nat.le_max_right _ _) (h2 b hb l hl hm)
    obtain ⟨n, hn⟩ := many A fun _ h => h
    refine ⟨n, fun l hl hm => ?_⟩
    cases l with
    | nil => cases hl
    | cons a l => exact hn a (hm a (by simp)) l (by simpa using hl) fun b hb => hm b (by simp [hb])
theorem nodup_le {α : Type} : ∀ {l A : List α}, l.Nodup → (∀ a, a ∈ l → a ∈ A) → l.length ≤ A.length
  | [], A, _, _ => Nat.zero_le _
  | a :: l, A, hn, hm => by
    classical
    obtain ⟨h1, h2⟩ := List.nodup_cons.1 hn
    have ha := hm a (by simp)
    have := nodup_le (l := l) (A := A.erase a) h2 fun b hb => by
      have hb' := hm b (by simp [hb])
      exact (List.mem_erase_of_ne (fun e => h1 (by rw [← e]; exact hb))).2 hb'
    rw [List.length_erase_of_mem ha] at this
    have hp : 0 < A.length := List.length_pos_of_mem ha
    simp only [List.length_cons]; omega
theorem Enum.nodup {f : MF} {l : EL} (h : Enum f l) : l.Nodup := List.Pairwise.of_map (fun x : MK × MV => x.1) (fun a b hab e => hab (by rw [e])) h.nd
theorem Enum.len {f : MF} {l l' : EL} (h : Enum f l) (h' : Enum f l') : l.length = l'.length :=
  Nat.le_antisymm (nodup_le h.nodup fun a ha => (h'.mem a.1 a.2).2 ((h.mem a.1 a.2).1 ha)) (nodup_le h'.nodup fun a ha => (h.mem a.1 a.2).2 ((h'.mem a.1 a.2).1 ha))
noncomputable def ev (P : Program) (M : FuncId → FM) : FEnv := fun f xs ob =>
  match Classical.propDecidable (∃ n o, evN P M n f xs ob = some o) with
  | .isTrue h => evN P M (Classical.choose h) f xs ob
  | .isFalse _ => none
section
variable {P : Program} {M : FuncId → FM}
theorem ev_iff {f : FuncId} {xs : List SV} {ob : List Ob} {o : SV × List Ob} : ev P M f xs ob = some o ↔ ∃ n, evN P M n f xs ob = some o := by
  unfold ev
  split
  · rename_i h _
    constructor
    · intro e; exact ⟨_, e⟩
    · rintro ⟨n, hn⟩
      obtain ⟨o', ho'⟩ := Classical.choose_spec h
      have h1 := evN_mono (Nat.le_max_left n (Classical.choose h)) _ _ _ _ hn
      have h2 := evN_mono (Nat.le_max_right n (Classical.choose h)) _ _ _ _ ho'
      rw [h1] at h2
      rw [ho', ← h2]
  · rename_i h _
    exact ⟨fun e => (by cases e), fun ⟨n, hn⟩ => absurd ⟨n, o, hn⟩ h⟩
theorem ev_told (hm : P.follows .mixedOrders = true) (hX : ExtTold P M) : EnvTold P (ev P M) := fun f xs ob r ob' h => by
  obtain ⟨n, hn⟩ := ev_iff.1 h
  exact evN_told hm hX n f xs ob r ob' hn
theorem ev_ge (n : Nat) : ELe (evN P M n) (ev P M) := fun f xs ob r h => ev_iff.2 ⟨n, h⟩
theorem callWith_cont {hd : List Bool} {f : FuncId} {xs : List SV} {ob : List Ob} {sel : List Nat} {r : R3} (h : callWith hd (ev P M) f xs ob sel = some r) : ∃ n, callWith hd (evN P M n) f xs ob sel = some r := by
  unfold callWith at h
  split at h
  · rename_i fob hfob
    obtain ⟨h1, h2⟩ := bif_some h
    split at h2
    · rename_i r0 fob' he
      obtain ⟨n, hn⟩ := ev_iff.1 he
      refine ⟨n, ?_⟩
      unfold callWith
      rw [hfob]
      simp only
      rw [h1, cond_true, hn]
      exact h2
    · cases h2
  · cases h
theorem fCall_cont {f : FuncId} {xs : List SV} {ob : List Ob} {r : R3} (h : fCall M (ev P M) f xs ob = some r) : ∃ n, fCall M (evN P M n) f xs ob = some r := by
  unfold fCall at h ⊢
  cases hq : callWith (M f).hand (ev P M) f xs ob (reach ob 64 (handRefs (M f).hand xs) []) with
  | none =>
    rw [hq] at h
    cases hm : (M f).res <;> rw [hm] at h <;> cases h
  | some q =>
    obtain ⟨n, hn⟩ := callWith_cont hq
    exact ⟨n, by rw [hn, ← hq]; exact h⟩
theorem fOp_cont {so : SOp} {sl : List SV} {ob : List Ob} {r : R3} (hr : fOp P (fCall M (ev P M)) so sl ob = some r) : ∃ n, fOp P (fCall M (evN P M n)) so sl ob = some r := by
  cases so
  case call f args => exact fCall_cont hr
  case callv x args =>
    simp only [fOp] at hr ⊢
    split at hr
    · obtain ⟨h1, h2⟩ := bif_some hr
      rw [h1]
      exact fCall_cont h2
    · cases hr
  all_goals exact ⟨0, hr⟩
theorem fStep_cont {o : SOper} {st : St} {r : Ent × St} (hr : fStep P (fCall M (ev P M)) o st = some r) : ∃ n, fStep P (fCall M (evN P M n)) o st = some r := by
  have one : ∀ r, appF o.dst st (fOp P (fCall M (ev P M)) o.op st.sl st.ob) = some r → ∃ n, appF o.dst st (fOp P (fCall M (evN P M n)) o.op st.sl st.ob) = some r := fun r hr => by
    cases he : fOp P (fCall M (ev P M)) o.op st.sl st.ob with
    | none => rw [he] at hr; cases hr
    | some q =>
      obtain ⟨n, hn⟩ := fOp_cont he
      exact ⟨n, by rw [hn]; rw [he] at hr; exact hr⟩
  unfold fStep at hr ⊢
  split at hr
  · exact one _ hr
  · split at hr
    · cases hb : eqBo _ _ with
      | true => rw [hb] at hr; exact one _ hr
      | false => rw [hb] at hr; exact ⟨0, hr⟩
    · exact ⟨0, hr⟩
    · cases hr
theorem fSeq_cont : ∀ {l : List SOper} {st st' : St}, fSeq P (fCall M (ev P M)) l st = some st' → ∃ n, fSeq P (fCall M (evN P M n)) l st = some st'
  | [], st, st', hr => ⟨0, hr⟩
  | o :: r, st, st', hr => by
    simp only [fSeq] at hr ⊢
    split at hr
    · rename_i e st1 h1
      obtain ⟨n1, g1⟩ := fStep_cont h1
      obtain ⟨n2, g2⟩ := fSeq_cont hr
      refine ⟨max n1 n2, ?_⟩
      rw [fStep_mono (fCall_mono (evN_mono (Nat.le_max_left n1 n2))) g1]
      exact fSeq_mono (fCall_mono (evN_mono (Nat.le_max_right n1 n2))) g2
    · cases hr
theorem fOps_cont : ∀ {l : List SOper} {acc : List Ent} {st : St} {r : List Ent × St}, fOps P (fCall M (ev P M)) l acc st = some r → ∃ n, fOps P (fCall M (evN P M n)) l acc st = some r
  | [], acc, st, r, hr => ⟨0, hr⟩
  | o :: l, acc, st, r, hr => by
    simp only [fOps] at hr ⊢
    split at hr
    · rename_i e st1 h1
      obtain ⟨n1, g1⟩ := fStep_cont h1
      obtain ⟨n2, g2⟩ := fOps_cont hr
      refine ⟨max n1 n2, ?_⟩
      rw [fStep_mono (fCall_mono (evN_mono (Nat.le_max_left n1 n2))) g1]
      exact fOps_mono (fCall_mono (evN_mono (Nat.le_max_right n1 n2))) g2
    · cases hr
noncomputable abbrev frN (P : Program) (M : FuncId → FM) (n0 n : Nat) : SC → St → Option (X × St) := fr P (fCall M (evN P M n)) fun mi keep step st => loopNA n0 mi keep step n st
theorem frN_mono {n0 n m : Nat} (h : n ≤ m) (sc : SC) (st : St) (o : X × St) (hr : frN P M n0 n sc st = some o) : frN P M n0 m sc st = some o :=
  fr_mono (L := fun mi keep step st => loopNA n0 mi keep step n st) (L' := fun mi keep step st => loopNA n0 mi keep step m st) (fCall_mono (evN_mono h)) (fun mi keep step step' st o hs h' => loopNA_mono hs h h') sc st o hr
theorem endM_some' {r : Option (X × St)} {o : X × St} (h : endM r = some o) : r = some o ∧ endM (some o) = some o := by
  obtain ⟨h1, _⟩ := endM_some h
  exact ⟨h1, by rw [h1] at h; exact h⟩
theorem mrun_cont {n0 : Nat} {mi : MI} {keep : List Nat} {step : St → Option (X × St)} {stepN : Nat → St → Option (X × St)} {f : MF} (hm : ∀ n m st o, n ≤ m → stepN n st = some o → stepN m st = some o) (h : ∀ st o, step st = some o → ∃ n, stepN n st = some o) : ∀ {l : EL} {seen : List MK} {st : St} {o : X × St}, mrun n0 mi keep step f l seen st = some o → ∃ n, mrun n0 mi keep (stepN n) f l seen st = some o
  | [], seen, st, o, hr => by
    unfold mrun at hr
    split at hr
    · rename_i g ks f' seen' he
      obtain ⟨h1, h2⟩ := bif_some hr
      obtain ⟨h3, h4⟩ := endM_some' h2
      obtain ⟨n, hn⟩ := h _ _ h3
      refine ⟨n, ?_⟩
      unfold mrun
      rw [he]
      simp only
      rw [h1, cond_true, hn]
      exact h4
    · cases hr
  | (k, x) :: l, seen, st, o, hr => by
    unfold mrun at hr
    split at hr
    · rename_i g ks f' seen' he
      obtain ⟨h1, h2⟩ := bif_some hr
      unfold thenF at h2
      split at h2
      · rename_i st' hs
        obtain ⟨n1, g1⟩ := h _ _ hs
        obtain ⟨n2, g2⟩ := mrun_cont hm h h2
        refine ⟨max n1 n2, ?_⟩
        unfold mrun
        rw [he]
        simp only
        rw [h1, cond_true, hm _ _ _ _ (Nat.le_max_left n1 n2) g1]
        exact mrun_mono (fun st o => hm _ _ st o (Nat.le_max_right n1 n2)) g2
      · rename_i i st' hs
        obtain ⟨n1, g1⟩ := h _ _ hs
        refine ⟨n1, ?_⟩
        unfold mrun
        rw [he]
        simp only
        rw [h1, cond_true, g1]
        exact h2
      · rename_i st' hs
        obtain ⟨n1, g1⟩ := h _ _ hs
        refine ⟨n1, ?_⟩
        unfold mrun
        rw [he]
        simp only
        rw [h1, cond_true, g1]
        exact h2
      · cases h2
    · cases hr
theorem outM_cont {n0 : Nat} {keepO : List Nat} {r : Option (X × St)} {rN : Nat → Option (X × St)} {o : X × St} (h : ∀ o, r = some o → ∃ n, rN n = some o) (hr : outM n0 keepO r = some o) : ∃ n, outM n0 keepO (rN n) = some o := by
  cases r with
  | none => cases hr
  | some q =>
    obtain ⟨n, hn⟩ := h q rfl
    exact ⟨n, by rw [hn]; exact hr⟩
theorem loopM_cont {n0 : Nat} {mi : MI} {keep : List Nat} {step : St → Option (X × St)} {stepN : Nat → St → Option (X × St)} (hm : ∀ n m st o, n ≤ m → stepN n st = some o → stepN m st = some o) (h : ∀ st o, step st = some o → ∃ n, stepN n st = some o) {st : St} {o : X × St} (hr : loopM n0 mi keep step st = some o) : ∃ n, loopM n0 mi keep (stepN n) st = some o := by
  unfold loopM at hr
  split at hr
  · rename_i g ks f he
    obtain ⟨⟨L0, h1⟩, h2⟩ := sameOf_iff.1 hr
    obtain ⟨n, hn⟩ := unif L0 L0.length (fun n l => Enum f l → outM n0 mi.keepO (mrun n0 mi keep (stepN n) f l [] st) = some o) (fun n m l hn hq hl => outM_mono (fun o => mrun_mono fun st o => hm _ _ st o hn) (hq hl)) fun l _ _ => by
      by_cases hl : Enum f l
      · obtain ⟨n, hn⟩ := outM_cont (rN := fun n => mrun n0 mi keep (stepN n) f l [] st) (fun o ho => mrun_cont hm h ho) (h2 l hl)
        exact ⟨n, fun _ => hn⟩
      · exact ⟨0, fun hl' => absurd hl' hl⟩
    refine ⟨n, ?_⟩
    unfold loopM
    rw [he]
    exact sameOf_iff.2 ⟨⟨L0, h1⟩, fun l hl => hn l (hl.len h1) (fun a ha => (h1.mem a.1 a.2).2 ((hl.mem a.1 a.2).1 ha)) hl⟩
  · cases hr
theorem fr_cont {n0 : Nat} : ∀ (sc : SC) (st : St) (o : X × St), fr P (fCall M (ev P M)) (loopWA n0) sc st = some o → ∃ n, frN P M n0 n sc st = some o
  | .skip, st, o, hr => ⟨0, hr⟩
  | .reg ops, st, o, hr => by
    simp only [fr] at hr
    split at hr
    · rename_i st' hs
      obtain ⟨n, hn⟩ := fSeq_cont hs
      exact ⟨n, by simp only [frN, fr, hn]; exact hr⟩
    · cases hr
  | .dreg anc ops, st, o, hr => by
    simp only [fr] at hr
    split at hr
    · rename_i es st' hs
      obtain ⟨n, hn⟩ := fOps_cont hs
      exact ⟨n, by simp only [frN, fr, hn]; exact hr⟩
    · cases hr
  | .seq a b, st, o, hr => by
    simp only [fr, thenF] at hr
    split at hr
    · rename_i st' hs
      obtain ⟨n1, g1⟩ := fr_cont a st _ hs
      obtain ⟨n2, g2⟩ := fr_cont b st' _ hr
      refine ⟨max n1 n2, ?_⟩
      have h1 := frN_mono (Nat.le_max_left n1 n2) _ _ _ g1
      have h2 := frN_mono (Nat.le_max_right n1 n2) _ _ _ g2
      simp only [frN] at h1 h2
      simp only [frN, fr, thenF, h1, h2]
    · rename_i i st' hs
      obtain ⟨n1, g1⟩ := fr_cont a st _ hs
      simp only [frN] at g1
      exact ⟨n1, by simp only [frN, fr, thenF, g1]; exact hr⟩
    · rename_i st' hs
      obtain ⟨n1, g1⟩ := fr_cont a st _ hs
      simp only [frN] at g1
      exact ⟨n1, by simp only [frN, fr, thenF, g1]; exact hr⟩
    · cases hr
  | .cond q a b, st, o, hr => by
    simp only [fr] at hr
    split at hr
    · rename_i t ht
      cases t with
      | true =>
        obtain ⟨n, hn⟩ := fr_cont a st o hr
        exact ⟨n, by simp only [frN, fr, ht]; exact hn⟩
      | false =>
        obtain ⟨n, hn⟩ := fr_cont b st o hr
        exact ⟨n, by simp only [frN, fr, ht]; exact hn⟩
    · cases hr
  | .block id b, st, o, hr => by
    simp only [fr] at hr
    cases he : fr P (fCall M (ev P M)) (loopWA n0) b st with
    | none => rw [he] at hr; cases hr
    | some q =>
      obtain ⟨n, hn⟩ := fr_cont b st q he
      rw [he] at hr
      simp only [frN] at hn
      exact ⟨n, by simp only [frN, fr, hn]; exact hr⟩
  | .loop keep b, st, o, hr => by
    simp only [fr] at hr
    obtain ⟨m, hm⟩ := loopW_iff.1 hr
    clear hr
    have key : ∀ (m : Nat) (st : St), loopN n0 keep (fr P (fCall M (ev P M)) (loopWA n0) b) m st = some o → ∃ n, loopN n0 keep (frN P M n0 n b) n st = some o := by
      intro m
      induction m with
      | zero => intro st h; cases h
      | succ m ih =>
        intro st h
        simp only [loopN, thenF] at h
        split at h
        · rename_i st' hs
          obtain ⟨n1, g1⟩ := fr_cont b _ _ hs
          obtain ⟨n2, g2⟩ := ih st' h
          refine ⟨max n1 n2 + 1, ?_⟩
          have h1 := frN_mono (Nat.le_trans (Nat.le_max_left n1 n2) (Nat.le_succ _)) _ _ _ g1
          have h2 := loopN_mono (step' := frN P M n0 (max n1 n2 + 1) b) (fun st o h => frN_mono (Nat.le_trans (Nat.le_max_right n1 n2) (Nat.le_succ _)) _ _ _ h) (Nat.le_max_right n1 n2) g2
          simp only [loopN, thenF, h1]
          exact h2
        · rename_i i st' hs
          obtain ⟨n1, g1⟩ := fr_cont b _ _ hs
          refine ⟨n1 + 1, ?_⟩
          have h1 := frN_mono (Nat.le_succ n1) _ _ _ g1
          simp only [loopN, thenF, h1]; exact h
        · rename_i st' hs
          obtain ⟨n1, g1⟩ := fr_cont b _ _ hs
          refine ⟨n1 + 1, ?_⟩
          have h1 := frN_mono (Nat.le_succ n1) _ _ _ g1
          simp only [loopN, thenF, h1]; exact h
        · cases h
    obtain ⟨n, hn⟩ := key m st hm
    exact ⟨n, hn⟩
  | .next _ _ _, st, o, hr => by cases hr
  | .mloop keep keepO it nx more b, st, o, hr => by
    simp only [fr] at hr
    obtain ⟨n, hn⟩ := loopM_cont (stepN := fun n => frN P M n0 n b) (fun n m st o hn => frN_mono hn b st o) (fun st o => fr_cont b st o) hr
    exact ⟨n, hn⟩
  | .exit id, st, o, hr => ⟨0, hr⟩
  | .ret, st, o, hr => ⟨0, hr⟩
theorem ev_eq {f : FuncId} {xs : List SV} {ob : List Ob} : ev P M f xs ob = bodyF P M (ev P M) loopWA f xs ob := by
  refine Option.ext fun o => ?_
  rw [ev_iff]
  constructor
  · rintro ⟨n, hn⟩
    cases n with
    | zero => cases hn
    | succ n =>
      refine bodyF_mono (L := fun n0 mi keep step st => loopNA n0 mi keep step n st) (L' := loopWA) (ev_ge n) (fun n0 mi keep step step' st o hs h => ?_) _ _ _ _ hn
      cases mi with
      | none => exact loopW_iff.2 ⟨n, loopN_mono hs (Nat.le_refl n) h⟩
      | some mi => exact loopM_mono hs h
  · intro h
    unfold bodyF at h
    cases hg : (M f).ext with
    | some g =>
      rw [hg] at h
      refine ⟨1, ?_⟩
      show bodyF P M (evN P M 0) _ f xs ob = some o
      unfold bodyF
      rw [hg]; exact h
    | none =>
    rw [hg] at h
    simp only at h
    cases hc : codeOf P f with
    | none => rw [hc] at h; cases h
    | some fc =>
      rw [hc] at h
      simp only at h
      obtain ⟨h1, h2⟩ := bif_some h
      obtain ⟨q, h3, h4⟩ := finF_some h2
      obtain ⟨n, hn⟩ := fr_cont _ _ _ h3
      refine ⟨n + 1, ?_⟩
      show bodyF P M (evN P M n) _ f xs ob = some o
      unfold bodyF
      rw [hg, hc]
      simp only
      rw [h1, cond_true]
      show finF (M f).res ob.length fc.rs (frN P M ob.length n fc.sc ⟨xs ++ anys (fc.nt - xs.length), entry (M f).tree ob⟩) = some o
      rw [hn]
      exact h4
end
structure Tb where
  name : ByteArray
  arity : Int
  pred : Bool
  vals : List Int
def tbC (t : Tb) (s : Value) (j : Nat) : Value := match j with | 0 => .string t.name | 1 => .int .i64 t.arity | 2 => .bool t.pred | _ => s
def TabAt (w : World) (lo : Nat) (t : Tb) (s : Value) : Prop := IntsAt w lo s t.vals ∧ t.name.size ≤ 9223372036854775807
def TabsAt (w : World) (lo : Nat) (v : Value) (ts : List Tb) : Prop := ∃ s : Nat → Value, Sl w lo 4 ts.length (fun i j => tbC (ts.getD i ⟨⟨#[]⟩, 0, false, []⟩) (s i) j) v ∧ ∀ i (h : i < ts.length), TabAt w lo ts[i] (s i)
theorem TabAt.keep {w w' : World} {lo : Nat} {t : Tb} {s : Value} (h : TabAt w lo t s) (hb : Keeps lo w w') : TabAt w' lo t s := ⟨h.1.keep hb, h.2⟩
theorem TabAt.low {w : World} {lo lo' : Nat} {t : Tb} {s : Value} (h : TabAt w lo t s) (hl : lo' ≤ lo) : TabAt w lo' t s := ⟨h.1.low hl, h.2⟩
theorem getD_at {α : Type} {l : List α} {i : Nat} (d : α) (h : i < l.length) : l.getD i d = l[i] := by rw [List.getD_eq_getElem?_getD, List.getElem?_eq_getElem h]; rfl
theorem TabsAt.keep {w w' : World} {lo : Nat} {v : Value} {ts : List Tb} (h : TabsAt w lo v ts) (hb : Keeps lo w w') : TabsAt w' lo v ts := by
  obtain ⟨f, h1, h2⟩ := h
  exact ⟨f, h1.keep hb, fun i hi => (h2 i hi).keep hb⟩
theorem TabsAt.low {w : World} {lo lo' : Nat} {v : Value} {ts : List Tb} (h : TabsAt w lo v ts) (hl : lo' ≤ lo) : TabsAt w lo' v ts := by
  obtain ⟨f, h1, h2⟩ := h
  exact ⟨f, h1.low hl, fun i hi => (h2 i hi).low hl⟩
abbrev IntsD (w : World) (xs : List Int) (v : Value) : Prop := DAt w (.arr (xs.map fun n => [D.int n])) v
inductive Tm where
  | mk (name : ByteArray) (args : List Tm)
def Tm.name : Tm → ByteArray
  | .mk a _ => a
def Tm.args : Tm → List Tm
  | .mk _ a => a
mutual
def Tm.d : Tm → List D
  | .mk name args => [.str name, .arr (Tm.ds args)]
def Tm.ds : List Tm → List (List D)
  | [] => []
  | x :: xs => Tm.d x :: Tm.ds xs
end
theorem Tm.ds_eq : ∀ xs : List Tm, Tm.ds xs = xs.map Tm.d
  | [] => rfl
  | x :: xs => by rw [Tm.ds, Tm.ds_eq xs]; rfl
theorem Tm.d_eq (x : Tm) : Tm.d x = [.str x.name, .arr (x.args.map Tm.d)] := by
  obtain ⟨name, args⟩ := x
  rw [Tm.d, Tm.ds_eq]; rfl
mutual
def Tm.bulk : Tm → Nat
  | .mk name args => name.size + (args.length + Tm.sumB args)
def Tm.sumB : List Tm → Nat
  | [] => 0
  | x :: xs => Tm.bulk x + Tm.sumB xs
end
theorem Tm.bulk_eq (x : Tm) : x.bulk = x.name.size + (x.args.length + Tm.sumB x.args) := by
  obtain ⟨name, args⟩ := x
  rw [Tm.bulk]; rfl
theorem Tm.lt_of_mem {x y : Tm} (h : y ∈ x.args) : SizeOf.sizeOf y < SizeOf.sizeOf x := by
  obtain ⟨name, args⟩ := x
  have := List.sizeOf_lt_of_mem h
  simp only [Tm.args] at this
  simp only [Tm.mk.sizeOf_spec]
  omega
def Tm.zero : Tm := .mk ⟨#[]⟩ []
theorem Tm.bulk_le : ∀ (xs : List Tm) (k : Nat) (h : k < xs.length), xs[k].bulk ≤ Tm.sumB xs
  | [], k, h => absurd h (by simp)
  | x :: xs, 0, _ => by rw [Tm.sumB]; simp
  | x :: xs, k + 1, h => by
    have := Tm.bulk_le xs k (by simpa using h)
    rw [Tm.sumB]; simp only [List.getElem_cons_succ]; omega
def Tm.c (x : Tm) (s0 : Value) (j : Nat) : Value := match j with | 0 => .string x.name | _ => s0
abbrev TmsAt (w : World) (xs : List Tm) (v : Value) : Prop := DAt w (.arr (xs.map Tm.d)) v
def Tm.At (w : World) (x : Tm) (s0 : Value) : Prop := x.name.size ≤ 9223372036854775807 ∧ TmsAt w x.args s0
theorem Tm.At.keep {w w' : World} {x : Tm} {s0 : Value} (h : Tm.At w x s0) (hb : Below w.heap.size w w') : Tm.At w' x s0 := ⟨h.1, DAt.keep h.2 hb⟩
theorem TmsAt.open_ {w : World} {xs : List Tm} {v : Value} (h : TmsAt w xs v) : ∃ (a : Option Addr) (cap : Nat) (S0 : Nat → Value), v = .slice a xs.length cap ∧ xs.length ≤ cap ∧ cap ≤ 9223372036854775807 ∧ SlA w 0 2 xs.length (fun i j => Tm.c (xs.getD i Tm.zero) (S0 i) j) a ∧ ∀ i (h : i < xs.length), Tm.At w xs[i] (S0 i) := by
  obtain ⟨sz, a, cap, f, e, h1, h2, h3, h4, h5⟩ := h.arr_inv
  simp only [List.length_map] at e h1 h3 h4 h5
  have hl : ∀ i, i < xs.length → sz = 2 := fun i hi => by
    have := h4 i hi
    rw [List.getElem_map, Tm.d_eq] at this
    exact this.symm
  have hk : ∀ i (hi : i < xs.length) j (d : D), (Tm.d xs[i])[j]? = some d → DAt w d (f i j) := by
    intro i hi j d hd
    have hj : j < (Tm.d xs[i]).length := (List.getElem?_eq_some_iff.1 hd).1
    have := h5 i j hi (by rw [List.getElem_map]; exact hj)
    simp only [List.getElem_map] at this
    rw [List.getElem?_eq_getElem hj] at hd
    rw [Option.some.inj hd] at this
    exact this
  refine ⟨a, cap, fun i => f i 1, e, h1, h2, ?_, fun i hi => ?_⟩
  · rcases Nat.eq_zero_or_pos xs.length with h0 | h0
    · exact .inl h0
    · rw [hl 0 h0] at h3
      refine h3.congr fun i j hi hj => ?_
      rw [getD_at _ hi]
      match j, hj with
      | 0, _ => exact (hk i hi 0 _ (by rw [Tm.d_eq]; rfl)).str_inv.1
      | 1, _ => rfl
  · exact ⟨(hk i hi 0 _ (by rw [Tm.d_eq]; rfl)).str_inv.2, hk i hi 1 _ (by rw [Tm.d_eq]; rfl)⟩
theorem TmsAt.keep {w w' : World} {xs : List Tm} {v : Value} (h : TmsAt w xs v) (hb : Below w.heap.size w w') : TmsAt w' xs v := DAt.keep h hb
theorem TmsAt.elem {w : World} {xs : List Tm} {a : Option Addr} {n cap : Nat} (h : TmsAt w xs (.slice a n cap)) {k : Nat} (hk : k < xs.length) : ∃ (b off : Nat) (y0 : Option Addr) (n0 c0 : Nat), a = some ⟨b, off, none⟩ ∧ b < w.heap.size ∧ w.cell? ⟨b, off + k * 2, none⟩ = some (.string xs[k].name) ∧ w.cell? ⟨b, off + k * 2 + 1, none⟩ = some (.slice y0 n0 c0) ∧ Tm.At w xs[k] (.slice y0 n0 c0) := by
  obtain ⟨a', cap', S0, e, h1, h2, h3, h4⟩ := h.open_
  injection e with e1 e2 e3
  subst e1
  obtain ⟨b, off, rfl, hb, c0, c1⟩ := h3.at2 hk
  have hF := h4 k hk
  obtain ⟨y0, n0, cc0, e0⟩ := DAt.form hF.2
  simp only [getD_at _ hk, Tm.c] at c0 c1
  rw [e0] at c1
  refine ⟨b, off, y0, n0, cc0, rfl, hb, c0, c1, ?_⟩
  rw [e0] at hF
  exact hF
inductive Fm where
  | mk (op : Int) (atom : Tm) (var : ByteArray) (parts : List Fm)
def Fm.op : Fm → Int
  | .mk a _ _ _ => a
def Fm.atom : Fm → Tm
  | .mk _ a _ _ => a
def Fm.var : Fm → ByteArray
  | .mk _ _ a _ => a
def Fm.parts : Fm → List Fm
  | .mk _ _ _ a => a
mutual
def Fm.d : Fm → List D
  | .mk op atom var parts => [.int op, .str atom.name, .arr (atom.args.map Tm.d), .str var, .arr (Fm.ds parts)]
def Fm.ds : List Fm → List (List D)
  | [] => []
  | x :: xs => Fm.d x :: Fm.ds xs
end
theorem Fm.ds_eq : ∀ xs : List Fm, Fm.ds xs = xs.map Fm.d
  | [] => rfl
  | x :: xs => by rw [Fm.ds, Fm.ds_eq xs]; rfl
theorem Fm.d_eq (x : Fm) : Fm.d x = [.int x.op, .str x.atom.name, .arr (x.atom.args.map Tm.d), .str x.var, .arr (x.parts.map Fm.d)] := by
  obtain ⟨op, atom, var, parts⟩ := x
  rw [Fm.d, Fm.ds_eq]; rfl
mutual
def Fm.bulk : Fm → Nat
  | .mk _ atom var parts => Tm.bulk atom + var.size + (parts.length + Fm.sumB parts)
def Fm.sumB : List Fm → Nat
  | [] => 0
  | x :: xs => Fm.bulk x + Fm.sumB xs
end
theorem Fm.bulk_eq (x : Fm) : x.bulk = x.atom.bulk + x.var.size + (x.parts.length + Fm.sumB x.parts) := by
  obtain ⟨op, atom, var, parts⟩ := x
  rw [Fm.bulk]; rfl
theorem Fm.lt_of_mem {x y : Fm} (h : y ∈ x.parts) : SizeOf.sizeOf y < SizeOf.sizeOf x := by
  obtain ⟨op, atom, var, parts⟩ := x
  have := List.sizeOf_lt_of_mem h
  simp only [Fm.parts] at this
  simp only [Fm.mk.sizeOf_spec]
  omega
def Fm.zero : Fm := .mk 0 Tm.zero ⟨#[]⟩ []
theorem Fm.bulk_le : ∀ (xs : List Fm) (k : Nat) (h : k < xs.length), xs[k].bulk ≤ Fm.sumB xs
  | [], k, h => absurd h (by simp)
  | x :: xs, 0, _ => by rw [Fm.sumB]; simp
  | x :: xs, k + 1, h => by
    have := Fm.bulk_le xs k (by simpa using h)
    rw [Fm.sumB]; simp only [List.getElem_cons_succ]; omega
def Fm.c (x : Fm) (s0 : Value) (s1 : Value) (j : Nat) : Value := match j with | 0 => .int .i64 x.op | 1 => .string x.atom.name | 2 => s0 | 3 => .string x.var | _ => s1
abbrev FmsAt (w : World) (xs : List Fm) (v : Value) : Prop := DAt w (.arr (xs.map Fm.d)) v
def Fm.At (w : World) (x : Fm) (s0 : Value) (s1 : Value) : Prop := x.atom.name.size ≤ 9223372036854775807 ∧ TmsAt w x.atom.args s0 ∧ x.var.size ≤ 9223372036854775807 ∧ FmsAt w x.parts s1
theorem Fm.At.keep {w w' : World} {x : Fm} {s0 : Value} {s1 : Value} (h : Fm.At w x s0 s1) (hb : Below w.heap.size w w') : Fm.At w' x s0 s1 := ⟨h.1, DAt.keep h.2.1 hb, h.2.2.1, DAt.keep h.2.2.2 hb⟩
theorem FmsAt.open_ {w : World} {xs : List Fm} {v : Value} (h : FmsAt w xs v) : ∃ (a : Option Addr) (cap : Nat) (S0 : Nat → Value) (S1 : Nat → Value), v = .slice a xs.length cap ∧ xs.length ≤ cap ∧ cap ≤ 9223372036854775807 ∧ SlA w 0 5 xs.length (fun i j => Fm.c (xs.getD i Fm.zero) (S0 i) (S1 i) j) a ∧ ∀ i (h : i < xs.length), Fm.At w xs[i] (S0 i) (S1 i) := by
  obtain ⟨sz, a, cap, f, e, h1, h2, h3, h4, h5⟩ := h.arr_inv
  simp only [List.length_map] at e h1 h3 h4 h5
  have hl : ∀ i, i < xs.length → sz = 5 := fun i hi => by
    have := h4 i hi
    rw [List.getElem_map, Fm.d_eq] at this
    exact this.symm
  have hk : ∀ i (hi : i < xs.length) j (d : D), (Fm.d xs[i])[j]? = some d → DAt w d (f i j) := by
    intro i hi j d hd
    have hj : j < (Fm.d xs[i]).length := (List.getElem?_eq_some_iff.1 hd).1
    have := h5 i j hi (by rw [List.getElem_map]; exact hj)
    simp only [List.getElem_map] at this
    rw [List.getElem?_eq_getElem hj] at hd
    rw [Option.some.inj hd] at this
    exact this
  refine ⟨a, cap, fun i => f i 2, fun i => f i 4, e, h1, h2, ?_, fun i hi => ?_⟩
  · rcases Nat.eq_zero_or_pos xs.length with h0 | h0
    · exact .inl h0
    · rw [hl 0 h0] at h3
      refine h3.congr fun i j hi hj => ?_
      rw [getD_at _ hi]
      match j, hj with
      | 0, _ => exact (hk i hi 0 _ (by rw [Fm.d_eq]; rfl)).int_inv
      | 1, _ => exact (hk i hi 1 _ (by rw [Fm.d_eq]; rfl)).str_inv.1
      | 2, _ => rfl
      | 3, _ => exact (hk i hi 3 _ (by rw [Fm.d_eq]; rfl)).str_inv.1
      | 4, _ => rfl
  · exact ⟨(hk i hi 1 _ (by rw [Fm.d_eq]; rfl)).str_inv.2, hk i hi 2 _ (by rw [Fm.d_eq]; rfl), (hk i hi 3 _ (by rw [Fm.d_eq]; rfl)).str_inv.2, hk i hi 4 _ (by rw [Fm.d_eq]; rfl)⟩
theorem FmsAt.keep {w w' : World} {xs : List Fm} {v : Value} (h : FmsAt w xs v) (hb : Below w.heap.size w w') : FmsAt w' xs v := DAt.keep h hb
theorem FmsAt.elem {w : World} {xs : List Fm} {a : Option Addr} {n cap : Nat} (h : FmsAt w xs (.slice a n cap)) {k : Nat} (hk : k < xs.length) : ∃ (b off : Nat) (y0 : Option Addr) (n0 c0 : Nat) (y1 : Option Addr) (n1 c1 : Nat), a = some ⟨b, off, none⟩ ∧ b < w.heap.size ∧ w.cell? ⟨b, off + k * 5, none⟩ = some (.int .i64 xs[k].op) ∧ w.cell? ⟨b, off + k * 5 + 1, none⟩ = some (.string xs[k].atom.name) ∧ w.cell? ⟨b, off + k * 5 + 2, none⟩ = some (.slice y0 n0 c0) ∧ w.cell? ⟨b, off + k * 5 + 3, none⟩ = some (.string xs[k].var) ∧ w.cell? ⟨b, off + k * 5 + 4, none⟩ = some (.slice y1 n1 c1) ∧ Fm.At w xs[k] (.slice y0 n0 c0) (.slice y1 n1 c1) := by
  obtain ⟨a', cap', S0, S1, e, h1, h2, h3, h4⟩ := h.open_
  injection e with e1 e2 e3
  subst e1
  obtain ⟨b, off, rfl, hb, c0, c1, c2, c3, c4⟩ := h3.at5 hk
  have hF := h4 k hk
  obtain ⟨y0, n0, cc0, e0⟩ := DAt.form hF.2.1
  obtain ⟨y1, n1, cc1, e1⟩ := DAt.form hF.2.2.2
  simp only [getD_at _ hk, Fm.c] at c0 c1 c2 c3 c4
  rw [e0] at c2
  rw [e1] at c4
  refine ⟨b, off, y0, n0, cc0, y1, n1, cc1, rfl, hb, c0, c1, c2, c3, c4, ?_⟩
  rw [e0, e1] at hF
  exact hF
structure Lt where
  pos : Bool
  atom : Tm
def Lt.d (x : Lt) : List D := [.bool x.pos, .str x.atom.name, .arr (x.atom.args.map Tm.d)]
theorem Lt.d_eq (x : Lt) : Lt.d x = [.bool x.pos, .str x.atom.name, .arr (x.atom.args.map Tm.d)] := rfl
def Lt.bulk (x : Lt) : Nat := x.atom.bulk
theorem Lt.bulk_eq (x : Lt) : x.bulk = x.atom.bulk := rfl
def Lt.sumB : List Lt → Nat
  | [] => 0
  | x :: xs => x.bulk + Lt.sumB xs
def Lt.zero : Lt := ⟨false, Tm.zero⟩
theorem Lt.bulk_le : ∀ (xs : List Lt) (k : Nat) (h : k < xs.length), xs[k].bulk ≤ Lt.sumB xs
  | [], k, h => absurd h (by simp)
  | x :: xs, 0, _ => by rw [Lt.sumB]; simp
  | x :: xs, k + 1, h => by
    have := Lt.bulk_le xs k (by simpa using h)
    rw [Lt.sumB]; simp only [List.getElem_cons_succ]; omega
def Lt.c (x : Lt) (s0 : Value) (j : Nat) : Value := match j with | 0 => .bool x.pos | 1 => .string x.atom.name | _ => s0
abbrev LtsAt (w : World) (xs : List Lt) (v : Value) : Prop := DAt w (.arr (xs.map Lt.d)) v
def Lt.At (w : World) (x : Lt) (s0 : Value) : Prop := x.atom.name.size ≤ 9223372036854775807 ∧ TmsAt w x.atom.args s0
theorem Lt.At.keep {w w' : World} {x : Lt} {s0 : Value} (h : Lt.At w x s0) (hb : Below w.heap.size w w') : Lt.At w' x s0 := ⟨h.1, DAt.keep h.2 hb⟩
theorem LtsAt.open_ {w : World} {xs : List Lt} {v : Value} (h : LtsAt w xs v) : ∃ (a : Option Addr) (cap : Nat) (S0 : Nat → Value), v = .slice a xs.length cap ∧ xs.length ≤ cap ∧ cap ≤ 9223372036854775807 ∧ SlA w 0 3 xs.length (fun i j => Lt.c (xs.getD i Lt.zero) (S0 i) j) a ∧ ∀ i (h : i < xs.length), Lt.At w xs[i] (S0 i) := by
  obtain ⟨sz, a, cap, f, e, h1, h2, h3, h4, h5⟩ := h.arr_inv
  simp only [List.length_map] at e h1 h3 h4 h5
  have hl : ∀ i, i < xs.length → sz = 3 := fun i hi => by
    have := h4 i hi
    rw [List.getElem_map, Lt.d_eq] at this
    exact this.symm
  have hk : ∀ i (hi : i < xs.length) j (d : D), (Lt.d xs[i])[j]? = some d → DAt w d (f i j) := by
    intro i hi j d hd
    have hj : j < (Lt.d xs[i]).length := (List.getElem?_eq_some_iff.1 hd).1
    have := h5 i j hi (by rw [List.getElem_map]; exact hj)
    simp only [List.getElem_map] at this
    rw [List.getElem?_eq_getElem hj] at hd
    rw [Option.some.inj hd] at this
    exact this
  refine ⟨a, cap, fun i => f i 2, e, h1, h2, ?_, fun i hi => ?_⟩
  · rcases Nat.eq_zero_or_pos xs.length with h0 | h0
    · exact .inl h0
    · rw [hl 0 h0] at h3
      refine h3.congr fun i j hi hj => ?_
      rw [getD_at _ hi]
      match j, hj with
      | 0, _ => exact (hk i hi 0 _ (by rw [Lt.d_eq]; rfl)).bool_inv
      | 1, _ => exact (hk i hi 1 _ (by rw [Lt.d_eq]; rfl)).str_inv.1
      | 2, _ => rfl
  · exact ⟨(hk i hi 1 _ (by rw [Lt.d_eq]; rfl)).str_inv.2, hk i hi 2 _ (by rw [Lt.d_eq]; rfl)⟩
theorem LtsAt.keep {w w' : World} {xs : List Lt} {v : Value} (h : LtsAt w xs v) (hb : Below w.heap.size w w') : LtsAt w' xs v := DAt.keep h hb
theorem LtsAt.elem {w : World} {xs : List Lt} {a : Option Addr} {n cap : Nat} (h : LtsAt w xs (.slice a n cap)) {k : Nat} (hk : k < xs.length) : ∃ (b off : Nat) (y0 : Option Addr) (n0 c0 : Nat), a = some ⟨b, off, none⟩ ∧ b < w.heap.size ∧ w.cell? ⟨b, off + k * 3, none⟩ = some (.bool xs[k].pos) ∧ w.cell? ⟨b, off + k * 3 + 1, none⟩ = some (.string xs[k].atom.name) ∧ w.cell? ⟨b, off + k * 3 + 2, none⟩ = some (.slice y0 n0 c0) ∧ Lt.At w xs[k] (.slice y0 n0 c0) := by
  obtain ⟨a', cap', S0, e, h1, h2, h3, h4⟩ := h.open_
  injection e with e1 e2 e3
  subst e1
  obtain ⟨b, off, rfl, hb, c0, c1, c2⟩ := h3.at3 hk
  have hF := h4 k hk
  obtain ⟨y0, n0, cc0, e0⟩ := DAt.form hF.2
  simp only [getD_at _ hk, Lt.c] at c0 c1 c2
  rw [e0] at c2
  refine ⟨b, off, y0, n0, cc0, rfl, hb, c0, c1, c2, ?_⟩
  rw [e0] at hF
  exact hF
structure Cl where
  lits : List Lt
def Cl.d (x : Cl) : List D := [.arr (x.lits.map Lt.d)]
theorem Cl.d_eq (x : Cl) : Cl.d x = [.arr (x.lits.map Lt.d)] := rfl
def Cl.bulk (x : Cl) : Nat := (x.lits.length + Lt.sumB x.lits)
theorem Cl.bulk_eq (x : Cl) : x.bulk = (x.lits.length + Lt.sumB x.lits) := rfl
def Cl.sumB : List Cl → Nat
  | [] => 0
  | x :: xs => x.bulk + Cl.sumB xs
def Cl.zero : Cl := ⟨[]⟩
theorem Cl.bulk_le : ∀ (xs : List Cl) (k : Nat) (h : k < xs.length), xs[k].bulk ≤ Cl.sumB xs
  | [], k, h => absurd h (by simp)
  | x :: xs, 0, _ => by rw [Cl.sumB]; simp
  | x :: xs, k + 1, h => by
    have := Cl.bulk_le xs k (by simpa using h)
    rw [Cl.sumB]; simp only [List.getElem_cons_succ]; omega
def Cl.c (x : Cl) (s0 : Value) (j : Nat) : Value := match j with | _ => s0
abbrev ClsAt (w : World) (xs : List Cl) (v : Value) : Prop := DAt w (.arr (xs.map Cl.d)) v
def Cl.At (w : World) (x : Cl) (s0 : Value) : Prop := LtsAt w x.lits s0
theorem Cl.At.keep {w w' : World} {x : Cl} {s0 : Value} (h : Cl.At w x s0) (hb : Below w.heap.size w w') : Cl.At w' x s0 := DAt.keep h hb
theorem ClsAt.open_ {w : World} {xs : List Cl} {v : Value} (h : ClsAt w xs v) : ∃ (a : Option Addr) (cap : Nat) (S0 : Nat → Value), v = .slice a xs.length cap ∧ xs.length ≤ cap ∧ cap ≤ 9223372036854775807 ∧ SlA w 0 1 xs.length (fun i j => Cl.c (xs.getD i Cl.zero) (S0 i) j) a ∧ ∀ i (h : i < xs.length), Cl.At w xs[i] (S0 i) := by
  obtain ⟨sz, a, cap, f, e, h1, h2, h3, h4, h5⟩ := h.arr_inv
  simp only [List.length_map] at e h1 h3 h4 h5
  have hl : ∀ i, i < xs.length → sz = 1 := fun i hi => by
    have := h4 i hi
    rw [List.getElem_map, Cl.d_eq] at this
    exact this.symm
  have hk : ∀ i (hi : i < xs.length) j (d : D), (Cl.d xs[i])[j]? = some d → DAt w d (f i j) := by
    intro i hi j d hd
    have hj : j < (Cl.d xs[i]).length := (List.getElem?_eq_some_iff.1 hd).1
    have := h5 i j hi (by rw [List.getElem_map]; exact hj)
    simp only [List.getElem_map] at this
    rw [List.getElem?_eq_getElem hj] at hd
    rw [Option.some.inj hd] at this
    exact this
  refine ⟨a, cap, fun i => f i 0, e, h1, h2, ?_, fun i hi => ?_⟩
  · rcases Nat.eq_zero_or_pos xs.length with h0 | h0
    · exact .inl h0
    · rw [hl 0 h0] at h3
      refine h3.congr fun i j hi hj => ?_
      rw [getD_at _ hi]
      match j, hj with
      | 0, _ => rfl
  · exact hk i hi 0 _ (by rw [Cl.d_eq]; rfl)
theorem ClsAt.keep {w w' : World} {xs : List Cl} {v : Value} (h : ClsAt w xs v) (hb : Below w.heap.size w w') : ClsAt w' xs v := DAt.keep h hb
theorem ClsAt.elem {w : World} {xs : List Cl} {a : Option Addr} {n cap : Nat} (h : ClsAt w xs (.slice a n cap)) {k : Nat} (hk : k < xs.length) : ∃ (b off : Nat) (y0 : Option Addr) (n0 c0 : Nat), a = some ⟨b, off, none⟩ ∧ b < w.heap.size ∧ w.cell? ⟨b, off + k, none⟩ = some (.slice y0 n0 c0) ∧ Cl.At w xs[k] (.slice y0 n0 c0) := by
  obtain ⟨a', cap', S0, e, h1, h2, h3, h4⟩ := h.open_
  injection e with e1 e2 e3
  subst e1
  obtain ⟨b, off, rfl, hb, c0⟩ := h3.at1 hk
  have hF := h4 k hk
  obtain ⟨y0, n0, cc0, e0⟩ := DAt.form hF
  simp only [getD_at _ hk, Cl.c] at c0
  rw [e0] at c0
  refine ⟨b, off, y0, n0, cc0, rfl, hb, c0, ?_⟩
  rw [e0] at hF
  exact hF
structure Ag where
  var : ByteArray
  elem : Int
def Ag.d (x : Ag) : List D := [.str x.var, .int x.elem]
theorem Ag.d_eq (x : Ag) : Ag.d x = [.str x.var, .int x.elem] := rfl
def Ag.bulk (x : Ag) : Nat := x.var.size
theorem Ag.bulk_eq (x : Ag) : x.bulk = x.var.size := rfl
def Ag.sumB : List Ag → Nat
  | [] => 0
  | x :: xs => x.bulk + Ag.sumB xs
def Ag.zero : Ag := ⟨⟨#[]⟩, 0⟩
theorem Ag.bulk_le : ∀ (xs : List Ag) (k : Nat) (h : k < xs.length), xs[k].bulk ≤ Ag.sumB xs
  | [], k, h => absurd h (by simp)
  | x :: xs, 0, _ => by rw [Ag.sumB]; simp
  | x :: xs, k + 1, h => by
    have := Ag.bulk_le xs k (by simpa using h)
    rw [Ag.sumB]; simp only [List.getElem_cons_succ]; omega
def Ag.c (x : Ag) (j : Nat) : Value := match j with | 0 => .string x.var | _ => .int .i64 x.elem
abbrev AgsAt (w : World) (xs : List Ag) (v : Value) : Prop := DAt w (.arr (xs.map Ag.d)) v
def Ag.At (w : World) (x : Ag) : Prop := x.var.size ≤ 9223372036854775807
theorem Ag.At.keep {w w' : World} {x : Ag} (h : Ag.At w x) (hb : Below w.heap.size w w') : Ag.At w' x := h
theorem AgsAt.open_ {w : World} {xs : List Ag} {v : Value} (h : AgsAt w xs v) : ∃ (a : Option Addr) (cap : Nat), v = .slice a xs.length cap ∧ xs.length ≤ cap ∧ cap ≤ 9223372036854775807 ∧ SlA w 0 2 xs.length (fun i j => Ag.c (xs.getD i Ag.zero) j) a ∧ ∀ i (h : i < xs.length), Ag.At w xs[i] := by
  obtain ⟨sz, a, cap, f, e, h1, h2, h3, h4, h5⟩ := h.arr_inv
  simp only [List.length_map] at e h1 h3 h4 h5
  have hl : ∀ i, i < xs.length → sz = 2 := fun i hi => by
    have := h4 i hi
    rw [List.getElem_map, Ag.d_eq] at this
    exact this.symm
  have hk : ∀ i (hi : i < xs.length) j (d : D), (Ag.d xs[i])[j]? = some d → DAt w d (f i j) := by
    intro i hi j d hd
    have hj : j < (Ag.d xs[i]).length := (List.getElem?_eq_some_iff.1 hd).1
    have := h5 i j hi (by rw [List.getElem_map]; exact hj)
    simp only [List.getElem_map] at this
    rw [List.getElem?_eq_getElem hj] at hd
    rw [Option.some.inj hd] at this
    exact this
  refine ⟨a, cap, e, h1, h2, ?_, fun i hi => ?_⟩
  · rcases Nat.eq_zero_or_pos xs.length with h0 | h0
    · exact .inl h0
    · rw [hl 0 h0] at h3
      refine h3.congr fun i j hi hj => ?_
      rw [getD_at _ hi]
      match j, hj with
      | 0, _ => exact (hk i hi 0 _ (by rw [Ag.d_eq]; rfl)).str_inv.1
      | 1, _ => exact (hk i hi 1 _ (by rw [Ag.d_eq]; rfl)).int_inv
  · exact (hk i hi 0 _ (by rw [Ag.d_eq]; rfl)).str_inv.2
theorem AgsAt.keep {w w' : World} {xs : List Ag} {v : Value} (h : AgsAt w xs v) (hb : Below w.heap.size w w') : AgsAt w' xs v := DAt.keep h hb
theorem AgsAt.elem {w : World} {xs : List Ag} {a : Option Addr} {n cap : Nat} (h : AgsAt w xs (.slice a n cap)) {k : Nat} (hk : k < xs.length) : ∃ (b off : Nat), a = some ⟨b, off, none⟩ ∧ b < w.heap.size ∧ w.cell? ⟨b, off + k * 2, none⟩ = some (.string xs[k].var) ∧ w.cell? ⟨b, off + k * 2 + 1, none⟩ = some (.int .i64 xs[k].elem) ∧ Ag.At w xs[k] := by
  obtain ⟨a', cap', e, h1, h2, h3, h4⟩ := h.open_
  injection e with e1 e2 e3
  subst e1
  obtain ⟨b, off, rfl, hb, c0, c1⟩ := h3.at2 hk
  have hF := h4 k hk
  simp only [getD_at _ hk, Ag.c] at c0 c1
  exact ⟨b, off, rfl, hb, c0, c1, hF⟩
structure Bd where
  var : ByteArray
  term : Tm
def Bd.d (x : Bd) : List D := [.str x.var, .str x.term.name, .arr (x.term.args.map Tm.d)]
theorem Bd.d_eq (x : Bd) : Bd.d x = [.str x.var, .str x.term.name, .arr (x.term.args.map Tm.d)] := rfl
def Bd.bulk (x : Bd) : Nat := x.var.size + x.term.bulk
theorem Bd.bulk_eq (x : Bd) : x.bulk = x.var.size + x.term.bulk := rfl
def Bd.sumB : List Bd → Nat
  | [] => 0
  | x :: xs => x.bulk + Bd.sumB xs
def Bd.zero : Bd := ⟨⟨#[]⟩, Tm.zero⟩
theorem Bd.bulk_le : ∀ (xs : List Bd) (k : Nat) (h : k < xs.length), xs[k].bulk ≤ Bd.sumB xs
  | [], k, h => absurd h (by simp)
  | x :: xs, 0, _ => by rw [Bd.sumB]; simp
  | x :: xs, k + 1, h => by
    have := Bd.bulk_le xs k (by simpa using h)
    rw [Bd.sumB]; simp only [List.getElem_cons_succ]; omega
def Bd.c (x : Bd) (s0 : Value) (j : Nat) : Value := match j with | 0 => .string x.var | 1 => .string x.term.name | _ => s0
abbrev BdsAt (w : World) (xs : List Bd) (v : Value) : Prop := DAt w (.arr (xs.map Bd.d)) v
def Bd.At (w : World) (x : Bd) (s0 : Value) : Prop := x.var.size ≤ 9223372036854775807 ∧ x.term.name.size ≤ 9223372036854775807 ∧ TmsAt w x.term.args s0
theorem Bd.At.keep {w w' : World} {x : Bd} {s0 : Value} (h : Bd.At w x s0) (hb : Below w.heap.size w w') : Bd.At w' x s0 := ⟨h.1, h.2.1, DAt.keep h.2.2 hb⟩
theorem BdsAt.open_ {w : World} {xs : List Bd} {v : Value} (h : BdsAt w xs v) : ∃ (a : Option Addr) (cap : Nat) (S0 : Nat → Value), v = .slice a xs.length cap ∧ xs.length ≤ cap ∧ cap ≤ 9223372036854775807 ∧ SlA w 0 3 xs.length (fun i j => Bd.c (xs.getD i Bd.zero) (S0 i) j) a ∧ ∀ i (h : i < xs.length), Bd.At w xs[i] (S0 i) := by
  obtain ⟨sz, a, cap, f, e, h1, h2, h3, h4, h5⟩ := h.arr_inv
  simp only [List.length_map] at e h1 h3 h4 h5
  have hl : ∀ i, i < xs.length → sz = 3 := fun i hi => by
    have := h4 i hi
    rw [List.getElem_map, Bd.d_eq] at this
    exact this.symm
  have hk : ∀ i (hi : i < xs.length) j (d : D), (Bd.d xs[i])[j]? = some d → DAt w d (f i j) := by
    intro i hi j d hd
    have hj : j < (Bd.d xs[i]).length := (List.getElem?_eq_some_iff.1 hd).1
    have := h5 i j hi (by rw [List.getElem_map]; exact hj)
    simp only [List.getElem_map] at this
    rw [List.getElem?_eq_getElem hj] at hd
    rw [Option.some.inj hd] at this
    exact this
  refine ⟨a, cap, fun i => f i 2, e, h1, h2, ?_, fun i hi => ?_⟩
  · rcases Nat.eq_zero_or_pos xs.length with h0 | h0
    · exact .inl h0
    · rw [hl 0 h0] at h3
      refine h3.congr fun i j hi hj => ?_
      rw [getD_at _ hi]
      match j, hj with
      | 0, _ => exact (hk i hi 0 _ (by rw [Bd.d_eq]; rfl)).str_inv.1
      | 1, _ => exact (hk i hi 1 _ (by rw [Bd.d_eq]; rfl)).str_inv.1
      | 2, _ => rfl
  · exact ⟨(hk i hi 0 _ (by rw [Bd.d_eq]; rfl)).str_inv.2, (hk i hi 1 _ (by rw [Bd.d_eq]; rfl)).str_inv.2, hk i hi 2 _ (by rw [Bd.d_eq]; rfl)⟩
theorem BdsAt.keep {w w' : World} {xs : List Bd} {v : Value} (h : BdsAt w xs v) (hb : Below w.heap.size w w') : BdsAt w' xs v := DAt.keep h hb
theorem BdsAt.elem {w : World} {xs : List Bd} {a : Option Addr} {n cap : Nat} (h : BdsAt w xs (.slice a n cap)) {k : Nat} (hk : k < xs.length) : ∃ (b off : Nat) (y0 : Option Addr) (n0 c0 : Nat), a = some ⟨b, off, none⟩ ∧ b < w.heap.size ∧ w.cell? ⟨b, off + k * 3, none⟩ = some (.string xs[k].var) ∧ w.cell? ⟨b, off + k * 3 + 1, none⟩ = some (.string xs[k].term.name) ∧ w.cell? ⟨b, off + k * 3 + 2, none⟩ = some (.slice y0 n0 c0) ∧ Bd.At w xs[k] (.slice y0 n0 c0) := by
  obtain ⟨a', cap', S0, e, h1, h2, h3, h4⟩ := h.open_
  injection e with e1 e2 e3
  subst e1
  obtain ⟨b, off, rfl, hb, c0, c1, c2⟩ := h3.at3 hk
  have hF := h4 k hk
  obtain ⟨y0, n0, cc0, e0⟩ := DAt.form hF.2.2
  simp only [getD_at _ hk, Bd.c] at c0 c1 c2
  rw [e0] at c2
  refine ⟨b, off, y0, n0, cc0, rfl, hb, c0, c1, c2, ?_⟩
  rw [e0] at hF
  exact hF
structure Sb where
  binds : List Bd
def Sb.d (x : Sb) : List D := [.arr (x.binds.map Bd.d)]
theorem Sb.d_eq (x : Sb) : Sb.d x = [.arr (x.binds.map Bd.d)] := rfl
def Sb.bulk (x : Sb) : Nat := (x.binds.length + Bd.sumB x.binds)
theorem Sb.bulk_eq (x : Sb) : x.bulk = (x.binds.length + Bd.sumB x.binds) := rfl
def Sb.sumB : List Sb → Nat
  | [] => 0
  | x :: xs => x.bulk + Sb.sumB xs
def Sb.zero : Sb := ⟨[]⟩
theorem Sb.bulk_le : ∀ (xs : List Sb) (k : Nat) (h : k < xs.length), xs[k].bulk ≤ Sb.sumB xs
  | [], k, h => absurd h (by simp)
  | x :: xs, 0, _ => by rw [Sb.sumB]; simp
  | x :: xs, k + 1, h => by
    have := Sb.bulk_le xs k (by simpa using h)
    rw [Sb.sumB]; simp only [List.getElem_cons_succ]; omega
def Sb.c (x : Sb) (s0 : Value) (j : Nat) : Value := match j with | _ => s0
abbrev SbsAt (w : World) (xs : List Sb) (v : Value) : Prop := DAt w (.arr (xs.map Sb.d)) v
def Sb.At (w : World) (x : Sb) (s0 : Value) : Prop := BdsAt w x.binds s0
theorem Sb.At.keep {w w' : World} {x : Sb} {s0 : Value} (h : Sb.At w x s0) (hb : Below w.heap.size w w') : Sb.At w' x s0 := DAt.keep h hb
theorem SbsAt.open_ {w : World} {xs : List Sb} {v : Value} (h : SbsAt w xs v) : ∃ (a : Option Addr) (cap : Nat) (S0 : Nat → Value), v = .slice a xs.length cap ∧ xs.length ≤ cap ∧ cap ≤ 9223372036854775807 ∧ SlA w 0 1 xs.length (fun i j => Sb.c (xs.getD i Sb.zero) (S0 i) j) a ∧ ∀ i (h : i < xs.length), Sb.At w xs[i] (S0 i) := by
  obtain ⟨sz, a, cap, f, e, h1, h2, h3, h4, h5⟩ := h.arr_inv
  simp only [List.length_map] at e h1 h3 h4 h5
  have hl : ∀ i, i < xs.length → sz = 1 := fun i hi => by
    have := h4 i hi
    rw [List.getElem_map, Sb.d_eq] at this
    exact this.symm
  have hk : ∀ i (hi : i < xs.length) j (d : D), (Sb.d xs[i])[j]? = some d → DAt w d (f i j) := by
    intro i hi j d hd
    have hj : j < (Sb.d xs[i]).length := (List.getElem?_eq_some_iff.1 hd).1
    have := h5 i j hi (by rw [List.getElem_map]; exact hj)
    simp only [List.getElem_map] at this
    rw [List.getElem?_eq_getElem hj] at hd
    rw [Option.some.inj hd] at this
    exact this
  refine ⟨a, cap, fun i => f i 0, e, h1, h2, ?_, fun i hi => ?_⟩
  · rcases Nat.eq_zero_or_pos xs.length with h0 | h0
    · exact .inl h0
    · rw [hl 0 h0] at h3
      refine h3.congr fun i j hi hj => ?_
      rw [getD_at _ hi]
      match j, hj with
      | 0, _ => rfl
  · exact hk i hi 0 _ (by rw [Sb.d_eq]; rfl)
theorem SbsAt.keep {w w' : World} {xs : List Sb} {v : Value} (h : SbsAt w xs v) (hb : Below w.heap.size w w') : SbsAt w' xs v := DAt.keep h hb
theorem SbsAt.elem {w : World} {xs : List Sb} {a : Option Addr} {n cap : Nat} (h : SbsAt w xs (.slice a n cap)) {k : Nat} (hk : k < xs.length) : ∃ (b off : Nat) (y0 : Option Addr) (n0 c0 : Nat), a = some ⟨b, off, none⟩ ∧ b < w.heap.size ∧ w.cell? ⟨b, off + k, none⟩ = some (.slice y0 n0 c0) ∧ Sb.At w xs[k] (.slice y0 n0 c0) := by
  obtain ⟨a', cap', S0, e, h1, h2, h3, h4⟩ := h.open_
  injection e with e1 e2 e3
  subst e1
  obtain ⟨b, off, rfl, hb, c0⟩ := h3.at1 hk
  have hF := h4 k hk
  obtain ⟨y0, n0, cc0, e0⟩ := DAt.form hF
  simp only [getD_at _ hk, Sb.c] at c0
  rw [e0] at c0
  refine ⟨b, off, y0, n0, cc0, rfl, hb, c0, ?_⟩
  rw [e0] at hF
  exact hF
structure Df where
  name : ByteArray
  vars : List ByteArray
  form : Fm
def Df.d (x : Df) : List D := [.str x.name, .arr (x.vars.map fun s => [.str s]), .int x.form.op, .str x.form.atom.name, .arr (x.form.atom.args.map Tm.d), .str x.form.var, .arr (x.form.parts.map Fm.d)]
theorem Df.d_eq (x : Df) : Df.d x = [.str x.name, .arr (x.vars.map fun s => [.str s]), .int x.form.op, .str x.form.atom.name, .arr (x.form.atom.args.map Tm.d), .str x.form.var, .arr (x.form.parts.map Fm.d)] := rfl
def Df.bulk (x : Df) : Nat := x.name.size + (x.vars.length + strB x.vars) + x.form.bulk
theorem Df.bulk_eq (x : Df) : x.bulk = x.name.size + (x.vars.length + strB x.vars) + x.form.bulk := rfl
def Df.sumB : List Df → Nat
  | [] => 0
  | x :: xs => x.bulk + Df.sumB xs
def Df.zero : Df := ⟨⟨#[]⟩, [], Fm.zero⟩
theorem Df.bulk_le : ∀ (xs : List Df) (k : Nat) (h : k < xs.length), xs[k].bulk ≤ Df.sumB xs
  | [], k, h => absurd h (by simp)
  | x :: xs, 0, _ => by rw [Df.sumB]; simp
  | x :: xs, k + 1, h => by
    have := Df.bulk_le xs k (by simpa using h)
    rw [Df.sumB]; simp only [List.getElem_cons_succ]; omega
def Df.c (x : Df) (s0 : Value) (s1 : Value) (s2 : Value) (j : Nat) : Value := match j with | 0 => .string x.name | 1 => s0 | 2 => .int .i64 x.form.op | 3 => .string x.form.atom.name | 4 => s1 | 5 => .string x.form.var | _ => s2
abbrev DfsAt (w : World) (xs : List Df) (v : Value) : Prop := DAt w (.arr (xs.map Df.d)) v
def Df.At (w : World) (x : Df) (s0 : Value) (s1 : Value) (s2 : Value) : Prop := x.name.size ≤ 9223372036854775807 ∧ StrsAt w x.vars s0 ∧ x.form.atom.name.size ≤ 9223372036854775807 ∧ TmsAt w x.form.atom.args s1 ∧ x.form.var.size ≤ 9223372036854775807 ∧ FmsAt w x.form.parts s2
theorem Df.At.keep {w w' : World} {x : Df} {s0 : Value} {s1 : Value} {s2 : Value} (h : Df.At w x s0 s1 s2) (hb : Below w.heap.size w w') : Df.At w' x s0 s1 s2 := ⟨h.1, DAt.keep h.2.1 hb, h.2.2.1, DAt.keep h.2.2.2.1 hb, h.2.2.2.2.1, DAt.keep h.2.2.2.2.2 hb⟩
theorem DfsAt.open_ {w : World} {xs : List Df} {v : Value} (h : DfsAt w xs v) : ∃ (a : Option Addr) (cap : Nat) (S0 : Nat → Value) (S1 : Nat → Value) (S2 : Nat → Value), v = .slice a xs.length cap ∧ xs.length ≤ cap ∧ cap ≤ 9223372036854775807 ∧ SlA w 0 7 xs.length (fun i j => Df.c (xs.getD i Df.zero) (S0 i) (S1 i) (S2 i) j) a ∧ ∀ i (h : i < xs.length), Df.At w xs[i] (S0 i) (S1 i) (S2 i) := by
  obtain ⟨sz, a, cap, f, e, h1, h2, h3, h4, h5⟩ := h.arr_inv
  simp only [List.length_map] at e h1 h3 h4 h5
  have hl : ∀ i, i < xs.length → sz = 7 := fun i hi => by
    have := h4 i hi
    rw [List.getElem_map, Df.d_eq] at this
    exact this.symm
  have hk : ∀ i (hi : i < xs.length) j (d : D), (Df.d xs[i])[j]? = some d → DAt w d (f i j) := by
    intro i hi j d hd
    have hj : j < (Df.d xs[i]).length := (List.getElem?_eq_some_iff.1 hd).1
    have := h5 i j hi (by rw [List.getElem_map]; exact hj)
    simp only [List.getElem_map] at this
    rw [List.getElem?_eq_getElem hj] at hd
    rw [Option.some.inj hd] at this
    exact this
  refine ⟨a, cap, fun i => f i 1, fun i => f i 4, fun i => f i 6, e, h1, h2, ?_, fun i hi => ?_⟩
  · rcases Nat.eq_zero_or_pos xs.length with h0 | h0
    · exact .inl h0
    · rw [hl 0 h0] at h3
      refine h3.congr fun i j hi hj => ?_
      rw [getD_at _ hi]
      match j, hj with
      | 0, _ => exact (hk i hi 0 _ (by rw [Df.d_eq]; rfl)).str_inv.1
      | 1, _ => rfl
      | 2, _ => exact (hk i hi 2 _ (by rw [Df.d_eq]; rfl)).int_inv
      | 3, _ => exact (hk i hi 3 _ (by rw [Df.d_eq]; rfl)).str_inv.1
      | 4, _ => rfl
      | 5, _ => exact (hk i hi 5 _ (by rw [Df.d_eq]; rfl)).str_inv.1
      | 6, _ => rfl
  · exact ⟨(hk i hi 0 _ (by rw [Df.d_eq]; rfl)).str_inv.2, hk i hi 1 _ (by rw [Df.d_eq]; rfl), (hk i hi 3 _ (by rw [Df.d_eq]; rfl)).str_inv.2, hk i hi 4 _ (by rw [Df.d_eq]; rfl), (hk i hi 5 _ (by rw [Df.d_eq]; rfl)).str_inv.2, hk i hi 6 _ (by rw [Df.d_eq]; rfl)⟩
theorem DfsAt.keep {w w' : World} {xs : List Df} {v : Value} (h : DfsAt w xs v) (hb : Below w.heap.size w w') : DfsAt w' xs v := DAt.keep h hb
theorem DfsAt.elem {w : World} {xs : List Df} {a : Option Addr} {n cap : Nat} (h : DfsAt w xs (.slice a n cap)) {k : Nat} (hk : k < xs.length) : ∃ (b off : Nat) (y0 : Option Addr) (n0 c0 : Nat) (y1 : Option Addr) (n1 c1 : Nat) (y2 : Option Addr) (n2 c2 : Nat), a = some ⟨b, off, none⟩ ∧ b < w.heap.size ∧ w.cell? ⟨b, off + k * 7, none⟩ = some (.string xs[k].name) ∧ w.cell? ⟨b, off + k * 7 + 1, none⟩ = some (.slice y0 n0 c0) ∧ w.cell? ⟨b, off + k * 7 + 2, none⟩ = some (.int .i64 xs[k].form.op) ∧ w.cell? ⟨b, off + k * 7 + 3, none⟩ = some (.string xs[k].form.atom.name) ∧ w.cell? ⟨b, off + k * 7 + 4, none⟩ = some (.slice y1 n1 c1) ∧ w.cell? ⟨b, off + k * 7 + 5, none⟩ = some (.string xs[k].form.var) ∧ w.cell? ⟨b, off + k * 7 + 6, none⟩ = some (.slice y2 n2 c2) ∧ Df.At w xs[k] (.slice y0 n0 c0) (.slice y1 n1 c1) (.slice y2 n2 c2) := by
  obtain ⟨a', cap', S0, S1, S2, e, h1, h2, h3, h4⟩ := h.open_
  injection e with e1 e2 e3
  subst e1
  obtain ⟨b, off, rfl, hb, c0, c1, c2, c3, c4, c5, c6⟩ := h3.at7 hk
  have hF := h4 k hk
  obtain ⟨y0, n0, cc0, e0⟩ := DAt.form hF.2.1
  obtain ⟨y1, n1, cc1, e1⟩ := DAt.form hF.2.2.2.1
  obtain ⟨y2, n2, cc2, e2⟩ := DAt.form hF.2.2.2.2.2
  simp only [getD_at _ hk, Df.c] at c0 c1 c2 c3 c4 c5 c6
  rw [e0] at c1
  rw [e1] at c4
  rw [e2] at c6
  refine ⟨b, off, y0, n0, cc0, y1, n1, cc1, y2, n2, cc2, rfl, hb, c0, c1, c2, c3, c4, c5, c6, ?_⟩
  rw [e0, e1, e2] at hF
  exact hF
structure Tl where
  name : ByteArray
  arity : Int
  pred : Bool
  vals : List Int
def Tl.d (x : Tl) : List D := [.str x.name, .int x.arity, .bool x.pred, .arr (x.vals.map fun n => [.int n])]
theorem Tl.d_eq (x : Tl) : Tl.d x = [.str x.name, .int x.arity, .bool x.pred, .arr (x.vals.map fun n => [.int n])] := rfl
def Tl.bulk (x : Tl) : Nat := x.name.size + x.vals.length
theorem Tl.bulk_eq (x : Tl) : x.bulk = x.name.size + x.vals.length := rfl
def Tl.sumB : List Tl → Nat
  | [] => 0
  | x :: xs => x.bulk + Tl.sumB xs
def Tl.zero : Tl := ⟨⟨#[]⟩, 0, false, []⟩
theorem Tl.bulk_le : ∀ (xs : List Tl) (k : Nat) (h : k < xs.length), xs[k].bulk ≤ Tl.sumB xs
  | [], k, h => absurd h (by simp)
  | x :: xs, 0, _ => by rw [Tl.sumB]; simp
  | x :: xs, k + 1, h => by
    have := Tl.bulk_le xs k (by simpa using h)
    rw [Tl.sumB]; simp only [List.getElem_cons_succ]; omega
def Tl.c (x : Tl) (s0 : Value) (j : Nat) : Value := match j with | 0 => .string x.name | 1 => .int .i64 x.arity | 2 => .bool x.pred | _ => s0
abbrev TlsAt (w : World) (xs : List Tl) (v : Value) : Prop := DAt w (.arr (xs.map Tl.d)) v
def Tl.At (w : World) (x : Tl) (s0 : Value) : Prop := x.name.size ≤ 9223372036854775807 ∧ IntsD w x.vals s0
theorem Tl.At.keep {w w' : World} {x : Tl} {s0 : Value} (h : Tl.At w x s0) (hb : Below w.heap.size w w') : Tl.At w' x s0 := ⟨h.1, DAt.keep h.2 hb⟩
theorem TlsAt.open_ {w : World} {xs : List Tl} {v : Value} (h : TlsAt w xs v) : ∃ (a : Option Addr) (cap : Nat) (S0 : Nat → Value), v = .slice a xs.length cap ∧ xs.length ≤ cap ∧ cap ≤ 9223372036854775807 ∧ SlA w 0 4 xs.length (fun i j => Tl.c (xs.getD i Tl.zero) (S0 i) j) a ∧ ∀ i (h : i < xs.length), Tl.At w xs[i] (S0 i) := by
  obtain ⟨sz, a, cap, f, e, h1, h2, h3, h4, h5⟩ := h.arr_inv
  simp only [List.length_map] at e h1 h3 h4 h5
  have hl : ∀ i, i < xs.length → sz = 4 := fun i hi => by
    have := h4 i hi
    rw [List.getElem_map, Tl.d_eq] at this
    exact this.symm
  have hk : ∀ i (hi : i < xs.length) j (d : D), (Tl.d xs[i])[j]? = some d → DAt w d (f i j) := by
    intro i hi j d hd
    have hj : j < (Tl.d xs[i]).length := (List.getElem?_eq_some_iff.1 hd).1
    have := h5 i j hi (by rw [List.getElem_map]; exact hj)
    simp only [List.getElem_map] at this
    rw [List.getElem?_eq_getElem hj] at hd
    rw [Option.some.inj hd] at this
    exact this
  refine ⟨a, cap, fun i => f i 3, e, h1, h2, ?_, fun i hi => ?_⟩
  · rcases Nat.eq_zero_or_pos xs.length with h0 | h0
    · exact .inl h0
    · rw [hl 0 h0] at h3
      refine h3.congr fun i j hi hj => ?_
      rw [getD_at _ hi]
      match j, hj with
      | 0, _ => exact (hk i hi 0 _ (by rw [Tl.d_eq]; rfl)).str_inv.1
      | 1, _ => exact (hk i hi 1 _ (by rw [Tl.d_eq]; rfl)).int_inv
      | 2, _ => exact (hk i hi 2 _ (by rw [Tl.d_eq]; rfl)).bool_inv
      | 3, _ => rfl
  · exact ⟨(hk i hi 0 _ (by rw [Tl.d_eq]; rfl)).str_inv.2, hk i hi 3 _ (by rw [Tl.d_eq]; rfl)⟩
theorem TlsAt.keep {w w' : World} {xs : List Tl} {v : Value} (h : TlsAt w xs v) (hb : Below w.heap.size w w') : TlsAt w' xs v := DAt.keep h hb
theorem TlsAt.elem {w : World} {xs : List Tl} {a : Option Addr} {n cap : Nat} (h : TlsAt w xs (.slice a n cap)) {k : Nat} (hk : k < xs.length) : ∃ (b off : Nat) (y0 : Option Addr) (n0 c0 : Nat), a = some ⟨b, off, none⟩ ∧ b < w.heap.size ∧ w.cell? ⟨b, off + k * 4, none⟩ = some (.string xs[k].name) ∧ w.cell? ⟨b, off + k * 4 + 1, none⟩ = some (.int .i64 xs[k].arity) ∧ w.cell? ⟨b, off + k * 4 + 2, none⟩ = some (.bool xs[k].pred) ∧ w.cell? ⟨b, off + k * 4 + 3, none⟩ = some (.slice y0 n0 c0) ∧ Tl.At w xs[k] (.slice y0 n0 c0) := by
  obtain ⟨a', cap', S0, e, h1, h2, h3, h4⟩ := h.open_
  injection e with e1 e2 e3
  subst e1
  obtain ⟨b, off, rfl, hb, c0, c1, c2, c3⟩ := h3.at4 hk
  have hF := h4 k hk
  obtain ⟨y0, n0, cc0, e0⟩ := DAt.form hF.2
  simp only [getD_at _ hk, Tl.c] at c0 c1 c2 c3
  rw [e0] at c3
  refine ⟨b, off, y0, n0, cc0, rfl, hb, c0, c1, c2, c3, ?_⟩
  rw [e0] at hF
  exact hF
structure Ip where
  size : Int
  tables : List Tl
def Ip.d (x : Ip) : List D := [.int x.size, .arr (x.tables.map Tl.d)]
theorem Ip.d_eq (x : Ip) : Ip.d x = [.int x.size, .arr (x.tables.map Tl.d)] := rfl
def Ip.bulk (x : Ip) : Nat := (x.tables.length + Tl.sumB x.tables)
theorem Ip.bulk_eq (x : Ip) : x.bulk = (x.tables.length + Tl.sumB x.tables) := rfl
def Ip.sumB : List Ip → Nat
  | [] => 0
  | x :: xs => x.bulk + Ip.sumB xs
def Ip.zero : Ip := ⟨0, []⟩
theorem Ip.bulk_le : ∀ (xs : List Ip) (k : Nat) (h : k < xs.length), xs[k].bulk ≤ Ip.sumB xs
  | [], k, h => absurd h (by simp)
  | x :: xs, 0, _ => by rw [Ip.sumB]; simp
  | x :: xs, k + 1, h => by
    have := Ip.bulk_le xs k (by simpa using h)
    rw [Ip.sumB]; simp only [List.getElem_cons_succ]; omega
def Ip.c (x : Ip) (s0 : Value) (j : Nat) : Value := match j with | 0 => .int .i64 x.size | _ => s0
abbrev IpsAt (w : World) (xs : List Ip) (v : Value) : Prop := DAt w (.arr (xs.map Ip.d)) v
def Ip.At (w : World) (x : Ip) (s0 : Value) : Prop := TlsAt w x.tables s0
theorem Ip.At.keep {w w' : World} {x : Ip} {s0 : Value} (h : Ip.At w x s0) (hb : Below w.heap.size w w') : Ip.At w' x s0 := DAt.keep h hb
theorem IpsAt.open_ {w : World} {xs : List Ip} {v : Value} (h : IpsAt w xs v) : ∃ (a : Option Addr) (cap : Nat) (S0 : Nat → Value), v = .slice a xs.length cap ∧ xs.length ≤ cap ∧ cap ≤ 9223372036854775807 ∧ SlA w 0 2 xs.length (fun i j => Ip.c (xs.getD i Ip.zero) (S0 i) j) a ∧ ∀ i (h : i < xs.length), Ip.At w xs[i] (S0 i) := by
  obtain ⟨sz, a, cap, f, e, h1, h2, h3, h4, h5⟩ := h.arr_inv
  simp only [List.length_map] at e h1 h3 h4 h5
  have hl : ∀ i, i < xs.length → sz = 2 := fun i hi => by
    have := h4 i hi
    rw [List.getElem_map, Ip.d_eq] at this
    exact this.symm
  have hk : ∀ i (hi : i < xs.length) j (d : D), (Ip.d xs[i])[j]? = some d → DAt w d (f i j) := by
    intro i hi j d hd
    have hj : j < (Ip.d xs[i]).length := (List.getElem?_eq_some_iff.1 hd).1
    have := h5 i j hi (by rw [List.getElem_map]; exact hj)
    simp only [List.getElem_map] at this
    rw [List.getElem?_eq_getElem hj] at hd
    rw [Option.some.inj hd] at this
    exact this
  refine ⟨a, cap, fun i => f i 1, e, h1, h2, ?_, fun i hi => ?_⟩
  · rcases Nat.eq_zero_or_pos xs.length with h0 | h0
    · exact .inl h0
    · rw [hl 0 h0] at h3
      refine h3.congr fun i j hi hj => ?_
      rw [getD_at _ hi]
      match j, hj with
      | 0, _ => exact (hk i hi 0 _ (by rw [Ip.d_eq]; rfl)).int_inv
      | 1, _ => rfl
  · exact hk i hi 1 _ (by rw [Ip.d_eq]; rfl)
theorem IpsAt.keep {w w' : World} {xs : List Ip} {v : Value} (h : IpsAt w xs v) (hb : Below w.heap.size w w') : IpsAt w' xs v := DAt.keep h hb
theorem IpsAt.elem {w : World} {xs : List Ip} {a : Option Addr} {n cap : Nat} (h : IpsAt w xs (.slice a n cap)) {k : Nat} (hk : k < xs.length) : ∃ (b off : Nat) (y0 : Option Addr) (n0 c0 : Nat), a = some ⟨b, off, none⟩ ∧ b < w.heap.size ∧ w.cell? ⟨b, off + k * 2, none⟩ = some (.int .i64 xs[k].size) ∧ w.cell? ⟨b, off + k * 2 + 1, none⟩ = some (.slice y0 n0 c0) ∧ Ip.At w xs[k] (.slice y0 n0 c0) := by
  obtain ⟨a', cap', S0, e, h1, h2, h3, h4⟩ := h.open_
  injection e with e1 e2 e3
  subst e1
  obtain ⟨b, off, rfl, hb, c0, c1⟩ := h3.at2 hk
  have hF := h4 k hk
  obtain ⟨y0, n0, cc0, e0⟩ := DAt.form hF
  simp only [getD_at _ hk, Ip.c] at c0 c1
  rw [e0] at c1
  refine ⟨b, off, y0, n0, cc0, rfl, hb, c0, c1, ?_⟩
  rw [e0] at hF
  exact hF
theorem Fun.of_ret {f : FuncId} {args : List SV} {r : SV} {rv : Value} (hr : ∀ (w : World) (I : Nat → Prop) (V : Nat → Option Value), RepV w I V r rv)
    (h : ∀ (w : World) (I : Nat → Prop) (V : Nat → Option Value) (vs : List Value), RepVs w I V args vs → Calls Try.prog f vs.toArray w (Ret w rv)) : Fun Try.prog f args [] r [] := by
  intro w I V B vs hwf hvs
  refine (h w I V vs hvs).mono ?_
  rintro e w' ⟨rfl, hb⟩
  refine ⟨rv, I, V, B, rfl, hr _ _ _, ⟨⟨hb.os, hb.tape, hb.output, hb.size, fun b hlt _ => hb.block b hlt⟩, fun _ h => h, fun _ h => .inl h, VLe.refl _, ?_, fun g b hl => by simp [geto, Ob.live] at hl⟩⟩
  exact ⟨fun b hb' => Nat.lt_of_lt_of_le (hwf.ilt b hb') hb.size, fun g hl => by simp [geto, Ob.live] at hl, fun g b hl => by simp [geto, Ob.live] at hl, fun g b hl => by simp [geto, Ob.live] at hl, fun g g' b hl => by simp [geto, Ob.live] at hl, fun g hf => hwf.fr g rfl, hwf.gl.keep ⟨hb.size, fun b _ hlt => hb.block b hlt⟩ fun _ h => h⟩
theorem Fun.of_same {f : FuncId} {args : List SV} {r : SV} {rv : Value} (hr : ∀ (w : World) (I : Nat → Prop) (V : Nat → Option Value), RepV w I V r rv)
    (h : ∀ (w : World) (I : Nat → Prop) (V : Nat → Option Value) (vs : List Value), RepVs w I V args vs → Calls Try.prog f vs.toArray w (Same w rv)) : Fun Try.prog f args [] r [] :=
  Fun.of_ret hr fun w I V vs hvs => Same.ret (h w I V vs hvs)
section
variable {w : World} {I : Nat → Prop} {V : Nat → Option Value} {vs : List Value}
theorem args0 (h : RepVs w I V [] vs) : vs = [] := by simpa [RepVs] using h
theorem args_cons {x : SV} {xs : List SV} (h : RepVs w I V (x :: xs) vs) : ∃ v r, vs = v :: r ∧ RepV w I V x v ∧ RepVs w I V xs r := by simpa only [RepVs] using h
theorem rep_str {s : ByteArray} {v : Value} (h : RepV w I V (.str s) v) : v = .string s ∧ s.size ≤ 9223372036854775807 := by simpa only [RepV] using h
theorem rep_int {k : IntKind} {n : Int} {v : Value} (h : RepV w I V (.int k n) v) : v = .int k n := by simpa only [RepV] using h
end
mutual
def SV.fits : SV → Prop
  | .str s => s.size ≤ 9223372036854775807
  | .arr es => es.length ≤ 9223372036854775807
  | .agg l => fitsL l
  | _ => True
def fitsL : List SV → Prop
  | [] => True
  | x :: xs => x.fits ∧ fitsL xs
end
section
variable {w : World} {I : Nat → Prop} {V : Nat → Option Value}
end
theorem er_strs (xs : List ByteArray) : OT.erss (xs.map fun s => [OT.str s]) = xs.map fun s => [D.str s] := by
  induction xs with
  | nil => rfl
  | cons x r ih => simp only [List.map_cons, OT.erss, OT.ers, OT.er, ih]
theorem er_ints (xs : List Int) : OT.erss (xs.map fun s => [OT.int s]) = xs.map fun s => [D.int s] := by
  induction xs with
  | nil => rfl
  | cons x r ih => simp only [List.map_cons, OT.erss, OT.ers, OT.er, ih]
theorem no_strs (xs : List ByteArray) : OT.noShss (xs.map fun s => [OT.str s]) = true := by
  induction xs with
  | nil => rfl
  | cons x r ih => simp only [List.map_cons, OT.noShss, OT.noShs, OT.noSh, ih, Bool.and_self]
theorem no_ints (xs : List Int) : OT.noShss (xs.map fun s => [OT.int s]) = true := by
  induction xs with
  | nil => rfl
  | cons x r ih => simp only [List.map_cons, OT.noShss, OT.noShs, OT.noSh, ih, Bool.and_self]
def szR (left : Int) (n : Nat) : Int := if (n : Int) ≤ left then left - n else -1
def mkT (k : Nat) (acc : List UInt8) : List UInt8 := if h : k = 0 then acc else mkT (k / 10) (UInt8.ofNat (48 + k % 10) :: acc)
termination_by k
decreasing_by omega
def markT (k : Int) : ByteArray := ⟨(109 :: mkT k.toNat []).toArray⟩
theorem bytes_cat (a b : Array UInt8) : (⟨a⟩ ++ ⟨b⟩ : ByteArray) = ⟨a ++ b⟩ := by apply ByteArray.ext; simp
theorem mkT_len (k : Nat) (acc : List UInt8) : (mkT k acc).length ≤ acc.length + k := by
  induction k using Nat.strongRecOn generalizing acc with
  | _ k ih =>
    unfold mkT
    split
    · omega
    · have := ih (k / 10) (by omega) (UInt8.ofNat (48 + k % 10) :: acc)
      simp only [List.length_cons] at this
      omega
theorem markT_size {k : Int} (h : 0 ≤ k) (h1 : k ≤ 1099511627776) : (markT k).size ≤ 9223372036854775807 := by
  have := mkT_len k.toNat []
  show (109 :: mkT k.toNat []).toArray.size ≤ _
  simp only [List.size_toArray, List.length_cons, List.length_nil] at *
  omega
set_option maxHeartbeats 1000000 in
theorem markText_any (K : Nat) (w : World) (h1 : 1 ≤ K) (h2 : (K : Int) ≤ 1099511627776) : Calls Try.prog 41 #[.int .i64 (K : Int)] w (Ret w (.string (markT K))) := by
  go_enter Try.func41, Try.ntmps41
  go_wp2
  go_loopw [0, 3] (fun n s wr => ∃ (k : Nat) (acc : List UInt8), n = .int .i64 k ∧ s = .string ⟨acc.toArray⟩ ∧ acc.length + k ≤ K ∧ mkT k acc = mkT K [] ∧ Below w.heap.size w wr) (fun n _ _ => (intOf n).toNat)
  case atStart => exact ⟨K, [], rfl, rfl, by simp, rfl, Below.refl _ _⟩
  case round =>
    obtain ⟨k, acc, rfl, rfl, hle, hok, hbw⟩ := hrel
    have hzw := hbw.size
    have Hok := Lib.hid hok
    clear hok
    by_cases hlt : k = 0
    · subst hlt
      go_wp2_with fail
      go_ret
      refine Ret.bel ?_ hbw
      have h0 := Hok.out
      rw [mkT, dif_pos rfl] at h0
      unfold markT
      rw [Int.toNat_natCast, ← h0]
      show Value.string (⟨#[109]⟩ ++ ⟨acc.toArray⟩) = _
      rw [bytes_cat]
      simp
    · have hk0 : (0 : Int) < k := by omega
      have hr : (wr.alloc (.cells #[.int .u8 (48 + (k : Int) % 10)] 5)).cell? ⟨wr.heap.size, 0, none⟩ = some (.int .u8 (48 + (k : Int) % 10)) := by rw [World.cell?_alloc_at _ _ _ _ rfl]; rfl
      have hcv := run_convert_bytes_back (P := Try.prog) (wr.alloc (.cells #[.int .u8 (48 + (k : Int) % 10)] 5)) 116 9 5 ⟨wr.heap.size, 0, none⟩ 1 [UInt8.ofNat (48 + k % 10)] Try.underlying116 Try.underlying5 Try.underlying9 (fun j hj => by
        obtain rfl : j = 0 := by simpa using hj
        rw [show (⟨wr.heap.size, 0, none⟩ : Addr).add 0 = ⟨wr.heap.size, 0, none⟩ from rfl, hr]
        have : (UInt8.ofNat (48 + k % 10)).toNat = 48 + k % 10 := by rw [UInt8.toNat_ofNat']; omega
        simp only [List.getElem_cons_zero, this]
        push_cast
        rfl)
      simp only [List.length_cons, List.length_nil, Nat.zero_add] at hcv
      clear hr
      go_wp2_with fail
      refine ⟨⟨k / 10, UInt8.ofNat (48 + k % 10) :: acc, by go_num, ?_, ?_, ?_, (by (repeat' first | (with_reducible exact Below.refl _ _) | (with_reducible refine Below.setCell ?_ ?_ _) | (with_reducible refine Below.alloc ?_ ?_ _) | (with_reducible refine Below.drewN' ?_ _) | (with_reducible refine Below.via ?_ (by assumption) ?_) | (with_reducible exact Nat.le_refl _) | (simp; done) | (simp; omega) | omega))⟩, ?_⟩
      · rw [bytes_cat]; simp
      · simp only [List.length_cons]; omega
      · rw [← Hok.out, mkT.eq_def k acc, dif_neg hlt]
      · simp only [intOf]; omega
def lowB (b : Int) : Bool := decide (97 ≤ b) && decide (b ≤ 122)
def digB (b : Int) : Bool := decide (48 ≤ b) && decide (b ≤ 57)
def uppB (b : Int) : Bool := decide (65 ≤ b) && decide (b ≤ 90)
def inB (n lo hi : Int) : Bool := decide (lo ≤ n) && decide (n ≤ hi)
theorem within_any (n lo hi : Int) (w : World) :
    Calls Try.prog 84 #[.int .i64 n, .int .i64 lo, .int .i64 hi] w (Same w (.bool (inB n lo hi))) := by
  by_cases h1 : lo ≤ n <;> by_cases h2 : n ≤ hi
  all_goals
    go_enter Try.func84, Try.ntmps84
    go_wp2
    go_ret
    exact Same.mk' _ (by simp [inB, h1, h2])
theorem l1In_any (n lo hi : Int) (w : World) :
    Calls Try.prog 45 #[.int .i64 n, .int .i64 lo, .int .i64 hi] w (Same w (.bool (inB n lo hi))) := by
  by_cases h1 : lo ≤ n <;> by_cases h2 : n ≤ hi
  all_goals
    go_enter Try.func45, Try.ntmps45
    go_wp2
    go_ret
    exact Same.mk' _ (by simp [inB, h1, h2])
theorem isLower_any (n : Int) (w : World) : Calls Try.prog 141 #[.int .u8 n] w (Same w (.bool (lowB n))) := by
  by_cases h1 : 97 ≤ n <;> by_cases h2 : n ≤ 122
  all_goals
    go_enter Try.func141, Try.ntmps141
    go_wp2
    go_ret
    exact Same.mk' _ (by simp [lowB, h1, h2])
theorem isDigit_any (n : Int) (w : World) : Calls Try.prog 142 #[.int .u8 n] w (Same w (.bool (digB n))) := by
  by_cases h1 : 48 ≤ n <;> by_cases h2 : n ≤ 57
  all_goals
    go_enter Try.func142, Try.ntmps142
    go_wp2
    go_ret
    exact Same.mk' _ (by simp [digB, h1, h2])
theorem isUpper_any (n : Int) (w : World) : Calls Try.prog 128 #[.int .u8 n] w (Same w (.bool (uppB n))) := by
  by_cases h1 : 65 ≤ n <;> by_cases h2 : n ≤ 90
  all_goals
    go_enter Try.func128, Try.ntmps128
    go_wp2
    go_ret
    exact Same.mk' _ (by simp [uppB, h1, h2])
def smallB (n : Int) : Bool := lowB n || digB n
theorem l2Small_any (n : Int) (w : World) : Calls Try.prog 121 #[.int .u8 n] w (Same w (.bool (smallB n))) := by
  by_cases h1 : 97 ≤ n <;> by_cases h2 : n ≤ 122 <;> by_cases h3 : 48 ≤ n <;> by_cases h4 : n ≤ 57 <;> first | (exfalso; omega) | skip
  all_goals
    go_enter Try.func121, Try.ntmps121
    go_wp2
    go_ret
    exact Same.mk' _ (by simp [smallB, lowB, digB, h1, h2, h3, h4])
def byteZ (s : ByteArray) (k : Nat) : Int := ((s.toList.getD k 0).toNat : Int)
theorem byteZ_get {s : ByteArray} {k : Nat} (h : k < s.size) : (s[k].toNat : Int) = byteZ s k := by
  have h' : k < s.data.toList.length := h
  unfold byteZ
  rw [ByteArray.toList_eq, List.getD_eq_getElem?_getD, List.getElem?_eq_getElem h']
  rfl
def loopB (p : Nat → Int → Bool) (s : ByteArray) (k : Nat) : Bool := (List.range k).all fun j => p j (byteZ s j)
theorem loopB_succ {p : Nat → Int → Bool} {s : ByteArray} {k : Nat} : loopB p s (k + 1) = (loopB p s k && p k (byteZ s k)) := by
  unfold loopB
  rw [List.range_succ, List.all_append]
  simp
theorem loopB_next {p : Nat → Int → Bool} {s : ByteArray} {k : Nat} (h : loopB p s k = true) (hk : p k (byteZ s k) = true) : loopB p s (k + 1) = true := by
  rw [loopB_succ, h, hk]; rfl
theorem loopB_mono {p : Nat → Int → Bool} {s : ByteArray} {k n : Nat} (h : loopB p s k = false) (hn : k ≤ n) : loopB p s n = false := by
  induction n with
  | zero => have : k = 0 := by omega
            subst this; exact h
  | succ n ih =>
    by_cases hk : k = n + 1
    · subst hk; exact h
    · rw [loopB_succ, ih (by omega)]; rfl
theorem loopB_stop {p : Nat → Int → Bool} {s : ByteArray} {k : Nat} (hk : k < s.size) (h : p k (byteZ s k) = false) : loopB p s s.size = false :=
  loopB_mono (k := k + 1) (by rw [loopB_succ, h]; simp) (by omega)
def symOk (k : Nat) (b : Int) : Bool := (k != 0 || lowB b) && (smallB b || b == 95)
def varOk (k : Nat) (b : Int) : Bool := (k != 0 || uppB b) && (k == 0 || smallB b)
def words : List (List UInt8) := [[116, 114, 117, 101], [102, 97, 108, 115, 101], [116, 114, 117, 116, 104], [98, 111, 116, 104], [101, 105, 116, 104, 101, 114], [105, 102], [97, 108, 108], [115, 111, 109, 101]]
def resB (s : ByteArray) : Bool := anyB (fun k => s.toList == words.getD k []) 8
def symB (s : ByteArray) : Bool := loopB symOk s s.size && inB s.size 1 6 && !resB s
def varB (s : ByteArray) : Bool := loopB varOk s s.size && inB s.size 1 4
set_option maxHeartbeats 1000000 in
theorem isVariable_any (s : ByteArray) (w : World) (hs : s.size ≤ 9223372036854775807) : Calls Try.prog 147 #[.string s] w (Same w (.bool (varB s))) := by
  go_enter Try.func147, Try.ntmps147
  go_wp2
  go_loopw [6] (fun i wr => Cnt w s.size (fun k => loopB varOk s k = true) i wr) (fun i _ => s.size - (intOf i).toNat)
  case atStart => exact ⟨0, Nat.zero_le _, rfl, rfl, rfl⟩
  case round =>
    obtain ⟨k, hk, rfl, hok, rfl⟩ := hrel
    have Hok := Lib.hid hok
    clear hok
    by_cases hlt : k < s.size
    · have Hb := Lib.hid (byteZ_get hlt)
      rcases Nat.eq_zero_or_pos k with rfl | hpos
      all_goals
        go_wp2_with (first
          | (go_at_call 141; refine (isLower_any _ _).mono ?_; rintro e w' ⟨rfl, rfl⟩)
          | (go_at_call 128; refine (isUpper_any _ _).mono ?_; rintro e w' ⟨rfl, rfl⟩)
          | (go_at_call 142; refine (isDigit_any _ _).mono ?_; rintro e w' ⟨rfl, rfl⟩))
        all_goals first
          | (go_ret
             refine Same.mk' _ ?_
             unfold varB
             rw [loopB_stop hlt (by rw [← Hb.out]; simp_all [varOk, smallB] <;> omega)]
             rfl)
          | (go_roundw
             case rel => exact ⟨_, hlt, by go_num, loopB_next Hok.out (by rw [← Hb.out]; simp_all [varOk, smallB] <;> omega), rfl⟩
             case measure => first | exact intOf_lt hlt | (simp [intOf]; omega))
    · obtain rfl : k = s.size := by omega
      go_wp2_with (first
        | (go_at_call 84; refine (within_any _ _ _ _).mono ?_; rintro e w' ⟨rfl, rfl⟩))
      go_ret
      exact Same.mk' _ (by unfold varB; rw [Hok.out]; rfl)
set_option maxHeartbeats 1000000 in
theorem indexS_any (b n c : Nat) (f : Nat → ByteArray) (x : ByteArray) (w : World) (hn : n ≤ 9223372036854775807)
   (hc : ∀ k, k < n → w.cell? ⟨b, k, none⟩ = some (.string (f k))) : Calls Try.prog 180 #[.slice (some ⟨b, 0, none⟩) n c, .string x] w (Same w (.int .i64 (idxZ (fun k => x.toList == (f k).toList) n))) := by
  go_enter Try.func180, Try.ntmps180
  go_wp2
  go_loopw [8] (fun i wr => Cnt w n (fun k => ∀ j, j < k → (x.toList == (f j).toList) = false) i wr) (fun i _ => n - (intOf i).toNat)
  case atStart => exact ⟨0, Nat.zero_le _, rfl, fun j hj => absurd hj (by omega), rfl⟩
  case round =>
    obtain ⟨k, hk, rfl, hok, rfl⟩ := hrel
    have Hok := Lib.hid hok
    clear hok
    by_cases hlt : k < n
    · have hck := hc k (by omega)
      go_wp2_with fail
      · go_ret
        exact Same.mk' _ (by rw [idxZ_hit hlt Hok.out (by assumption)]; rfl)
      · go_roundw
        case rel => exact ⟨_, hlt, by go_num, all_lt_succ Hok.out (by assumption), rfl⟩
        case measure => exact intOf_lt hlt
    · obtain rfl : k = n := by omega
      go_wp2_with fail
      go_ret
      exact Same.mk' _ (by rw [idxZ_miss Hok.out]; rfl)
theorem containsS_any (b n c : Nat) (f : Nat → ByteArray) (x : ByteArray) (w : World) (hn : n ≤ 9223372036854775807)
   (hc : ∀ k, k < n → w.cell? ⟨b, k, none⟩ = some (.string (f k))) : Calls Try.prog 164 #[.slice (some ⟨b, 0, none⟩) n c, .string x] w (Same w (.bool (anyB (fun k => x.toList == (f k).toList) n))) := by
  have Hc := Lib.hid hc
  clear hc
  go_enter Try.func164, Try.ntmps164
  go_wp2_with (first
    | (go_at_call 180; refine (indexS_any _ _ _ f _ _ hn Hc.out).mono ?_; rintro e w' ⟨rfl, rfl⟩))
  go_ret
  exact Same.mk' _ (by rw [← idxZ_ge]; rfl)
theorem reserved_any (w : World) : Calls Try.prog 165 #[] w fun e w' => e = .returned (.slice (some ⟨w.heap.size, 0, none⟩) 8 8) ∧ w' = w.alloc (.cells ((words.map fun l => Value.string ⟨l.toArray⟩).toArray) 9) := by
  go_enter Try.func165, Try.ntmps165
  go_wp2
  go_ret
  exact ⟨rfl, rfl⟩
theorem words_cells (w : World) : ∀ k, k < 8 → (w.alloc (.cells ((words.map fun l => Value.string ⟨l.toArray⟩).toArray) 9)).cell? ⟨w.heap.size, k, none⟩ = some (.string ⟨(words.getD k []).toArray⟩) := by
  intro k hk
  have hh : (w.alloc (.cells ((words.map fun l => Value.string ⟨l.toArray⟩).toArray) 9)).heap[w.heap.size]? = some (.cells ((words.map fun l => Value.string ⟨l.toArray⟩).toArray) 9) := heap_alloc_new w _
  unfold World.cell?
  rw [hh]
  match k, hk with
  | 0, _ => rfl
  | 1, _ => rfl
  | 2, _ => rfl
  | 3, _ => rfl
  | 4, _ => rfl
  | 5, _ => rfl
  | 6, _ => rfl
  | 7, _ => rfl
set_option maxHeartbeats 1000000 in
theorem isSymbol_any (s : ByteArray) (w : World) (hs : s.size ≤ 9223372036854775807) : Calls Try.prog 134 #[.string s] w (Ret w (.bool (symB s))) := by
  go_enter Try.func134, Try.ntmps134
  go_wp2
  go_loopw [6] (fun i wr => Cnt w s.size (fun k => loopB symOk s k = true) i wr) (fun i _ => s.size - (intOf i).toNat)
  case atStart => exact ⟨0, Nat.zero_le _, rfl, rfl, rfl⟩
  case round =>
    obtain ⟨k, hk, rfl, hok, rfl⟩ := hrel
    have Hok := Lib.hid hok
    clear hok
    by_cases hlt : k < s.size
    · have Hb := Lib.hid (byteZ_get hlt)
      rcases Nat.eq_zero_or_pos k with rfl | hpos
      all_goals
        go_wp2_with (first
          | (go_at_call 141; refine (isLower_any _ _).mono ?_; rintro e w' ⟨rfl, rfl⟩)
          | (go_at_call 142; refine (isDigit_any _ _).mono ?_; rintro e w' ⟨rfl, rfl⟩))
        all_goals first
          | (go_ret
             refine Ret.same _ ?_
             unfold symB
             rw [loopB_stop hlt (by rw [← Hb.out]; simp_all [symOk, smallB] <;> omega)]
             rfl)
          | (go_roundw
             case rel => exact ⟨_, hlt, by go_num, loopB_next Hok.out (by rw [← Hb.out]; simp_all [symOk, smallB] <;> omega), rfl⟩
             case measure => first | exact intOf_lt hlt | (simp [intOf]; omega))
    · obtain rfl : k = s.size := by omega
      cases hin : inB s.size 1 6
      · go_wp2_with (first
          | (go_at_call 84; refine (within_any _ _ _ _).mono ?_; rintro e w' ⟨rfl, rfl⟩))
        go_ret
        exact Ret.same _ (by unfold symB; rw [hin]; simp)
      · go_wp2_with (first
          | (go_at_call 84; refine (within_any _ _ _ _).mono ?_; rintro e w' ⟨rfl, rfl⟩)
          | (go_at_call 165; refine (reserved_any _).mono ?_; rintro e w' ⟨rfl, rfl⟩)
          | (go_at_call 164; refine (containsS_any _ _ _ (fun k => ⟨(words.getD k []).toArray⟩) _ _ (by omega) (words_cells w)).mono ?_; rintro e w' ⟨rfl, rfl⟩))
        go_ret
        refine Ret.bel ?_ ((Below.refl _ _).alloc (Nat.le_refl _) _)
        unfold symB resB
        rw [hin, Hok.out]
        simp
set_option maxHeartbeats 1000000 in
theorem l2Var_any (s : ByteArray) (w : World) (hs : s.size ≤ 9223372036854775807) : Calls Try.prog 67 #[.string s] w (Same w (.bool (varB s))) := by
  cases hin : inB s.size 1 4
  · go_enter Try.func67, Try.ntmps67
    go_wp2_with (first
      | (go_at_call 45; refine (l1In_any _ _ _ _).mono ?_; rintro e w' ⟨rfl, rfl⟩))
    go_ret
    exact Same.mk' _ (by unfold varB; rw [hin]; simp)
  · have hpos : 0 < s.size := by simp [inB] at hin; omega
    have Hb := Lib.hid (byteZ_get hpos)
    go_enter Try.func67, Try.ntmps67
    go_wp2_with (first
      | (go_at_call 45; refine (l1In_any _ _ _ _).mono ?_; rintro e w' ⟨rfl, rfl⟩))
    all_goals first
      | (go_ret
         refine Same.mk' _ ?_
         unfold varB
         rw [loopB_stop hpos (by rw [← Hb.out]; simp [varOk, uppB]; omega)]
         rfl)
      | skip
    · go_loopw [3] (fun i wr => Cnt w s.size (fun k => 1 ≤ k ∧ loopB varOk s k = true) i wr) (fun i _ => s.size - (intOf i).toNat)
      case atStart => exact ⟨1, hpos, rfl, ⟨Nat.le_refl _, by rw [loopB_succ, ← Hb.out]; simp [loopB, varOk, uppB]; omega⟩, rfl⟩
      case round =>
        obtain ⟨k, hk, rfl, ⟨hk1, hok⟩, rfl⟩ := hrel
        have Hok := Lib.hid hok
        clear hok
        by_cases hlt : k < s.size
        · have Hbk := Lib.hid (byteZ_get hlt)
          have hk0 : k ≠ 0 := by omega
          go_wp2_with (first
            | (go_at_call 121; refine (l2Small_any _ _).mono ?_; rintro e w' ⟨rfl, rfl⟩))
          all_goals first
            | (go_ret
               refine Same.mk' _ ?_
               unfold varB
               rw [loopB_stop hlt (by rw [← Hbk.out]; simp_all [varOk] <;> omega)]
               rfl)
            | (go_roundw
               case rel => exact ⟨_, hlt, by go_num, ⟨by omega, loopB_next Hok.out (by rw [← Hbk.out]; simp_all [varOk] <;> omega)⟩, rfl⟩
               case measure => first | exact intOf_lt hlt | (simp [intOf]; omega))
        · obtain rfl : k = s.size := by omega
          go_wp2_with fail
          go_ret
          exact Same.mk' _ (by unfold varB; rw [Hok.out, hin]; rfl)
theorem resB_eq (s : ByteArray) : resB s = (s.toList == [116, 114, 117, 101] || s.toList == [102, 97, 108, 115, 101] || s.toList == [116, 114, 117, 116, 104] || s.toList == [98, 111, 116, 104] || s.toList == [101, 105, 116, 104, 101, 114] || s.toList == [105, 102] || s.toList == [97, 108, 108] || s.toList == [115, 111, 109, 101]) := by
  unfold resB anyB words
  simp [List.range, List.range.loop, Bool.or_assoc]
set_option maxHeartbeats 2000000 in
theorem l2Symbol_any (s : ByteArray) (w : World) (hs : s.size ≤ 9223372036854775807) : Calls Try.prog 118 #[.string s] w (Same w (.bool (symB s))) := by
  cases hin : inB s.size 1 6
  · go_enter Try.func118, Try.ntmps118
    go_wp2_with (first
      | (go_at_call 45; refine (l1In_any _ _ _ _).mono ?_; rintro e w' ⟨rfl, rfl⟩))
    go_ret
    exact Same.mk' _ (by unfold symB; rw [hin]; simp)
  · have hpos : 0 < s.size := by simp [inB] at hin; omega
    have Hb := Lib.hid (byteZ_get hpos)
    cases hres : resB s
    case true =>
      have Hres := Lib.hid hres
      rw [resB_eq] at hres
      go_enter Try.func118, Try.ntmps118
      go_wp2_with (first
        | (go_at_call 45; refine (l1In_any _ _ _ _).mono ?_; rintro e w' ⟨rfl, rfl⟩))
      all_goals first
        | (go_ret
           refine Same.mk' _ ?_
           unfold symB
           rw [Hres.out]; simp)
        | (exfalso; simp_all; done)
    have Hres := Lib.hid hres
    rw [resB_eq] at hres
    simp only [Bool.or_eq_false_iff] at hres
    obtain ⟨⟨⟨⟨⟨⟨⟨e1, e2⟩, e3⟩, e4⟩, e5⟩, e6⟩, e7⟩, e8⟩ := hres
    go_enter Try.func118, Try.ntmps118
    go_wp2_with (first
      | (go_at_call 45; refine (l1In_any _ _ _ _).mono ?_; rintro e w' ⟨rfl, rfl⟩))
    all_goals first
      | (go_ret
         refine Same.mk' _ ?_
         unfold symB
         rw [loopB_stop hpos (by rw [← Hb.out]; simp [symOk, lowB]; omega)]; rfl)
      | skip
    go_loopw [3] (fun i wr => Cnt w s.size (fun k => 1 ≤ k ∧ loopB symOk s k = true) i wr) (fun i _ => s.size - (intOf i).toNat)
    case atStart => exact ⟨1, hpos, rfl, ⟨Nat.le_refl _, by rw [loopB_succ, ← Hb.out]; simp [loopB, symOk, smallB, lowB]; omega⟩, rfl⟩
    case round =>
      obtain ⟨k, hk, rfl, ⟨hk1, hok⟩, rfl⟩ := hrel
      have Hok := Lib.hid hok
      clear hok
      by_cases hlt : k < s.size
      · have Hbk := Lib.hid (byteZ_get hlt)
        have hk0 : k ≠ 0 := by omega
        go_wp2_with (first
          | (go_at_call 121; refine (l2Small_any _ _).mono ?_; rintro e w' ⟨rfl, rfl⟩))
        all_goals first
          | (go_ret
             refine Same.mk' _ ?_
             unfold symB
             rw [loopB_stop hlt (by rw [← Hbk.out]; simp_all [symOk] <;> omega)]
             rfl)
          | (go_roundw
             case rel => exact ⟨_, hlt, by go_num, ⟨by omega, loopB_next Hok.out (by rw [← Hbk.out]; simp_all [symOk] <;> omega)⟩, rfl⟩
             case measure => first | exact intOf_lt hlt | (simp [intOf]; omega))
      · obtain rfl : k = s.size := by omega
        go_wp2_with fail
        go_ret
        exact Same.mk' _ (by unfold symB; rw [Hok.out, hin, Hres.out]; rfl)
end Go.Proofs.Ytolhlpglgheldaa
set_option maxRecDepth 100000
namespace Go.Proofs.Ytolhlpglgheldaa
open Go.Shelf
def so_Join_ren : Go.Shelf.Ren := ⟨fun | 156 => 151 | 165 => 169 | 166 => 170 | 169 => 171 | 240 => 182 | 241 => 183 | 276 => 185 | 277 => 186 | n => n, fun | 31 => 161 | 9 => 9 | 3 => 3 | 4 => 4 | 0 => 0 | 20 => 20 | 72 => 173 | 76 => 177 | 70 => 171 | 37 => 116 | 75 => 176 | 127 => 184 | 164 => 186 | 5 => 5 | 80 => 130 | n => n, fun | n => n⟩
theorem so_Join : Go.Proofs.Lays.n156 Try.prog so_Join_ren := {
  mixed := by kernel_rfl,
  f156 := Try.func151.trans (congrArg some (by kernel_rfl)),
  f165 := Try.func169.trans (congrArg some (by kernel_rfl)),
  f166 := Try.func170.trans (congrArg some (by kernel_rfl)),
  f169 := Try.func171.trans (congrArg some (by kernel_rfl)),
  f240 := Try.func182.trans (congrArg some (by kernel_rfl)),
  f241 := Try.func183.trans (congrArg some (by kernel_rfl)),
  f276 := Try.func185.trans (congrArg some (by kernel_rfl)),
  f277 := Try.func186.trans (congrArg some (by kernel_rfl)),
  t0 := Try.underlying0,
  a0 := Try.isAgg0,
  z0 := Try.sizeOf0,
  v0 := Try.zeroValue0,
  t3 := Try.underlying3,
  a3 := Try.isAgg3,
  z3 := Try.sizeOf3,
  v3 := Try.zeroValue3,
  t4 := Try.underlying4,
  a4 := Try.isAgg4,
  z4 := Try.sizeOf4,
  v4 := Try.zeroValue4,
  t9 := Try.underlying9,
  a9 := Try.isAgg9,
  z9 := Try.sizeOf9,
  v9 := Try.zeroValue9,
  t20 := Try.underlying20,
  a20 := Try.isAgg20,
  z20 := Try.sizeOf20,
  v20 := Try.zeroValue20,
  t31 := Try.underlying161,
  a31 := Try.isAgg161,
  z31 := Try.sizeOf161,
  v31 := Try.zeroValue161,
  t37 := Try.underlying116,
  a37 := Try.isAgg116,
  z37 := Try.sizeOf116,
  v37 := Try.zeroValue116,
  t70 := Try.underlying171,
  a70 := Try.isAgg171,
  z70 := Try.sizeOf171,
  v70 := Try.zeroValue171,
  t72 := Try.underlying173,
  a72 := Try.isAgg173,
  z72 := Try.sizeOf173,
  v72 := Try.zeroValue173,
  t75 := Try.underlying176,
  a75 := Try.isAgg176,
  z75 := Try.sizeOf176,
  v75 := Try.zeroValue176,
  t76 := Try.underlying177,
  a76 := Try.isAgg177,
  z76 := Try.sizeOf177,
  v76 := Try.zeroValue177,
  t127 := Try.underlying184,
  a127 := Try.isAgg184,
  z127 := Try.sizeOf184,
  v127 := Try.zeroValue184,
  t164 := Try.underlying186,
  a164 := Try.isAgg186,
  z164 := Try.sizeOf186,
  v164 := Try.zeroValue186 }
end Go.Proofs.Ytolhlpglgheldaa
set_option maxRecDepth 100000
set_option linter.unusedSimpArgs false
set_option linter.unusedVariables false
namespace Go.Proofs.Ytolhlpglgheldaa
open Go.RowKit Go.Shelf
theorem so_JoinX : Builder.Extra Try.prog so_Join_ren := {
  sizeBuilder := by kernel_rfl,
  liesBuilder := by kernel_rfl,
  t5 := Try.underlying5,
  a5 := Try.isAgg5,
  z5 := Try.sizeOf5,
  v5 := Try.zeroValue5,
  infoByte := by kernel_rfl,
  cellsByte := by kernel_rfl,
  sizeByte := by kernel_rfl,
  neB5 := by decide }
def strD : List D → ByteArray
  | .str s :: _ => s
  | _ => ⟨#[]⟩
def joinB (xs : List ByteArray) (sep : ByteArray) : ByteArray := ⟨(Lib.join (xs.map (·.data.toList)) sep.data.toList).toArray⟩
noncomputable def joinX : List SV → Option SV
  | [.arr es, .str sep] => bif dec ((∀ e ∈ es, ∃ s, e = [D.str s]) ∧ es.length ≤ 1099511627776 ∧ (joinB (es.map strD) sep).size ≤ 1099511627776) then some (.str (joinB (es.map strD) sep)) else none
  | _ => none
theorem joinX_told {xs : List SV} {r : SV} (h : joinX xs = some r) : Fun Try.prog 151 xs [] r [] := by
  unfold joinX at h
  split at h
  · rename_i es sep
    obtain ⟨h1, h2⟩ := bif_some h
    obtain ⟨k1, k2, k3⟩ := dec_iff.1 h1
    obtain rfl := Option.some.inj h2
    refine Fun.of_ret (rv := .string (joinB (es.map strD) sep)) (fun w I V => by simp only [RepV, true_and]; omega) fun w I V vs h => ?_
    obtain ⟨v, r, rfl, h3, h⟩ := args_cons h
    obtain ⟨v2, r, rfl, h4, h⟩ := args_cons h
    obtain rfl := args0 h
    obtain ⟨rfl, h5⟩ := rep_str h4
    simp only [RepV] at h3
    have hlen : (Lib.join ((es.map strD).map (·.data.toList)) sep.data.toList).length ≤ 140737488355328 := by
      have e : (joinB (es.map strD) sep).size = (Lib.join ((es.map strD).map (·.data.toList)) sep.data.toList).length := by
        show (Lib.join ((es.map strD).map (·.data.toList)) sep.data.toList).toArray.size = _
        simp
      omega
    rcases Nat.eq_zero_or_pos es.length with h0 | h0
    · have he : es = [] := List.eq_nil_of_length_eq_zero h0
      subst he
      obtain ⟨a, c, rfl, _⟩ := h3.slice_form
      have hcon := Any.strings_Join_none so_Join so_JoinX a c sep w
      change Calls Try.prog 151 _ _ _ at hcon
      refine hcon.mono ?_
      rintro e w' ⟨rfl, rfl⟩
      exact ⟨rfl, Below.refl _ _⟩
    · cases h3 with
      | arr S sz es a cap f Sub g1 g2 g3 g4 g5 g6 g7 =>
        rcases g3 with g3 | ⟨b, off, rfl, hS, hlt, hc, _⟩
        · omega
        have hsz : sz = 1 := by
          obtain ⟨s, e⟩ := k1 es[0] (List.getElem_mem h0)
          rw [← g4 0 h0, e]; rfl
        subst hsz
        have hcells : ∀ (j : Nat) x, (es.map strD)[j]? = some x → w.cell? ⟨b, off + j, none⟩ = some (.string x) := fun j x hx => by
          have hj : j < es.length := by
            have := (List.getElem?_eq_some_iff.1 hx).1
            simpa using this
          obtain ⟨s, e⟩ := k1 es[j] (List.getElem_mem hj)
          rw [List.getElem?_map, List.getElem?_eq_getElem hj, e] at hx
          obtain rfl := Option.some.inj hx
          have hd := g7 j 0 hj (by rw [g4 j hj]; omega)
          have hcell := hc j 0 hj (by omega)
          simp only [e, List.getElem_cons_zero] at hd
          rw [Nat.mul_one, Nat.add_zero] at hcell
          rw [hcell]
          cases hv : f j 0 <;> rw [hv] at hd <;> cases hd
          rfl
        have hcon := Any.strings_Join so_Join so_JoinX b off cap (es.map strD) sep w hcells hlt (by simp; omega) (by simpa using g1) hlen
        change Calls Try.prog 151 _ _ _ at hcon
        rw [List.length_map] at hcon
        exact hcon
  · cases h
end Go.Proofs.Ytolhlpglgheldaa
set_option maxRecDepth 100000
namespace Go.Proofs.Ytolhlpglgheldaa
open Go.Shelf
def so_CloneI_ren : Go.Shelf.Ren := ⟨fun | 15 => 93 | n => n, fun | 22 => 37 | 3 => 3 | 4 => 4 | n => n, fun | n => n⟩
theorem so_CloneI : Go.Proofs.Lays2.n15 Try.prog so_CloneI_ren := {
  mixed := by kernel_rfl,
  f15 := Try.func93.trans (congrArg some (by kernel_rfl)),
  t3 := Try.underlying3,
  a3 := Try.isAgg3,
  z3 := Try.sizeOf3,
  v3 := Try.zeroValue3,
  t4 := Try.underlying4,
  a4 := Try.isAgg4,
  z4 := Try.sizeOf4,
  v4 := Try.zeroValue4,
  t22 := Try.underlying37,
  a22 := Try.isAgg37,
  z22 := Try.sizeOf37,
  v22 := Try.zeroValue37,
  i3 := by kernel_rfl }
end Go.Proofs.Ytolhlpglgheldaa
set_option maxRecDepth 100000
set_option linter.unusedSimpArgs false
set_option linter.unusedVariables false
namespace Go.Proofs.Ytolhlpglgheldaa
open Go.RowKit
theorem newRow_post {w w' : World} {I : Nat → Prop} {V : Nat → Option Value} {B : Nat → Nat → Prop} (hwf : Wf w I V B (geto [])) (hbel : Below w.heap.size w w') {v : Value} {t : TypeId} {os : List OT} {vals : List Value} (hl : vals.length = os.length)
    (hown : w'.ownsRow w.heap.size t 1 v os.length vals) (hv : ∀ i (h : i < os.length), ORep w' I (fun _ => False) os[i] (vals.getD i undef)) :
    ∃ V' B', RepV w' I V' (.ref 0) v ∧ FunPost w I V B [] [.row t 1 (os.map fun o => [o])] w' I V' B' := by
  have hV0 : V 0 = none := hwf.fr 0 rfl
  have hn := hbel.size
  have gS : ∀ (e : List (List OT)) (g : Nat), geto [Ob.row t 1 e] (g + 1) = .free := fun _ _ => rfl
  obtain ⟨hx, hform⟩ := hown
  let B' : Nat → Nat → Prop := fun g b => g = 0 ∧ w.heap.size ≤ b ∧ b < w'.heap.size ∧ ∃ o n c, v = .slice (some ⟨b, o, none⟩) n c
  have hform2 : ∃ a n c, v = .slice a n c := by
    rcases hform with ⟨rfl, _⟩ | ⟨g, cap, cur, rfl, _⟩
    · exact ⟨_, _, _, rfl⟩
    · exact ⟨_, _, _, rfl⟩
  have hrow : RowR w' I (B' 0) t 1 (os.map fun o => [o]) v := by
    rcases hform with ⟨rfl, h0⟩ | ⟨g, cap, cur, rfl, hg, hb, h1, h2, h3, h4⟩
    · left
      have : os = [] := List.eq_nil_of_length_eq_zero h0
      subst this
      exact ⟨rfl, rfl⟩
    · right
      have hlt := (Array.getElem?_eq_some_iff.1 hb).1
      refine ⟨g, cap, cur, fun _ _ _ => False, by rw [List.length_map], ⟨rfl, hg, hlt, _, _, _, rfl⟩, hb, by rw [List.length_map]; exact h1, by unfold maxLen at h2; omega, h3, fun i hi => by simp, fun _ _ _ h => h.elim, fun _ _ _ _ _ h => h.elim, fun i j hi hj => ?_⟩
      have hi' : i < os.length := by simpa using hi
      have hj0 : j = 0 := by simpa using hj
      subst hj0
      have e : cur.getD (i * 1 + 0) undef = vals.getD i undef := by
        have hc : i < cur.size := by omega
        rw [← h4, Nat.mul_one, Nat.add_zero, Array.getD_eq_getD_getElem?, List.getD_eq_getElem?_getD, List.getElem?_take]
        simp only [Nat.mul_one, hi', if_true, Array.getElem?_toList]
      rw [e]
      have := hv i hi'
      simpa using this
  refine ⟨fun g => if g = 0 then some v else V g, B', ?_, ?_⟩
  · simp only [RepV]
    exact ⟨by simp, by obtain ⟨a, n, c, e⟩ := hform2; rw [e]; rfl⟩
  · refine ⟨⟨hbel.os, hbel.tape, hbel.output, hn, fun x hx _ => hbel.block x hx⟩, fun x hx => hx, fun x hx => .inl hx, fun g u hu => ?_, ⟨fun x hx => Nat.lt_of_lt_of_le (hwf.ilt x hx) hn, fun g hl => ?_, fun g b hl hb => hb.2.2.1, fun g b hl hb hI => ?_, fun g g' b hl hl' hb hb' => ?_, fun g hg => ?_, hwf.gl.keep ⟨hn, fun x _ hlt => hbel.block x hlt⟩ fun _ h => h⟩, fun g b hl hb => .inr hb.2.1⟩
    · by_cases h0 : g = 0
      · subst h0; rw [hV0] at hu; cases hu
      · simp only [if_neg h0]; exact hu
    · cases g with
      | zero => exact ⟨v, by simp, hrow⟩
      | succ g => rw [gS] at hl; exact hl.elim
    · have := hwf.ilt b hI
      have := hb.2.1
      omega
    · rw [hb.1, hb'.1]
    · cases g with
      | zero => cases hg
      | succ g => simp only [Nat.add_eq_zero_iff, Nat.succ_ne_self, and_false, if_false]; exact hwf.fr (g + 1) rfl
theorem flat_cells {w : World} {I : Nat → Prop} {es : List (List D)} {v : Value} (h : DRep false w I (.arr es) v) (hsz : ∀ e ∈ es, e.length = 1) :
    (es = [] ∧ ∃ a c, v = .slice a 0 c) ∨ ∃ b off cap, v = .slice (some ⟨b, off, none⟩) es.length cap ∧ ∀ i (hi : i < es.length), ∃ u, w.cell? ⟨b, off + i, none⟩ = some u ∧ ∃ S, DRep false w S (es[i].headD (.int 0)) u := by
  cases h with
  | arr S sz es a cap f Sub h1 h2 h3 h4 h5 h6 h7 =>
    rcases h3 with h3 | ⟨b, off, rfl, hS, hb, hc, _⟩
    · left
      have he : es = [] := List.eq_nil_of_length_eq_zero h3
      subst he
      exact ⟨rfl, _, _, rfl⟩
    · rcases Nat.eq_zero_or_pos es.length with h0 | h0
      · left
        have he : es = [] := List.eq_nil_of_length_eq_zero h0
        subst he
        exact ⟨rfl, _, _, rfl⟩
      · right
        have hs1 : sz = 1 := by rw [← h4 0 h0]; exact hsz _ (List.getElem_mem h0)
        subst hs1
        refine ⟨b, off, cap, rfl, fun i hi => ⟨f i 0, by have := hc i 0 hi (by omega); simpa using this, Sub i 0, ?_⟩⟩
        have hl := hsz _ (List.getElem_mem hi)
        have := h7 i 0 hi (by omega)
        have key : ∀ (l : List D) (h : 0 < l.length), l.headD (.int 0) = l[0] := fun l h => by
          cases l with
          | nil => cases h
          | cons d r => rfl
        have e := key es[i] (by omega)
        rw [e]
        exact this
def unI : List D → Int
  | D.int s :: _ => s
  | _ => 0
noncomputable def cloneI (xs : List SV) (ob : List Ob) : Option (SV × List Ob) :=
  match xs, ob with
  | [.arr es], [] => bif dec ((∀ e ∈ es, ∃ s, e = [D.int s]) ∧ es.length ≤ 1048576) then some (.ref 0, [.row 3 1 (es.map fun e => [OT.int (unI e)])]) else none
  | _, _ => none
set_option maxHeartbeats 1000000 in
theorem cloneI_told {xs : List SV} {ob : List Ob} {r : SV} {ob' : List Ob} (h : cloneI xs ob = some (r, ob')) : Fun Try.prog 93 xs ob r ob' := by
  unfold cloneI at h
  split at h
  · rename_i es
    obtain ⟨h1, h2⟩ := bif_some h
    obtain ⟨k1, k2⟩ := dec_iff.1 h1
    simp only [Option.some.injEq, Prod.mk.injEq] at h2
    obtain ⟨rfl, rfl⟩ := h2
    intro w I V B vs hwf hvs
    obtain ⟨v, q, rfl, hv, hvs⟩ := args_cons hvs
    obtain rfl := args0 hvs
    simp only [RepV] at hv
    have hsz : ∀ e ∈ es, e.length = 1 := fun e he => by obtain ⟨s, rfl⟩ := k1 e he; rfl
    have hmap : (es.map fun e => [OT.int (unI e)]) = ((es.map fun e => OT.int (unI e)).map fun o => [o]) := by rw [List.map_map]; rfl
    rcases flat_cells hv hsz with ⟨rfl, a, c, rfl⟩ | ⟨b, off, cap, rfl, hcell⟩
    · cases a with
      | none =>
        have hcon := Any.slices_Clone_int_nil so_CloneI 0 c w
        change Calls Try.prog 93 _ _ _ at hcon
        refine hcon.mono ?_
        rintro e w' ⟨rfl, rfl⟩
        obtain ⟨V', B', h3, h4⟩ := newRow_post (t := 3) (os := []) (vals := []) hwf (Below.refl _ _) rfl ⟨rfl, .inl ⟨rfl, rfl⟩⟩ (fun i h => absurd h (by simp))
        exact ⟨_, I, V', B', rfl, h3, h4⟩
      | some a =>
        have hcon := Any.slices_Clone_int_zero so_CloneI a c w
        change Calls Try.prog 93 _ _ _ at hcon
        refine hcon.mono ?_
        rintro e w' ⟨v', rfl, hown, _, hbel⟩
        obtain ⟨V', B', h3, h4⟩ := newRow_post (t := 3) (os := []) (vals := []) hwf hbel rfl hown (fun i h => absurd h (by simp))
        exact ⟨_, I, V', B', rfl, h3, h4⟩
    · obtain ⟨zs, hzs⟩ : ∃ zs, zs = es.map unI := ⟨_, rfl⟩
      have hzl : zs.length = es.length := by rw [hzs, List.length_map]
      have hcz : ∀ j (hj : j < es.length), w.cell? ⟨b, off + j, none⟩ = some ((Value.int .i64) (unI es[j])) := fun j hj => by
        obtain ⟨u, hu, S, hd⟩ := hcell j hj
        obtain ⟨s, he⟩ := k1 es[j] (List.getElem_mem hj)
        rw [he] at hd ⊢
        simp only [List.headD_cons] at hd
        cases hd
        exact hu
      have hcon := Any.slices_Clone_int so_CloneI b off es.length cap zs w (by omega) (by omega) (fun j hj => by
        have hj' : j < es.length := by omega
        rw [hcz j hj']
        rw [List.getD_eq_getElem?_getD, List.getElem?_eq_getElem hj]
        simp [hzs])
      change Calls Try.prog 93 _ _ _ at hcon
      refine hcon.mono ?_
      rintro e w' ⟨v', rfl, hown, _, hbel⟩
      have ht : zs.take es.length = zs := List.take_of_length_le (by omega)
      rw [ht] at hown
      have hown2 : w'.ownsRow w.heap.size 3 1 v' (es.map fun e => OT.int (unI e)).length (zs.map (Value.int .i64)) := by rw [List.length_map]; exact hown
      obtain ⟨V', B', h3, h4⟩ := newRow_post (t := 3) (os := es.map fun e => OT.int (unI e)) (vals := zs.map (Value.int .i64)) hwf hbel (by simp [hzl]) hown2 (fun i hi => by
        have hi' : i < es.length := by simpa using hi
        have e : (zs.map (Value.int .i64)).getD i undef = (Value.int .i64) (unI es[i]) := by
          rw [List.getD_eq_getElem?_getD, List.getElem?_map, List.getElem?_eq_getElem (by omega)]
          simp [hzs]
        rw [e, List.getElem_map]
        exact .int _ _)
      rw [hmap]
      exact ⟨_, I, V', B', rfl, h3, h4⟩
  · cases h
def lookM : List (Nat × FM) → Nat → FM
  | [], _ => ⟨[], .asis, none, false⟩
  | (f, m) :: r, g => bif f == g then m else lookM r g
theorem lookM_ext {l : List (Nat × FM)} {f : Nat} {g : List SV → List Ob → Option (SV × List Ob)} (h : (lookM l f).ext = some g) : ∃ m, (f, m) ∈ l ∧ m.ext = some g := by
  induction l with
  | nil => cases h
  | cons x r ih =>
    obtain ⟨f', m⟩ := x
    simp only [lookM] at h
    cases e : f' == f with
    | true =>
      rw [e] at h
      obtain rfl : f' = f := by simpa using e
      exact ⟨m, by simp, h⟩
    | false =>
      rw [e] at h
      obtain ⟨m', h1, h2⟩ := ih h
      exact ⟨m', by simp [h1], h2⟩
noncomputable def markX : List SV → Option SV
  | [.int .i64 k] => bif dec (1 ≤ k) && dec (k ≤ 1099511627776) then some (.str (markT k)) else none
  | _ => none
theorem markX_told {xs : List SV} {r : SV} (h : markX xs = some r) : Fun Try.prog 41 xs [] r [] := by
  unfold markX at h
  split at h
  · rename_i k
    obtain ⟨h1, h2⟩ := bif_some h
    rw [Bool.and_eq_true, dec_iff, dec_iff] at h1
    obtain rfl := Option.some.inj h2
    obtain ⟨n, rfl⟩ : ∃ n : Nat, k = n := ⟨k.toNat, by omega⟩
    refine Fun.of_ret (rv := .string (markT n)) (fun w I V => by simp only [RepV, true_and]; exact markT_size (by omega) (by omega)) fun w I V vs h => ?_
    obtain ⟨v, r, rfl, h3, h⟩ := args_cons h
    obtain rfl := args0 h
    obtain rfl := rep_int h3
    exact markText_any n w (by omega) (by omega)
  · cases h
def varX : List SV → Option SV
  | [.str s] => some (.bool (varB s))
  | _ => none
theorem varX_told {xs : List SV} {r : SV} (h : varX xs = some r) : Fun Try.prog 147 xs [] r [] := by
  unfold varX at h
  split at h
  · rename_i s
    obtain rfl := Option.some.inj h
    refine Fun.of_same (rv := .bool (varB s)) (fun w I V => by simp only [RepV]) fun w I V vs h => ?_
    obtain ⟨v, r, rfl, h3, h⟩ := args_cons h
    obtain rfl := args0 h
    obtain ⟨rfl, h4⟩ := rep_str h3
    exact isVariable_any s w h4
  · cases h
def varY : List SV → Option SV
  | [.str s] => some (.bool (varB s))
  | _ => none
theorem varY_told {xs : List SV} {r : SV} (h : varY xs = some r) : Fun Try.prog 67 xs [] r [] := by
  unfold varY at h
  split at h
  · rename_i s
    obtain rfl := Option.some.inj h
    refine Fun.of_same (rv := .bool (varB s)) (fun w I V => by simp only [RepV]) fun w I V vs h => ?_
    obtain ⟨v, r, rfl, h3, h⟩ := args_cons h
    obtain rfl := args0 h
    obtain ⟨rfl, h4⟩ := rep_str h3
    exact l2Var_any s w h4
  · cases h
def symX : List SV → Option SV
  | [.str s] => some (.bool (symB s))
  | _ => none
theorem symX_told {xs : List SV} {r : SV} (h : symX xs = some r) : Fun Try.prog 134 xs [] r [] := by
  unfold symX at h
  split at h
  · rename_i s
    obtain rfl := Option.some.inj h
    refine Fun.of_ret (rv := .bool (symB s)) (fun w I V => by simp only [RepV]) fun w I V vs h => ?_
    obtain ⟨v, r, rfl, h3, h⟩ := args_cons h
    obtain rfl := args0 h
    obtain ⟨rfl, h4⟩ := rep_str h3
    exact isSymbol_any s w h4
  · cases h
def symY : List SV → Option SV
  | [.str s] => some (.bool (symB s))
  | _ => none
theorem symY_told {xs : List SV} {r : SV} (h : symY xs = some r) : Fun Try.prog 118 xs [] r [] := by
  unfold symY at h
  split at h
  · rename_i s
    obtain rfl := Option.some.inj h
    refine Fun.of_same (rv := .bool (symB s)) (fun w I V => by simp only [RepV]) fun w I V vs h => ?_
    obtain ⟨v, r, rfl, h3, h⟩ := args_cons h
    obtain rfl := args0 h
    obtain ⟨rfl, h4⟩ := rep_str h3
    exact l2Symbol_any s w h4
  · cases h
noncomputable def modes : FuncId → FM := lookM [(41, ⟨[], .asis, some (valX markX), false⟩), (147, ⟨[], .asis, some (valX varX), false⟩), (67, ⟨[], .asis, some (valX varY), false⟩), (134, ⟨[], .asis, some (valX symX), false⟩), (118, ⟨[], .asis, some (valX symY), false⟩), (79, ⟨[true], .asis, none, true⟩), (60, ⟨[true], .asis, none, false⟩), (61, ⟨[true], .asis, none, true⟩), (28, ⟨[true], .asis, none, false⟩), (40, ⟨[true], .asis, none, true⟩), (12, ⟨[true], .asis, none, true⟩), (13, ⟨[true], .asis, none, true⟩), (22, ⟨[true], .asis, none, false⟩), (23, ⟨[true], .asis, none, true⟩), (144, ⟨[], .own [none, some (52, 2)], none, false⟩), (107, ⟨[], .own [none, some (52, 2)], none, false⟩), (138, ⟨[], .frz, none, false⟩), (151, ⟨[], .asis, some (valX joinX), false⟩), (104, ⟨[false, false, true], .own [none, none, some (52, 2), none, some (55, 5)], none, false⟩), (105, ⟨[true], .own [none, none, some (52, 2), none, some (55, 5)], none, false⟩), (108, ⟨[true], .own [none, none, some (52, 2), none, some (55, 5)], none, false⟩), (143, ⟨[false, true, true], .own [none, none, some (52, 2), none, some (55, 5)], none, false⟩), (93, ⟨[], .asis, some cloneI, false⟩), (112, ⟨[], .frz, none, false⟩), (51, ⟨[], .frz, none, false⟩), (94, ⟨[], .frz, none, false⟩), (95, ⟨[], .frz, none, false⟩), (96, ⟨[], .frz, none, false⟩), (97, ⟨[], .frz, none, false⟩), (25, ⟨[], .frz, none, false⟩), (54, ⟨[], .own [none, none, some (52, 2), none, some (55, 5)], none, false⟩), (106, ⟨[], .own [none, none, some (52, 2), none, some (55, 5)], none, false⟩), (26, ⟨[], .own [none, none, some (52, 2), none, some (55, 5), none], none, false⟩), (50, ⟨[], .tr [], none, false⟩), (19, ⟨[], .tr [none, some (80, 4), none], none, false⟩), (16, ⟨[], .frz, none, false⟩)]
theorem modes_told : ExtTold Try.prog modes := by
  intro f g xs ob r ob' hg hx
  obtain ⟨m, h1, h2⟩ := lookM_ext hg
  rcases List.mem_cons.1 h1 with h1 | h1
  · obtain ⟨rfl, rfl⟩ := Prod.mk.inj h1
    obtain rfl := Option.some.inj h2
    exact valX_told markX_told hx
  rcases List.mem_cons.1 h1 with h1 | h1
  · obtain ⟨rfl, rfl⟩ := Prod.mk.inj h1
    obtain rfl := Option.some.inj h2
    exact valX_told varX_told hx
  rcases List.mem_cons.1 h1 with h1 | h1
  · obtain ⟨rfl, rfl⟩ := Prod.mk.inj h1
    obtain rfl := Option.some.inj h2
    exact valX_told varY_told hx
  rcases List.mem_cons.1 h1 with h1 | h1
  · obtain ⟨rfl, rfl⟩ := Prod.mk.inj h1
    obtain rfl := Option.some.inj h2
    exact valX_told symX_told hx
  rcases List.mem_cons.1 h1 with h1 | h1
  · obtain ⟨rfl, rfl⟩ := Prod.mk.inj h1
    obtain rfl := Option.some.inj h2
    exact valX_told symY_told hx
  rcases List.mem_cons.1 h1 with h1 | h1
  · obtain ⟨rfl, rfl⟩ := Prod.mk.inj h1
    cases h2
  rcases List.mem_cons.1 h1 with h1 | h1
  · obtain ⟨rfl, rfl⟩ := Prod.mk.inj h1
    cases h2
  rcases List.mem_cons.1 h1 with h1 | h1
  · obtain ⟨rfl, rfl⟩ := Prod.mk.inj h1
    cases h2
  rcases List.mem_cons.1 h1 with h1 | h1
  · obtain ⟨rfl, rfl⟩ := Prod.mk.inj h1
    cases h2
  rcases List.mem_cons.1 h1 with h1 | h1
  · obtain ⟨rfl, rfl⟩ := Prod.mk.inj h1
    cases h2
  rcases List.mem_cons.1 h1 with h1 | h1
  · obtain ⟨rfl, rfl⟩ := Prod.mk.inj h1
    cases h2
  rcases List.mem_cons.1 h1 with h1 | h1
  · obtain ⟨rfl, rfl⟩ := Prod.mk.inj h1
    cases h2
  rcases List.mem_cons.1 h1 with h1 | h1
  · obtain ⟨rfl, rfl⟩ := Prod.mk.inj h1
    cases h2
  rcases List.mem_cons.1 h1 with h1 | h1
  · obtain ⟨rfl, rfl⟩ := Prod.mk.inj h1
    cases h2
  rcases List.mem_cons.1 h1 with h1 | h1
  · obtain ⟨rfl, rfl⟩ := Prod.mk.inj h1
    cases h2
  rcases List.mem_cons.1 h1 with h1 | h1
  · obtain ⟨rfl, rfl⟩ := Prod.mk.inj h1
    cases h2
  rcases List.mem_cons.1 h1 with h1 | h1
  · obtain ⟨rfl, rfl⟩ := Prod.mk.inj h1
    cases h2
  rcases List.mem_cons.1 h1 with h1 | h1
  · obtain ⟨rfl, rfl⟩ := Prod.mk.inj h1
    obtain rfl := Option.some.inj h2
    exact valX_told joinX_told hx
  rcases List.mem_cons.1 h1 with h1 | h1
  · obtain ⟨rfl, rfl⟩ := Prod.mk.inj h1
    cases h2
  rcases List.mem_cons.1 h1 with h1 | h1
  · obtain ⟨rfl, rfl⟩ := Prod.mk.inj h1
    cases h2
  rcases List.mem_cons.1 h1 with h1 | h1
  · obtain ⟨rfl, rfl⟩ := Prod.mk.inj h1
    cases h2
  rcases List.mem_cons.1 h1 with h1 | h1
  · obtain ⟨rfl, rfl⟩ := Prod.mk.inj h1
    cases h2
  rcases List.mem_cons.1 h1 with h1 | h1
  · obtain ⟨rfl, rfl⟩ := Prod.mk.inj h1
    obtain rfl := Option.some.inj h2
    exact cloneI_told hx
  rcases List.mem_cons.1 h1 with h1 | h1
  · obtain ⟨rfl, rfl⟩ := Prod.mk.inj h1
    cases h2
  rcases List.mem_cons.1 h1 with h1 | h1
  · obtain ⟨rfl, rfl⟩ := Prod.mk.inj h1
    cases h2
  rcases List.mem_cons.1 h1 with h1 | h1
  · obtain ⟨rfl, rfl⟩ := Prod.mk.inj h1
    cases h2
  rcases List.mem_cons.1 h1 with h1 | h1
  · obtain ⟨rfl, rfl⟩ := Prod.mk.inj h1
    cases h2
  rcases List.mem_cons.1 h1 with h1 | h1
  · obtain ⟨rfl, rfl⟩ := Prod.mk.inj h1
    cases h2
  rcases List.mem_cons.1 h1 with h1 | h1
  · obtain ⟨rfl, rfl⟩ := Prod.mk.inj h1
    cases h2
  rcases List.mem_cons.1 h1 with h1 | h1
  · obtain ⟨rfl, rfl⟩ := Prod.mk.inj h1
    cases h2
  rcases List.mem_cons.1 h1 with h1 | h1
  · obtain ⟨rfl, rfl⟩ := Prod.mk.inj h1
    cases h2
  rcases List.mem_cons.1 h1 with h1 | h1
  · obtain ⟨rfl, rfl⟩ := Prod.mk.inj h1
    cases h2
  rcases List.mem_cons.1 h1 with h1 | h1
  · obtain ⟨rfl, rfl⟩ := Prod.mk.inj h1
    cases h2
  rcases List.mem_cons.1 h1 with h1 | h1
  · obtain ⟨rfl, rfl⟩ := Prod.mk.inj h1
    cases h2
  rcases List.mem_cons.1 h1 with h1 | h1
  · obtain ⟨rfl, rfl⟩ := Prod.mk.inj h1
    cases h2
  rcases List.mem_cons.1 h1 with h1 | h1
  · obtain ⟨rfl, rfl⟩ := Prod.mk.inj h1
    cases h2
  cases h1
noncomputable def E : FEnv := ev Try.prog modes
noncomputable def calls : CallF := fCall modes E
theorem E_told {f : FuncId} {xs : List SV} {ob : List Ob} {r : SV} {ob' : List Ob} (h : E f xs ob = some (r, ob')) : Fun Try.prog f xs ob r ob' := ev_told mixed_ modes_told f xs ob r ob' h
noncomputable def run (n0 : Nat) : SC → St → Option (X × St) := fr Try.prog calls (loopWA n0)
def go (n0 : Nat) (sc : SC) (st : St) (K : X → St → Prop) : Prop := ∃ x st', run n0 sc st = some (x, st') ∧ K x st'
def seqk (n0 : Nat) (b : SC) (K : X → St → Prop) : X → St → Prop
  | .normal, st => go n0 b st K
  | .exit i, st => K (.exit i) st
  | .ret, st => K .ret st
def blk (id : Nat) (K : X → St → Prop) : X → St → Prop
  | .normal, st => K .normal st
  | .exit i, st => if i = id then K .normal st else K (.exit i) st
  | .ret, st => K .ret st
def someP (r : Option St) (k : X → St → Prop) : Prop :=
  match r with
  | some st => k .normal st
  | none => False
def drawP (anc : List (List Nat)) (r : Option (List Ent × St)) (k : X → St → Prop) : Prop :=
  match r with
  | some (es, st) => obB anc [] (locs es) 0 = true ∧ k .normal st
  | none => False
def boolP (v : SV) (a b : Unit → Prop) : Prop :=
  match v with
  | .bool true => a ()
  | .bool false => b ()
  | _ => False
noncomputable def regF (ops : List SOper) (st : St) : Option St := fSeq Try.prog calls ops st
noncomputable def drgF (ops : List SOper) (acc : List Ent) (st : St) : Option (List Ent × St) := fOps Try.prog calls ops acc st
section
variable {n0 : Nat} {st : St} {K : X → St → Prop}
theorem go_skip : go n0 .skip st K = K .normal st := by
  refine propext ⟨fun ⟨x, st', h, k⟩ => ?_, fun k => ⟨_, _, rfl, k⟩⟩
  obtain ⟨rfl, rfl⟩ : X.normal = x ∧ st = st' := by simpa [run, fr] using h
  exact k
theorem go_exit {i : Nat} : go n0 (.exit i) st K = K (.exit i) st := by
  refine propext ⟨fun ⟨x, st', h, k⟩ => ?_, fun k => ⟨_, _, rfl, k⟩⟩
  obtain ⟨rfl, rfl⟩ : X.exit i = x ∧ st = st' := by simpa [run, fr] using h
  exact k
theorem go_ret : go n0 .ret st K = K .ret st := by
  refine propext ⟨fun ⟨x, st', h, k⟩ => ?_, fun k => ⟨_, _, rfl, k⟩⟩
  obtain ⟨rfl, rfl⟩ : X.ret = x ∧ st = st' := by simpa [run, fr] using h
  exact k
theorem go_reg {ops : List SOper} : go n0 (.reg ops) st K = someP (regF ops st) K := by
  unfold someP regF
  refine propext ⟨fun ⟨x, st', h, k⟩ => ?_, fun k => ?_⟩
  · simp only [run, fr] at h
    split at h
    · rename_i s hs
      simp only [Option.some.injEq, Prod.mk.injEq] at h
      obtain ⟨rfl, rfl⟩ := h
      first | exact k | (simp only [hs]; exact k)
    · cases h
  · split at k
    · rename_i s hs
      exact ⟨.normal, s, by simp only [run, fr, hs], k⟩
    · exact k.elim
theorem go_dreg {anc : List (List Nat)} {ops : List SOper} : go n0 (.dreg anc ops) st K = drawP anc (drgF ops [] st) K := by
  unfold drawP drgF
  refine propext ⟨fun ⟨x, st', h, k⟩ => ?_, fun k => ?_⟩
  · simp only [run, fr] at h
    split at h
    · rename_i es s hs
      obtain ⟨h1, h2⟩ := bif_some h
      simp only [Option.some.injEq, Prod.mk.injEq] at h2
      obtain ⟨rfl, rfl⟩ := h2
      first | exact ⟨h1, k⟩ | (simp only [hs]; exact ⟨h1, k⟩)
    · cases h
  · split at k
    · rename_i es s hs
      exact ⟨.normal, s, by simp only [run, fr, hs, k.1, cond_true], k.2⟩
    · exact k.elim
theorem go_seq {a b : SC} : go n0 (.seq a b) st K = go n0 a st (seqk n0 b K) := by
  refine propext ⟨fun ⟨x, st', h, k⟩ => ?_, fun ⟨x, st', h, k⟩ => ?_⟩
  · simp only [run, fr, thenF] at h
    split at h
    · rename_i s hs
      exact ⟨.normal, s, hs, x, st', h, k⟩
    · rename_i i s hs
      simp only [Option.some.injEq, Prod.mk.injEq] at h
      obtain ⟨rfl, rfl⟩ := h
      exact ⟨_, _, hs, k⟩
    · rename_i s hs
      simp only [Option.some.injEq, Prod.mk.injEq] at h
      obtain ⟨rfl, rfl⟩ := h
      exact ⟨_, _, hs, k⟩
    · cases h
  · simp only [run] at h
    cases x with
    | normal =>
      obtain ⟨x2, st2, h2, k2⟩ := k
      exact ⟨x2, st2, by simp only [run, fr, thenF, h]; exact h2, k2⟩
    | exit i => exact ⟨_, st', by simp only [run, fr, thenF, h], k⟩
    | ret => exact ⟨_, st', by simp only [run, fr, thenF, h], k⟩
theorem go_block {id : Nat} {b : SC} : go n0 (.block id b) st K = go n0 b st (blk id K) := by
  refine propext ⟨fun ⟨x, st', h, k⟩ => ?_, fun ⟨x, st', h, k⟩ => ?_⟩
  · simp only [run, fr, blockF] at h
    split at h
    · rename_i s hs
      simp only [Option.some.injEq, Prod.mk.injEq] at h
      obtain ⟨rfl, rfl⟩ := h
      exact ⟨.normal, s, hs, k⟩
    · rename_i i s hs
      refine ⟨.exit i, s, hs, ?_⟩
      simp only [blk]
      by_cases hi : i = id
      · simp only [if_pos hi, Option.some.injEq, Prod.mk.injEq] at h ⊢
        obtain ⟨rfl, rfl⟩ := h
        exact k
      · simp only [if_neg hi, Option.some.injEq, Prod.mk.injEq] at h ⊢
        obtain ⟨rfl, rfl⟩ := h
        exact k
    · rename_i s hs
      simp only [Option.some.injEq, Prod.mk.injEq] at h
      obtain ⟨rfl, rfl⟩ := h
      exact ⟨_, s, hs, k⟩
    · cases h
  · simp only [run] at h
    cases x with
    | normal => exact ⟨_, st', by simp only [run, fr, blockF, h], k⟩
    | exit i =>
      simp only [blk] at k
      by_cases hi : i = id
      · simp only [if_pos hi] at k
        exact ⟨.normal, st', by simp only [run, fr, blockF, h, if_pos hi], k⟩
      · simp only [if_neg hi] at k
        exact ⟨.exit i, st', by simp only [run, fr, blockF, h, if_neg hi], k⟩
    | ret => exact ⟨_, st', by simp only [run, fr, blockF, h], k⟩
theorem go_cond {q : SX} {a b : SC} : go n0 (.cond q a b) st K = boolP (getX (gets st.sl) q) (fun _ => go n0 a st K) (fun _ => go n0 b st K) := by
  unfold boolP
  refine propext ⟨fun ⟨x, st', h, k⟩ => ?_, fun k => ?_⟩
  · simp only [run, fr] at h
    split at h
    · rename_i t ht
      simp only [ht]
      cases t with
      | true => exact ⟨x, st', h, k⟩
      | false => exact ⟨x, st', h, k⟩
    · cases h
  · split at k
    · rename_i ht
      obtain ⟨x, st', h, k⟩ := k
      exact ⟨x, st', by simp only [run, fr, ht, cond_true]; exact h, k⟩
    · rename_i ht
      obtain ⟨x, st', h, k⟩ := k
      exact ⟨x, st', by simp only [run, fr, ht, cond_false]; exact h, k⟩
    · exact k.elim
theorem boolP_t {a b : Unit → Prop} : boolP (.bool true) a b = a () := rfl
theorem boolP_f {a b : Unit → Prop} : boolP (.bool false) a b = b () := rfl
theorem boolP_n {t : Bool} {a b : Unit → Prop} : boolP (.bool (!t)) a b = boolP (.bool t) b a := by cases t <;> rfl
theorem go_condT {q : SX} {a b : SC} (h : getX (gets st.sl) q = .bool true) (k : go n0 a st K) : go n0 (.cond q a b) st K := by rw [go_cond, h]; exact k
theorem go_condF {q : SX} {a b : SC} (h : getX (gets st.sl) q = .bool false) (k : go n0 b st K) : go n0 (.cond q a b) st K := by rw [go_cond, h]; exact k
theorem boolP_split {t : Bool} {a b : Unit → Prop} (h1 : t = true → a ()) (h2 : t = false → b ()) : boolP (.bool t) a b := by
  cases t with
  | true => exact h1 rfl
  | false => exact h2 rfl
theorem seqk_n {b : SC} : seqk n0 b K .normal st = go n0 b st K := rfl
theorem seqk_e {b : SC} {i : Nat} : seqk n0 b K (.exit i) st = K (.exit i) st := rfl
theorem seqk_r {b : SC} : seqk n0 b K .ret st = K .ret st := rfl
theorem blk_n {id : Nat} : blk id K .normal st = K .normal st := rfl
theorem blk_e {id i : Nat} : blk id K (.exit i) st = if i = id then K .normal st else K (.exit i) st := rfl
theorem blk_r {id : Nat} : blk id K .ret st = K .ret st := rfl
theorem someP_s : someP (some st) K = K .normal st := rfl
def quiet : List Ent → Bool
  | [] => true
  | ⟨_, _, [], _⟩ :: r => quiet r
  | ⟨_, _, _ :: _, _⟩ :: _ => false
theorem obBj_quiet {anc : List (List Nat)} {rd : List Nat} {j : Nat} : ∀ {l : List Ent} {i : Nat}, quiet l = true → obBj anc rd [] j (locs l) i = true
  | [], i, _ => rfl
  | ⟨_, _, [], rdi⟩ :: r, i, h => by
    have := obBj_quiet (anc := anc) (rd := rd) (j := j) (l := r) (i := i + 1) h
    simp only [locs, List.map_cons, List.map_nil] at this ⊢
    simp only [obBj, this, Bool.and_true]
    have e1 : meets [] (rd ++ []) = false := rfl
    have e2 : meets rdi [] = false := by cases rdi <;> simp [meets]
    rw [e1, e2]; rfl
theorem quiet_app {l l' : List Ent} (h : quiet l = true) (h' : quiet l' = true) : quiet (l ++ l') = true := by
  induction l with
  | nil => exact h'
  | cons x r ih =>
    obtain ⟨a, b, c, d⟩ := x
    cases c with
    | nil => exact ih h
    | cons _ _ => cases h
theorem obB_quiet {anc : List (List Nat)} : ∀ {l pre : List Ent} {j : Nat}, quiet pre = true → quiet l = true → obB anc (locs pre) (locs l) j = true
  | [], pre, j, _, _ => rfl
  | ⟨a, b, [], rd⟩ :: r, pre, j, hp, h => by
    have e := obB_quiet (anc := anc) (l := r) (pre := pre ++ [⟨a, b, [], rd⟩]) (j := j + 1) (quiet_app hp rfl) h
    have e2 := obBj_quiet (anc := anc) (rd := rd) (j := j) (i := 0) hp
    simp only [locs, List.map_append, List.map_cons, List.map_nil] at e e2 ⊢
    simp only [obB, e2, e, Bool.and_self]
theorem drawP_s {anc : List (List Nat)} {es : List Ent} : drawP anc (some (es, st)) K = match quiet es with
    | true => K .normal st
    | false => obB anc [] (locs es) 0 = true ∧ K .normal st := by
  show (obB anc [] (locs es) 0 = true ∧ K .normal st) = _
  cases h : quiet es with
  | true => exact propext ⟨fun h => h.2, fun h' => ⟨obB_quiet (pre := []) rfl h, h'⟩⟩
  | false => rfl
noncomputable def regN (r : List SOper) (e : Option (Ent × St)) : Option St :=
  match e with
  | some (_, st) => regF r st
  | none => none
noncomputable def drgN (r : List SOper) (acc : List Ent) (e : Option (Ent × St)) : Option (List Ent × St) :=
  match e with
  | some (x, st) => drgF r (acc ++ [x]) st
  | none => none
noncomputable def opF (so : SOp) (sl : List SV) (ob : List Ob) : Option R3 := fOp Try.prog calls so sl ob
theorem regF_nil : regF [] st = some st := rfl
theorem regF_cons {d : Option Tmp} {so : SOp} {r : List SOper} {sl : List SV} {ob : List Ob} : regF (⟨d, none, so⟩ :: r) ⟨sl, ob⟩ = regN r (appF d ⟨sl, ob⟩ (opF so sl ob)) := rfl
noncomputable def gdF (d : Option Tmp) (so : SOp) (want : Bool) (sl : List SV) (ob : List Ob) (v : SV) : Option (Ent × St) :=
  match v with
  | .bool b => bif eqBo b want then appF d ⟨sl, ob⟩ (opF so sl ob) else some (⟨false, .tup [], [], []⟩, ⟨putS sl d (.tup []), ob⟩)
  | .tup [] => some (⟨false, .tup [], [], []⟩, ⟨putS sl d (.tup []), ob⟩)
  | _ => none
theorem regF_gd {d : Option Tmp} {k : Nat} {want : Bool} {so : SOp} {r : List SOper} {sl : List SV} {ob : List Ob} : regF (⟨d, some (k, want), so⟩ :: r) ⟨sl, ob⟩ = regN r (gdF d so want sl ob (gets sl k)) := rfl
theorem drgF_nil {acc : List Ent} : drgF [] acc st = some (acc, st) := rfl
theorem drgF_cons {d : Option Tmp} {so : SOp} {r : List SOper} {acc : List Ent} {sl : List SV} {ob : List Ob} : drgF (⟨d, none, so⟩ :: r) acc ⟨sl, ob⟩ = drgN r acc (appF d ⟨sl, ob⟩ (opF so sl ob)) := rfl
theorem drgF_gd {d : Option Tmp} {k : Nat} {want : Bool} {so : SOp} {r : List SOper} {acc : List Ent} {sl : List SV} {ob : List Ob} : drgF (⟨d, some (k, want), so⟩ :: r) acc ⟨sl, ob⟩ = drgN r acc (gdF d so want sl ob (gets sl k)) := rfl
theorem regN_s {r : List SOper} {e : Ent} : regN r (some (e, st)) = regF r st := rfl
theorem drgN_s {r : List SOper} {acc : List Ent} {e : Ent} : drgN r acc (some (e, st)) = drgF r (acc ++ [e]) st := rfl
theorem gdF_t {d : Option Tmp} {so : SOp} {sl : List SV} {ob : List Ob} : gdF d so true sl ob (.bool true) = appF d ⟨sl, ob⟩ (opF so sl ob) := rfl
theorem gdF_ff {d : Option Tmp} {so : SOp} {sl : List SV} {ob : List Ob} : gdF d so false sl ob (.bool false) = appF d ⟨sl, ob⟩ (opF so sl ob) := rfl
theorem gdF_tf {d : Option Tmp} {so : SOp} {sl : List SV} {ob : List Ob} : gdF d so true sl ob (.bool false) = some (⟨false, .tup [], [], []⟩, ⟨putS sl d (.tup []), ob⟩) := rfl
theorem gdF_ft {d : Option Tmp} {so : SOp} {sl : List SV} {ob : List Ob} : gdF d so false sl ob (.bool true) = some (⟨false, .tup [], [], []⟩, ⟨putS sl d (.tup []), ob⟩) := rfl
theorem gdF_u {d : Option Tmp} {so : SOp} {want : Bool} {sl : List SV} {ob : List Ob} : gdF d so want sl ob (.tup []) = some (⟨false, .tup [], [], []⟩, ⟨putS sl d (.tup []), ob⟩) := rfl
theorem appF_n {d : Option Tmp} {x : SV} {rd : List Nat} : appF d st (some (x, [], rd)) = some (⟨true, x, [], rd⟩, ⟨putS st.sl d x, st.ob⟩) := rfl
theorem appF_c {d : Option Tmp} {x : SV} {q : Nat × Ob} {u : List (Nat × Ob)} {rd : List Nat} : appF d st (some (x, q :: u, rd)) = bif okUB (newOb st.ob (q :: u)).length (q :: u) then some (⟨true, x, q :: u, rd⟩, ⟨putS st.sl d x, newOb st.ob (q :: u)⟩) else none := rfl
def callN (ob : List Ob) (xs : List SV) (sel : List Nat) (r : Option (SV × List Ob)) (n : Nat) : Option R3 :=
  match r with
  | some (r, fob') => bif decide (n ≤ fob'.length) then some (callRes sel (lentL sel xs) ob.length r fob') else none
  | none => none
def selN (hd : List Bool) (f : FuncId) (xs : List SV) (ob : List Ob) (sel : List Nat) (e : List SV → List Ob → Option (SV × List Ob)) (b : Option (List Ob)) : Option R3 :=
  match b with
  | some fob => bif nodupB sel && allLtB ob.length sel && allIdsB fob.length fob then callN ob xs sel (e (lendN hd (geto ob) sel xs) fob) fob.length else none
  | none => none
def callS (hd : List Bool) (f : FuncId) (xs : List SV) (ob : List Ob) (sel : List Nat) (e : List SV → List Ob → Option (SV × List Ob)) : Option R3 := selN hd f xs ob sel e (backObs sel ob sel)
theorem calls_eq {f : FuncId} {xs : List SV} {ob : List Ob} : calls f xs ob = lateF (modes f).res (callS (modes f).hand f xs ob (reach ob 64 (handRefs (modes f).hand xs) []) (E f)) := rfl
theorem late_a {r : Option R3} : lateF .asis r = r := rfl
theorem late_f {r : Option R3} : lateF .frz r = r := rfl
theorem late_o {l : List (Option (Nat × Nat))} {r : Option R3} : lateF (.own l) r = r := rfl
theorem late_t {l : List (Option (Nat × Nat))} {r : Option R3} : lateF (.tr l) r = r := rfl
theorem late_s {r : R3} : lateF .late (some r) = lateC r := rfl
theorem goneIn_nil : ∀ u : List (Nat × Ob), goneIn [] u = u
  | [] => rfl
  | (g, o) :: u => by rw [goneIn, goneIn_nil u]; rfl
theorem late_b {m : RM} {b : Bool} {u : List (Nat × Ob)} {rd : List Nat} : lateF m (some (.bool b, u, rd)) = some (.bool b, u, rd) := by
  cases m <;> first | rfl | (show some (SV.bool b, goneIn [] u, rd) = _; rw [goneIn_nil])
theorem late_i {m : RM} {k : IntKind} {n : Int} {u : List (Nat × Ob)} {rd : List Nat} : lateF m (some (.int k n, u, rd)) = some (.int k n, u, rd) := by
  cases m <;> first | rfl | (show some (SV.int k n, goneIn [] u, rd) = _; rw [goneIn_nil])
theorem callS_nil {hd : List Bool} {f : FuncId} {xs : List SV} {ob : List Ob} {e : List SV → List Ob → Option (SV × List Ob)} : callS hd f xs ob [] e = callN ob xs [] (e (lendN hd (geto ob) [] xs) []) 0 := rfl
theorem callS_cons {hd : List Bool} {f : FuncId} {xs : List SV} {ob : List Ob} {g : Nat} {r : List Nat} {e : List SV → List Ob → Option (SV × List Ob)} : callS hd f xs ob (g :: r) e = selN hd f xs ob (g :: r) e (backObs (g :: r) ob (g :: r)) := rfl
theorem callN_z {ob : List Ob} {xs : List SV} {r : SV} {fob' : List Ob} : callN ob xs [] (some (r, fob')) 0 = some (callRes [] (lentL [] xs) ob.length r fob') := rfl
theorem callN_s {ob : List Ob} {xs : List SV} {sel : List Nat} {r : SV} {fob' : List Ob} {n : Nat} : callN ob xs sel (some (r, fob')) n = bif decide (n ≤ fob'.length) then some (callRes sel (lentL sel xs) ob.length r fob') else none := rfl
theorem selN_s {hd : List Bool} {f : FuncId} {xs : List SV} {ob : List Ob} {sel : List Nat} {fob : List Ob} {e : List SV → List Ob → Option (SV × List Ob)} : selN hd f xs ob sel e (some fob) = bif nodupB sel && allLtB ob.length sel && allIdsB fob.length fob then callN ob xs sel (e (lendN hd (geto ob) sel xs) fob) fob.length else none := rfl
theorem callRes_v {p : Nat} {r : SV} : callRes [] [] p r [] = (r.ren (sgp [] p), [], []) := rfl
def roundK {α : Type} (n0 : Nat) (keep : List Nat) (H : α → St) (R : α → Prop) (μ : α → Nat) (a : α) (K : X → St → Prop) : X → St → Prop
  | .normal, st' => ∃ y, R y ∧ μ y < μ a ∧ canon n0 keep st' = H y
  | .exit i, st' => K (.exit i) st'
  | .ret, st' => K .ret st'
theorem roundK_n {α : Type} {keep : List Nat} {H : α → St} {R : α → Prop} {μ : α → Nat} {a : α} {st' : St} : roundK n0 keep H R μ a K .normal st' = ∃ y, R y ∧ μ y < μ a ∧ canon n0 keep st' = H y := rfl
theorem roundK_e {α : Type} {keep : List Nat} {H : α → St} {R : α → Prop} {μ : α → Nat} {a : α} {i : Nat} {st' : St} : roundK n0 keep H R μ a K (.exit i) st' = K (.exit i) st' := rfl
theorem roundK_r {α : Type} {keep : List Nat} {H : α → St} {R : α → Prop} {μ : α → Nat} {a : α} {st' : St} : roundK n0 keep H R μ a K .ret st' = K .ret st' := rfl
theorem go_loop {α : Type} {keep : List Nat} {b : SC} (H : α → St) (R : α → Prop) (μ : α → Nat) (a0 : α) (hR : R a0) (h0 : canon n0 keep st = H a0) (round : ∀ a, R a → go n0 b (H a) (roundK n0 keep H R μ a K)) : go n0 (.loop keep b) st K := by
  have key : ∀ (n : Nat) (a : α) (st : St), μ a ≤ n → R a → canon n0 keep st = H a → ∃ x st', loopW n0 keep (run n0 b) st = some (x, st') ∧ K x st' := by
    intro n
    induction n with
    | zero =>
      intro a st hn hR hc
      obtain ⟨x, st', h, k⟩ := round a hR
      cases x with
      | normal =>
        obtain ⟨y, _, h2, _⟩ := k
        omega
      | exit i => exact ⟨_, st', by rw [loopW_eq, hc, h]; rfl, k⟩
      | ret => exact ⟨_, st', by rw [loopW_eq, hc, h]; rfl, k⟩
    | succ n ih =>
      intro a st hn hR hc
      obtain ⟨x, st', h, k⟩ := round a hR
      cases x with
      | normal =>
        obtain ⟨y, h1, h2, h3⟩ := k
        obtain ⟨x2, st2, h4, k2⟩ := ih y st' (by omega) h1 h3
        exact ⟨x2, st2, by rw [loopW_eq, hc, h]; exact h4, k2⟩
      | exit i => exact ⟨_, st', by rw [loopW_eq, hc, h]; rfl, k⟩
      | ret => exact ⟨_, st', by rw [loopW_eq, hc, h]; rfl, k⟩
  exact key (μ a0) a0 st (Nat.le_refl _) hR h0
def mroundK (n0 : Nat) (keep keepO : List Nat) (H : EL → St) (F : X × St) (p : EL) : X → St → Prop
  | .normal, st' => canon n0 keep st' = H p
  | .exit i, st' => F = (.exit i, canon n0 keepO st')
  | .ret, st' => F = (.ret, canon n0 keepO st')
def mendK (n0 : Nat) (keepO : List Nat) (F : X × St) : X → St → Prop
  | .normal, _ => False
  | .exit i, st' => F = (.exit i, canon n0 keepO st')
  | .ret, st' => F = (.ret, canon n0 keepO st')
theorem mroundK_n {keep keepO : List Nat} {H : EL → St} {F : X × St} {p : EL} {st' : St} : mroundK n0 keep keepO H F p .normal st' = (canon n0 keep st' = H p) := rfl
theorem mroundK_e {keep keepO : List Nat} {H : EL → St} {F : X × St} {p : EL} {i : Nat} {st' : St} : mroundK n0 keep keepO H F p (.exit i) st' = (F = (.exit i, canon n0 keepO st')) := rfl
theorem mroundK_r {keep keepO : List Nat} {H : EL → St} {F : X × St} {p : EL} {st' : St} : mroundK n0 keep keepO H F p .ret st' = (F = (.ret, canon n0 keepO st')) := rfl
theorem mendK_e {keepO : List Nat} {F : X × St} {i : Nat} {st' : St} : mendK n0 keepO F (.exit i) st' = (F = (.exit i, canon n0 keepO st')) := rfl
theorem mendK_r {keepO : List Nat} {F : X × St} {st' : St} : mendK n0 keepO F .ret st' = (F = (.ret, canon n0 keepO st')) := rfl
end
def slots : Nat → Nat → List (Nat × SV) → List SV
  | 0, _, _ => []
  | n + 1, k, [] => .any :: slots n (k + 1) []
  | n + 1, k, (j, x) :: r => bif j == k then x :: slots n (k + 1) r else .any :: slots n (k + 1) ((j, x) :: r)
def finK (res : RM) (n0 : Nat) (rs : List RX) (out : SV × List Ob) (x : X) (st : St) : Prop := fin res n0 rs x st = some out
def ordF (res : RM) (n0 : Nat) (r : Option (SV × List Ob)) : Option (SV × List Ob) :=
  match r with
  | some (r, ob) => order res n0 r ob
  | none => none
def resF1 (res : RM) (n0 : Nat) (ob : List Ob) (r : Option SV) : Option (SV × List Ob) :=
  match r with
  | some r0 => ordF res n0 (gc n0 r0 ob)
  | none => none
theorem finK_r {res : RM} {n0 : Nat} {rs : List RX} {out : SV × List Ob} {sl : List SV} {ob : List Ob} : finK res n0 rs out .ret ⟨sl, ob⟩ = (resF1 res n0 ob (resV ⟨sl, ob⟩ rs) = some out) := rfl
theorem finK_n {res : RM} {n0 : Nat} {rs : List RX} {out : SV × List Ob} {sl : List SV} {ob : List Ob} : finK res n0 rs out .normal ⟨sl, ob⟩ = (resF1 res n0 ob (resV ⟨sl, ob⟩ rs) = some out) := rfl
theorem resF1_s {res : RM} {n0 : Nat} {ob : List Ob} {r : SV} : resF1 res n0 ob (some r) = ordF res n0 (gc n0 r ob) := rfl
theorem ordF_s {n0 : Nat} {r : SV} {ob : List Ob} {res : RM} : ordF res n0 (some (r, ob)) = order res n0 r ob := rfl
theorem E_walk {f : FuncId} {fc : FC} {hand : List Bool} {res : RM} {tr : Bool} {xs : List SV} {ob : List Ob} {out : SV × List Ob} (hc : codeOf Try.prog f = some fc) (hr : modes f = ⟨hand, res, none, tr⟩) (hn : xs.length ≤ fc.nt) (h : go ob.length fc.sc ⟨xs ++ anys (fc.nt - xs.length), entry tr ob⟩ (finK res ob.length fc.rs out)) : E f xs ob = some out := by
  obtain ⟨x, st', h1, h2⟩ := h
  unfold E
  rw [ev_eq]
  unfold bodyF
  rw [hc, hr]
  simp only
  rw [decide_eq_true hn, cond_true]
  have h1 : fr Try.prog (fCall modes (ev Try.prog modes)) (loopWA ob.length) fc.sc ⟨xs ++ anys (fc.nt - xs.length), entry tr ob⟩ = some (x, st') := h1
  rw [h1]
  exact h2
theorem E_extO {f : FuncId} {g : List SV → List Ob → Option (SV × List Ob)} {xs : List SV} {ob : List Ob} (hg : (modes f).ext = some g) : E f xs ob = g xs ob := by
  unfold E
  rw [ev_eq]
  unfold bodyF
  rw [hg]
theorem E_ext {f : FuncId} {g : List SV → Option SV} {xs : List SV} {r : SV} (hg : (modes f).ext = some (valX g)) (h : g xs = some r) : E f xs [] = some (r, []) := by
  rw [E_extO hg]
  simp only [valX, h]
theorem m_laws_markText : modes 41 = ⟨[], .asis, some (valX markX), false⟩ := by unfold modes; rfl
theorem markText_E {k : Int} (h1 : 1 ≤ k) (h2 : k ≤ 1099511627776) : E 41 [.int .i64 k] [] = some (.str (markT k), []) := by
  refine E_ext (g := markX) (by unfold modes; rfl) ?_
  simp only [markX, dec_t h1, dec_t h2, Bool.and_self, cond_true]
theorem m_impl_isSymbol : modes 134 = ⟨[], .asis, some (valX symX), false⟩ := by unfold modes; rfl
theorem isSymbol_E (s : ByteArray) : E 134 [.str s] [] = some (.bool (symB s), []) := E_ext (g := symX) (congrArg FM.ext m_impl_isSymbol) rfl
theorem m_spec_l2Symbol : modes 118 = ⟨[], .asis, some (valX symY), false⟩ := by unfold modes; rfl
theorem l2Symbol_E (s : ByteArray) : E 118 [.str s] [] = some (.bool (symB s), []) := E_ext (g := symY) (congrArg FM.ext m_spec_l2Symbol) rfl
abbrev Tm.sv (x : Tm) : SV := .agg [.str x.name, .arr (x.args.map Tm.d)]
mutual
def Tm.o : Tm → List OT
  | .mk name args => [.str name, .ow (Tm.os args)]
def Tm.os : List Tm → List (List OT)
  | [] => []
  | x :: xs => Tm.o x :: Tm.os xs
end
theorem Tm.os_eq : ∀ xs : List Tm, Tm.os xs = xs.map Tm.o
  | [] => rfl
  | x :: xs => by rw [Tm.os, Tm.os_eq xs]; rfl
theorem Tm.o_eq (x : Tm) : Tm.o x = [.str x.name, .ow (x.args.map Tm.o)] := by
  obtain ⟨name, args⟩ := x
  rw [Tm.o, Tm.os_eq]; rfl
theorem Tm.ers_of : ∀ xs : List Tm, (∀ x ∈ xs, OT.ers (Tm.o x) = Tm.d x) → OT.erss (xs.map Tm.o) = xs.map Tm.d
  | [], _ => rfl
  | x :: xs, h => by
    simp only [List.map_cons, OT.erss]
    rw [h x (by simp), Tm.ers_of xs fun y hy => h y (by simp [hy])]
theorem Tm.er (x : Tm) : OT.ers (Tm.o x) = Tm.d x := by
  have h := Tm.ers_of x.args fun y hy => Tm.er y
  rw [Tm.o_eq, Tm.d_eq]
  simp only [OT.ers, OT.er, h]
termination_by SizeOf.sizeOf x
decreasing_by exact Tm.lt_of_mem hy
theorem Tm.erss (xs : List Tm) : OT.erss (xs.map Tm.o) = xs.map Tm.d := Tm.ers_of xs fun x _ => Tm.er x
theorem Tm.nos_of : ∀ xs : List Tm, (∀ x ∈ xs, OT.noShs (Tm.o x) = true) → OT.noShss (xs.map Tm.o) = true
  | [], _ => rfl
  | x :: xs, h => by
    simp only [List.map_cons, OT.noShss]
    rw [h x (by simp), Tm.nos_of xs fun y hy => h y (by simp [hy])]; rfl
theorem Tm.no (x : Tm) : OT.noShs (Tm.o x) = true := by
  have h := Tm.nos_of x.args fun y hy => Tm.no y
  rw [Tm.o_eq]
  simp only [OT.noShs, OT.noSh, h, Bool.and_self, Bool.and_true]
termination_by SizeOf.sizeOf x
decreasing_by exact Tm.lt_of_mem hy
theorem Tm.noss (xs : List Tm) : OT.noShss (xs.map Tm.o) = true := Tm.nos_of xs fun x _ => Tm.no x
abbrev Tm.osv (x : Tm) : SV := .agg [.str x.name, .ref 0]
abbrev Tm.obs (x : Tm) : List Ob := [.row 52 2 (x.args.map Tm.o)]
abbrev Fm.sv (x : Fm) : SV := .agg [.int .i64 x.op, .str x.atom.name, .arr (x.atom.args.map Tm.d), .str x.var, .arr (x.parts.map Fm.d)]
mutual
def Fm.o : Fm → List OT
  | .mk op atom var parts => [.int op, .str atom.name, .ow (atom.args.map Tm.o), .str var, .ow (Fm.os parts)]
def Fm.os : List Fm → List (List OT)
  | [] => []
  | x :: xs => Fm.o x :: Fm.os xs
end
theorem Fm.os_eq : ∀ xs : List Fm, Fm.os xs = xs.map Fm.o
  | [] => rfl
  | x :: xs => by rw [Fm.os, Fm.os_eq xs]; rfl
theorem Fm.o_eq (x : Fm) : Fm.o x = [.int x.op, .str x.atom.name, .ow (x.atom.args.map Tm.o), .str x.var, .ow (x.parts.map Fm.o)] := by
  obtain ⟨op, atom, var, parts⟩ := x
  rw [Fm.o, Fm.os_eq]; rfl
theorem Fm.ers_of : ∀ xs : List Fm, (∀ x ∈ xs, OT.ers (Fm.o x) = Fm.d x) → OT.erss (xs.map Fm.o) = xs.map Fm.d
  | [], _ => rfl
  | x :: xs, h => by
    simp only [List.map_cons, OT.erss]
    rw [h x (by simp), Fm.ers_of xs fun y hy => h y (by simp [hy])]
theorem Fm.er (x : Fm) : OT.ers (Fm.o x) = Fm.d x := by
  have h := Fm.ers_of x.parts fun y hy => Fm.er y
  rw [Fm.o_eq, Fm.d_eq]
  simp only [OT.ers, OT.er, h, Tm.erss]
termination_by SizeOf.sizeOf x
decreasing_by exact Fm.lt_of_mem hy
theorem Fm.erss (xs : List Fm) : OT.erss (xs.map Fm.o) = xs.map Fm.d := Fm.ers_of xs fun x _ => Fm.er x
theorem Fm.nos_of : ∀ xs : List Fm, (∀ x ∈ xs, OT.noShs (Fm.o x) = true) → OT.noShss (xs.map Fm.o) = true
  | [], _ => rfl
  | x :: xs, h => by
    simp only [List.map_cons, OT.noShss]
    rw [h x (by simp), Fm.nos_of xs fun y hy => h y (by simp [hy])]; rfl
theorem Fm.no (x : Fm) : OT.noShs (Fm.o x) = true := by
  have h := Fm.nos_of x.parts fun y hy => Fm.no y
  rw [Fm.o_eq]
  simp only [OT.noShs, OT.noSh, h, Tm.noss, Bool.and_self, Bool.and_true]
termination_by SizeOf.sizeOf x
decreasing_by exact Fm.lt_of_mem hy
theorem Fm.noss (xs : List Fm) : OT.noShss (xs.map Fm.o) = true := Fm.nos_of xs fun x _ => Fm.no x
abbrev Fm.osv (x : Fm) : SV := .agg [.int .i64 x.op, .str x.atom.name, .ref 0, .str x.var, .ref 1]
abbrev Fm.obs (x : Fm) : List Ob := [.row 52 2 (x.atom.args.map Tm.o), .row 55 5 (x.parts.map Fm.o)]
abbrev Lt.sv (x : Lt) : SV := .agg [.bool x.pos, .str x.atom.name, .arr (x.atom.args.map Tm.d)]
def Lt.o (x : Lt) : List OT := [.bool x.pos, .str x.atom.name, .ow (x.atom.args.map Tm.o)]
theorem Lt.o_eq (x : Lt) : Lt.o x = [.bool x.pos, .str x.atom.name, .ow (x.atom.args.map Tm.o)] := rfl
theorem Lt.er (x : Lt) : OT.ers (Lt.o x) = Lt.d x := by
  simp only [Lt.o, Lt.d, OT.ers, OT.er, Tm.erss]
theorem Lt.erss : ∀ xs : List Lt, OT.erss (xs.map Lt.o) = xs.map Lt.d
  | [] => rfl
  | x :: xs => by simp only [List.map_cons, OT.erss, Lt.er, Lt.erss xs]
theorem Lt.no (x : Lt) : OT.noShs (Lt.o x) = true := by
  simp only [Lt.o, OT.noShs, OT.noSh, Tm.noss, Bool.and_self, Bool.and_true]
theorem Lt.noss : ∀ xs : List Lt, OT.noShss (xs.map Lt.o) = true
  | [] => rfl
  | x :: xs => by simp only [List.map_cons, OT.noShss, Lt.no, Lt.noss xs, Bool.and_self]
abbrev Lt.osv (x : Lt) : SV := .agg [.bool x.pos, .str x.atom.name, .ref 0]
abbrev Lt.obs (x : Lt) : List Ob := [.row 52 2 (x.atom.args.map Tm.o)]
abbrev Cl.sv (x : Cl) : SV := .agg [.arr (x.lits.map Lt.d)]
def Cl.o (x : Cl) : List OT := [.ow (x.lits.map Lt.o)]
theorem Cl.o_eq (x : Cl) : Cl.o x = [.ow (x.lits.map Lt.o)] := rfl
theorem Cl.er (x : Cl) : OT.ers (Cl.o x) = Cl.d x := by
  simp only [Cl.o, Cl.d, OT.ers, OT.er, Lt.erss]
theorem Cl.erss : ∀ xs : List Cl, OT.erss (xs.map Cl.o) = xs.map Cl.d
  | [] => rfl
  | x :: xs => by simp only [List.map_cons, OT.erss, Cl.er, Cl.erss xs]
theorem Cl.no (x : Cl) : OT.noShs (Cl.o x) = true := by
  simp only [Cl.o, OT.noShs, OT.noSh, Lt.noss, Bool.and_self, Bool.and_true]
theorem Cl.noss : ∀ xs : List Cl, OT.noShss (xs.map Cl.o) = true
  | [] => rfl
  | x :: xs => by simp only [List.map_cons, OT.noShss, Cl.no, Cl.noss xs, Bool.and_self]
abbrev Cl.osv (x : Cl) : SV := .agg [.ref 0]
abbrev Cl.obs (x : Cl) : List Ob := [.row 71 3 (x.lits.map Lt.o)]
abbrev Tl.sv (x : Tl) : SV := .agg [.str x.name, .int .i64 x.arity, .bool x.pred, .arr (x.vals.map fun n => [D.int n])]
def Tl.o (x : Tl) : List OT := [.str x.name, .int x.arity, .bool x.pred, .ow (x.vals.map fun n => [OT.int n])]
theorem Tl.o_eq (x : Tl) : Tl.o x = [.str x.name, .int x.arity, .bool x.pred, .ow (x.vals.map fun n => [OT.int n])] := rfl
theorem Tl.er (x : Tl) : OT.ers (Tl.o x) = Tl.d x := by
  simp only [Tl.o, Tl.d, OT.ers, OT.er, er_ints]
theorem Tl.erss : ∀ xs : List Tl, OT.erss (xs.map Tl.o) = xs.map Tl.d
  | [] => rfl
  | x :: xs => by simp only [List.map_cons, OT.erss, Tl.er, Tl.erss xs]
theorem Tl.no (x : Tl) : OT.noShs (Tl.o x) = true := by
  simp only [Tl.o, OT.noShs, OT.noSh, no_ints, Bool.and_self, Bool.and_true]
theorem Tl.noss : ∀ xs : List Tl, OT.noShss (xs.map Tl.o) = true
  | [] => rfl
  | x :: xs => by simp only [List.map_cons, OT.noShss, Tl.no, Tl.noss xs, Bool.and_self]
abbrev Tl.osv (x : Tl) : SV := .agg [.str x.name, .int .i64 x.arity, .bool x.pred, .ref 0]
abbrev Tl.obs (x : Tl) : List Ob := [.row 3 1 (x.vals.map fun n => [OT.int n])]
abbrev Ip.sv (x : Ip) : SV := .agg [.int .i64 x.size, .arr (x.tables.map Tl.d)]
def Ip.o (x : Ip) : List OT := [.int x.size, .ow (x.tables.map Tl.o)]
theorem Ip.o_eq (x : Ip) : Ip.o x = [.int x.size, .ow (x.tables.map Tl.o)] := rfl
theorem Ip.er (x : Ip) : OT.ers (Ip.o x) = Ip.d x := by
  simp only [Ip.o, Ip.d, OT.ers, OT.er, Tl.erss]
theorem Ip.erss : ∀ xs : List Ip, OT.erss (xs.map Ip.o) = xs.map Ip.d
  | [] => rfl
  | x :: xs => by simp only [List.map_cons, OT.erss, Ip.er, Ip.erss xs]
theorem Ip.no (x : Ip) : OT.noShs (Ip.o x) = true := by
  simp only [Ip.o, OT.noShs, OT.noSh, Tl.noss, Bool.and_self, Bool.and_true]
theorem Ip.noss : ∀ xs : List Ip, OT.noShss (xs.map Ip.o) = true
  | [] => rfl
  | x :: xs => by simp only [List.map_cons, OT.noShss, Ip.no, Ip.noss xs, Bool.and_self]
abbrev Ip.osv (x : Ip) : SV := .agg [.int .i64 x.size, .ref 0]
abbrev Ip.obs (x : Ip) : List Ob := [.row 80 4 (x.tables.map Tl.o)]
theorem dec_i64 {n : Int} (h1 : -9223372036854775808 ≤ n) (h2 : n ≤ 9223372036854775807) : dec (inK .i64 n) = true := dec_t (inK_i64.2 ⟨h1, h2⟩)
theorem get_at {α β : Type} (f : α → β) {xs : List α} {k : Nat} (h : k < xs.length) : (xs.map f)[k]? = some (f xs[k]) := by rw [List.getElem?_map, List.getElem?_eq_getElem h]; rfl
theorem szR_spec (left : Int) (n : Nat) : ((n : Int) ≤ left ∧ szR left n = left - n) ∨ (left < n ∧ szR left n = -1) := by
  unfold szR; split <;> omega
mutual
def D.fit : D → Prop
  | .int _ => True
  | .bool _ => True
  | .str s => s.size ≤ 9223372036854775807
  | .arr es => es.length ≤ 9223372036854775807 ∧ D.fitss es
def D.fits : List D → Prop
  | [] => True
  | x :: r => D.fit x ∧ D.fits r
def D.fitss : List (List D) → Prop
  | [] => True
  | x :: r => D.fits x ∧ D.fitss r
end
theorem D.fits_of : ∀ {l : List D}, (∀ (j : Nat) (h : j < l.length), D.fit l[j]) → D.fits l
  | [], _ => trivial
  | x :: r, h => ⟨h 0 (by simp), D.fits_of fun j hj => h (j + 1) (by simpa using hj)⟩
theorem D.fitss_of : ∀ {es : List (List D)}, (∀ (i : Nat) (h : i < es.length), D.fits es[i]) → D.fitss es
  | [], _ => trivial
  | x :: r, h => ⟨h 0 (by simp), D.fitss_of fun j hj => h (j + 1) (by simpa using hj)⟩
theorem D.fitss_mem {α : Type} {f : α → List D} : ∀ {xs : List α}, D.fitss (xs.map f) → ∀ x ∈ xs, D.fits (f x)
  | [], _, x, h => by cases h
  | y :: r, h, x, hx => by
    simp only [List.map_cons, D.fitss] at h
    rcases List.mem_cons.1 hx with rfl | hx
    · exact h.1
    · exact D.fitss_mem h.2 x hx
theorem DRep.fit {own : Bool} {w : World} {S : Nat → Prop} {d : D} {v : Value} (h : DRep own w S d v) : D.fit d := by
  induction h with
  | int => trivial
  | bool => trivial
  | str S s h => exact h
  | arr S sz es a cap f Sub h1 h2 h3 h4 h5 h6 h7 ih => exact ⟨Nat.le_trans h1 h2, D.fitss_of fun i hi => D.fits_of fun j hj => ih i j hi hj⟩
theorem dec_T : dec True = true := dec_t trivial
theorem dec_F : dec False = false := dec_f fun h => h
attribute [go_sem] lendN lend1 SV.isNil Ob.idsB SV.idsB SV.idsBL List.getElem?_cons_zero List.getElem?_cons_succ OT.fullss OT.fulls OT.full entry toTree plugA plugG plugH setG holesBack holeAt treeF scalO canonO OT.erss OT.ers OT.er OT.noShss OT.noShs OT.noSh quiet obB obBj locs meets memAnc go_skip go_exit go_ret go_reg go_dreg go_seq go_block boolP_t boolP_f boolP_n seqk_n seqk_e seqk_r blk_n blk_e blk_r someP_s drawP_s regF_nil regF_cons regF_gd drgF_nil drgF_cons drgF_gd regN_s drgN_s gdF_t gdF_ff gdF_tf gdF_ft gdF_u appF_n appF_c calls_eq late_a late_f late_o late_t late_s late_b late_i lateC keysB goneIn seen callS_nil callS_cons callN_z callN_s selN_s callRes_v callRes roundK_n roundK_e roundK_r finK_r finK_n resF1_s ordF_s order opF fOp ret1 ret1o fBin fBinI fBinS fBinB fArith eqK getX gets geto sets putS newOb updL extL lookO okUB SV.cellsN SV.one fillS splice toOTs toOT refs1 refsC fsts gids gone1 allSome bndLo bndHi intN eOp.mkEs eOp.addS D.sv OT.sv D.ot memB nodupB reach SV.refs SV.refsS SV.ptrs SV.ptrsS Ob.refs Ob.liveB handRefs backObs SV.back SV.backL Ob.back posN lendL lendV lentL lentV allLtB allIdsB SV.ren SV.renL Ob.ren mkU sgp gc gcObs names upTo canon keepS keepRefs slots resV rxVs rxV anys noShB SV.noSh SV.noShL Ob.noSh SV.own SV.ownL goneAt cond_true cond_false List.length_cons List.length_nil List.map_cons List.map_nil List.drop_succ_cons List.drop_zero List.drop_nil List.take_succ_cons List.take_zero List.take_nil List.append_nil List.nil_append List.cons_append List.all_cons List.all_nil List.getD_cons_zero List.getD_cons_succ List.any_cons List.any_nil List.contains_cons List.contains_nil List.isEmpty_nil List.isEmpty_cons List.flatten_cons List.flatten_nil List.replicate_succ List.replicate_zero List.set_cons_zero List.set_cons_succ Nat.add_zero Nat.zero_add Nat.le_refl Nat.zero_le Bool.and_true Bool.true_and Bool.and_self Bool.or_false Bool.false_or Bool.true_or Bool.or_true Bool.not_true Bool.not_false Bool.false_and Bool.and_false decide_true decide_false beq_self_eq_true if_true if_false Option.map_some Option.map_none Option.some.injEq Option.getD_some Option.getD_none Int.toNat_natCast true_and and_true and_self eq_self_iff_true List.length_map Bool.false_eq_true Bool.true_eq_false Prod.mk.injEq SV.int.injEq SV.bool.injEq SV.str.injEq SV.agg.injEq SV.tup.injEq SV.arr.injEq List.cons.injEq St.mk.injEq Int.zero_add dec_T dec_F dec_i64 dec_t dec_f fGet svK svD svDs svM MV.sv mapAt mput_int mput_str nomap_eq nextSt St.app itOf MK.sv mroundK_n mroundK_e mroundK_r mendK_e mendK_r
theorem fu_strs : ∀ xs : List ByteArray, OT.fullss (xs.map fun s => [OT.str s]) = true
  | [] => rfl
  | x :: xs => by simp only [List.map_cons, OT.fullss, OT.fulls, OT.full, fu_strs xs, Bool.and_self]
theorem fu_ints : ∀ xs : List Int, OT.fullss (xs.map fun n => [OT.int n]) = true
  | [] => rfl
  | x :: xs => by simp only [List.map_cons, OT.fullss, OT.fulls, OT.full, fu_ints xs, Bool.and_self]
theorem Tm.fu_of : ∀ xs : List Tm, (∀ x ∈ xs, OT.fulls (Tm.o x) = true) → OT.fullss (xs.map Tm.o) = true
  | [], _ => rfl
  | x :: xs, h => by
    simp only [List.map_cons, OT.fullss]
    rw [h x (by simp), Tm.fu_of xs fun y hy => h y (by simp [hy])]; rfl
theorem Tm.fu (x : Tm) : OT.fulls (Tm.o x) = true := by
  have h := Tm.fu_of x.args fun y hy => Tm.fu y
  rw [Tm.o_eq]
  simp only [OT.fulls, OT.full, h, Bool.and_self, Bool.and_true]
termination_by SizeOf.sizeOf x
decreasing_by exact Tm.lt_of_mem hy
theorem Tm.fus (xs : List Tm) : OT.fullss (xs.map Tm.o) = true := Tm.fu_of xs fun x _ => Tm.fu x
theorem Fm.fu_of : ∀ xs : List Fm, (∀ x ∈ xs, OT.fulls (Fm.o x) = true) → OT.fullss (xs.map Fm.o) = true
  | [], _ => rfl
  | x :: xs, h => by
    simp only [List.map_cons, OT.fullss]
    rw [h x (by simp), Fm.fu_of xs fun y hy => h y (by simp [hy])]; rfl
theorem Fm.fu (x : Fm) : OT.fulls (Fm.o x) = true := by
  have h := Fm.fu_of x.parts fun y hy => Fm.fu y
  rw [Fm.o_eq]
  simp only [OT.fulls, OT.full, h, Tm.fus, Bool.and_self, Bool.and_true]
termination_by SizeOf.sizeOf x
decreasing_by exact Fm.lt_of_mem hy
theorem Fm.fus (xs : List Fm) : OT.fullss (xs.map Fm.o) = true := Fm.fu_of xs fun x _ => Fm.fu x
theorem Lt.fu (x : Lt) : OT.fulls (Lt.o x) = true := by
  simp only [Lt.o, OT.fulls, OT.full, Tm.fus, Bool.and_self, Bool.and_true]
theorem Lt.fus : ∀ xs : List Lt, OT.fullss (xs.map Lt.o) = true
  | [] => rfl
  | x :: xs => by simp only [List.map_cons, OT.fullss, Lt.fu, Lt.fus xs, Bool.and_self]
theorem Cl.fu (x : Cl) : OT.fulls (Cl.o x) = true := by
  simp only [Cl.o, OT.fulls, OT.full, Lt.fus, Bool.and_self, Bool.and_true]
theorem Cl.fus : ∀ xs : List Cl, OT.fullss (xs.map Cl.o) = true
  | [] => rfl
  | x :: xs => by simp only [List.map_cons, OT.fullss, Cl.fu, Cl.fus xs, Bool.and_self]
theorem Tl.fu (x : Tl) : OT.fulls (Tl.o x) = true := by
  simp only [Tl.o, OT.fulls, OT.full, fu_ints, Bool.and_self, Bool.and_true]
theorem Tl.fus : ∀ xs : List Tl, OT.fullss (xs.map Tl.o) = true
  | [] => rfl
  | x :: xs => by simp only [List.map_cons, OT.fullss, Tl.fu, Tl.fus xs, Bool.and_self]
theorem Ip.fu (x : Ip) : OT.fulls (Ip.o x) = true := by
  simp only [Ip.o, OT.fulls, OT.full, Tl.fus, Bool.and_self, Bool.and_true]
theorem Ip.fus : ∀ xs : List Ip, OT.fullss (xs.map Ip.o) = true
  | [] => rfl
  | x :: xs => by simp only [List.map_cons, OT.fullss, Ip.fu, Ip.fus xs, Bool.and_self]
attribute [go_sem] fu_strs fu_ints er_strs er_ints no_strs no_ints Tm.fus Tm.erss Tm.noss Fm.fus Fm.erss Fm.noss Lt.fus Lt.erss Lt.noss Cl.fus Cl.erss Cl.noss Tl.fus Tl.erss Tl.noss Ip.fus Ip.erss Ip.noss
theorem map_set_mid {α β : Type} (f : α → β) (dn rest : List α) (x y : α) {k : Nat} (h : dn.length = k) : ((dn ++ x :: rest).map f).set k (f y) = ((dn ++ [y]) ++ rest).map f := by
  subst h
  rw [List.map_append, List.set_append_right _ _ (by simp)]
  simp
theorem dec_refl {α : Type} (a : α) : dec (a = a) = true := dec_t rfl
def fillR {α β : Type} (f : α → β) (z : β) (xs : List α) (k : Nat) : List β := (xs.take k).map f ++ List.replicate (xs.length - k) z
section
variable {α β : Type} (f : α → β) (z : β) {xs : List α} {k : Nat}
theorem fillR_zero : fillR f z xs 0 = List.replicate xs.length z := by simp [fillR]
theorem fillR_len : (fillR f z xs k).length = xs.length := by simp [fillR]; omega
theorem fillR_end : fillR f z xs xs.length = xs.map f := by simp [fillR]
theorem fillR_get (h : k < xs.length) : (fillR f z xs k)[k]? = some z := by
  have hl : ((xs.take k).map f).length = k := by simp; omega
  unfold fillR
  rw [List.getElem?_append_right (by omega), hl, Nat.sub_self, List.getElem?_replicate]
  simp; omega
theorem fillR_set (h : k < xs.length) : (fillR f z xs k).set k (f xs[k]) = fillR f z xs (k + 1) := by
  have hl : ((xs.take k).map f).length = k := by simp; omega
  have e : List.take (k + 1) xs = List.take k xs ++ [xs[k]] := List.take_succ_eq_append_getElem h
  unfold fillR
  rw [List.set_append_right _ _ (by omega), hl, Nat.sub_self, e, List.map_append, List.append_assoc]
  congr 1
  rw [show xs.length - k = (xs.length - (k + 1)) + 1 by omega, List.replicate_succ, List.set_cons_zero]
  rfl
end
def idxP {α : Type} (p : α → Bool) : List α → Int → Int
  | [], _ => -1
  | x :: xs, i => if p x then i else idxP p xs (i + 1)
theorem idxP_any {α : Type} (p : α → Bool) : ∀ (xs : List α), dec (0 ≤ idxP p xs 0) = xs.any p := by
  have key : ∀ (xs : List α) (i : Int), 0 ≤ i → (0 ≤ idxP p xs i ↔ xs.any p = true) := by
    intro xs
    induction xs with
    | nil => intro i h; simp [idxP]
    | cons x xs ih =>
      intro i h
      simp only [idxP, List.any_cons, Bool.or_eq_true]
      by_cases hp : p x = true
      · simp [hp, h]
      · rw [if_neg hp, ih (i + 1) (by omega)]; simp [hp]
  intro xs
  cases h : xs.any p with
  | true => exact dec_t ((key xs 0 (by omega)).2 h)
  | false => exact dec_f fun h' => by rw [(key xs 0 (by omega)).1 h'] at h; cases h
mutual
def Tm.nodes : Tm → Nat
  | .mk _ args => 1 + Tm.nodeS args
def Tm.nodeS : List Tm → Nat
  | [] => 0
  | x :: xs => Tm.nodes x + Tm.nodeS xs
end
mutual
def Tm.deep : Tm → Nat
  | .mk _ args => Tm.deepS args + 1
def Tm.deepS : List Tm → Nat
  | [] => 0
  | x :: xs => max (Tm.deep x) (Tm.deepS xs)
end
mutual
def Tm.names : Tm → Bool
  | .mk name args => if varB name then args.length == 0 else symB name && decide (args.length ≤ 4) && Tm.nameS args
def Tm.nameS : List Tm → Bool
  | [] => true
  | x :: xs => Tm.names x && Tm.nameS xs
end
def Tm.small (x : Tm) : Bool := decide (x.nodes ≤ 30) && decide (x.deep ≤ 8)
def Tm.valid (x : Tm) : Bool := x.small && x.names
noncomputable def Tm.eqn (x : Tm) : Bool := dec (x.name = ⟨#[61]⟩)
noncomputable def Tm.atom (x : Tm) : Bool := if x.eqn then x.args.length == 2 && x.small && Tm.nameS x.args else symB x.name && x.valid
mutual
def Tm.cap : Tm → Int
  | .mk _ xs => Tm.capL xs 1
def Tm.capL : List Tm → Int → Int
  | [], n => n
  | x :: xs, n => if 30 < n then n else Tm.capL xs (n + Tm.cap x)
end
mutual
def Tm.many : Tm → Int → Int
  | .mk _ xs, m => Tm.manyL xs m 1
def Tm.manyL : List Tm → Int → Int → Int
  | [], _, n => n
  | x :: xs, m, n => if n ≤ m then Tm.manyL xs m (n + Tm.many x (m - n)) else n
end
noncomputable def cmpB (a b : ByteArray) : Int := bif strLt a b then -1 else bif dec (a = b) then 0 else 1
noncomputable def cmpI (a b : Int) : Int := bif dec (a < b) then -1 else bif dec (b < a) then 1 else 0
def orZ (x y : Int) : Int := if x = 0 then y else x
theorem strLt_self (a : ByteArray) : strLt a a = false := by
  unfold strLt
  have key : ∀ l : List UInt8, Op.bytesLess l l = false := by
    intro l
    induction l with
    | nil => rfl
    | cons x l ih => simp [Op.bytesLess, ih]
  exact key _
def c_cmp_isNaN_string : SC := (.seq (.reg [⟨some 2, none, .mv (.c (.bool false))⟩]) (.seq (.reg [⟨some 3, none, .mv (.t 0)⟩, ⟨some 4, none, .mv (.t 0)⟩, ⟨some 5, none, .bin .neq false (.t 3) (.t 4)⟩, ⟨some 2, none, .mv (.t 5)⟩]) .ret))
theorem k_cmp_isNaN_string : codeOf Try.prog 162 = some ⟨6, c_cmp_isNaN_string, [(.tmp 2)]⟩ := by kernel_rfl
theorem m_cmp_isNaN_string : modes 162 = ⟨[], .asis, none, false⟩ := by unfold modes; rfl
def c_cmp_isNaN_int : SC := (.seq (.reg [⟨some 2, none, .mv (.c (.bool false))⟩]) (.seq (.reg [⟨some 3, none, .mv (.t 0)⟩, ⟨some 4, none, .mv (.t 0)⟩, ⟨some 5, none, .bin .neq false (.t 3) (.t 4)⟩, ⟨some 2, none, .mv (.t 5)⟩]) .ret))
theorem k_cmp_isNaN_int : codeOf Try.prog 161 = some ⟨6, c_cmp_isNaN_int, [(.tmp 2)]⟩ := by kernel_rfl
theorem m_cmp_isNaN_int : modes 161 = ⟨[], .asis, none, false⟩ := by unfold modes; rfl
def c_cmp_Compare_string : SC := (.seq (.reg [⟨some 4, none, .mv (.c (.int .i64 0))⟩]) (.seq (.reg [⟨some 7, none, .mv (.t 0)⟩, ⟨some 8, none, .call 162 [(.t 7)]⟩, ⟨some 5, none, .mv (.t 8)⟩]) (.seq (.reg [⟨some 9, none, .mv (.t 1)⟩, ⟨some 10, none, .call 162 [(.t 9)]⟩, ⟨some 6, none, .mv (.t 10)⟩]) (.seq (.seq (.reg [⟨some 11, none, .mv (.t 5)⟩]) (.cond (.t 11) (.seq (.seq (.reg [⟨some 12, none, .mv (.t 6)⟩]) (.cond (.t 12) (.seq (.reg [⟨some 4, none, .mv (.c (.int .i64 0))⟩]) .ret) .skip)) (.seq (.reg [⟨some 4, none, .mv (.c (.int .i64 (-(0 + 1))))⟩]) .ret)) .skip)) (.seq (.seq (.reg [⟨some 13, none, .mv (.t 6)⟩]) (.cond (.t 13) (.seq (.reg [⟨some 4, none, .mv (.c (.int .i64 1))⟩]) .ret) .skip)) (.seq (.seq (.reg [⟨some 14, none, .mv (.t 0)⟩, ⟨some 15, none, .mv (.t 1)⟩, ⟨some 16, none, .bin .lss false (.t 14) (.t 15)⟩]) (.cond (.t 16) (.seq (.reg [⟨some 4, none, .mv (.c (.int .i64 (-(0 + 1))))⟩]) .ret) .skip)) (.seq (.seq (.reg [⟨some 17, none, .mv (.t 0)⟩, ⟨some 18, none, .mv (.t 1)⟩, ⟨some 19, none, .bin .gtr false (.t 17) (.t 18)⟩]) (.cond (.t 19) (.seq (.reg [⟨some 4, none, .mv (.c (.int .i64 1))⟩]) .ret) .skip)) (.seq (.reg [⟨some 4, none, .mv (.c (.int .i64 0))⟩]) .ret))))))))
theorem k_cmp_Compare_string : codeOf Try.prog 129 = some ⟨20, c_cmp_Compare_string, [(.tmp 4)]⟩ := by kernel_rfl
theorem m_cmp_Compare_string : modes 129 = ⟨[], .asis, none, false⟩ := by unfold modes; rfl
def c_cmp_Compare_int : SC := (.seq (.reg [⟨some 4, none, .mv (.c (.int .i64 0))⟩]) (.seq (.reg [⟨some 7, none, .mv (.t 0)⟩, ⟨some 8, none, .call 161 [(.t 7)]⟩, ⟨some 5, none, .mv (.t 8)⟩]) (.seq (.reg [⟨some 9, none, .mv (.t 1)⟩, ⟨some 10, none, .call 161 [(.t 9)]⟩, ⟨some 6, none, .mv (.t 10)⟩]) (.seq (.seq (.reg [⟨some 11, none, .mv (.t 5)⟩]) (.cond (.t 11) (.seq (.seq (.reg [⟨some 12, none, .mv (.t 6)⟩]) (.cond (.t 12) (.seq (.reg [⟨some 4, none, .mv (.c (.int .i64 0))⟩]) .ret) .skip)) (.seq (.reg [⟨some 4, none, .mv (.c (.int .i64 (-(0 + 1))))⟩]) .ret)) .skip)) (.seq (.seq (.reg [⟨some 13, none, .mv (.t 6)⟩]) (.cond (.t 13) (.seq (.reg [⟨some 4, none, .mv (.c (.int .i64 1))⟩]) .ret) .skip)) (.seq (.seq (.reg [⟨some 14, none, .mv (.t 0)⟩, ⟨some 15, none, .mv (.t 1)⟩, ⟨some 16, none, .bin .lss false (.t 14) (.t 15)⟩]) (.cond (.t 16) (.seq (.reg [⟨some 4, none, .mv (.c (.int .i64 (-(0 + 1))))⟩]) .ret) .skip)) (.seq (.seq (.reg [⟨some 17, none, .mv (.t 0)⟩, ⟨some 18, none, .mv (.t 1)⟩, ⟨some 19, none, .bin .gtr false (.t 17) (.t 18)⟩]) (.cond (.t 19) (.seq (.reg [⟨some 4, none, .mv (.c (.int .i64 1))⟩]) .ret) .skip)) (.seq (.reg [⟨some 4, none, .mv (.c (.int .i64 0))⟩]) .ret))))))))
theorem k_cmp_Compare_int : codeOf Try.prog 126 = some ⟨20, c_cmp_Compare_int, [(.tmp 4)]⟩ := by kernel_rfl
theorem m_cmp_Compare_int : modes 126 = ⟨[], .asis, none, false⟩ := by unfold modes; rfl
def c_cmp_Or_int : SC := (.seq (.reg [⟨some 2, none, .mv (.c (.int .i64 0))⟩]) (.seq (.reg [⟨some 3, none, .mv (.c (.int .i64 0))⟩]) (.seq (.seq (.reg [⟨some 6, none, .mv (.t 0)⟩, ⟨some 7, none, .len false (.t 6)⟩, ⟨some 8, none, .mv (.c (.int .i64 0))⟩]) (.block 0 (.loop [0, 0, 0, 1, 0, 0, 1, 1, 1, 0, 0, 0, 0, 0, 0, 0, 0, 0] (.seq (.reg [⟨some 9, none, .bin .lss false (.t 8) (.t 7)⟩]) (.seq (.cond (.t 9) .skip (.exit 0)) (.seq (.block 1 (.seq (.reg [⟨some 10, none, .iaddr 1 (.t 6) (.t 8)⟩, ⟨some 11, none, .load false 1 (.t 10)⟩, ⟨some 5, none, .mv (.t 11)⟩]) (.seq (.reg [⟨some 12, none, .mv (.t 5)⟩, ⟨some 13, none, .mv (.t 3)⟩, ⟨some 14, none, .bin .neq false (.t 12) (.t 13)⟩]) (.cond (.t 14) (.seq (.reg [⟨some 15, none, .mv (.t 5)⟩, ⟨some 2, none, .mv (.t 15)⟩]) .ret) .skip)))) (.reg [⟨some 16, none, .bin .add false (.t 8) (.c (.int .i64 1))⟩, ⟨some 8, none, .mv (.t 16)⟩]))))))) (.seq (.reg [⟨some 17, none, .mv (.t 3)⟩, ⟨some 2, none, .mv (.t 17)⟩]) .ret))))
theorem k_cmp_Or_int : codeOf Try.prog 124 = some ⟨18, c_cmp_Or_int, [(.tmp 2)]⟩ := by kernel_rfl
theorem m_cmp_Or_int : modes 124 = ⟨[], .asis, none, false⟩ := by unfold modes; rfl
theorem isNaNS_E (a : ByteArray) : E 162 [.str a] [] = some (.bool false, []) := by
  refine E_walk k_cmp_isNaN_string m_cmp_isNaN_string (of_decide_eq_true rfl) ?_
  simp (disch := omega) only [c_cmp_isNaN_string, go_sem, go_cond, zA, zB, zC, zD, zE, zF, zG, zH, ↓reduceIte, zI, reduceCtorEq, zJ, zK]
theorem isNaNI_E (a : Int) : E 161 [.int .i64 a] [] = some (.bool false, []) := by
  refine E_walk k_cmp_isNaN_int m_cmp_isNaN_int (of_decide_eq_true rfl) ?_
  simp (disch := omega) only [c_cmp_isNaN_int, go_sem, go_cond, zA, zB, zC, zD, zE, zF, zG, zH, ↓reduceIte, zI, reduceCtorEq, zJ, zK]
theorem compareS_E (a b : ByteArray) : E 129 [.str a, .str b] [] = some (.int .i64 (cmpB a b), []) := by
  have h1 := isNaNS_E a
  have h2 := isNaNS_E b
  unfold cmpB
  cases h3 : strLt a b
  · cases h4 : dec (a = b)
    · refine E_walk k_cmp_Compare_string m_cmp_Compare_string (of_decide_eq_true rfl) ?_
      simp (disch := omega) only [c_cmp_Compare_string, go_sem, go_cond, zA, zB, zC, zD, zE, zF, zG, zH, ↓reduceIte, zI, reduceCtorEq, zJ, zK, h1, h2, h3, h4, m_cmp_isNaN_string]
    · refine E_walk k_cmp_Compare_string m_cmp_Compare_string (of_decide_eq_true rfl) ?_
      simp (disch := omega) only [c_cmp_Compare_string, go_sem, go_cond, zA, zB, zC, zD, zE, zF, zG, zH, ↓reduceIte, zI, reduceCtorEq, zJ, zK, h1, h2, h3, h4, m_cmp_isNaN_string]
  · refine E_walk k_cmp_Compare_string m_cmp_Compare_string (of_decide_eq_true rfl) ?_
    simp (disch := omega) only [c_cmp_Compare_string, go_sem, go_cond, zA, zB, zC, zD, zE, zF, zG, zH, ↓reduceIte, zI, reduceCtorEq, zJ, zK, h1, h2, h3, m_cmp_isNaN_string]
theorem compareI_E (a b : Int) : E 126 [.int .i64 a, .int .i64 b] [] = some (.int .i64 (cmpI a b), []) := by
  have h1 := isNaNI_E a
  have h2 := isNaNI_E b
  unfold cmpI
  cases h3 : dec (a < b)
  · cases h4 : dec (b < a)
    · refine E_walk k_cmp_Compare_int m_cmp_Compare_int (of_decide_eq_true rfl) ?_
      simp (disch := omega) only [c_cmp_Compare_int, go_sem, go_cond, zA, zB, zC, zD, zE, zF, zG, zH, ↓reduceIte, zI, reduceCtorEq, zJ, zK, h1, h2, h3, h4, m_cmp_isNaN_int]
    · refine E_walk k_cmp_Compare_int m_cmp_Compare_int (of_decide_eq_true rfl) ?_
      simp (disch := omega) only [c_cmp_Compare_int, go_sem, go_cond, zA, zB, zC, zD, zE, zF, zG, zH, ↓reduceIte, zI, reduceCtorEq, zJ, zK, h1, h2, h3, h4, m_cmp_isNaN_int]
  · refine E_walk k_cmp_Compare_int m_cmp_Compare_int (of_decide_eq_true rfl) ?_
    simp (disch := omega) only [c_cmp_Compare_int, go_sem, go_cond, zA, zB, zC, zD, zE, zF, zG, zH, ↓reduceIte, zI, reduceCtorEq, zJ, zK, h1, h2, h3, m_cmp_isNaN_int]
def orL : List Int → Int
  | [] => 0
  | x :: xs => if x = 0 then orL xs else x
theorem or_E (xs : List Int) (hl : xs.length ≤ 1099511627776) : E 124 [.arr (xs.map fun n => [D.int n])] [] = some (.int .i64 (orL xs), []) := by
  refine E_walk k_cmp_Or_int m_cmp_Or_int (of_decide_eq_true rfl) ?_
  simp (disch := omega) only [c_cmp_Or_int, go_sem, go_cond, zA, zB, zC, zD, zE, zF, zG, zH, ↓reduceIte, zI, reduceCtorEq, zJ, zK]
  refine go_loop (α := Int) (fun a => ⟨slots 18 0 [(3, .int .i64 0), (6, .arr (xs.map fun n => [D.int n])), (7, .int .i64 xs.length), (8, .int .i64 a)], []⟩) (fun a => ∃ k : Nat, a = k ∧ k ≤ (xs).length ∧ orL (xs.drop k) = orL xs) (fun a => (xs).length - (a).toNat) 0 ⟨0, rfl, Nat.zero_le _, by rw [List.drop_zero]⟩ (by simp (disch := omega) only [go_sem, go_cond, zA, zB, zC, zD, zE, zF, zG, zH, ↓reduceIte, zI, reduceCtorEq, zJ, zK]) ?_
  rintro i ⟨k, hi, hk, hR⟩
  have hni : i.toNat = k := by omega
  have hni1 : (i + 1).toNat = k + 1 := by omega
  rcases Nat.lt_or_ge k (xs).length with hlt | hge
  · have hg := get_at (fun n => [D.int n]) hlt
    rw [List.drop_eq_getElem_cons hlt, orL] at hR
    by_cases h0 : xs[k] = 0
    · rw [if_pos h0] at hR
      simp (disch := omega) only [go_sem, go_cond, zA, zB, zC, zD, zE, zF, zG, zH, ↓reduceIte, zI, reduceCtorEq, zJ, zK, hni, hg, h0]
      exact ⟨i + 1, ⟨k + 1, by omega, hlt, hR⟩, by omega, by first | trivial | rfl⟩
    · rw [if_neg h0] at hR
      simp (disch := omega) only [go_sem, go_cond, zA, zB, zC, zD, zE, zF, zG, zH, ↓reduceIte, zI, reduceCtorEq, zJ, zK, hni, hg, h0]
      exact hR
  · rw [List.drop_eq_nil_of_le hge, orL] at hR
    simp (disch := omega) only [go_sem, go_cond, zA, zB, zC, zD, zE, zF, zG, zH, ↓reduceIte, zI, reduceCtorEq, zJ, zK, hni]
    exact hR
theorem or2_E (a b : Int) : E 124 [.arr [[.int a], [.int b]]] [] = some (.int .i64 (orZ a b), []) := by
  have h := or_E [a, b] (by simp)
  have e : orL [a, b] = orZ a b := by
    simp only [orL, orZ]
    split
    · split <;> omega
    · rfl
  rw [e] at h
  exact h
def allTo (p : Nat → Bool) : Nat → Bool
  | 0 => true
  | k + 1 => allTo p k && p k
theorem allTo_mono {p : Nat → Bool} {k n : Nat} (h : allTo p k = false) (hn : k ≤ n) : allTo p n = false := by
  induction n with
  | zero => obtain rfl : k = 0 := by omega
            exact h
  | succ n ih =>
    rcases Nat.lt_or_ge n k with h1 | h1
    · obtain rfl : k = n + 1 := by omega
      exact h
    · rw [allTo, ih h1]; rfl
theorem allTo_at {p : Nat → Bool} {k j : Nat} (h : allTo p k = true) (hj : j < k) : p j = true := by
  induction k with
  | zero => omega
  | succ k ih =>
    rw [allTo, Bool.and_eq_true] at h
    rcases Nat.lt_or_ge j k with h1 | h1
    · exact ih h.1 h1
    · obtain rfl : j = k := by omega
      exact h.2
theorem allTo_no {p : Nat → Bool} {k n : Nat} (h : p k = false) (hk : k < n) : allTo p n = false := allTo_mono (k := k + 1) (by rw [allTo, h, Bool.and_false]) (by omega)
noncomputable def inI (x lo hi : Int) : Bool := dec (lo ≤ x) && dec (x ≤ hi)
theorem inI_iff {x lo hi : Int} : inI x lo hi = true ↔ lo ≤ x ∧ x ≤ hi := by unfold inI; rw [Bool.and_eq_true, dec_iff, dec_iff]
def pw (b : Int) : Nat → Int
  | 0 => 1
  | k + 1 => pw b k * b
theorem pw_bound {b : Int} (h1 : 1 ≤ b) (h3 : b ≤ 3) : ∀ k : Nat, 1 ≤ pw b k ∧ pw b k ≤ (3 : Int) ^ k
  | 0 => by simp [pw]
  | k + 1 => by
    obtain ⟨i1, i2⟩ := pw_bound h1 h3 k
    rw [pw, Int.pow_succ]
    constructor
    · have := Int.mul_le_mul i1 h1 (by omega) (by omega)
      simpa using this
    · exact Int.mul_le_mul i2 h3 (by omega) (by omega)
theorem pow3_mono {k n : Nat} (h : k ≤ n) : (3 : Int) ^ k ≤ 3 ^ n := by
  have := Nat.pow_le_pow_right (n := 3) (by omega) h
  exact_mod_cast this
theorem pw_small {b : Int} (h1 : 1 ≤ b) (h3 : b ≤ 3) {k : Nat} (hk : k ≤ 12) : 1 ≤ pw b k ∧ pw b k ≤ 531441 := by
  obtain ⟨i1, i2⟩ := pw_bound h1 h3 k
  have := pow3_mono hk
  have e : (3 : Int) ^ 12 = 531441 := by decide
  omega
noncomputable def keyLt (a b : Tl) : Bool := strLt a.name b.name || (dec (a.name = b.name) && dec (a.arity < b.arity))
noncomputable def tlAt (ts : List Tl) (k : Nat) : Bool := match ts[k]? with
  | none => true
  | some t => symB t.name && (inI t.arity 0 3 && (match k with
    | 0 => true
    | j + 1 => match ts[j]? with
      | none => true
      | some u => keyLt u t))
theorem tlAt_zero {ts : List Tl} (h : 0 < ts.length) : tlAt ts 0 = (symB ts[0].name && inI ts[0].arity 0 3) := by
  unfold tlAt
  rw [List.getElem?_eq_getElem h]
  simp
theorem tlAt_succ {ts : List Tl} {j : Nat} (h : j + 1 < ts.length) : tlAt ts (j + 1) = (symB ts[j + 1].name && (inI ts[j + 1].arity 0 3 && keyLt ts[j] ts[j + 1])) := by
  unfold tlAt
  rw [List.getElem?_eq_getElem h]
  simp only [List.getElem?_eq_getElem (show j < ts.length by omega)]
theorem tlAt_parts {ts : List Tl} {k : Nat} (h : k < ts.length) (ht : tlAt ts k = true) : symB ts[k].name = true ∧ inI ts[k].arity 0 3 = true := by
  cases k with
  | zero => rw [tlAt_zero h, Bool.and_eq_true] at ht; exact ht
  | succ j => rw [tlAt_succ h, Bool.and_eq_true, Bool.and_eq_true] at ht; exact ⟨ht.1, ht.2.1⟩
noncomputable def tabsB (ts : List Tl) : Bool := allTo (tlAt ts) ts.length && decide (ts.length ≤ 12)
def kinds (sz : Int) (t : Tl) : Int := if t.pred then 2 else sz
noncomputable def tlB (sz : Int) (t : Tl) : Bool := dec ((t.vals.length : Int) = pw sz t.arity.toNat) && t.vals.all fun v => inI v 0 (kinds sz t - 1)
noncomputable def Ip.ok (m : Ip) : Bool := inI m.size 1 3 && (tabsB m.tables && m.tables.all (tlB m.size))
theorem Ip.ok_parts {m : Ip} (h : m.ok = true) : (1 ≤ m.size ∧ m.size ≤ 3) ∧ tabsB m.tables = true ∧ m.tables.all (tlB m.size) = true := by
  unfold Ip.ok at h
  rw [Bool.and_eq_true, Bool.and_eq_true, inI_iff] at h
  exact h
theorem tabsB_arity {ts : List Tl} (h : tabsB ts = true) {t : Tl} (ht : t ∈ ts) : 0 ≤ t.arity ∧ t.arity ≤ 3 := by
  unfold tabsB at h
  rw [Bool.and_eq_true] at h
  obtain ⟨k, hk, rfl⟩ := List.getElem_of_mem ht
  exact inI_iff.1 (tlAt_parts hk (allTo_at h.1 hk)).2
theorem tabsB_len {ts : List Tl} (h : tabsB ts = true) : ts.length ≤ 12 := by
  unfold tabsB at h
  rw [Bool.and_eq_true, decide_eq_true_eq] at h
  exact h.2
def Ip.tame (m : Ip) : Prop := m.tables.length ≤ 1099511627776 ∧ ∀ t ∈ m.tables, t.vals.length ≤ 1099511627776
def dg (s : Int) (q : Int → Int) : Nat → Int → Int
  | 0, _ => 0
  | a + 1, n => q (n.tmod s) + s * dg s q a (n.tdiv s)
def OnS (s : Int) (q : Int → Int) : Prop := ∀ x, 0 ≤ x → x < s → 0 ≤ q x ∧ q x < s
theorem div_in {s n P : Int} (h1 : 1 ≤ s) (h0 : 0 ≤ n) (hP : n < P * s) : 0 ≤ n.tdiv s ∧ n.tdiv s < P ∧ 0 ≤ n.tmod s ∧ n.tmod s < s := by
  rw [Int.tdiv_eq_ediv_of_nonneg h0, Int.tmod_eq_emod_of_nonneg h0]
  refine ⟨Int.ediv_nonneg h0 (by omega), ?_, Int.emod_nonneg _ (by omega), Int.emod_lt_of_pos _ (by omega)⟩
  exact Int.ediv_lt_of_lt_mul (by omega) hP
theorem dig_split {s x r : Int} (h1 : 1 ≤ s) (h0 : 0 ≤ x) (hx : x < s) (hr : 0 ≤ r) : 0 ≤ x + s * r ∧ (x + s * r).tmod s = x ∧ (x + s * r).tdiv s = r := by
  have hm := Int.mul_nonneg (show 0 ≤ s by omega) hr
  have h2 : 0 ≤ x + s * r := by omega
  rw [Int.tdiv_eq_ediv_of_nonneg h2, Int.tmod_eq_emod_of_nonneg h2]
  refine ⟨h2, ?_, ?_⟩
  · rw [Int.add_mul_emod_self_left, Int.emod_eq_of_lt h0 hx]
  · rw [Int.add_mul_ediv_left _ _ (by omega), Int.ediv_eq_zero_of_lt h0 hx]; omega
theorem dg_range {s : Int} {q : Int → Int} (h1 : 1 ≤ s) (hq : OnS s q) : ∀ (a : Nat) (n : Int), 0 ≤ n → n < pw s a → 0 ≤ dg s q a n ∧ dg s q a n < pw s a
  | 0, n, _, _ => by rw [dg, pw]; omega
  | a + 1, n, h0, hn => by
    rw [pw] at hn
    obtain ⟨d0, d1, m0, m1⟩ := div_in h1 h0 hn
    obtain ⟨i0, i1⟩ := dg_range h1 hq a (n.tdiv s) d0 d1
    obtain ⟨q0, q1⟩ := hq _ m0 m1
    rw [dg, pw]
    have k1 := Int.mul_nonneg (show 0 ≤ s by omega) i0
    have k2 : s * (dg s q a (n.tdiv s) + 1) ≤ s * pw s a := Int.mul_le_mul_of_nonneg_left (by omega) (by omega)
    rw [Int.mul_add, Int.mul_one, Int.mul_comm s (pw s a)] at k2
    omega
theorem dg_inv {s : Int} {q q' : Int → Int} (h1 : 1 ≤ s) (hq : OnS s q) (hi : ∀ x, 0 ≤ x → x < s → q' (q x) = x) : ∀ (a : Nat) (n : Int), 0 ≤ n → n < pw s a → dg s q' a (dg s q a n) = n
  | 0, n, h0, hn => by rw [pw] at hn; show (0 : Int) = n; omega
  | a + 1, n, h0, hn => by
    rw [pw] at hn
    obtain ⟨d0, d1, m0, m1⟩ := div_in h1 h0 hn
    obtain ⟨i0, i1⟩ := dg_range h1 hq a (n.tdiv s) d0 d1
    obtain ⟨q0, q1⟩ := hq _ m0 m1
    obtain ⟨_, s1, s2⟩ := dig_split h1 q0 q1 i0
    have e1 : dg s q (a + 1) n = q (n.tmod s) + s * dg s q a (n.tdiv s) := rfl
    have e2 : ∀ y, dg s q' (a + 1) y = q' (y.tmod s) + s * dg s q' a (y.tdiv s) := fun _ => rfl
    rw [e1, e2, s1, s2, dg_inv h1 hq hi a _ d0 d1, hi _ m0 m1]
    have := Int.tmod_add_mul_tdiv n s
    omega
theorem dg_step {s : Int} {q : Int → Int} (a : Nat) (at_ w rest : Int) : at_ + w * dg s q (a + 1) rest = (at_ + w * q (rest.tmod s)) + (w * s) * dg s q a (rest.tdiv s) := by
  rw [dg, Int.mul_add, ← Int.mul_assoc]; omega
def scat (g : Nat → Nat) (w : Nat → Int) : Nat → List Int → List Int
  | 0, cur => cur
  | k + 1, cur => (scat g w k cur).set (g k) (w k)
theorem scat_len (g : Nat → Nat) (w : Nat → Int) : ∀ (k : Nat) (cur : List Int), (scat g w k cur).length = cur.length
  | 0, _ => rfl
  | k + 1, cur => by rw [scat, List.length_set, scat_len g w k]
theorem scat_at {g : Nat → Nat} {w : Nat → Int} {cur : List Int} : ∀ (k : Nat), (∀ i j, i < k → j < k → g i = g j → i = j) → (∀ i, i < k → g i < cur.length) → ∀ j, j < k → (scat g w k cur)[g j]? = some (w j)
  | 0, _, _, j, h => by omega
  | k + 1, hi, hl, j, hj => by
    rw [scat]
    by_cases e : j = k
    · subst e
      rw [List.getElem?_set_self (by rw [scat_len]; exact hl j (by omega))]
    · have hne : g k ≠ g j := fun h => e (hi k j (by omega) hj h).symm
      rw [List.getElem?_set_ne hne]
      exact scat_at k (fun i j h1 h2 => hi i j (by omega) (by omega)) (fun i h => hl i (by omega)) j (by omega)
def pf (p : List Int) (x : Int) : Int := p.getD x.toNat 0
noncomputable def prmB (s : Int) (p : List Int) : Bool := dec ((p.length : Int) = s) && (List.range p.length).all fun i => dec ((i : Int) ∈ p)
theorem prm_on {s : Int} {p : List Int} (h3 : s ≤ 3) (h : prmB s p = true) : (p.length : Int) = s ∧ OnS s (pf p) ∧ (∀ x, 0 ≤ x → x < s → x ∈ p) ∧ p.Nodup := by
  unfold prmB at h
  rw [Bool.and_eq_true, dec_iff, List.all_eq_true] at h
  obtain ⟨hl, hm⟩ := h
  have hm : ∀ i, i < p.length → ((i : Nat) : Int) ∈ p := fun i hi => dec_iff.1 (hm i (List.mem_range.2 hi))
  have key : (∀ x, 0 ≤ x → x < s → x ∈ p) := fun x h0 hx => by
    have := hm x.toNat (by omega)
    rwa [show ((x.toNat : Nat) : Int) = x by omega] at this
  refine ⟨hl, ?_, key, ?_⟩
  · intro x h0 hx
    unfold pf
    match p, hl, hm with
    | [], hl, _ => simp only [List.length_nil] at hl; omega
    | [a], hl, hm =>
      have a0 := hm 0 (by simp)
      simp only [List.length_cons, List.length_nil] at hl
      simp at a0
      obtain rfl : x = 0 := by omega
      simp; omega
    | [a, b], hl, hm =>
      have a0 := hm 0 (by simp)
      have a1 := hm 1 (by simp)
      simp only [List.length_cons, List.length_nil] at hl
      simp at a0 a1
      rcases (show x = 0 ∨ x = 1 by omega) with rfl | rfl <;> simp <;> omega
    | [a, b, c], hl, hm =>
      have a0 := hm 0 (by simp)
      have a1 := hm 1 (by simp)
      have a2 := hm 2 (by simp)
      simp only [List.length_cons, List.length_nil] at hl
      simp at a0 a1 a2
      rcases (show x = 0 ∨ x = 1 ∨ x = 2 by omega) with rfl | rfl | rfl <;> simp <;> omega
    | a :: b :: c :: d :: r, hl, _ => simp only [List.length_cons] at hl; omega
  · match p, hl, hm with
    | [], hl, _ => simp
    | [a], hl, hm => simp
    | [a, b], hl, hm =>
      have a0 := hm 0 (by simp)
      have a1 := hm 1 (by simp)
      simp at a0 a1
      simp; omega
    | [a, b, c], hl, hm =>
      have a0 := hm 0 (by simp)
      have a1 := hm 1 (by simp)
      have a2 := hm 2 (by simp)
      simp at a0 a1 a2
      simp; omega
    | a :: b :: c :: d :: r, hl, _ => simp only [List.length_cons] at hl; omega
theorem prm_of {s : Int} {p : List Int} (h1 : 1 ≤ s) (h3 : s ≤ 3) (hl : (p.length : Int) = s) (hr : ∀ x ∈ p, 0 ≤ x ∧ x < s) (hn : p.Nodup) : prmB s p = true := by
  unfold prmB
  rw [Bool.and_eq_true, dec_iff, List.all_eq_true]
  refine ⟨hl, fun i hi => dec_iff.2 ?_⟩
  rw [List.mem_range] at hi
  match p, hl with
  | [], hl => simp at hi
  | [a], hl =>
    simp only [List.length_cons, List.length_nil] at hl hi
    have := hr a (by simp)
    simp; omega
  | [a, b], hl =>
    simp only [List.length_cons, List.length_nil] at hl hi
    have := hr a (by simp); have := hr b (by simp)
    simp at hn
    simp; omega
  | [a, b, c], hl =>
    simp only [List.length_cons, List.length_nil] at hl hi
    have := hr a (by simp); have := hr b (by simp); have := hr c (by simp)
    simp at hn
    simp; omega
  | a :: b :: c :: d :: r, hl => simp only [List.length_cons] at hl; omega
def backL (p : List Int) (k : Nat) : List Int := scat (fun j => (p.getD j 0).toNat) (fun j => (j : Int)) k (List.replicate p.length 0)
theorem backL_len (p : List Int) (k : Nat) : (backL p k).length = p.length := by unfold backL; rw [scat_len, List.length_replicate]
theorem getD_p {p : List Int} {j : Nat} (h : j < p.length) : p.getD j 0 = p[j] := by
  rw [List.getD_eq_getElem?_getD, List.getElem?_eq_getElem h]; rfl
theorem nodup_get {p : List Int} (hn : p.Nodup) {i j : Nat} (hi : i < p.length) (hj : j < p.length) (h : p.getD i 0 = p.getD j 0) : i = j := by
  rw [getD_p hi, getD_p hj] at h
  have hp := List.pairwise_iff_getElem.1 hn
  rcases Nat.lt_trichotomy i j with hlt | rfl | hlt
  · exact absurd h (hp i j hi hj hlt)
  · rfl
  · exact absurd h.symm (hp j i hj hi hlt)
theorem back_pf {s : Int} {p : List Int} (h3 : s ≤ 3) (h : prmB s p = true) : (∀ x, 0 ≤ x → x < s → pf (backL p p.length) (pf p x) = x) ∧ (∀ x, 0 ≤ x → x < s → pf p (pf (backL p p.length) x) = x) ∧ OnS s (pf (backL p p.length)) := by
  obtain ⟨hl, ho, hm, hn⟩ := prm_on h3 h
  have key : ∀ j, j < p.length → (backL p p.length)[(p.getD j 0).toNat]? = some (j : Int) := by
    unfold backL
    refine scat_at p.length (fun i j hi hj e => nodup_get hn hi hj ?_) (fun i hi => ?_)
    · have r1 := ho i (by omega) (by omega)
      have r2 := ho j (by omega) (by omega)
      unfold pf at r1 r2
      rw [Int.toNat_natCast] at r1 r2
      omega
    · have r1 := ho i (by omega) (by omega)
      unfold pf at r1
      rw [Int.toNat_natCast] at r1
      rw [List.length_replicate]
      omega
  have h1 : ∀ x, 0 ≤ x → x < s → pf (backL p p.length) (pf p x) = x := fun x x0 xs => by
    have := key x.toNat (by omega)
    unfold pf
    rw [List.getD_eq_getElem?_getD, this]
    simp; omega
  have h2 : ∀ x, 0 ≤ x → x < s → pf p (pf (backL p p.length) x) = x ∧ 0 ≤ pf (backL p p.length) x ∧ pf (backL p p.length) x < s := fun x x0 xs => by
    obtain ⟨j, hj, e⟩ := List.getElem_of_mem (hm x x0 xs)
    have hx : pf p j = x := by unfold pf; rw [Int.toNat_natCast, getD_p hj, e]
    have := h1 j (by omega) (by omega)
    rw [hx] at this
    rw [this]
    exact ⟨hx, by omega, by omega⟩
  exact ⟨h1, fun x a b => (h2 x a b).1, fun x a b => (h2 x a b).2⟩
def newV (p : List Int) (t : Tl) (v : Int) : Int := bif t.pred then v else pf p v
def atV (s : Int) (p : List Int) (t : Tl) (k : Nat) : Int := newV p t (t.vals.getD (dg s (pf (backL p p.length)) t.arity.toNat k).toNat 0)
def Tl.rn (s : Int) (p : List Int) (t : Tl) : Tl := ⟨t.name, t.arity, t.pred, (List.range t.vals.length).map (atV s p t)⟩
def putV (s : Int) (p : List Int) (t : Tl) (k : Nat) : List Int := scat (fun n => (dg s (pf p) t.arity.toNat n).toNat) (fun n => newV p t (t.vals.getD n 0)) k t.vals
theorem putV_end {s : Int} {p : List Int} {t : Tl} (h1 : 1 ≤ s) (h3 : s ≤ 3) (h : prmB s p = true) (hl : (t.vals.length : Int) = pw s t.arity.toNat) : putV s p t t.vals.length = (t.rn s p).vals := by
  obtain ⟨hpl, ho, hm, hn⟩ := prm_on h3 h
  obtain ⟨b1, b2, b3⟩ := back_pf h3 h
  have hA : ∀ j, j < t.vals.length → (putV s p t t.vals.length)[(dg s (pf p) t.arity.toNat j).toNat]? = some (newV p t (t.vals.getD j 0)) := by
    unfold putV
    refine scat_at t.vals.length (fun i j hi hj e => ?_) (fun i hi => ?_)
    · have r1 := dg_range h1 ho t.arity.toNat i (by omega) (by omega)
      have r2 := dg_range h1 ho t.arity.toNat j (by omega) (by omega)
      have e2 : dg s (pf p) t.arity.toNat i = dg s (pf p) t.arity.toNat j := by omega
      have i1 := dg_inv h1 ho b1 t.arity.toNat i (by omega) (by omega)
      have i2 := dg_inv h1 ho b1 t.arity.toNat j (by omega) (by omega)
      rw [e2, i2] at i1
      omega
    · have r1 := dg_range h1 ho t.arity.toNat i (by omega) (by omega)
      omega
  have hlen : (putV s p t t.vals.length).length = t.vals.length := by unfold putV; rw [scat_len]
  show _ = (List.range t.vals.length).map (atV s p t)
  apply List.ext_getElem?
  intro k
  rcases Nat.lt_or_ge k t.vals.length with hk | hk
  · have r1 := dg_range h1 b3 t.arity.toNat k (by omega) (by omega)
    have i1 := dg_inv h1 b3 b2 t.arity.toNat k (by omega) (by omega)
    have := hA (dg s (pf (backL p p.length)) t.arity.toNat k).toNat (by omega)
    rw [show (((dg s (pf (backL p p.length)) t.arity.toNat k).toNat : Nat) : Int) = dg s (pf (backL p p.length)) t.arity.toNat k by omega, i1, Int.toNat_natCast] at this
    rw [this, List.getElem?_map, List.getElem?_range hk]
    rfl
  · rw [List.getElem?_eq_none (by omega), List.getElem?_eq_none (by simp; omega)]
noncomputable def rnOk (m : Ip) (p : List Int) : Bool := m.ok && prmB m.size p
def Ip.rn (m : Ip) (p : List Int) : Ip := ⟨m.size, m.tables.map (Tl.rn m.size p)⟩
noncomputable def rnTo (m : Ip) (p : List Int) : Ip := bif rnOk m p then m.rn p else ⟨0, []⟩
theorem strLt_ne {a b : ByteArray} (h : strLt a b = true) : ¬ a = b := by rintro rfl; rw [strLt_self] at h; cases h
abbrev Env := ByteArray → Option Int
noncomputable def tabF (ts : List Tl) (n : ByteArray) (k : Int) (p : Bool) : Option Tl := ts.find? fun t => dec (t.name = n) && (dec (t.arity = k) && (t.pred == p))
noncomputable def readT (ts : List Tl) (n : ByteArray) (k : Int) (p : Bool) (at_ : Option Int) : Option Int :=
  match tabF ts n k p, at_ with
  | some t, some i => some (t.vals.getD i.toNat 0)
  | _, _ => none
mutual
noncomputable def Tm.val (m : Ip) (e : Env) : Tm → Option Int
  | .mk n args => bif varB n then e n else readT m.tables n args.length false (Tm.valS m e args 0)
noncomputable def Tm.valS (m : Ip) (e : Env) : List Tm → Int → Option Int
  | [], i => some i
  | x :: xs, i => match Tm.val m e x with
    | some v => Tm.valS m e xs (i * m.size + v)
    | none => none
end
def finQ (res : RM) (n0 : Nat) (rs : List RX) (Q : SV × List Ob → Prop) (x : X) (st : St) : Prop := ∃ out, finK res n0 rs out x st ∧ Q out
theorem exq {α : Type} {a : α} {Q : α → Prop} : (∃ out, some a = some out ∧ Q out) = Q a := propext ⟨fun ⟨o, h, q⟩ => by obtain rfl := Option.some.inj h; exact q, fun q => ⟨a, rfl, q⟩⟩
theorem finQ_r {res : RM} {n0 : Nat} {rs : List RX} {Q : SV × List Ob → Prop} {sl : List SV} {ob : List Ob} : finQ res n0 rs Q .ret ⟨sl, ob⟩ = ∃ out, resF1 res n0 ob (resV ⟨sl, ob⟩ rs) = some out ∧ Q out := rfl
theorem finQ_n {res : RM} {n0 : Nat} {rs : List RX} {Q : SV × List Ob → Prop} {sl : List SV} {ob : List Ob} : finQ res n0 rs Q .normal ⟨sl, ob⟩ = ∃ out, resF1 res n0 ob (resV ⟨sl, ob⟩ rs) = some out ∧ Q out := rfl
attribute [go_sem] finQ_r finQ_n exq
theorem map_snoc {α β : Type} (f : α → β) {xs : List α} {k : Nat} (h : k < xs.length) : (xs.take k).map f ++ [f xs[k]] = (xs.take (k + 1)).map f := by
  rw [List.take_succ_eq_append_getElem h, List.map_append]; rfl
end Go.Proofs.Ytolhlpglgheldaa
