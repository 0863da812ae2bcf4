/-
  This text holds, one behind the other: This text runs code by functions, with loops and calls to the end, and says that what it tells is true of the program. No condition.
  This text takes what functions tell to the limit: no bound on rounds and depth is left, and a function's answer is its code's. No condition.
  This text says how tables lie in memory, and holds small laws of sizes. No condition.
  This text says how the records of the laws lie in memory. No condition.
  This text turns contracts of the kit's form into contracts by shadows, and holds small laws of lists. No condition.
  This text proves what the laws' text of a mark is. Condition: the number is from 1 to 2^40.
  This text proves what the functions on names compute: variables, symbols, bytes. Condition: a name has at most the greatest length.
  This text proves what the functions on symbols compute, the program's and the reference's. Condition: a name has at most the greatest length.
  This text proves what the reference's functions on names compute. Condition: a name has at most the greatest length.
  This text lays a contract of the library at the seat: which functions and types of the program are those that it speaks of. No condition.
  This text tells what the library's slices.Clone answers, at names and at numbers: a row of the call's own. No condition.
  This text holds what the sorts of rows have in common: a row whose elements are put in another order; the order of bytes. No condition.
  This text lays a contract of the library at the seat: which functions and types of the program are those that it speaks of. No condition.
  This text tells what sorting a row of strings of the call's own does. No condition.
  This text lays a contract of the library at the seat: which functions and types of the program are those that it speaks of. No condition.
  This text tells the engine what strconv.Itoa answers: the decimal numeral. No condition.
  This text gives, for the seat's program, the steps by which code is run as a function, and the rule for loops. No condition.
  This text says how the records lie in memory of the call's own. No condition.
  This text holds small laws for runs of code as functions. No condition.
  This text holds plain laws of maps: filling them entry by entry, their entries in some order. No condition.
  This text holds plain laws of terms: sizes, depths, names, validity. No condition.
  This text holds the plain laws of applying a substitution to a term. No condition.
  This text holds plain laws of renaming variables: maps from names to names, fresh names. No condition.
  This text holds plain laws of numerals: no two numbers have the same; numbered names, the next one that is not taken. No condition.
  This text tells what the functions of terms answer in both packages: sizes, depths. No condition.
  This text tells what the functions of terms answer in both packages: depths, names. No condition.
  This text tells what the functions of terms answer in both packages: names, validity. No condition.
-/
import Derived.Test.YtihclcmgbkkhfaaGreatDoorK36a
import Derived.Test.YtihclcmgbkkhfaaGreatDoorK36b
import Derived.Laws.IdiomStrings
import Derived.Shelf.Lays2
import Derived.Test.YtihclcmgbkkhfaaGreatDoorChecked
import Derived.Shelf.Slices.Clone
import Derived.Shelf.Sort.Plain
import Derived.Sort.EncStr
import Derived.Shelf.Lays
import Derived.Shelf.Slices.In.SortNone
import Derived.Shelf.LaysM
import Derived.Shelf.Strconv.Itoa3
open Nat renaming reduceAdd → zA, reduceSub → zB, reduceLT → zC, reduceLeDiff → zD, reduceEqDiff → zE, reduceBEq → zF, reduceBneDiff → zG, reduceMul → zH
open Int renaming reduceToNat → zI, reduceNeg → zJ, reduceAdd → zK
set_option maxRecDepth 100000
set_option linter.unusedSimpArgs false
set_option linter.unusedVariables false
namespace Go.Proofs.YtihclcmgbkkhfaaGreatDoor
open Go.RowKit
def keepS (m : List Nat) : List Nat → List SV → List SV
  | [], [] => []
  | _ :: _, [] => []
  | [], _ :: xs => .any :: keepS m [] xs
  | 0 :: ks, _ :: xs => .any :: keepS m ks xs
  | (_ + 1) :: ks, x :: xs => (match x.back m with | some y => y | none => .any) :: keepS m ks xs
def keepRefs : List Nat → List SV → List Nat
  | (_ + 1) :: ks, x :: xs => x.refs ++ keepRefs ks xs
  | 0 :: ks, _ :: xs => keepRefs ks xs
  | _, _ => []
def setG : List Ob → Nat → Ob → List Ob
  | [], _, _ => []
  | _ :: r, 0, o => o :: r
  | x :: r, g + 1, o => x :: setG r g o
def plugH (live : List Nat) (ob : List Ob) (g : Nat) : Ob → List Ob
  | .tree es ((k, o, q) :: r) => bif memB q live || (q == g) then ob else match geto ob q with
    | .tree e2 [] => match es[k]? with
      | some l => bif decide (o < l.length) then setG (setG ob g (.tree (es.set k (l.set o (.ow e2))) r)) q .gone else ob
      | none => ob
    | _ => ob
  | _ => ob
def plugG (live : List Nat) : Nat → Nat → List Ob → List Ob
  | 0, _, ob => ob
  | n + 1, g, ob => plugG live n g (plugH live ob g (geto ob g))
def plugA (live : List Nat) : List Nat → List Ob → List Ob
  | [], ob => ob
  | g :: r, ob => plugA live r (match geto ob g with
    | .tree _ (_ :: _) => plugG live 8 g ob
    | _ => ob)
def canonO (n0 : Nat) (keep : List Nat) (sl : List SV) (ob : List Ob) : St :=
  ⟨keepS (names n0 ob (keepRefs keep sl)) keep sl, gcObs (names n0 ob (keepRefs keep sl)) ob (names n0 ob (keepRefs keep sl))⟩
def canon (n0 : Nat) (keep : List Nat) (st : St) : St := canonO n0 keep st.sl (plugA (keepRefs keep st.sl) (upTo st.ob.length) st.ob)
theorem geto_setG : ∀ {l : List Ob} {g j : Nat} {o : Ob}, geto (setG l g o) j = if j = g ∧ g < l.length then o else geto l j
  | [], g, j, o => by simp [setG, geto]
  | x :: r, 0, 0, o => by simp [setG, geto]
  | x :: r, 0, j + 1, o => by simp [setG, geto]
  | x :: r, g + 1, 0, o => by simp [setG, geto]
  | x :: r, g + 1, j + 1, o => by
    simp only [setG, geto, List.length_cons, Nat.add_lt_add_iff_right, Nat.add_right_cancel_iff]
    exact geto_setG
theorem Wf.plug {w : World} {I : Nat → Prop} {V : Nat → Option Value} {B : Nat → Nat → Prop} {ob ob' : Nat → Ob} (h : Wf w I V B ob) {g q k o : Nat} {es e2 : List (List OT)} {r : List (Nat × Nat × Nat)} {l : List OT} (hg : ob g = .tree es ((k, o, q) :: r)) (hq : ob q = .tree e2 []) (hne : q ≠ g) (hl : es[k]? = some l) (ho : o < l.length)
    (h1 : ob' g = .tree (es.set k (l.set o (.ow e2))) r) (h2 : ob' q = .gone) (h3 : ∀ j, j ≠ g → j ≠ q → ob' j = ob j) : Wf w I V (fun j x => if j = g then B g x ∨ B q x else B j x) ob' := by
  have lg : (ob g).live := by rw [hg]; trivial
  have lq : (ob q).live := by rw [hq]; trivial
  obtain ⟨val, hV, t, sz, hR, hH⟩ : ∃ val, V g = some val ∧ TreeR w I V (B g) es ((k, o, q) :: r) val := by
    obtain ⟨val, a, b⟩ := h.obj g lg
    rw [hg] at b; exact ⟨val, a, b⟩
  obtain ⟨val2, hV2, t2, sz2, hR2, _⟩ : ∃ val, V q = some val ∧ TreeR w I V (B q) e2 [] val := by
    obtain ⟨val, a, b⟩ := h.obj q lq
    rw [hq] at b; exact ⟨val, a, b⟩
  refine h.upd (w' := w) (fun j => j = g ∨ j = q) (Nat.le_refl _) (fun _ _ _ => rfl) (fun _ h => h) (VLe.refl _) (fun j hj => ?_) (fun b hb => .inl hb) h.ilt (fun j hj hlv => ?_) (fun j b hj hlv hb => ?_) (fun j b hj hlv hb hI => ?_) (fun j j' b hj hj' hlv hlv' _ _ => ?_) (fun j hj hf => ?_)
  · have a : ¬ j = g := fun e => hj (.inl e)
    have b : ¬ j = q := fun e => hj (.inr e)
    exact ⟨h3 j a b, by funext x; simp only [if_neg a], fun hf => h.fr j hf⟩
  · rcases hj with rfl | rfl
    · refine ⟨val, hV, ?_⟩
      rw [h1]
      obtain ⟨g1, g2, b2, c2, v2, e4, g3, g4, g5⟩ := hH (k, o, q) (by simp)
      obtain ⟨b, cap, v, S0, e1, e5, hb1, hb2, hc, _, hS, hnew⟩ := hR.leaf (l := l) (off := o) hl (.inr ho) ho
      subst e1
      have hbb : b2 = b := by rw [e4] at e5; simp at e5; exact e5.1
      subst hbb
      rw [hc] at g3
      obtain rfl := Option.some.inj g3
      rw [hV2] at g4
      obtain rfl := Option.some.inj g4
      refine ⟨t, l.length, (hnew (.ow e2) (B q) hR2.ot (fun x hx hx' => absurd (h.dO q j x lq lg hx hx') hne)).up fun x hx => ?_, fun p hp => ?_⟩
      · simp only [if_true]
        exact hx.imp (fun h => h.1) id
      · rw [List.length_set]
        exact hH p (by simp [hp])
    · rw [h2] at hlv; exact hlv.elim
  · rcases hj with rfl | rfl
    · simp only [if_true] at hb
      rcases hb with hb | hb
      · exact .inr ⟨j, .inl rfl, lg, hb⟩
      · exact .inr ⟨q, .inr rfl, lq, hb⟩
    · rw [h2] at hlv; exact hlv.elim
  · rcases hj with rfl | rfl
    · simp only [if_true] at hb
      rcases hb with hb | hb
      · exact h.dI j b lg hb hI
      · exact h.dI q b lq hb hI
    · rw [h2] at hlv; exact hlv.elim
  · rcases hj with rfl | rfl
    · rcases hj' with rfl | rfl
      · rfl
      · rw [h2] at hlv'; exact hlv'.elim
    · rw [h2] at hlv; exact hlv.elim
  · rcases hj with rfl | rfl
    · rw [h1] at hf; cases hf
    · rw [h2] at hf; cases hf
theorem plugH_weak {c : Ctx} {live : List Nat} {sl : List SV} {ob : List Ob} {g : Nat} : Weak c ⟨sl, ob⟩ ⟨sl, plugH live ob g (geto ob g)⟩ := by
  cases hgo : geto ob g with
  | free => exact Weak.refl_ _
  | gone => exact Weak.refl_ _
  | box t l => exact Weak.refl_ _
  | row t sz es => exact Weak.refl_ _
  | mp ks m => exact Weak.refl_ _
  | it ks m seen cur => exact Weak.refl_ _
  | tree es hs =>
    cases hs with
    | nil => exact Weak.refl_ _
    | cons h r =>
      obtain ⟨k, o, q⟩ := h
      simp only [plugH]
      cases hc : (memB q live || (q == g)) with
      | true => exact Weak.refl_ _
      | false =>
        simp only [cond_false]
        split
        · rename_i e2 hq
          split
          · rename_i l hl
            cases hd : decide (o < l.length) with
            | false => exact Weak.refl_ _
            | true =>
              have ho := of_decide_eq_true hd
              simp only [cond_true]
              have hne : q ≠ g := by
                rw [Bool.or_eq_false_iff] at hc
                simpa using hc.2
              have lt : ∀ j, (geto ob j).live → j < ob.length := fun j hj => by
                rcases Nat.lt_or_ge j ob.length with h | h
                · exact h
                · rw [geto_big _ _ h] at hj; exact hj.elim
              have hlg := lt g (by rw [hgo]; trivial)
              have hlq := lt q (by rw [hq]; trivial)
              have hsl : ∀ (l : List Ob) (j : Nat) (x : Ob), (setG l j x).length = l.length := by
                intro l
                induction l with
                | nil => intro j x; rfl
                | cons y r ih => intro j x; cases j <;> simp [setG, ih]
              have e1 : geto (setG (setG ob g (.tree (es.set k (l.set o (.ow e2))) r)) q .gone) g = .tree (es.set k (l.set o (.ow e2))) r := by
                rw [geto_setG, if_neg (fun h => hne h.1.symm), geto_setG, if_pos ⟨rfl, hlg⟩]
              have e2' : geto (setG (setG ob g (.tree (es.set k (l.set o (.ow e2))) r)) q .gone) q = .gone := by
                rw [geto_setG, if_pos ⟨rfl, by rw [hsl]; exact hlq⟩]
              have e3 : ∀ j, j ≠ g → j ≠ q → geto (setG (setG ob g (.tree (es.set k (l.set o (.ow e2))) r)) q .gone) j = geto ob j := fun j h1 h2 => by
                rw [geto_setG, if_neg (fun h => h2 h.1), geto_setG, if_neg (fun h => h1 h.1)]
              intro hlen
              refine ⟨hlen, fun a w hr => ?_⟩
              obtain ⟨I, V, B, hr⟩ := hr
              refine ⟨I, V, _, hr.fr, hr.i0, hr.i1, hr.v0, hr.wf.plug (es := es) (e2 := e2) (ob' := geto (setG (setG ob g (.tree (es.set k (l.set o (.ow e2))) r)) q .gone)) hgo hq hne hl ho e1 e2' e3, fun j b hj hb => ?_, hr.nd, hr.sz, hr.slots⟩
              have hj : (geto (setG (setG ob g (.tree (es.set k (l.set o (.ow e2))) r)) q .gone) j).live := hj
              by_cases hjg : j = g
              · subst hjg
                simp only [if_true] at hb
                rcases hb with hb | hb
                · exact hr.bh j b (by show (geto ob j).live; rw [hgo]; trivial) hb
                · exact hr.bh q b (by show (geto ob q).live; rw [hq]; trivial) hb
              · simp only [if_neg hjg] at hb
                by_cases hjq : j = q
                · subst hjq; rw [e2'] at hj; exact hj.elim
                · rw [e3 j hjg hjq] at hj
                  exact hr.bh j b hj hb
          · exact Weak.refl_ _
        · exact Weak.refl_ _
theorem plugG_weak {c : Ctx} {live : List Nat} {sl : List SV} {g : Nat} : ∀ {n : Nat} {ob : List Ob}, Weak c ⟨sl, ob⟩ ⟨sl, plugG live n g ob⟩
  | 0, ob => Weak.refl_ _
  | n + 1, ob => Weak.trans plugH_weak plugG_weak
theorem plugA_weak {c : Ctx} {live : List Nat} {sl : List SV} : ∀ {gs : List Nat} {ob : List Ob}, Weak c ⟨sl, ob⟩ ⟨sl, plugA live gs ob⟩
  | [], ob => Weak.refl_ _
  | g :: r, ob => by
    have h1 : Weak c ⟨sl, ob⟩ ⟨sl, match geto ob g with
      | .tree _ (_ :: _) => plugG live 8 g ob
      | _ => ob⟩ := by
      split
      · exact plugG_weak
      · exact Weak.refl_ _
    exact Weak.trans h1 (plugA_weak (gs := r))
theorem keepS_le {m : List Nat} {p : Nat} : ∀ {ks : List Nat} {xs : List SV}, leL (sgp m p) (keepS m ks xs) xs
  | [], [] => trivial
  | _ :: _, [] => trivial
  | [], x :: xs => ⟨trivial, keepS_le (ks := []) (xs := xs)⟩
  | 0 :: ks, x :: xs => ⟨trivial, keepS_le (ks := ks) (xs := xs)⟩
  | (k + 1) :: ks, x :: xs => by
    refine ⟨?_, keepS_le (ks := ks) (xs := xs)⟩
    split
    · rename_i y h
      exact leV_of (SV.back_ren h)
    · trivial
theorem canon_weak {c : Ctx} {keep : List Nat} {st : St} : Weak c st (canon c.m keep st) := Weak.trans (plugA_weak (sl := st.sl) (ob := st.ob)) (weak_by _ (names_weak keepS_le))
def thenF (r : Option (X × St)) (k : St → Option (X × St)) : Option (X × St) :=
  match r with
  | some (.normal, st) => k st
  | some (.exit i, st) => some (.exit i, st)
  | some (.ret, st) => some (.ret, st)
  | none => none
def blockF (id : Nat) (r : Option (X × St)) : Option (X × St) :=
  match r with
  | some (.normal, st) => some (.normal, st)
  | some (.exit i, st) => if i = id then some (.normal, st) else some (.exit i, st)
  | some (.ret, st) => some (.ret, st)
  | none => none
structure MI where
  keepO : List Nat
  it : SX
  nx : Nat
  more : Nat
abbrev LoopF := Option MI → List Nat → (St → Option (X × St)) → St → Option (X × St)
noncomputable def fr (P : Program) (C : CallF) (L : LoopF) : SC → St → Option (X × St)
  | .skip, st => some (.normal, st)
  | .reg ops, st => match fSeq P C ops st with
    | some st' => some (.normal, st')
    | none => none
  | .dreg anc ops, st => match fOps P C ops [] st with
    | some (es, st') => bif obB anc [] (locs es) 0 then some (.normal, st') else none
    | none => none
  | .seq a b, st => thenF (fr P C L a st) (fr P C L b)
  | .cond q a b, st => match getX (gets st.sl) q with
    | .bool t => bif t then fr P C L a st else fr P C L b st
    | _ => none
  | .block id b, st => blockF id (fr P C L b st)
  | .loop keep b, st => L none keep (fr P C L b) st
  | .exit id, st => some (.exit id, st)
  | .ret, st => some (.ret, st)
  | .next _ _ _, _ => none
  | .mloop keep keepO it nx more b, st => L (some ⟨keepO, it, nx, more⟩) keep (fr P C L b) st
def loopN (n0 : Nat) (keep : List Nat) (step : St → Option (X × St)) : Nat → St → Option (X × St)
  | 0, _ => none
  | n + 1, st => thenF (step (canon n0 keep st)) (loopN n0 keep step n)
abbrev EL := List (MK × MV)
structure Enum (f : MF) (l : EL) : Prop where
  nd : (l.map (·.1)).Nodup
  mem : ∀ k x, (k, x) ∈ l ↔ f k = some x
noncomputable def sameOf {α β : Type} (p : α → Prop) (f : α → Option β) : Option β :=
  match Classical.propDecidable ((∃ a, p a) ∧ ∃ o, ∀ a, p a → f a = some o) with
  | .isTrue h => some (Classical.choose h.2)
  | .isFalse _ => none
theorem sameOf_iff {α β : Type} {p : α → Prop} {f : α → Option β} {o : β} : sameOf p f = some o ↔ (∃ a, p a) ∧ ∀ a, p a → f a = some o := by
  unfold sameOf
  split
  · rename_i h _
    have hs := Classical.choose_spec h.2
    constructor
    · intro e
      obtain rfl := Option.some.inj e
      exact ⟨h.1, hs⟩
    · rintro ⟨⟨a, ha⟩, h2⟩
      have := (hs a ha).symm.trans (h2 a ha)
      exact this
  · rename_i h _
    exact ⟨fun e => (by cases e), fun ⟨h1, h2⟩ => absurd ⟨h1, o, h2⟩ h⟩
def itOf (it : SX) (st : St) : Option (Nat × Bool × MF × List MK) :=
  match getX (gets st.sl) it with
  | .ptr g o => match geto st.ob g with
    | .it ks m seen _ => bif (o == 0) then some (g, ks, m, seen) else none
    | _ => none
  | _ => none
def endM : Option (X × St) → Option (X × St)
  | some (.normal, _) => none
  | some (.exit i, st) => some (.exit i, st)
  | some (.ret, st) => some (.ret, st)
  | none => none
noncomputable def mrun (n0 : Nat) (mi : MI) (keep : List Nat) (step : St → Option (X × St)) (f : MF) : EL → List MK → St → Option (X × St)
  | [], seen, st => match itOf mi.it (canon n0 keep st) with
    | some (_, _, f', seen') => bif dec (f' = f) && dec (seen' = seen) then endM (step (nextSt mi.nx mi.more (canon n0 keep st) false [])) else none
    | none => none
  | (k, x) :: l, seen, st => match itOf mi.it (canon n0 keep st) with
    | some (g, ks, f', seen') => bif dec (f' = f) && dec (seen' = seen) then thenF (step (nextSt mi.nx mi.more (canon n0 keep st) true [(g, .it ks f (k :: seen) (some (k, x)))])) (mrun n0 mi keep step f l (k :: seen)) else none
    | none => none
def outM (n0 : Nat) (keepO : List Nat) : Option (X × St) → Option (X × St)
  | some (x, st) => some (x, canon n0 keepO st)
  | none => none
noncomputable def loopM (n0 : Nat) (mi : MI) (keep : List Nat) (step : St → Option (X × St)) (st : St) : Option (X × St) :=
  match itOf mi.it (canon n0 keep st) with
  | some (_, _, f, []) => sameOf (Enum f) fun l => outM n0 mi.keepO (mrun n0 mi keep step f l [] st)
  | _ => none
noncomputable def loopNA (n0 : Nat) : Option MI → List Nat → (St → Option (X × St)) → Nat → St → Option (X × St)
  | none, keep, step, n, st => loopN n0 keep step n st
  | some mi, keep, step, _, st => loopM n0 mi keep step st
def likeC : SC → SC → Prop
  | .skip, .skip => True
  | .reg a, .reg b => a = b
  | .dreg x a, .dreg y b => x = y ∧ a = b
  | .seq a b, .seq a' b' => likeC a a' ∧ likeC b b'
  | .cond q a b, .cond q' a' b' => q = q' ∧ likeC a a' ∧ likeC b b'
  | .block i b, .block i' b' => i = i' ∧ likeC b b'
  | .loop _ b, .loop _ b' => likeC b b'
  | .exit i, .exit i' => i = i'
  | .ret, .ret => True
  | .next a b d, .next a' b' d' => a = a' ∧ b = b' ∧ d = d'
  | .next _ _ _, .mloop _ _ _ _ _ _ => True
  | .mloop _ _ it nx more b, .loop _ (.seq (.next it' nx' more') b') => it = it' ∧ nx = nx' ∧ more = more' ∧ likeC b b'
  | _, _ => False
section
variable {P : Program} {c : Ctx} {C : CallF}
def bodyM (mi : Option MI) (b : SC) : SC :=
  match mi with
  | none => b
  | some mi => .seq (.next mi.it mi.nx mi.more) b
def LoopTold (P : Program) (c : Ctx) (L : LoopF) : Prop := ∀ (mi : Option MI) (keep junk : List Nat) (step : St → Option (X × St)) (b : SC) (st : St) (out : X × St),
  (∀ st out, step st = some out → ∀ K : X → St → Prop, K out.1 out.2 → sw P c b K st) → L mi keep step st = some out → ∀ K : X → St → Prop, K out.1 out.2 → Run P c (.loop junk (bodyM mi b)) K st
theorem loopN_told (hm : P.follows .mixedOrders = true) (n : Nat) (keep junk : List Nat) (step : St → Option (X × St)) (b : SC) (st : St) (out : X × St) (hstep : ∀ st out, step st = some out → ∀ K : X → St → Prop, K out.1 out.2 → sw P c b K st) (h : loopN c.m keep step n st = some out) (K : X → St → Prop) (hK : K out.1 out.2) : Run P c (.loop junk b) K st := by
  let A := { p : Nat × St // thenF (step p.2) (loopN c.m keep step p.1) = some out }
  have start : ∀ n st, loopN c.m keep step n st = some out → ∃ a : A, a.1.2 = canon c.m keep st ∧ a.1.1 < n := fun n st h => by
    cases n with
    | zero => cases h
    | succ n => exact ⟨⟨(n, canon c.m keep st), h⟩, rfl, Nat.lt_succ_self n⟩
  obtain ⟨a0, ha0, _⟩ := start n st h
  refine run_loop (α := A) (fun a => a.1.2) (fun a => a.1.1) a0 (by show Weak c st a0.1.2; rw [ha0]; exact canon_weak) fun a => ?_
  obtain ⟨⟨m, s⟩, ha⟩ := a
  simp only at ha ⊢
  unfold thenF at ha
  split at ha
  · rename_i st' hs
    refine sw_run hm _ _ _ (hstep s _ hs _ ?_)
    obtain ⟨y, hy1, hy2⟩ := start m st' ha
    exact ⟨y, hy2, by show Weak c st' y.1.2; rw [hy1]; exact canon_weak⟩
  · rename_i i st' hs
    obtain rfl := Option.some.inj ha
    exact sw_run hm _ _ _ (hstep s _ hs _ hK)
  · rename_i st' hs
    obtain rfl := Option.some.inj ha
    exact sw_run hm _ _ _ (hstep s _ hs _ hK)
  · cases ha
theorem Run.weakR {sc : SC} {K : X → St → Prop} {st : St} (h : Run P c sc (fun x s => ∃ s', Weak c s s' ∧ K x s') st) : Run P c sc K st := by
  intro code hc a w Q hl hr hq
  refine h code hc a w Q hl hr fun x s a' w' hk hl' hr' => ?_
  obtain ⟨s', hw, hk⟩ := hk
  obtain ⟨h1, h2⟩ := hw hl'
  exact hq x s' a' w' hk h1 (h2 a' w' hr')
theorem itOf_spec {it : SX} {st : St} {g : Nat} {ks : Bool} {f : MF} {seen : List MK} (h : itOf it st = some (g, ks, f, seen)) : getX (gets st.sl) it = .ptr g 0 ∧ ∃ cur, geto st.ob g = .it ks f seen cur := by
  unfold itOf at h
  split at h
  · rename_i g' o hg
    split at h
    · rename_i ks' m' seen' cur hob
      obtain ⟨h1, h2⟩ := bif_some h
      simp only [Option.some.injEq, Prod.mk.injEq] at h2
      obtain ⟨rfl, rfl, rfl, rfl⟩ := h2
      have : o = 0 := by simpa using h1
      subst this
      exact ⟨hg, cur, hob⟩
    · cases h
  · cases h
theorem endM_some {r : Option (X × St)} {o : X × St} (h : endM r = some o) : r = some o ∧ o.1 ≠ .normal := by
  unfold endM at h
  split at h
  · cases h
  · obtain rfl := Option.some.inj h; exact ⟨rfl, fun e => by cases e⟩
  · obtain rfl := Option.some.inj h; exact ⟨rfl, fun e => by cases e⟩
  · cases h
theorem outM_some {n0 : Nat} {keepO : List Nat} {r : Option (X × St)} {o : X × St} (h : outM n0 keepO r = some o) : ∃ st, r = some (o.1, st) ∧ o.2 = canon n0 keepO st := by
  unfold outM at h
  split at h
  · obtain rfl := Option.some.inj h; exact ⟨_, rfl, rfl⟩
  · cases h
theorem filter_lt {α : Type} {p q : α → Bool} : ∀ {l : List α} {a : α}, (∀ x, q x = true → p x = true) → a ∈ l → p a = true → q a = false → (l.filter q).length < (l.filter p).length
  | [], a, _, ha, _, _ => by cases ha
  | x :: l, a, hpq, ha, hp, hq => by
    have mono : ∀ l : List α, (l.filter q).length ≤ (l.filter p).length := by
      intro l
      induction l with
      | nil => exact Nat.le_refl _
      | cons y l ih =>
        rw [List.filter_cons, List.filter_cons]
        cases hy : q y with
        | true => rw [hpq y hy]; simpa using ih
        | false =>
          cases p y with
          | true => simp only [if_true, List.length_cons]; simp; omega
          | false => simpa using ih
    rw [List.filter_cons, List.filter_cons]
    rcases List.mem_cons.1 ha with rfl | ha
    · rw [hp, hq]
      have := mono l
      simp; omega
    · have ih := filter_lt hpq ha hp hq
      cases hx : q x with
      | true => rw [hpq x hx]; simpa using ih
      | false =>
        cases p x with
        | true => simp; omega
        | false => simpa using ih
theorem loopM_told (hm : P.follows .mixedOrders = true) (mi : MI) (keep junk : List Nat) (step : St → Option (X × St)) (b : SC) (st : St) (out : X × St) (hstep : ∀ st out, step st = some out → ∀ K : X → St → Prop, K out.1 out.2 → sw P c b K st) (h : loopM c.m mi keep step st = some out) (K : X → St → Prop) (hK : K out.1 out.2) : Run P c (.loop junk (.seq (.next mi.it mi.nx mi.more) b)) K st := by
  unfold loopM at h
  split at h
  · rename_i g0 ks0 f hit
    obtain ⟨⟨L0, hL0⟩, hall⟩ := sameOf_iff.1 h
    let G : EL → St → Prop := fun l s => (l.map (·.1)).Nodup ∧ (∀ e, e ∈ l → f e.1 = some e.2) ∧ ∀ rest, Enum f (l ++ rest) → outM c.m mi.keepO (mrun c.m mi keep step f rest (l.map (·.1)).reverse s) = some out
    have more : ∀ l : EL, (l.map (·.1)).Nodup → (∀ e, e ∈ l → f e.1 = some e.2) → ∃ rest, Enum f (l ++ rest) := fun l h1 h2 => by
      refine ⟨L0.filter fun e => !dec (e.1 ∈ l.map (·.1)), ?_, fun k x => ?_⟩
      · rw [List.map_append, List.nodup_append]
        refine ⟨h1, (List.filter_sublist.map _).nodup hL0.nd, fun a ha b hb e => ?_⟩
        obtain ⟨q, hq, rfl⟩ := List.mem_map.1 hb
        rw [List.mem_filter, Bool.not_eq_true', dec_not] at hq
        subst e
        exact hq.2 ha
      · rw [List.mem_append, List.mem_filter, Bool.not_eq_true', dec_not]
        constructor
        · rintro (h3 | h3)
          · exact h2 _ h3
          · exact (hL0.mem k x).1 h3.1
        · intro h3
          by_cases h4 : k ∈ l.map (·.1)
          · obtain ⟨⟨k', x'⟩, h5, rfl⟩ := List.mem_map.1 h4
            have h6 := h2 _ h5
            have h6 : f k' = some x' := h6
            rw [h3] at h6
            obtain rfl := Option.some.inj h6
            exact .inl h5
          · exact .inr ⟨(hL0.mem k x).2 h3, h4⟩
    have hG0 : G [] st := ⟨List.nodup_nil, fun e he => (by cases he), fun rest hr => hall rest (by simpa using hr)⟩
    let A := { q : EL × St // G q.1 q.2 }
    let μ : A → Nat := fun q => (L0.filter fun e => !dec (e.1 ∈ q.1.1.map (·.1))).length
    refine Run.weakR (run_loop (α := A) (fun q => canon c.m keep q.1.2) μ ⟨([], st), hG0⟩ canon_weak fun q => ?_)
    obtain ⟨⟨l, s⟩, hG⟩ := q
    obtain ⟨g1, g2, g3⟩ := hG
    refine sw_run hm _ _ _ ?_
    obtain ⟨r0, hr0⟩ := more l g1 g2
    have hitl : ∃ g ks, itOf mi.it (canon c.m keep s) = some (g, ks, f, (l.map (·.1)).reverse) := by
      obtain ⟨st1, h1, _⟩ := outM_some (g3 r0 hr0)
      have key : ∀ rest, ∀ o, mrun c.m mi keep step f rest (l.map (·.1)).reverse s = some o → ∃ g ks, itOf mi.it (canon c.m keep s) = some (g, ks, f, (l.map (·.1)).reverse) := fun rest o ho => by
        cases rest with
        | nil =>
          unfold mrun at ho
          split at ho
          · rename_i g ks f' seen' he
            obtain ⟨h2, _⟩ := bif_some ho
            rw [Bool.and_eq_true, dec_iff, dec_iff] at h2
            obtain ⟨rfl, rfl⟩ := h2
            exact ⟨g, ks, he⟩
          · cases ho
        | cons e rest =>
          obtain ⟨k, x⟩ := e
          unfold mrun at ho
          split at ho
          · rename_i g ks f' seen' he
            obtain ⟨h2, _⟩ := bif_some ho
            rw [Bool.and_eq_true, dec_iff, dec_iff] at h2
            obtain ⟨rfl, rfl⟩ := h2
            exact ⟨g, ks, he⟩
          · cases ho
      exact key r0 _ h1
    obtain ⟨g, ks, hitl⟩ := hitl
    obtain ⟨e1, cur, e2⟩ := itOf_spec hitl
    simp only [sw]
    rw [e1]
    simp only
    rw [e2]
    simp only
    refine ⟨trivial, fun hend => ?_, fun k x hk hn => ?_⟩
    ·
      have hE : Enum f (l ++ []) := by
        rw [List.append_nil]
        refine ⟨g1, fun k x => ⟨fun hm => g2 _ hm, fun hk => ?_⟩⟩
        have := hend k x hk
        rw [List.mem_reverse] at this
        obtain ⟨⟨k', x'⟩, h5, rfl⟩ := List.mem_map.1 this
        have h6 : f k' = some x' := g2 _ h5
        rw [hk] at h6
        obtain rfl := Option.some.inj h6
        exact h5
      obtain ⟨st1, h1, h2⟩ := outM_some (g3 [] hE)
      unfold mrun at h1
      rw [hitl] at h1
      simp only [dec_t rfl, dec_t True.intro, Bool.and_self, cond_true] at h1
      obtain ⟨h3, h4⟩ := endM_some h1
      have hfin : ∃ s', Weak c st1 s' ∧ K out.1 s' := ⟨canon c.m mi.keepO st1, canon_weak, by rw [← h2]; exact hK⟩
      refine hstep _ (out.1, st1) h3 _ ?_
      dsimp only
      cases ho : out.1 with
      | normal => exact absurd ho h4
      | exit i => rw [ho] at hfin; exact hfin
      | ret => rw [ho] at hfin; exact hfin
    ·
      have hn' : k ∉ l.map (·.1) := fun hm => hn (List.mem_reverse.2 hm)
      have k1 : ((l ++ [(k, x)]).map (·.1)).Nodup := by
        rw [List.map_append, List.nodup_append]
        refine ⟨g1, by simp, fun a ha b hb e => ?_⟩
        simp only [List.map_cons, List.map_nil, List.mem_singleton] at hb
        subst hb e
        exact hn' ha
      have k2 : ∀ e, e ∈ l ++ [(k, x)] → f e.1 = some e.2 := fun e he => by
        rcases List.mem_append.1 he with he | he
        · exact g2 e he
        · rw [List.mem_singleton.1 he]; exact hk
      have hrev : ((l ++ [(k, x)]).map (·.1)).reverse = k :: (l.map (·.1)).reverse := by simp
      have one : ∀ rest, Enum f ((l ++ [(k, x)]) ++ rest) → outM c.m mi.keepO (thenF (step (nextSt mi.nx mi.more (canon c.m keep s) true [(g, .it ks f (k :: (l.map (·.1)).reverse) (some (k, x)))])) (mrun c.m mi keep step f rest (k :: (l.map (·.1)).reverse))) = some out := fun rest hr => by
        have h3 := g3 ((k, x) :: rest) (by rw [List.append_assoc] at hr; exact hr)
        rw [mrun] at h3
        rw [hitl] at h3
        simp only [dec_t rfl, dec_t True.intro, Bool.and_self, cond_true] at h3
        exact h3
      obtain ⟨r1, hr1⟩ := more _ k1 k2
      obtain ⟨st1, h1, h2⟩ := outM_some (one r1 hr1)
      cases hs : step (nextSt mi.nx mi.more (canon c.m keep s) true [(g, .it ks f (k :: (l.map (·.1)).reverse) (some (k, x)))]) with
      | none => rw [hs] at h1; cases h1
      | some o1 =>
        obtain ⟨x1, s1⟩ := o1
        rw [hs] at h1
        refine hstep _ _ hs _ ?_
        have hfin : some (x1, s1) = some (out.1, st1) → ∃ s', Weak c s1 s' ∧ K x1 s' := fun e => by
          simp only [Option.some.injEq, Prod.mk.injEq] at e
          obtain ⟨rfl, rfl⟩ := e
          exact ⟨canon c.m mi.keepO s1, canon_weak, by rw [← h2]; exact hK⟩
        cases x1 with
        | normal =>
          have hG' : G (l ++ [(k, x)]) s1 := ⟨k1, k2, fun rest hr => by
            have h3 := one rest hr
            rw [hs] at h3
            rw [hrev]
            exact h3⟩
          refine ⟨⟨(l ++ [(k, x)], s1), hG'⟩, ?_, canon_weak⟩
          refine filter_lt (a := (k, x)) (fun e he => ?_) ((hL0.mem k x).2 hk) (by rw [Bool.not_eq_true', dec_not]; exact hn') (by rw [Bool.not_eq_false', dec_iff]; simp)
          rw [Bool.not_eq_true', dec_not] at he ⊢
          exact fun hm => he (by simp only [List.map_append, List.mem_append]; exact .inl hm)
        | exit i => exact hfin h1
        | ret => exact hfin h1
  · cases h
theorem loopNA_told (hm : P.follows .mixedOrders = true) (n : Nat) : LoopTold P c fun mi keep step st => loopNA c.m mi keep step n st := by
  intro mi keep junk step b st out hstep h K hK
  cases mi with
  | none => exact loopN_told hm n keep junk step b st out hstep h K hK
  | some mi => exact loopM_told hm mi keep junk step b st out hstep h K hK
theorem fr_sw (hC : CallsTold P C) {L : LoopF} (hL : LoopTold P c L) : ∀ (sc' sc : SC) (st : St) (out : X × St), likeC sc' sc → fr P C L sc' st = some out → ∀ K : X → St → Prop, K out.1 out.2 → sw P c sc K st
  | .skip, sc, st, out, hl, h, K, hK => by
    cases sc <;> simp only [likeC] at hl
    obtain rfl := Option.some.inj h
    exact hK
  | .reg ops, sc, st, out, hl, h, K, hK => by
    cases sc <;> simp only [likeC] at hl
    subst hl
    simp only [fr] at h
    split at h
    · rename_i st' hs
      obtain rfl := Option.some.inj h
      exact fSeq_e hC hs hK
    · cases h
  | .dreg anc ops, sc, st, out, hl, h, K, hK => by
    cases sc <;> simp only [likeC] at hl
    obtain ⟨rfl, rfl⟩ := hl
    simp only [fr] at h
    split at h
    · rename_i es st' hs
      obtain ⟨h1, h2⟩ := bif_some h
      obtain rfl := Option.some.inj h2
      exact fOps_e hC hs ⟨h1, hK⟩
    · cases h
  | .seq a b, sc, st, out, hl, h, K, hK => by
    cases sc <;> simp only [likeC] at hl
    simp only [fr, thenF] at h
    split at h
    · rename_i st' hs
      exact fr_sw hC hL a _ st _ hl.1 hs _ (fr_sw hC hL b _ st' out hl.2 h K hK)
    · rename_i i st' hs
      obtain rfl := Option.some.inj h
      exact fr_sw hC hL a _ st _ hl.1 hs _ hK
    · rename_i st' hs
      obtain rfl := Option.some.inj h
      exact fr_sw hC hL a _ st _ hl.1 hs _ hK
    · cases h
  | .cond q a b, sc, st, out, hl, h, K, hK => by
    cases sc <;> simp only [likeC] at hl
    obtain ⟨rfl, h1, h2⟩ := hl
    simp only [fr] at h
    simp only [sw]
    split at h
    · rename_i t ht
      try simp only [ht]
      cases t with
      | true => exact ⟨fun _ => fr_sw hC hL a _ st out h1 h K hK, fun e => (by cases e)⟩
      | false => exact ⟨fun e => (by cases e), fun _ => fr_sw hC hL b _ st out h2 h K hK⟩
    · cases h
  | .block id b, sc, st, out, hl, h, K, hK => by
    cases sc <;> simp only [likeC] at hl
    obtain ⟨rfl, h1⟩ := hl
    simp only [fr, blockF] at h
    simp only [sw]
    split at h
    · rename_i st' hs
      obtain rfl := Option.some.inj h
      exact fr_sw hC hL b _ st _ h1 hs _ hK
    · rename_i i st' hs
      refine fr_sw hC hL b _ st _ h1 hs _ ?_
      by_cases hi : i = id
      · simp only [if_pos hi] at h ⊢
        obtain rfl := Option.some.inj h
        exact hK
      · simp only [if_neg hi] at h ⊢
        obtain rfl := Option.some.inj h
        exact hK
    · rename_i st' hs
      obtain rfl := Option.some.inj h
      exact fr_sw hC hL b _ st _ h1 hs _ hK
    · cases h
  | .loop keep b, sc, st, out, hl, h, K, hK => by
    cases sc <;> simp only [likeC] at hl
    simp only [fr] at h
    exact hL none keep _ _ _ st out (fun st out hs K hK => fr_sw hC hL b _ st out hl hs K hK) h K hK
  | .next _ _ _, sc, st, out, hl, h, K, hK => by cases h
  | .mloop keep keepO it nx more b, sc, st, out, hl, h, K, hK => by
    cases sc <;> (try simp only [likeC] at hl)
    case loop j b' =>
      cases b' <;> (try simp only [likeC] at hl)
      case seq x y =>
        cases x <;> (try simp only [likeC] at hl)
        case next it' nx' more' =>
          obtain ⟨rfl, rfl, rfl, hl⟩ := hl
          simp only [fr] at h
          exact hL (some ⟨keepO, it, nx, more⟩) keep j _ _ st out (fun st out hs K hK => fr_sw hC hL b _ st out hl hs K hK) h K hK
  | .exit id, sc, st, out, hl, h, K, hK => by
    cases sc <;> simp only [likeC] at hl
    subst hl
    obtain rfl := Option.some.inj h
    exact hK
  | .ret, sc, st, out, hl, h, K, hK => by
    cases sc <;> simp only [likeC] at hl
    obtain rfl := Option.some.inj h
    exact hK
end
def bitIn (k s : Nat) : Nat := s ||| (1 <<< k)
def bitOut (k s : Nat) : Nat := s ^^^ (s &&& (1 <<< k))
def SX.live (s : Nat) : SX → Nat
  | .t k => bitIn k s
  | .c _ => s
def SX.lives (s : Nat) : List SX → Nat
  | [] => s
  | x :: r => SX.lives (x.live s) r
def SX.liveO (s : Nat) : Option SX → Nat
  | some x => x.live s
  | none => s
def SOp.live (s : Nat) : SOp → Nat
  | .mv x => x.live s
  | .pick a b c => c.live (b.live (a.live s))
  | .alloc _ _ => s
  | .boxv _ _ x => x.live s
  | .build _ parts => SX.lives s (parts.map (·.2.2))
  | .mkrow _ _ _ _ parts => SX.lives s (parts.map (·.2))
  | .load _ _ x => x.live s
  | .store _ x v => v.live (x.live s)
  | .nilchk x => x.live s
  | .bin _ _ x y => y.live (x.live s)
  | .un _ x => x.live s
  | .conv _ x => x.live s
  | .mkfn _ caps => SX.lives s caps
  | .mkslice _ _ _ _ x => x.live s
  | .slice _ _ x lo hi => SX.liveO (SX.liveO (x.live s) lo) hi
  | .faddr _ x => x.live s
  | .field _ _ _ x => x.live s
  | .iaddr _ x i => i.live (x.live s)
  | .idx x i => i.live (x.live s)
  | .ext x _ => x.live s
  | .call _ args => SX.lives s args
  | .callv x args => SX.lives (x.live s) args
  | .len _ x => x.live s
  | .append _ _ _ _ x y => y.live (x.live s)
  | .minmax _ x y => y.live (x.live s)
  | .mkmap _ x => SX.liveO s x
  | .mset _ m k v => v.live (k.live (m.live s))
  | .mget _ _ _ _ m k => k.live (m.live s)
  | .mkit x => x.live s
  | .mcur x => x.live s
def SOper.live (o : SOper) (s : Nat) : Nat :=
  let s1 := match o.dst with | some d => bitOut d s | none => s
  let s2 := o.op.live s1
  match o.gd with | some (k, _) => bitIn k s2 | none => s2
def opsLive : List SOper → Nat → Nat
  | [], s => s
  | o :: r, s => o.live (opsLive r s)
def exLive : List (Nat × Nat) → Nat → Nat
  | [], _ => 0
  | (i, s) :: r, k => if i = k then s else exLive r k
def scLive (ex : List (Nat × Nat)) (ret : Nat) : SC → Nat → Nat
  | .skip, out => out
  | .reg ops, out => opsLive ops out
  | .dreg _ ops, out => opsLive ops out
  | .seq a b, out => scLive ex ret a (scLive ex ret b out)
  | .cond q a b, out => q.live (scLive ex ret a out ||| scLive ex ret b out)
  | .block id b, out => scLive ((id, out) :: ex) ret b out
  | .loop _ b, _ => scLive ex ret b (scLive ex ret b 0)
  | .exit id, _ => exLive ex id
  | .ret, _ => ret
  | .next it nx more, out => it.live (bitOut nx (bitOut more out))
  | .mloop _ _ _ _ _ b, out => scLive ex ret b out
def exAll : List (Nat × Nat) → Nat
  | [] => 0
  | (_, s) :: r => s ||| exAll r
def mask (nt s : Nat) : List Nat := (List.range nt).map fun k => (s >>> k) % 2
def ann (nt : Nat) (ex : List (Nat × Nat)) (ret : Nat) : SC → Nat → SC
  | .seq a b, out => .seq (ann nt ex ret a (scLive ex ret b out)) (ann nt ex ret b out)
  | .cond q a b, out => .cond q (ann nt ex ret a out) (ann nt ex ret b out)
  | .block id b, out => .block id (ann nt ((id, out) :: ex) ret b out)
  | .loop j (.seq (.next it nx more) b), out => .mloop (mask nt (scLive ex ret (.loop j (.seq (.next it nx more) b)) out)) (mask nt (ret ||| exAll ex)) it nx more (ann nt ex ret b (scLive ex ret (.loop j (.seq (.next it nx more) b)) out))
  | .loop j b, out => .loop (mask nt (scLive ex ret (.loop j b) out)) (ann nt ex ret b (scLive ex ret (.loop j b) out))
  | .mloop _ _ it nx more _, _ => .next it nx more
  | sc, _ => sc
theorem ann_like {nt : Nat} {ret : Nat} : ∀ (sc : SC) (ex : List (Nat × Nat)) (out : Nat), likeC (ann nt ex ret sc out) sc
  | .skip, _, _ => trivial
  | .reg _, _, _ => rfl
  | .dreg _ _, _, _ => ⟨rfl, rfl⟩
  | .seq a b, ex, out => ⟨ann_like a _ _, ann_like b _ _⟩
  | .cond q a b, ex, out => ⟨rfl, ann_like a _ _, ann_like b _ _⟩
  | .block id b, ex, out => ⟨rfl, ann_like b _ _⟩
  | .loop j b, ex, out => by
    cases b with
    | seq x y =>
      cases x with
      | next it nx more => exact ⟨rfl, rfl, rfl, ann_like y _ _⟩
      | skip => exact ann_like (.seq .skip y) _ _
      | reg o => exact ann_like (.seq (.reg o) y) _ _
      | dreg a o => exact ann_like (.seq (.dreg a o) y) _ _
      | seq u v => exact ann_like (.seq (.seq u v) y) _ _
      | cond q u v => exact ann_like (.seq (.cond q u v) y) _ _
      | block i u => exact ann_like (.seq (.block i u) y) _ _
      | loop j' u => exact ann_like (.seq (.loop j' u) y) _ _
      | exit i => exact ann_like (.seq (.exit i) y) _ _
      | ret => exact ann_like (.seq .ret y) _ _
      | mloop a b' d e g u => exact ann_like (.seq (.mloop a b' d e g u) y) _ _
    | skip => exact trivial
    | reg o => exact rfl
    | dreg a o => exact ⟨rfl, rfl⟩
    | cond q u v => exact ann_like (nt := nt) (ret := ret) (.cond q u v) ex _
    | block i u => exact ann_like (nt := nt) (ret := ret) (.block i u) ex _
    | loop j' u => exact ann_like (nt := nt) (ret := ret) (.loop j' u) ex _
    | exit i => exact rfl
    | ret => exact trivial
    | next a b' d => exact ⟨rfl, rfl, rfl⟩
    | mloop a b' d e g u => exact trivial
  | .next _ _ _, _, _ => ⟨rfl, rfl, rfl⟩
  | .mloop _ _ _ _ _ _, _, _ => trivial
  | .exit id, _, _ => rfl
  | .ret, _, _ => trivial
def rxLive : List RX → Nat → Nat
  | [], s => s
  | .tmp t :: r, s => bitIn t (rxLive r s)
  | .cell a _ _ :: r, s => bitIn a (rxLive r s)
structure FC where
  nt : Nat
  sc : SC
  rs : List RX
def codeOf (P : Program) (f : FuncId) : Option FC :=
  match P.funcs[f]? with
  | some fn => match fn.body with
    | some code => match trC P fn.ntmps code with
      | some sc => match allSome (fn.results.toList.map (resX P fn.ntmps)) with
        | some rs => some ⟨fn.ntmps, ann fn.ntmps [] (rxLive rs 0) sc (rxLive rs 0), rs⟩
        | none => none
      | none => none
    | none => none
  | none => none
def fin (res : RM) (n0 : Nat) (rs : List RX) (x : X) (st : St) : Option (SV × List Ob) :=
  match x with
  | .exit _ => none
  | _ => match resV st rs with
    | some r0 => match gc n0 r0 st.ob with
      | some (r, ob) => order res n0 r ob
      | none => none
    | none => none
def finF (res : RM) (n0 : Nat) (rs : List RX) : Option (X × St) → Option (SV × List Ob)
  | some (x, st) => fin res n0 rs x st
  | none => none
def valX (g : List SV → Option SV) (xs : List SV) (ob : List Ob) : Option (SV × List Ob) :=
  match ob with
  | [] => match g xs with
    | some r => some (r, [])
    | none => none
  | _ :: _ => none
theorem valX_told {P : Program} {g : List SV → Option SV} {f : FuncId} (h : ∀ {xs : List SV} {r : SV}, g xs = some r → Fun P f xs [] r []) {xs : List SV} {ob : List Ob} {r : SV} {ob' : List Ob} (hx : valX g xs ob = some (r, ob')) : Fun P f xs ob r ob' := by
  unfold valX at hx
  split at hx
  · split at hx
    · rename_i r1 h1
      simp only [Option.some.injEq, Prod.mk.injEq] at hx
      obtain ⟨rfl, rfl⟩ := hx
      exact h h1
    · cases hx
  · cases hx
def ExtTold (P : Program) (M : FuncId → FM) : Prop := ∀ f g xs ob r ob', (M f).ext = some g → g xs ob = some (r, ob') → Fun P f xs ob r ob'
def toTree : List Ob → List Ob
  | [] => []
  | .row _ _ es :: r => .tree es [] :: toTree r
  | .box t l :: r => .box t l :: toTree r
  | .tree es hs :: r => .tree es hs :: toTree r
  | .gone :: r => .gone :: toTree r
  | .mp ks m :: r => .mp ks m :: toTree r
  | .it ks m seen cur :: r => .it ks m seen cur :: toTree r
  | .free :: r => .free :: toTree r
theorem toTree_len : ∀ l, (toTree l).length = l.length
  | [] => rfl
  | o :: r => by cases o <;> simp [toTree, toTree_len r]
theorem toTree_get : ∀ (l : List Ob) (g : Nat), geto (toTree l) g = match geto l g with | .row _ _ es => .tree es [] | o => o
  | [], g => rfl
  | o :: r, 0 => by cases o <;> rfl
  | o :: r, g + 1 => by cases o <;> simp only [toTree, geto] <;> exact toTree_get r g
theorem toTree_live {l : List Ob} {g : Nat} : (geto (toTree l) g).live ↔ (geto l g).live := by
  rw [toTree_get]
  cases geto l g <;> exact Iff.rfl
theorem Fun.tree {P : Program} {f : FuncId} {args : List SV} {ob : List Ob} {r : SV} {ob' : List Ob} (h : Fun P f args (toTree ob) r ob') : Fun P f args ob r ob' := by
  intro w I V B vs hwf hvs
  have hwf' : Wf w I V B (geto (toTree ob)) := by
    refine ⟨hwf.ilt, fun g hl => ?_, fun g b hl hb => hwf.lt g b (toTree_live.1 hl) hb, fun g b hl hb => hwf.dI g b (toTree_live.1 hl) hb, fun g g' b hl hl' hb hb' => hwf.dO g g' b (toTree_live.1 hl) (toTree_live.1 hl') hb hb', fun g hf => ?_, hwf.gl⟩
    · obtain ⟨val, h1, h2⟩ := hwf.obj g (toTree_live.1 hl)
      refine ⟨val, h1, ?_⟩
      rw [toTree_get]
      cases hg : geto ob g <;> rw [hg] at h2 <;> first | exact h2 | exact ⟨_, _, h2, fun q hq => by cases hq⟩
    · refine hwf.fr g ?_
      rw [toTree_get] at hf
      cases hg : geto ob g <;> rw [hg] at hf <;> first | rfl | cases hf
  have hHB : ∀ b, HB B (toTree ob) b ↔ HB B ob b := fun b => ⟨fun ⟨g, hl, hb⟩ => ⟨g, toTree_live.1 hl, hb⟩, fun ⟨g, hl, hb⟩ => ⟨g, toTree_live.2 hl, hb⟩⟩
  refine (h w I V B vs hwf' hvs).mono ?_
  rintro e w' ⟨v, I', V', B', he, hr, hp⟩
  exact ⟨v, I', V', B', he, hr, ⟨⟨hp.fr.os, hp.fr.tape, hp.fr.output, hp.fr.size, fun b hb hn => hp.fr.block b hb fun h => hn ((hHB b).1 h)⟩, hp.i0, fun b hb => (hp.i1 b hb).imp id (fun h => h.imp id (hHB b).1), hp.v, hp.wf, fun g b hl hb => (hp.bh g b hl hb).imp (hHB b).1 id⟩⟩
def entry (b : Bool) (ob : List Ob) : List Ob := bif b then toTree ob else ob
theorem entry_len (b : Bool) (ob : List Ob) : (entry b ob).length = ob.length := by cases b <;> simp [entry, toTree_len]
theorem Fun.entry {P : Program} {f : FuncId} {args : List SV} {ob : List Ob} {r : SV} {ob' : List Ob} {b : Bool} (h : Fun P f args (entry b ob) r ob') : Fun P f args ob r ob' := by
  cases b with
  | true => exact h.tree
  | false => exact h
noncomputable def bodyF (P : Program) (M : FuncId → FM) (E : FEnv) (L : Nat → LoopF) : FEnv := fun f xs ob =>
  match (M f).ext with
  | some g => g xs ob
  | none => match codeOf P f with
    | some fc => bif decide (xs.length ≤ fc.nt) then finF (M f).res ob.length fc.rs (fr P (fCall M E) (L ob.length) fc.sc ⟨xs ++ anys (fc.nt - xs.length), entry (M f).tree ob⟩) else none
    | none => none
noncomputable def evN (P : Program) (M : FuncId → FM) : Nat → FEnv
  | 0 => fun _ _ _ => none
  | n + 1 => bodyF P M (evN P M n) fun n0 mi keep step st => loopNA n0 mi keep step n st
theorem body_told {P : Program} (hm : P.follows .mixedOrders = true) {M : FuncId → FM} (hX : ExtTold P M) {E : FEnv} (hE : EnvTold P E) {L : Nat → LoopF} (hL : ∀ c : Ctx, LoopTold P c (L c.m)) : EnvTold P (bodyF P M E L) := by
  intro f xs ob r ob' h
  unfold bodyF codeOf at h
  split at h
  · rename_i g hg
    exact hX f g xs _ _ _ hg h
  cases hf : P.funcs[f]? with
  | none => rw [hf] at h; cases h
  | some fn =>
    rw [hf] at h
    simp only at h
    cases hb : fn.body with
    | none => rw [hb] at h; cases h
    | some code =>
      rw [hb] at h
      simp only at h
      cases ht : trC P fn.ntmps code with
      | none => rw [ht] at h; cases h
      | some sc =>
        rw [ht] at h
        simp only at h
        cases hr : allSome (fn.results.toList.map (resX P fn.ntmps)) with
        | none => rw [hr] at h; cases h
        | some rs =>
          rw [hr] at h
          simp only at h
          obtain ⟨h1, h2⟩ := bif_some h
          have hn : xs.length ≤ fn.ntmps := of_decide_eq_true h1
          cases ho : fr P (fCall M E) (L ob.length) (ann fn.ntmps [] (rxLive rs 0) sc (rxLive rs 0)) ⟨xs ++ anys (fn.ntmps - xs.length), entry (M f).tree ob⟩ with
          | none => rw [ho] at h2; cases h2
          | some out =>
            rw [ho] at h2
            obtain ⟨x, st⟩ := out
            have h2 : fin (M f).res ob.length rs x st = some (r, ob') := h2
            unfold fin at h2
            have hx : x = .ret ∨ x = .normal := by
              cases x with
              | exit i => cases h2
              | normal => exact .inr rfl
              | ret => exact .inl rfl
            have h3 : (match resV st rs with
              | some r0 => match gc ob.length r0 st.ob with
                | some (r, ob2) => order (M f).res ob.length r ob2
                | none => none
              | none => none) = some (r, ob') := by
              rcases hx with rfl | rfl <;> exact h2
            clear h2
            split at h3
            · rename_i r0 hr0
              split at h3
              · rename_i r1 ob1 hg
                refine order_fun (Fun.entry (b := (M f).tree) (fun_of hf hb ht hr hn fun c hc1 hc2 => sw_run hm _ _ _ ?_)) h3
                refine fr_sw (fCall_told hE) (hL c) _ sc _ (x, st) (ann_like sc _ _) (by rw [hc2, entry_len]; exact ho) _ ?_
                rw [entry_len]
                exact ⟨hx, r0, _, hr0, gc_weak hg⟩
              · cases h3
            · cases h3
theorem evN_told {P : Program} (hm : P.follows .mixedOrders = true) {M : FuncId → FM} (hX : ExtTold P M) : ∀ n, EnvTold P (evN P M n)
  | 0 => fun f xs ob r ob' h => by cases h
  | n + 1 => body_told hm hX (evN_told hm hX n) fun c => loopNA_told hm n
def ELe (E E' : FEnv) : Prop := ∀ f xs ob r, E f xs ob = some r → E' f xs ob = some r
def CLe (C C' : CallF) : Prop := ∀ f xs ob r, C f xs ob = some r → C' f xs ob = some r
theorem callWith_mono {hd : List Bool} {E E' : FEnv} (h : ELe E E') {f : FuncId} {xs : List SV} {ob : List Ob} {sel : List Nat} {r : R3} (hr : callWith hd E f xs ob sel = some r) : callWith hd E' f xs ob sel = some r := by
  unfold callWith at hr ⊢
  split at hr
  · obtain ⟨h1, h2⟩ := bif_some hr
    rw [h1]
    split at h2
    · rename_i r0 fob' he
      rw [cond_true, h _ _ _ _ he]
      exact h2
    · cases h2
  · cases hr
theorem lateF_mono {m : RM} {a b : Option R3} (h : ∀ r, a = some r → b = some r) {r : R3} (hr : lateF m a = some r) : lateF m b = some r := by
  cases m with
  | asis => exact h r hr
  | frz => exact h r hr
  | own l => exact h r hr
  | late =>
    cases a with
    | none => cases hr
    | some q => rw [h q rfl]; exact hr
theorem fCall_mono {M : FuncId → FM} {E E' : FEnv} (h : ELe E E') : CLe (fCall M E) (fCall M E') := fun f xs ob r hr => lateF_mono (fun r hr => callWith_mono h hr) hr
section
variable {P : Program} {C C' : CallF}
theorem fOp_mono (h : CLe C C') {so : SOp} {sl : List SV} {ob : List Ob} {r : R3} (hr : fOp P C so sl ob = some r) : fOp P C' so sl ob = some r := by
  cases so
  case call f args => exact h _ _ _ _ hr
  case callv x args =>
    simp only [fOp] at hr ⊢
    split at hr
    · obtain ⟨h1, h2⟩ := bif_some hr
      rw [h1]
      exact h _ _ _ _ h2
    · cases hr
  all_goals exact hr
theorem fStep_mono (h : CLe C C') {o : SOper} {st : St} {r : Ent × St} (hr : fStep P C o st = some r) : fStep P C' o st = some r := by
  have one : ∀ r, appF o.dst st (fOp P C o.op st.sl st.ob) = some r → appF o.dst st (fOp P C' o.op st.sl st.ob) = some r := fun r hr => by
    cases he : fOp P C o.op st.sl st.ob with
    | none => rw [he] at hr; cases hr
    | some q => rw [fOp_mono h he]; rw [he] at hr; exact hr
  unfold fStep at hr ⊢
  split at hr
  · exact one _ hr
  · split at hr
    · cases hb : eqBo _ _ with
      | true => rw [hb] at hr; exact one _ hr
      | false => rw [hb] at hr; exact hr
    · exact hr
    · cases hr
theorem fSeq_mono (h : CLe C C') : ∀ {l : List SOper} {st st' : St}, fSeq P C l st = some st' → fSeq P C' l st = some st'
  | [], st, st', hr => hr
  | o :: r, st, st', hr => by
    simp only [fSeq] at hr ⊢
    split at hr
    · rename_i e st1 h1
      rw [fStep_mono h h1]
      exact fSeq_mono h hr
    · cases hr
theorem fOps_mono (h : CLe C C') : ∀ {l : List SOper} {acc : List Ent} {st : St} {r : List Ent × St}, fOps P C l acc st = some r → fOps P C' l acc st = some r
  | [], acc, st, r, hr => hr
  | o :: l, acc, st, r, hr => by
    simp only [fOps] at hr ⊢
    split at hr
    · rename_i e st1 h1
      rw [fStep_mono h h1]
      exact fOps_mono h hr
    · cases hr
def LLe (L L' : LoopF) : Prop := ∀ mi keep (step step' : St → Option (X × St)) st o, (∀ st o, step st = some o → step' st = some o) → L mi keep step st = some o → L' mi keep step' st = some o
theorem thenF_mono {r r' : Option (X × St)} {k k' : St → Option (X × St)} {o : X × St} (h1 : ∀ o, r = some o → r' = some o) (h2 : ∀ st o, k st = some o → k' st = some o) (h : thenF r k = some o) : thenF r' k' = some o := by
  unfold thenF at h
  split at h
  · rw [h1 _ rfl]; exact h2 _ _ h
  · rw [h1 _ rfl]; exact h
  · rw [h1 _ rfl]; exact h
  · cases h
theorem blockF_mono {id : Nat} {r r' : Option (X × St)} {o : X × St} (h1 : ∀ o, r = some o → r' = some o) (h : blockF id r = some o) : blockF id r' = some o := by
  cases r with
  | none => cases h
  | some q => rw [h1 _ rfl]; exact h
theorem fr_mono (h : CLe C C') {L L' : LoopF} (hL : LLe L L') : ∀ (sc : SC) (st : St) (o : X × St), fr P C L sc st = some o → fr P C' L' sc st = some o
  | .skip, st, o, hr => hr
  | .reg ops, st, o, hr => by
    simp only [fr] at hr ⊢
    split at hr
    · rename_i st' hs
      rw [fSeq_mono h hs]; exact hr
    · cases hr
  | .dreg anc ops, st, o, hr => by
    simp only [fr] at hr ⊢
    split at hr
    · rename_i es st' hs
      rw [fOps_mono h hs]; exact hr
    · cases hr
  | .seq a b, st, o, hr => thenF_mono (fun o => fr_mono h hL a st o) (fun st o => fr_mono h hL b st o) hr
  | .cond q a b, st, o, hr => by
    simp only [fr] at hr ⊢
    split at hr
    · rename_i t ht
      cases t with
      | true => exact fr_mono h hL a st o hr
      | false => exact fr_mono h hL b st o hr
    · cases hr
  | .block id b, st, o, hr => blockF_mono (fun o => fr_mono h hL b st o) hr
  | .loop keep b, st, o, hr => hL none keep _ _ st o (fun st o => fr_mono h hL b st o) hr
  | .next _ _ _, st, o, hr => by cases hr
  | .mloop keep keepO it nx more b, st, o, hr => hL (some ⟨keepO, it, nx, more⟩) keep _ _ st o (fun st o => fr_mono h hL b st o) hr
  | .exit id, st, o, hr => hr
  | .ret, st, o, hr => hr
end
theorem loopN_mono {n0 : Nat} {keep : List Nat} {step step' : St → Option (X × St)} (h : ∀ st o, step st = some o → step' st = some o) : ∀ {n m : Nat} {st : St} {o : X × St}, n ≤ m → loopN n0 keep step n st = some o → loopN n0 keep step' m st = some o
  | 0, m, st, o, _, hr => by cases hr
  | n + 1, 0, st, o, hn, hr => absurd hn (by omega)
  | n + 1, m + 1, st, o, hn, hr => thenF_mono (fun o ho => h _ o ho) (fun st o ho => loopN_mono h (by omega) ho) hr
theorem endM_mono {r r' : Option (X × St)} {o : X × St} (h : ∀ o, r = some o → r' = some o) (hr : endM r = some o) : endM r' = some o := by
  cases r with
  | none => cases hr
  | some q => rw [h q rfl]; exact hr
theorem outM_mono {n0 : Nat} {keepO : List Nat} {r r' : Option (X × St)} {o : X × St} (h : ∀ o, r = some o → r' = some o) (hr : outM n0 keepO r = some o) : outM n0 keepO r' = some o := by
  cases r with
  | none => cases hr
  | some q => rw [h q rfl]; exact hr
theorem mrun_mono {n0 : Nat} {mi : MI} {keep : List Nat} {step step' : St → Option (X × St)} {f : MF} (h : ∀ st o, step st = some o → step' st = some o) : ∀ {l : EL} {seen : List MK} {st : St} {o : X × St}, mrun n0 mi keep step f l seen st = some o → mrun n0 mi keep step' f l seen st = some o
  | [], seen, st, o, hr => by
    unfold mrun at hr ⊢
    split at hr
    · obtain ⟨h1, h2⟩ := bif_some hr
      rw [h1, cond_true]
      exact endM_mono (fun o => h _ o) h2
    · cases hr
  | (k, x) :: l, seen, st, o, hr => by
    unfold mrun at hr ⊢
    split at hr
    · obtain ⟨h1, h2⟩ := bif_some hr
      rw [h1, cond_true]
      exact thenF_mono (fun o => h _ o) (fun st o => mrun_mono h) h2
    · cases hr
theorem loopM_mono {n0 : Nat} {mi : MI} {keep : List Nat} {step step' : St → Option (X × St)} (h : ∀ st o, step st = some o → step' st = some o) {st : St} {o : X × St} (hr : loopM n0 mi keep step st = some o) : loopM n0 mi keep step' st = some o := by
  unfold loopM at hr ⊢
  split at hr
  · obtain ⟨h1, h2⟩ := sameOf_iff.1 hr
    exact sameOf_iff.2 ⟨h1, fun l hl => outM_mono (fun o => mrun_mono h) (h2 l hl)⟩
  · cases hr
theorem loopNA_mono {n0 : Nat} {mi : Option MI} {keep : List Nat} {step step' : St → Option (X × St)} (h : ∀ st o, step st = some o → step' st = some o) {n m : Nat} {st : St} {o : X × St} (hn : n ≤ m) (hr : loopNA n0 mi keep step n st = some o) : loopNA n0 mi keep step' m st = some o := by
  cases mi with
  | none => exact loopN_mono h hn hr
  | some mi => exact loopM_mono h hr
theorem finF_some {res : RM} {n0 : Nat} {rs : List RX} {r : Option (X × St)} {o : SV × List Ob} (h : finF res n0 rs r = some o) : ∃ q, r = some q ∧ fin res n0 rs q.1 q.2 = some o := by
  cases r with
  | none => cases h
  | some q => exact ⟨q, rfl, h⟩
theorem bodyF_mono {P : Program} {M : FuncId → FM} {E E' : FEnv} (h : ELe E E') {L L' : Nat → LoopF} (hL : ∀ n0, LLe (L n0) (L' n0)) : ELe (bodyF P M E L) (bodyF P M E' L') := by
  intro f xs ob r hr
  unfold bodyF at hr ⊢
  split at hr
  · exact hr
  split at hr
  · obtain ⟨h1, h2⟩ := bif_some hr
    rw [h1]
    obtain ⟨q, h3, h4⟩ := finF_some h2
    rw [cond_true, fr_mono (fCall_mono h) (hL _) _ _ _ h3]
    exact h4
  · cases hr
theorem evN_succ {P : Program} {M : FuncId → FM} : ∀ n, ELe (evN P M n) (evN P M (n + 1))
  | 0 => fun f xs ob r h => by cases h
  | n + 1 => bodyF_mono (evN_succ n) fun n0 mi keep step step' st o hs h => loopNA_mono hs (Nat.le_succ n) h
theorem evN_mono {P : Program} {M : FuncId → FM} {n m : Nat} (h : n ≤ m) : ELe (evN P M n) (evN P M m) := by
  induction h with
  | refl => exact fun f xs ob r h => h
  | step _ ih => exact fun f xs ob r h => evN_succ _ _ _ _ _ (ih f xs ob r h)
noncomputable def loopW (n0 : Nat) : List Nat → (St → Option (X × St)) → St → Option (X × St) := fun keep step st =>
  match Classical.propDecidable (∃ n o, loopN n0 keep step n st = some o) with
  | .isTrue h => loopN n0 keep step (Classical.choose h) st
  | .isFalse _ => none
theorem loopW_iff {n0 : Nat} {keep : List Nat} {step : St → Option (X × St)} {st : St} {o : X × St} : loopW n0 keep step st = some o ↔ ∃ n, loopN n0 keep step n st = some o := by
  unfold loopW
  split
  · rename_i h _
    constructor
    · intro e; exact ⟨_, e⟩
    · rintro ⟨n, hn⟩
      obtain ⟨o', ho'⟩ := Classical.choose_spec h
      have h1 := loopN_mono (fun _ _ h => h) (Nat.le_max_left n (Classical.choose h)) hn
      have h2 := loopN_mono (fun _ _ h => h) (Nat.le_max_right n (Classical.choose h)) ho'
      rw [h1] at h2
      rw [ho', ← h2]
  · rename_i h _
    exact ⟨fun e => (by cases e), fun ⟨n, hn⟩ => absurd ⟨n, o, hn⟩ h⟩
theorem loopW_eq {n0 : Nat} {keep : List Nat} {step : St → Option (X × St)} {st : St} : loopW n0 keep step st = thenF (step (canon n0 keep st)) (loopW n0 keep step) := by
  refine Option.ext fun o => ?_
  rw [loopW_iff]
  constructor
  · rintro ⟨n, hn⟩
    cases n with
    | zero => cases hn
    | succ n => exact thenF_mono (fun o h => h) (fun st o ho => loopW_iff.2 ⟨n, ho⟩) hn
  · intro h
    unfold thenF at h
    split at h
    · rename_i st' hs
      obtain ⟨n, hn⟩ := loopW_iff.1 h
      exact ⟨n + 1, by simp only [loopN, thenF, hs]; exact hn⟩
    · rename_i i st' hs
      exact ⟨1, by simp only [loopN, thenF, hs]; exact h⟩
    · rename_i st' hs
      exact ⟨1, by simp only [loopN, thenF, hs]; exact h⟩
    · cases h
noncomputable def loopWA (n0 : Nat) : LoopF := fun mi keep step st =>
  match mi with
  | none => loopW n0 keep step st
  | some mi => loopM n0 mi keep step st
theorem unif {α : Type} (A : List α) : ∀ (k : Nat) (Q : Nat → List α → Prop), (∀ n m l, n ≤ m → Q n l → Q m l) → (∀ l : List α, l.length = k → (∀ a, a ∈ l → a ∈ A) → ∃ n, Q n l) → ∃ n, ∀ l : List α, l.length = k → (∀ a, a ∈ l → a ∈ A) → Q n l
  | 0, Q, _, h => by
    obtain ⟨n, hn⟩ := h [] rfl (fun a ha => by cases ha)
    exact ⟨n, fun l hl _ => by rw [List.eq_nil_of_length_eq_zero hl]; exact hn⟩
  | k + 1, Q, hQ, h => by
    have one : ∀ a, a ∈ A → ∃ n, ∀ l : List α, l.length = k → (∀ b, b ∈ l → b ∈ A) → Q n (a :: l) := fun a ha =>
      unif A k (fun n l => Q n (a :: l)) (fun n m l hn hq => hQ n m _ hn hq) fun l hl hm => h (a :: l) (by simp [hl]) fun b hb => by
        rcases List.mem_cons.1 hb with rfl | hb
        · exact ha
        · exact hm b hb
    have many : ∀ B : List α, (∀ a, a ∈ B → a ∈ A) → ∃ n, ∀ a, a ∈ B → ∀ l : List α, l.length = k → (∀ b, b ∈ l → b ∈ A) → Q n (a :: l) := by
      intro B
      induction B with
      | nil => intro _; exact ⟨0, fun a ha => by cases ha⟩
      | cons a B ih =>
        intro hB
        obtain ⟨n1, h1⟩ := one a (hB a (by simp))
        obtain ⟨n2, h2⟩ := ih fun b hb => hB b (by simp [hb])
        refine ⟨max n1 n2, fun b hb l hl hm => ?_⟩
        rcases List.mem_cons.1 hb with rfl | hb
        · exact hQ _ _ _ (Nat.le_max_left _ _) (h1 l hl hm)
        · exact hQ _ _ _ (Nat.le_max_right _ _) (h2 b hb l hl hm)
    obtain ⟨n, hn⟩ := many A fun _ h => h
    refine ⟨n, fun l hl hm => ?_⟩
    cases l with
    | nil => cases hl
    | cons a l => exact hn a (hm a (by simp)) l (by simpa using hl) fun b hb => hm b (by simp [hb])
theorem nodup_le {α : Type} : ∀ {l A : List α}, l.Nodup → (∀ a, a ∈ l → a ∈ A) → l.length ≤ A.length
  | [], A, _, _ => Nat.zero_le _
  | a :: l, A, hn, hm => by
    classical
    obtain ⟨h1, h2⟩ := List.nodup_cons.1 hn
    have ha := hm a (by simp)
    have := nodup_le (l := l) (A := A.erase a) h2 fun b hb => by
      have hb' := hm b (by simp [hb])
      exact (List.mem_erase_of_ne (fun e => h1 (by rw [← e]; exact hb))).2 hb'
    rw [List.length_erase_of_mem ha] at this
    have hp : 0 < A.length := List.length_pos_of_mem ha
    simp only [List.length_cons]; omega
theorem Enum.nodup {f : MF} {l : EL} (h : Enum f l) : l.Nodup := List.Pairwise.of_map (fun x : MK × MV => x.1) (fun a b hab e => hab (by rw [e])) h.nd
theorem Enum.len {f : MF} {l l' : EL} (h : Enum f l) (h' : Enum f l') : l.length = l'.length :=
  Nat.le_antisymm (nodup_le h.nodup fun a ha => (h'.mem a.1 a.2).2 ((h.mem a.1 a.2).1 ha)) (nodup_le h'.nodup fun a ha => (h.mem a.1 a.2).2 ((h'.mem a.1 a.2).1 ha))
noncomputable def ev (P : Program) (M : FuncId → FM) : FEnv := fun f xs ob =>
  match Classical.propDecidable (∃ n o, evN P M n f xs ob = some o) with
  | .isTrue h => evN P M (Classical.choose h) f xs ob
  | .isFalse _ => none
section
variable {P : Program} {M : FuncId → FM}
theorem ev_iff {f : FuncId} {xs : List SV} {ob : List Ob} {o : SV × List Ob} : ev P M f xs ob = some o ↔ ∃ n, evN P M n f xs ob = some o := by
  unfold ev
  split
  · rename_i h _
    constructor
    · intro e; exact ⟨_, e⟩
    · rintro ⟨n, hn⟩
      obtain ⟨o', ho'⟩ := Classical.choose_spec h
      have h1 := evN_mono (Nat.le_max_left n (Classical.choose h)) _ _ _ _ hn
      have h2 := evN_mono (Nat.le_max_right n (Classical.choose h)) _ _ _ _ ho'
      rw [h1] at h2
      rw [ho', ← h2]
  · rename_i h _
    exact ⟨fun e => (by cases e), fun ⟨n, hn⟩ => absurd ⟨n, o, hn⟩ h⟩
theorem ev_told (hm : P.follows .mixedOrders = true) (hX : ExtTold P M) : EnvTold P (ev P M) := fun f xs ob r ob' h => by
  obtain ⟨n, hn⟩ := ev_iff.1 h
  exact evN_told hm hX n f xs ob r ob' hn
theorem ev_ge (n : Nat) : ELe (evN P M n) (ev P M) := fun f xs ob r h => ev_iff.2 ⟨n, h⟩
theorem callWith_cont {hd : List Bool} {f : FuncId} {xs : List SV} {ob : List Ob} {sel : List Nat} {r : R3} (h : callWith hd (ev P M) f xs ob sel = some r) : ∃ n, callWith hd (evN P M n) f xs ob sel = some r := by
  unfold callWith at h
  split at h
  · rename_i fob hfob
    obtain ⟨h1, h2⟩ := bif_some h
    split at h2
    · rename_i r0 fob' he
      obtain ⟨n, hn⟩ := ev_iff.1 he
      refine ⟨n, ?_⟩
      unfold callWith
      rw [hfob]
      simp only
      rw [h1, cond_true, hn]
      exact h2
    · cases h2
  · cases h
theorem fCall_cont {f : FuncId} {xs : List SV} {ob : List Ob} {r : R3} (h : fCall M (ev P M) f xs ob = some r) : ∃ n, fCall M (evN P M n) f xs ob = some r := by
  unfold fCall at h ⊢
  cases hq : callWith (M f).hand (ev P M) f xs ob (reach ob 64 (handRefs (M f).hand xs) []) with
  | none =>
    rw [hq] at h
    cases hm : (M f).res <;> rw [hm] at h <;> cases h
  | some q =>
    obtain ⟨n, hn⟩ := callWith_cont hq
    exact ⟨n, by rw [hn, ← hq]; exact h⟩
theorem fOp_cont {so : SOp} {sl : List SV} {ob : List Ob} {r : R3} (hr : fOp P (fCall M (ev P M)) so sl ob = some r) : ∃ n, fOp P (fCall M (evN P M n)) so sl ob = some r := by
  cases so
  case call f args => exact fCall_cont hr
  case callv x args =>
    simp only [fOp] at hr ⊢
    split at hr
    · obtain ⟨h1, h2⟩ := bif_some hr
      rw [h1]
      exact fCall_cont h2
    · cases hr
  all_goals exact ⟨0, hr⟩
theorem fStep_cont {o : SOper} {st : St} {r : Ent × St} (hr : fStep P (fCall M (ev P M)) o st = some r) : ∃ n, fStep P (fCall M (evN P M n)) o st = some r := by
  have one : ∀ r, appF o.dst st (fOp P (fCall M (ev P M)) o.op st.sl st.ob) = some r → ∃ n, appF o.dst st (fOp P (fCall M (evN P M n)) o.op st.sl st.ob) = some r := fun r hr => by
    cases he : fOp P (fCall M (ev P M)) o.op st.sl st.ob with
    | none => rw [he] at hr; cases hr
    | some q =>
      obtain ⟨n, hn⟩ := fOp_cont he
      exact ⟨n, by rw [hn]; rw [he] at hr; exact hr⟩
  unfold fStep at hr ⊢
  split at hr
  · exact one _ hr
  · split at hr
    · cases hb : eqBo _ _ with
      | true => rw [hb] at hr; exact one _ hr
      | false => rw [hb] at hr; exact ⟨0, hr⟩
    · exact ⟨0, hr⟩
    · cases hr
theorem fSeq_cont : ∀ {l : List SOper} {st st' : St}, fSeq P (fCall M (ev P M)) l st = some st' → ∃ n, fSeq P (fCall M (evN P M n)) l st = some st'
  | [], st, st', hr => ⟨0, hr⟩
  | o :: r, st, st', hr => by
    simp only [fSeq] at hr ⊢
    split at hr
    · rename_i e st1 h1
      obtain ⟨n1, g1⟩ := fStep_cont h1
      obtain ⟨n2, g2⟩ := fSeq_cont hr
      refine ⟨max n1 n2, ?_⟩
      rw [fStep_mono (fCall_mono (evN_mono (Nat.le_max_left n1 n2))) g1]
      exact fSeq_mono (fCall_mono (evN_mono (Nat.le_max_right n1 n2))) g2
    · cases hr
theorem fOps_cont : ∀ {l : List SOper} {acc : List Ent} {st : St} {r : List Ent × St}, fOps P (fCall M (ev P M)) l acc st = some r → ∃ n, fOps P (fCall M (evN P M n)) l acc st = some r
  | [], acc, st, r, hr => ⟨0, hr⟩
  | o :: l, acc, st, r, hr => by
    simp only [fOps] at hr ⊢
    split at hr
    · rename_i e st1 h1
      obtain ⟨n1, g1⟩ := fStep_cont h1
      obtain ⟨n2, g2⟩ := fOps_cont hr
      refine ⟨max n1 n2, ?_⟩
      rw [fStep_mono (fCall_mono (evN_mono (Nat.le_max_left n1 n2))) g1]
      exact fOps_mono (fCall_mono (evN_mono (Nat.le_max_right n1 n2))) g2
    · cases hr
noncomputable abbrev frN (P : Program) (M : FuncId → FM) (n0 n : Nat) : SC → St → Option (X × St) := fr P (fCall M (evN P M n)) fun mi keep step st => loopNA n0 mi keep step n st
theorem frN_mono {n0 n m : Nat} (h : n ≤ m) (sc : SC) (st : St) (o : X × St) (hr : frN P M n0 n sc st = some o) : frN P M n0 m sc st = some o :=
  fr_mono (L := fun mi keep step st => loopNA n0 mi keep step n st) (L' := fun mi keep step st => loopNA n0 mi keep step m st) (fCall_mono (evN_mono h)) (fun mi keep step step' st o hs h' => loopNA_mono hs h h') sc st o hr
theorem endM_some' {r : Option (X × St)} {o : X × St} (h : endM r = some o) : r = some o ∧ endM (some o) = some o := by
  obtain ⟨h1, _⟩ := endM_some h
  exact ⟨h1, by rw [h1] at h; exact h⟩
theorem mrun_cont {n0 : Nat} {mi : MI} {keep : List Nat} {step : St → Option (X × St)} {stepN : Nat → St → Option (X × St)} {f : MF} (hm : ∀ n m st o, n ≤ m → stepN n st = some o → stepN m st = some o) (h : ∀ st o, step st = some o → ∃ n, stepN n st = some o) : ∀ {l : EL} {seen : List MK} {st : St} {o : X × St}, mrun n0 mi keep step f l seen st = some o → ∃ n, mrun n0 mi keep (stepN n) f l seen st = some o
  | [], seen, st, o, hr => by
    unfold mrun at hr
    split at hr
    · rename_i g ks f' seen' he
      obtain ⟨h1, h2⟩ := bif_some hr
      obtain ⟨h3, h4⟩ := endM_some' h2
      obtain ⟨n, hn⟩ := h _ _ h3
      refine ⟨n, ?_⟩
      unfold mrun
      rw [he]
      simp only
      rw [h1, cond_true, hn]
      exact h4
    · cases hr
  | (k, x) :: l, seen, st, o, hr => by
    unfold mrun at hr
    split at hr
    · rename_i g ks f' seen' he
      obtain ⟨h1, h2⟩ := bif_some hr
      unfold thenF at h2
      split at h2
      · rename_i st' hs
        obtain ⟨n1, g1⟩ := h _ _ hs
        obtain ⟨n2, g2⟩ := mrun_cont hm h h2
        refine ⟨max n1 n2, ?_⟩
        unfold mrun
        rw [he]
        simp only
        rw [h1, cond_true, hm _ _ _ _ (Nat.le_max_left n1 n2) g1]
        exact mrun_mono (fun st o => hm _ _ st o (Nat.le_max_right n1 n2)) g2
      · rename_i i st' hs
        obtain ⟨n1, g1⟩ := h _ _ hs
        refine ⟨n1, ?_⟩
        unfold mrun
        rw [he]
        simp only
        rw [h1, cond_true, g1]
        exact h2
      · rename_i st' hs
        obtain ⟨n1, g1⟩ := h _ _ hs
        refine ⟨n1, ?_⟩
        unfold mrun
        rw [he]
        simp only
        rw [h1, cond_true, g1]
        exact h2
      · cases h2
    · cases hr
theorem outM_cont {n0 : Nat} {keepO : List Nat} {r : Option (X × St)} {rN : Nat → Option (X × St)} {o : X × St} (h : ∀ o, r = some o → ∃ n, rN n = some o) (hr : outM n0 keepO r = some o) : ∃ n, outM n0 keepO (rN n) = some o := by
  cases r with
  | none => cases hr
  | some q =>
    obtain ⟨n, hn⟩ := h q rfl
    exact ⟨n, by rw [hn]; exact hr⟩
theorem loopM_cont {n0 : Nat} {mi : MI} {keep : List Nat} {step : St → Option (X × St)} {stepN : Nat → St → Option (X × St)} (hm : ∀ n m st o, n ≤ m → stepN n st = some o → stepN m st = some o) (h : ∀ st o, step st = some o → ∃ n, stepN n st = some o) {st : St} {o : X × St} (hr : loopM n0 mi keep step st = some o) : ∃ n, loopM n0 mi keep (stepN n) st = some o := by
  unfold loopM at hr
  split at hr
  · rename_i g ks f he
    obtain ⟨⟨L0, h1⟩, h2⟩ := sameOf_iff.1 hr
    obtain ⟨n, hn⟩ := unif L0 L0.length (fun n l => Enum f l → outM n0 mi.keepO (mrun n0 mi keep (stepN n) f l [] st) = some o) (fun n m l hn hq hl => outM_mono (fun o => mrun_mono fun st o => hm _ _ st o hn) (hq hl)) fun l _ _ => by
      by_cases hl : Enum f l
      · obtain ⟨n, hn⟩ := outM_cont (rN := fun n => mrun n0 mi keep (stepN n) f l [] st) (fun o ho => mrun_cont hm h ho) (h2 l hl)
        exact ⟨n, fun _ => hn⟩
      · exact ⟨0, fun hl' => absurd hl' hl⟩
    refine ⟨n, ?_⟩
    unfold loopM
    rw [he]
    exact sameOf_iff.2 ⟨⟨L0, h1⟩, fun l hl => hn l (hl.len h1) (fun a ha => (h1.mem a.1 a.2).2 ((hl.mem a.1 a.2).1 ha)) hl⟩
  · cases hr
theorem fr_cont {n0 : Nat} : ∀ (sc : SC) (st : St) (o : X × St), fr P (fCall M (ev P M)) (loopWA n0) sc st = some o → ∃ n, frN P M n0 n sc st = some o
  | .skip, st, o, hr => ⟨0, hr⟩
  | .reg ops, st, o, hr => by
    simp only [fr] at hr
    split at hr
    · rename_i st' hs
      obtain ⟨n, hn⟩ := fSeq_cont hs
      exact ⟨n, by simp only [frN, fr, hn]; exact hr⟩
    · cases hr
  | .dreg anc ops, st, o, hr => by
    simp only [fr] at hr
    split at hr
    · rename_i es st' hs
      obtain ⟨n, hn⟩ := fOps_cont hs
      exact ⟨n, by simp only [frN, fr, hn]; exact hr⟩
    · cases hr
  | .seq a b, st, o, hr => by
    simp only [fr, thenF] at hr
    split at hr
    · rename_i st' hs
      obtain ⟨n1, g1⟩ := fr_cont a st _ hs
      obtain ⟨n2, g2⟩ := fr_cont b st' _ hr
      refine ⟨max n1 n2, ?_⟩
      have h1 := frN_mono (Nat.le_max_left n1 n2) _ _ _ g1
      have h2 := frN_mono (Nat.le_max_right n1 n2) _ _ _ g2
      simp only [frN] at h1 h2
      simp only [frN, fr, thenF, h1, h2]
    · rename_i i st' hs
      obtain ⟨n1, g1⟩ := fr_cont a st _ hs
      simp only [frN] at g1
      exact ⟨n1, by simp only [frN, fr, thenF, g1]; exact hr⟩
    · rename_i st' hs
      obtain ⟨n1, g1⟩ := fr_cont a st _ hs
      simp only [frN] at g1
      exact ⟨n1, by simp only [frN, fr, thenF, g1]; exact hr⟩
    · cases hr
  | .cond q a b, st, o, hr => by
    simp only [fr] at hr
    split at hr
    · rename_i t ht
      cases t with
      | true =>
        obtain ⟨n, hn⟩ := fr_cont a st o hr
        exact ⟨n, by simp only [frN, fr, ht]; exact hn⟩
      | false =>
        obtain ⟨n, hn⟩ := fr_cont b st o hr
        exact ⟨n, by simp only [frN, fr, ht]; exact hn⟩
    · cases hr
  | .block id b, st, o, hr => by
    simp only [fr] at hr
    cases he : fr P (fCall M (ev P M)) (loopWA n0) b st with
    | none => rw [he] at hr; cases hr
    | some q =>
      obtain ⟨n, hn⟩ := fr_cont b st q he
      rw [he] at hr
      simp only [frN] at hn
      exact ⟨n, by simp only [frN, fr, hn]; exact hr⟩
  | .loop keep b, st, o, hr => by
    simp only [fr] at hr
    obtain ⟨m, hm⟩ := loopW_iff.1 hr
    clear hr
    have key : ∀ (m : Nat) (st : St), loopN n0 keep (fr P (fCall M (ev P M)) (loopWA n0) b) m st = some o → ∃ n, loopN n0 keep (frN P M n0 n b) n st = some o := by
      intro m
      induction m with
      | zero => intro st h; cases h
      | succ m ih =>
        intro st h
        simp only [loopN, thenF] at h
        split at h
        · rename_i st' hs
          obtain ⟨n1, g1⟩ := fr_cont b _ _ hs
          obtain ⟨n2, g2⟩ := ih st' h
          refine ⟨max n1 n2 + 1, ?_⟩
          have h1 := frN_mono (Nat.le_trans (Nat.le_max_left n1 n2) (Nat.le_succ _)) _ _ _ g1
          have h2 := loopN_mono (step' := frN P M n0 (max n1 n2 + 1) b) (fun st o h => frN_mono (Nat.le_trans (Nat.le_max_right n1 n2) (Nat.le_succ _)) _ _ _ h) (Nat.le_max_right n1 n2) g2
          simp only [loopN, thenF, h1]
          exact h2
        · rename_i i st' hs
          obtain ⟨n1, g1⟩ := fr_cont b _ _ hs
          refine ⟨n1 + 1, ?_⟩
          have h1 := frN_mono (Nat.le_succ n1) _ _ _ g1
          simp only [loopN, thenF, h1]; exact h
        · rename_i st' hs
          obtain ⟨n1, g1⟩ := fr_cont b _ _ hs
          refine ⟨n1 + 1, ?_⟩
          have h1 := frN_mono (Nat.le_succ n1) _ _ _ g1
          simp only [loopN, thenF, h1]; exact h
        · cases h
    obtain ⟨n, hn⟩ := key m st hm
    exact ⟨n, hn⟩
  | .next _ _ _, st, o, hr => by cases hr
  | .mloop keep keepO it nx more b, st, o, hr => by
    simp only [fr] at hr
    obtain ⟨n, hn⟩ := loopM_cont (stepN := fun n => frN P M n0 n b) (fun n m st o hn => frN_mono hn b st o) (fun st o => fr_cont b st o) hr
    exact ⟨n, hn⟩
  | .exit id, st, o, hr => ⟨0, hr⟩
  | .ret, st, o, hr => ⟨0, hr⟩
theorem ev_eq {f : FuncId} {xs : List SV} {ob : List Ob} : ev P M f xs ob = bodyF P M (ev P M) loopWA f xs ob := by
  refine Option.ext fun o => ?_
  rw [ev_iff]
  constructor
  · rintro ⟨n, hn⟩
    cases n with
    | zero => cases hn
    | succ n =>
      refine bodyF_mono (L := fun n0 mi keep step st => loopNA n0 mi keep step n st) (L' := loopWA) (ev_ge n) (fun n0 mi keep step step' st o hs h => ?_) _ _ _ _ hn
      cases mi with
      | none => exact loopW_iff.2 ⟨n, loopN_mono hs (Nat.le_refl n) h⟩
      | some mi => exact loopM_mono hs h
  · intro h
    unfold bodyF at h
    cases hg : (M f).ext with
    | some g =>
      rw [hg] at h
      refine ⟨1, ?_⟩
      show bodyF P M (evN P M 0) _ f xs ob = some o
      unfold bodyF
      rw [hg]; exact h
    | none =>
    rw [hg] at h
    simp only at h
    cases hc : codeOf P f with
    | none => rw [hc] at h; cases h
    | some fc =>
      rw [hc] at h
      simp only at h
      obtain ⟨h1, h2⟩ := bif_some h
      obtain ⟨q, h3, h4⟩ := finF_some h2
      obtain ⟨n, hn⟩ := fr_cont _ _ _ h3
      refine ⟨n + 1, ?_⟩
      show bodyF P M (evN P M n) _ f xs ob = some o
      unfold bodyF
      rw [hg, hc]
      simp only
      rw [h1, cond_true]
      show finF (M f).res ob.length fc.rs (frN P M ob.length n fc.sc ⟨xs ++ anys (fc.nt - xs.length), entry (M f).tree ob⟩) = some o
      rw [hn]
      exact h4
end
structure Tb where
  name : ByteArray
  arity : Int
  pred : Bool
  vals : List Int
def tbC (t : Tb) (s : Value) (j : Nat) : Value := match j with | 0 => .string t.name | 1 => .int .i64 t.arity | 2 => .bool t.pred | _ => s
def TabAt (w : World) (lo : Nat) (t : Tb) (s : Value) : Prop := IntsAt w lo s t.vals ∧ t.name.size ≤ 9223372036854775807
def TabsAt (w : World) (lo : Nat) (v : Value) (ts : List Tb) : Prop := ∃ s : Nat → Value, Sl w lo 4 ts.length (fun i j => tbC (ts.getD i ⟨⟨#[]⟩, 0, false, []⟩) (s i) j) v ∧ ∀ i (h : i < ts.length), TabAt w lo ts[i] (s i)
theorem TabAt.keep {w w' : World} {lo : Nat} {t : Tb} {s : Value} (h : TabAt w lo t s) (hb : Keeps lo w w') : TabAt w' lo t s := ⟨h.1.keep hb, h.2⟩
theorem TabAt.low {w : World} {lo lo' : Nat} {t : Tb} {s : Value} (h : TabAt w lo t s) (hl : lo' ≤ lo) : TabAt w lo' t s := ⟨h.1.low hl, h.2⟩
theorem getD_at {α : Type} {l : List α} {i : Nat} (d : α) (h : i < l.length) : l.getD i d = l[i] := by rw [List.getD_eq_getElem?_getD, List.getElem?_eq_getElem h]; rfl
theorem TabsAt.keep {w w' : World} {lo : Nat} {v : Value} {ts : List Tb} (h : TabsAt w lo v ts) (hb : Keeps lo w w') : TabsAt w' lo v ts := by
  obtain ⟨f, h1, h2⟩ := h
  exact ⟨f, h1.keep hb, fun i hi => (h2 i hi).keep hb⟩
theorem TabsAt.low {w : World} {lo lo' : Nat} {v : Value} {ts : List Tb} (h : TabsAt w lo v ts) (hl : lo' ≤ lo) : TabsAt w lo' v ts := by
  obtain ⟨f, h1, h2⟩ := h
  exact ⟨f, h1.low hl, fun i hi => (h2 i hi).low hl⟩
inductive Tm where
  | mk (name : ByteArray) (args : List Tm)
def Tm.name : Tm → ByteArray
  | .mk a _ => a
def Tm.args : Tm → List Tm
  | .mk _ a => a
mutual
def Tm.d : Tm → List D
  | .mk name args => [.str name, .arr (Tm.ds args)]
def Tm.ds : List Tm → List (List D)
  | [] => []
  | x :: xs => Tm.d x :: Tm.ds xs
end
theorem Tm.ds_eq : ∀ xs : List Tm, Tm.ds xs = xs.map Tm.d
  | [] => rfl
  | x :: xs => by rw [Tm.ds, Tm.ds_eq xs]; rfl
theorem Tm.d_eq (x : Tm) : Tm.d x = [.str x.name, .arr (x.args.map Tm.d)] := by
  obtain ⟨name, args⟩ := x
  rw [Tm.d, Tm.ds_eq]; rfl
mutual
def Tm.bulk : Tm → Nat
  | .mk name args => name.size + (args.length + Tm.sumB args)
def Tm.sumB : List Tm → Nat
  | [] => 0
  | x :: xs => Tm.bulk x + Tm.sumB xs
end
theorem Tm.bulk_eq (x : Tm) : x.bulk = x.name.size + (x.args.length + Tm.sumB x.args) := by
  obtain ⟨name, args⟩ := x
  rw [Tm.bulk]; rfl
theorem Tm.lt_of_mem {x y : Tm} (h : y ∈ x.args) : SizeOf.sizeOf y < SizeOf.sizeOf x := by
  obtain ⟨name, args⟩ := x
  have := List.sizeOf_lt_of_mem h
  simp only [Tm.args] at this
  simp only [Tm.mk.sizeOf_spec]
  omega
def Tm.zero : Tm := .mk ⟨#[]⟩ []
theorem Tm.bulk_le : ∀ (xs : List Tm) (k : Nat) (h : k < xs.length), xs[k].bulk ≤ Tm.sumB xs
  | [], k, h => absurd h (by simp)
  | x :: xs, 0, _ => by rw [Tm.sumB]; simp
  | x :: xs, k + 1, h => by
    have := Tm.bulk_le xs k (by simpa using h)
    rw [Tm.sumB]; simp only [List.getElem_cons_succ]; omega
def Tm.c (x : Tm) (s0 : Value) (j : Nat) : Value := match j with | 0 => .string x.name | _ => s0
abbrev TmsAt (w : World) (xs : List Tm) (v : Value) : Prop := DAt w (.arr (xs.map Tm.d)) v
def Tm.At (w : World) (x : Tm) (s0 : Value) : Prop := x.name.size ≤ 9223372036854775807 ∧ TmsAt w x.args s0
theorem Tm.At.keep {w w' : World} {x : Tm} {s0 : Value} (h : Tm.At w x s0) (hb : Below w.heap.size w w') : Tm.At w' x s0 := ⟨h.1, DAt.keep h.2 hb⟩
theorem TmsAt.open_ {w : World} {xs : List Tm} {v : Value} (h : TmsAt w xs v) : ∃ (a : Option Addr) (cap : Nat) (S0 : Nat → Value), v = .slice a xs.length cap ∧ xs.length ≤ cap ∧ cap ≤ 9223372036854775807 ∧ SlA w 0 2 xs.length (fun i j => Tm.c (xs.getD i Tm.zero) (S0 i) j) a ∧ ∀ i (h : i < xs.length), Tm.At w xs[i] (S0 i) := by
  obtain ⟨sz, a, cap, f, e, h1, h2, h3, h4, h5⟩ := h.arr_inv
  simp only [List.length_map] at e h1 h3 h4 h5
  have hl : ∀ i, i < xs.length → sz = 2 := fun i hi => by
    have := h4 i hi
    rw [List.getElem_map, Tm.d_eq] at this
    exact this.symm
  have hk : ∀ i (hi : i < xs.length) j (d : D), (Tm.d xs[i])[j]? = some d → DAt w d (f i j) := by
    intro i hi j d hd
    have hj : j < (Tm.d xs[i]).length := (List.getElem?_eq_some_iff.1 hd).1
    have := h5 i j hi (by rw [List.getElem_map]; exact hj)
    simp only [List.getElem_map] at this
    rw [List.getElem?_eq_getElem hj] at hd
    rw [Option.some.inj hd] at this
    exact this
  refine ⟨a, cap, fun i => f i 1, e, h1, h2, ?_, fun i hi => ?_⟩
  · rcases Nat.eq_zero_or_pos xs.length with h0 | h0
    · exact .inl h0
    · rw [hl 0 h0] at h3
      refine h3.congr fun i j hi hj => ?_
      rw [getD_at _ hi]
      match j, hj with
      | 0, _ => exact (hk i hi 0 _ (by rw [Tm.d_eq]; rfl)).str_inv.1
      | 1, _ => rfl
  · exact ⟨(hk i hi 0 _ (by rw [Tm.d_eq]; rfl)).str_inv.2, hk i hi 1 _ (by rw [Tm.d_eq]; rfl)⟩
theorem TmsAt.keep {w w' : World} {xs : List Tm} {v : Value} (h : TmsAt w xs v) (hb : Below w.heap.size w w') : TmsAt w' xs v := DAt.keep h hb
theorem TmsAt.elem {w : World} {xs : List Tm} {a : Option Addr} {n cap : Nat} (h : TmsAt w xs (.slice a n cap)) {k : Nat} (hk : k < xs.length) : ∃ (b off : Nat) (y0 : Option Addr) (n0 c0 : Nat), a = some ⟨b, off, none⟩ ∧ b < w.heap.size ∧ w.cell? ⟨b, off + k * 2, none⟩ = some (.string xs[k].name) ∧ w.cell? ⟨b, off + k * 2 + 1, none⟩ = some (.slice y0 n0 c0) ∧ Tm.At w xs[k] (.slice y0 n0 c0) := by
  obtain ⟨a', cap', S0, e, h1, h2, h3, h4⟩ := h.open_
  injection e with e1 e2 e3
  subst e1
  obtain ⟨b, off, rfl, hb, c0, c1⟩ := h3.at2 hk
  have hF := h4 k hk
  obtain ⟨y0, n0, cc0, e0⟩ := DAt.form hF.2
  simp only [getD_at _ hk, Tm.c] at c0 c1
  rw [e0] at c1
  refine ⟨b, off, y0, n0, cc0, rfl, hb, c0, c1, ?_⟩
  rw [e0] at hF
  exact hF
inductive Fm where
  | mk (op : Int) (atom : Tm) (var : ByteArray) (parts : List Fm)
def Fm.op : Fm → Int
  | .mk a _ _ _ => a
def Fm.atom : Fm → Tm
  | .mk _ a _ _ => a
def Fm.var : Fm → ByteArray
  | .mk _ _ a _ => a
def Fm.parts : Fm → List Fm
  | .mk _ _ _ a => a
mutual
def Fm.d : Fm → List D
  | .mk op atom var parts => [.int op, .str atom.name, .arr (atom.args.map Tm.d), .str var, .arr (Fm.ds parts)]
def Fm.ds : List Fm → List (List D)
  | [] => []
  | x :: xs => Fm.d x :: Fm.ds xs
end
theorem Fm.ds_eq : ∀ xs : List Fm, Fm.ds xs = xs.map Fm.d
  | [] => rfl
  | x :: xs => by rw [Fm.ds, Fm.ds_eq xs]; rfl
theorem Fm.d_eq (x : Fm) : Fm.d x = [.int x.op, .str x.atom.name, .arr (x.atom.args.map Tm.d), .str x.var, .arr (x.parts.map Fm.d)] := by
  obtain ⟨op, atom, var, parts⟩ := x
  rw [Fm.d, Fm.ds_eq]; rfl
mutual
def Fm.bulk : Fm → Nat
  | .mk _ atom var parts => Tm.bulk atom + var.size + (parts.length + Fm.sumB parts)
def Fm.sumB : List Fm → Nat
  | [] => 0
  | x :: xs => Fm.bulk x + Fm.sumB xs
end
theorem Fm.bulk_eq (x : Fm) : x.bulk = x.atom.bulk + x.var.size + (x.parts.length + Fm.sumB x.parts) := by
  obtain ⟨op, atom, var, parts⟩ := x
  rw [Fm.bulk]; rfl
theorem Fm.lt_of_mem {x y : Fm} (h : y ∈ x.parts) : SizeOf.sizeOf y < SizeOf.sizeOf x := by
  obtain ⟨op, atom, var, parts⟩ := x
  have := List.sizeOf_lt_of_mem h
  simp only [Fm.parts] at this
  simp only [Fm.mk.sizeOf_spec]
  omega
def Fm.zero : Fm := .mk 0 Tm.zero ⟨#[]⟩ []
theorem Fm.bulk_le : ∀ (xs : List Fm) (k : Nat) (h : k < xs.length), xs[k].bulk ≤ Fm.sumB xs
  | [], k, h => absurd h (by simp)
  | x :: xs, 0, _ => by rw [Fm.sumB]; simp
  | x :: xs, k + 1, h => by
    have := Fm.bulk_le xs k (by simpa using h)
    rw [Fm.sumB]; simp only [List.getElem_cons_succ]; omega
def Fm.c (x : Fm) (s0 : Value) (s1 : Value) (j : Nat) : Value := match j with | 0 => .int .i64 x.op | 1 => .string x.atom.name | 2 => s0 | 3 => .string x.var | _ => s1
abbrev FmsAt (w : World) (xs : List Fm) (v : Value) : Prop := DAt w (.arr (xs.map Fm.d)) v
def Fm.At (w : World) (x : Fm) (s0 : Value) (s1 : Value) : Prop := x.atom.name.size ≤ 9223372036854775807 ∧ TmsAt w x.atom.args s0 ∧ x.var.size ≤ 9223372036854775807 ∧ FmsAt w x.parts s1
theorem Fm.At.keep {w w' : World} {x : Fm} {s0 : Value} {s1 : Value} (h : Fm.At w x s0 s1) (hb : Below w.heap.size w w') : Fm.At w' x s0 s1 := ⟨h.1, DAt.keep h.2.1 hb, h.2.2.1, DAt.keep h.2.2.2 hb⟩
theorem FmsAt.open_ {w : World} {xs : List Fm} {v : Value} (h : FmsAt w xs v) : ∃ (a : Option Addr) (cap : Nat) (S0 : Nat → Value) (S1 : Nat → Value), v = .slice a xs.length cap ∧ xs.length ≤ cap ∧ cap ≤ 9223372036854775807 ∧ SlA w 0 5 xs.length (fun i j => Fm.c (xs.getD i Fm.zero) (S0 i) (S1 i) j) a ∧ ∀ i (h : i < xs.length), Fm.At w xs[i] (S0 i) (S1 i) := by
  obtain ⟨sz, a, cap, f, e, h1, h2, h3, h4, h5⟩ := h.arr_inv
  simp only [List.length_map] at e h1 h3 h4 h5
  have hl : ∀ i, i < xs.length → sz = 5 := fun i hi => by
    have := h4 i hi
    rw [List.getElem_map, Fm.d_eq] at this
    exact this.symm
  have hk : ∀ i (hi : i < xs.length) j (d : D), (Fm.d xs[i])[j]? = some d → DAt w d (f i j) := by
    intro i hi j d hd
    have hj : j < (Fm.d xs[i]).length := (List.getElem?_eq_some_iff.1 hd).1
    have := h5 i j hi (by rw [List.getElem_map]; exact hj)
    simp only [List.getElem_map] at this
    rw [List.getElem?_eq_getElem hj] at hd
    rw [Option.some.inj hd] at this
    exact this
  refine ⟨a, cap, fun i => f i 2, fun i => f i 4, e, h1, h2, ?_, fun i hi => ?_⟩
  · rcases Nat.eq_zero_or_pos xs.length with h0 | h0
    · exact .inl h0
    · rw [hl 0 h0] at h3
      refine h3.congr fun i j hi hj => ?_
      rw [getD_at _ hi]
      match j, hj with
      | 0, _ => exact (hk i hi 0 _ (by rw [Fm.d_eq]; rfl)).int_inv
      | 1, _ => exact (hk i hi 1 _ (by rw [Fm.d_eq]; rfl)).str_inv.1
      | 2, _ => rfl
      | 3, _ => exact (hk i hi 3 _ (by rw [Fm.d_eq]; rfl)).str_inv.1
      | 4, _ => rfl
  · exact ⟨(hk i hi 1 _ (by rw [Fm.d_eq]; rfl)).str_inv.2, hk i hi 2 _ (by rw [Fm.d_eq]; rfl), (hk i hi 3 _ (by rw [Fm.d_eq]; rfl)).str_inv.2, hk i hi 4 _ (by rw [Fm.d_eq]; rfl)⟩
theorem FmsAt.keep {w w' : World} {xs : List Fm} {v : Value} (h : FmsAt w xs v) (hb : Below w.heap.size w w') : FmsAt w' xs v := DAt.keep h hb
theorem FmsAt.elem {w : World} {xs : List Fm} {a : Option Addr} {n cap : Nat} (h : FmsAt w xs (.slice a n cap)) {k : Nat} (hk : k < xs.length) : ∃ (b off : Nat) (y0 : Option Addr) (n0 c0 : Nat) (y1 : Option Addr) (n1 c1 : Nat), a = some ⟨b, off, none⟩ ∧ b < w.heap.size ∧ w.cell? ⟨b, off + k * 5, none⟩ = some (.int .i64 xs[k].op) ∧ w.cell? ⟨b, off + k * 5 + 1, none⟩ = some (.string xs[k].atom.name) ∧ w.cell? ⟨b, off + k * 5 + 2, none⟩ = some (.slice y0 n0 c0) ∧ w.cell? ⟨b, off + k * 5 + 3, none⟩ = some (.string xs[k].var) ∧ w.cell? ⟨b, off + k * 5 + 4, none⟩ = some (.slice y1 n1 c1) ∧ Fm.At w xs[k] (.slice y0 n0 c0) (.slice y1 n1 c1) := by
  obtain ⟨a', cap', S0, S1, e, h1, h2, h3, h4⟩ := h.open_
  injection e with e1 e2 e3
  subst e1
  obtain ⟨b, off, rfl, hb, c0, c1, c2, c3, c4⟩ := h3.at5 hk
  have hF := h4 k hk
  obtain ⟨y0, n0, cc0, e0⟩ := DAt.form hF.2.1
  obtain ⟨y1, n1, cc1, e1⟩ := DAt.form hF.2.2.2
  simp only [getD_at _ hk, Fm.c] at c0 c1 c2 c3 c4
  rw [e0] at c2
  rw [e1] at c4
  refine ⟨b, off, y0, n0, cc0, y1, n1, cc1, rfl, hb, c0, c1, c2, c3, c4, ?_⟩
  rw [e0, e1] at hF
  exact hF
structure Lt where
  pos : Bool
  atom : Tm
def Lt.d (x : Lt) : List D := [.bool x.pos, .str x.atom.name, .arr (x.atom.args.map Tm.d)]
theorem Lt.d_eq (x : Lt) : Lt.d x = [.bool x.pos, .str x.atom.name, .arr (x.atom.args.map Tm.d)] := rfl
def Lt.bulk (x : Lt) : Nat := x.atom.bulk
theorem Lt.bulk_eq (x : Lt) : x.bulk = x.atom.bulk := rfl
def Lt.sumB : List Lt → Nat
  | [] => 0
  | x :: xs => x.bulk + Lt.sumB xs
def Lt.zero : Lt := ⟨false, Tm.zero⟩
theorem Lt.bulk_le : ∀ (xs : List Lt) (k : Nat) (h : k < xs.length), xs[k].bulk ≤ Lt.sumB xs
  | [], k, h => absurd h (by simp)
  | x :: xs, 0, _ => by rw [Lt.sumB]; simp
  | x :: xs, k + 1, h => by
    have := Lt.bulk_le xs k (by simpa using h)
    rw [Lt.sumB]; simp only [List.getElem_cons_succ]; omega
def Lt.c (x : Lt) (s0 : Value) (j : Nat) : Value := match j with | 0 => .bool x.pos | 1 => .string x.atom.name | _ => s0
abbrev LtsAt (w : World) (xs : List Lt) (v : Value) : Prop := DAt w (.arr (xs.map Lt.d)) v
def Lt.At (w : World) (x : Lt) (s0 : Value) : Prop := x.atom.name.size ≤ 9223372036854775807 ∧ TmsAt w x.atom.args s0
theorem Lt.At.keep {w w' : World} {x : Lt} {s0 : Value} (h : Lt.At w x s0) (hb : Below w.heap.size w w') : Lt.At w' x s0 := ⟨h.1, DAt.keep h.2 hb⟩
theorem LtsAt.open_ {w : World} {xs : List Lt} {v : Value} (h : LtsAt w xs v) : ∃ (a : Option Addr) (cap : Nat) (S0 : Nat → Value), v = .slice a xs.length cap ∧ xs.length ≤ cap ∧ cap ≤ 9223372036854775807 ∧ SlA w 0 3 xs.length (fun i j => Lt.c (xs.getD i Lt.zero) (S0 i) j) a ∧ ∀ i (h : i < xs.length), Lt.At w xs[i] (S0 i) := by
  obtain ⟨sz, a, cap, f, e, h1, h2, h3, h4, h5⟩ := h.arr_inv
  simp only [List.length_map] at e h1 h3 h4 h5
  have hl : ∀ i, i < xs.length → sz = 3 := fun i hi => by
    have := h4 i hi
    rw [List.getElem_map, Lt.d_eq] at this
    exact this.symm
  have hk : ∀ i (hi : i < xs.length) j (d : D), (Lt.d xs[i])[j]? = some d → DAt w d (f i j) := by
    intro i hi j d hd
    have hj : j < (Lt.d xs[i]).length := (List.getElem?_eq_some_iff.1 hd).1
    have := h5 i j hi (by rw [List.getElem_map]; exact hj)
    simp only [List.getElem_map] at this
    rw [List.getElem?_eq_getElem hj] at hd
    rw [Option.some.inj hd] at this
    exact this
  refine ⟨a, cap, fun i => f i 2, e, h1, h2, ?_, fun i hi => ?_⟩
  · rcases Nat.eq_zero_or_pos xs.length with h0 | h0
    · exact .inl h0
    · rw [hl 0 h0] at h3
      refine h3.congr fun i j hi hj => ?_
      rw [getD_at _ hi]
      match j, hj with
      | 0, _ => exact (hk i hi 0 _ (by rw [Lt.d_eq]; rfl)).bool_inv
      | 1, _ => exact (hk i hi 1 _ (by rw [Lt.d_eq]; rfl)).str_inv.1
      | 2, _ => rfl
  · exact ⟨(hk i hi 1 _ (by rw [Lt.d_eq]; rfl)).str_inv.2, hk i hi 2 _ (by rw [Lt.d_eq]; rfl)⟩
theorem LtsAt.keep {w w' : World} {xs : List Lt} {v : Value} (h : LtsAt w xs v) (hb : Below w.heap.size w w') : LtsAt w' xs v := DAt.keep h hb
theorem LtsAt.elem {w : World} {xs : List Lt} {a : Option Addr} {n cap : Nat} (h : LtsAt w xs (.slice a n cap)) {k : Nat} (hk : k < xs.length) : ∃ (b off : Nat) (y0 : Option Addr) (n0 c0 : Nat), a = some ⟨b, off, none⟩ ∧ b < w.heap.size ∧ w.cell? ⟨b, off + k * 3, none⟩ = some (.bool xs[k].pos) ∧ w.cell? ⟨b, off + k * 3 + 1, none⟩ = some (.string xs[k].atom.name) ∧ w.cell? ⟨b, off + k * 3 + 2, none⟩ = some (.slice y0 n0 c0) ∧ Lt.At w xs[k] (.slice y0 n0 c0) := by
  obtain ⟨a', cap', S0, e, h1, h2, h3, h4⟩ := h.open_
  injection e with e1 e2 e3
  subst e1
  obtain ⟨b, off, rfl, hb, c0, c1, c2⟩ := h3.at3 hk
  have hF := h4 k hk
  obtain ⟨y0, n0, cc0, e0⟩ := DAt.form hF.2
  simp only [getD_at _ hk, Lt.c] at c0 c1 c2
  rw [e0] at c2
  refine ⟨b, off, y0, n0, cc0, rfl, hb, c0, c1, c2, ?_⟩
  rw [e0] at hF
  exact hF
structure Cl where
  lits : List Lt
def Cl.d (x : Cl) : List D := [.arr (x.lits.map Lt.d)]
theorem Cl.d_eq (x : Cl) : Cl.d x = [.arr (x.lits.map Lt.d)] := rfl
def Cl.bulk (x : Cl) : Nat := (x.lits.length + Lt.sumB x.lits)
theorem Cl.bulk_eq (x : Cl) : x.bulk = (x.lits.length + Lt.sumB x.lits) := rfl
def Cl.sumB : List Cl → Nat
  | [] => 0
  | x :: xs => x.bulk + Cl.sumB xs
def Cl.zero : Cl := ⟨[]⟩
theorem Cl.bulk_le : ∀ (xs : List Cl) (k : Nat) (h : k < xs.length), xs[k].bulk ≤ Cl.sumB xs
  | [], k, h => absurd h (by simp)
  | x :: xs, 0, _ => by rw [Cl.sumB]; simp
  | x :: xs, k + 1, h => by
    have := Cl.bulk_le xs k (by simpa using h)
    rw [Cl.sumB]; simp only [List.getElem_cons_succ]; omega
def Cl.c (x : Cl) (s0 : Value) (j : Nat) : Value := match j with | _ => s0
abbrev ClsAt (w : World) (xs : List Cl) (v : Value) : Prop := DAt w (.arr (xs.map Cl.d)) v
def Cl.At (w : World) (x : Cl) (s0 : Value) : Prop := LtsAt w x.lits s0
theorem Cl.At.keep {w w' : World} {x : Cl} {s0 : Value} (h : Cl.At w x s0) (hb : Below w.heap.size w w') : Cl.At w' x s0 := DAt.keep h hb
theorem ClsAt.open_ {w : World} {xs : List Cl} {v : Value} (h : ClsAt w xs v) : ∃ (a : Option Addr) (cap : Nat) (S0 : Nat → Value), v = .slice a xs.length cap ∧ xs.length ≤ cap ∧ cap ≤ 9223372036854775807 ∧ SlA w 0 1 xs.length (fun i j => Cl.c (xs.getD i Cl.zero) (S0 i) j) a ∧ ∀ i (h : i < xs.length), Cl.At w xs[i] (S0 i) := by
  obtain ⟨sz, a, cap, f, e, h1, h2, h3, h4, h5⟩ := h.arr_inv
  simp only [List.length_map] at e h1 h3 h4 h5
  have hl : ∀ i, i < xs.length → sz = 1 := fun i hi => by
    have := h4 i hi
    rw [List.getElem_map, Cl.d_eq] at this
    exact this.symm
  have hk : ∀ i (hi : i < xs.length) j (d : D), (Cl.d xs[i])[j]? = some d → DAt w d (f i j) := by
    intro i hi j d hd
    have hj : j < (Cl.d xs[i]).length := (List.getElem?_eq_some_iff.1 hd).1
    have := h5 i j hi (by rw [List.getElem_map]; exact hj)
    simp only [List.getElem_map] at this
    rw [List.getElem?_eq_getElem hj] at hd
    rw [Option.some.inj hd] at this
    exact this
  refine ⟨a, cap, fun i => f i 0, e, h1, h2, ?_, fun i hi => ?_⟩
  · rcases Nat.eq_zero_or_pos xs.length with h0 | h0
    · exact .inl h0
    · rw [hl 0 h0] at h3
      refine h3.congr fun i j hi hj => ?_
      rw [getD_at _ hi]
      match j, hj with
      | 0, _ => rfl
  · exact hk i hi 0 _ (by rw [Cl.d_eq]; rfl)
theorem ClsAt.keep {w w' : World} {xs : List Cl} {v : Value} (h : ClsAt w xs v) (hb : Below w.heap.size w w') : ClsAt w' xs v := DAt.keep h hb
theorem ClsAt.elem {w : World} {xs : List Cl} {a : Option Addr} {n cap : Nat} (h : ClsAt w xs (.slice a n cap)) {k : Nat} (hk : k < xs.length) : ∃ (b off : Nat) (y0 : Option Addr) (n0 c0 : Nat), a = some ⟨b, off, none⟩ ∧ b < w.heap.size ∧ w.cell? ⟨b, off + k, none⟩ = some (.slice y0 n0 c0) ∧ Cl.At w xs[k] (.slice y0 n0 c0) := by
  obtain ⟨a', cap', S0, e, h1, h2, h3, h4⟩ := h.open_
  injection e with e1 e2 e3
  subst e1
  obtain ⟨b, off, rfl, hb, c0⟩ := h3.at1 hk
  have hF := h4 k hk
  obtain ⟨y0, n0, cc0, e0⟩ := DAt.form hF
  simp only [getD_at _ hk, Cl.c] at c0
  rw [e0] at c0
  refine ⟨b, off, y0, n0, cc0, rfl, hb, c0, ?_⟩
  rw [e0] at hF
  exact hF
structure Ag where
  var : ByteArray
  elem : Int
def Ag.d (x : Ag) : List D := [.str x.var, .int x.elem]
theorem Ag.d_eq (x : Ag) : Ag.d x = [.str x.var, .int x.elem] := rfl
def Ag.bulk (x : Ag) : Nat := x.var.size
theorem Ag.bulk_eq (x : Ag) : x.bulk = x.var.size := rfl
def Ag.sumB : List Ag → Nat
  | [] => 0
  | x :: xs => x.bulk + Ag.sumB xs
def Ag.zero : Ag := ⟨⟨#[]⟩, 0⟩
theorem Ag.bulk_le : ∀ (xs : List Ag) (k : Nat) (h : k < xs.length), xs[k].bulk ≤ Ag.sumB xs
  | [], k, h => absurd h (by simp)
  | x :: xs, 0, _ => by rw [Ag.sumB]; simp
  | x :: xs, k + 1, h => by
    have := Ag.bulk_le xs k (by simpa using h)
    rw [Ag.sumB]; simp only [List.getElem_cons_succ]; omega
def Ag.c (x : Ag) (j : Nat) : Value := match j with | 0 => .string x.var | _ => .int .i64 x.elem
abbrev AgsAt (w : World) (xs : List Ag) (v : Value) : Prop := DAt w (.arr (xs.map Ag.d)) v
def Ag.At (w : World) (x : Ag) : Prop := x.var.size ≤ 9223372036854775807
theorem Ag.At.keep {w w' : World} {x : Ag} (h : Ag.At w x) (hb : Below w.heap.size w w') : Ag.At w' x := h
theorem AgsAt.open_ {w : World} {xs : List Ag} {v : Value} (h : AgsAt w xs v) : ∃ (a : Option Addr) (cap : Nat), v = .slice a xs.length cap ∧ xs.length ≤ cap ∧ cap ≤ 9223372036854775807 ∧ SlA w 0 2 xs.length (fun i j => Ag.c (xs.getD i Ag.zero) j) a ∧ ∀ i (h : i < xs.length), Ag.At w xs[i] := by
  obtain ⟨sz, a, cap, f, e, h1, h2, h3, h4, h5⟩ := h.arr_inv
  simp only [List.length_map] at e h1 h3 h4 h5
  have hl : ∀ i, i < xs.length → sz = 2 := fun i hi => by
    have := h4 i hi
    rw [List.getElem_map, Ag.d_eq] at this
    exact this.symm
  have hk : ∀ i (hi : i < xs.length) j (d : D), (Ag.d xs[i])[j]? = some d → DAt w d (f i j) := by
    intro i hi j d hd
    have hj : j < (Ag.d xs[i]).length := (List.getElem?_eq_some_iff.1 hd).1
    have := h5 i j hi (by rw [List.getElem_map]; exact hj)
    simp only [List.getElem_map] at this
    rw [List.getElem?_eq_getElem hj] at hd
    rw [Option.some.inj hd] at this
    exact this
  refine ⟨a, cap, e, h1, h2, ?_, fun i hi => ?_⟩
  · rcases Nat.eq_zero_or_pos xs.length with h0 | h0
    · exact .inl h0
    · rw [hl 0 h0] at h3
      refine h3.congr fun i j hi hj => ?_
      rw [getD_at _ hi]
      match j, hj with
      | 0, _ => exact (hk i hi 0 _ (by rw [Ag.d_eq]; rfl)).str_inv.1
      | 1, _ => exact (hk i hi 1 _ (by rw [Ag.d_eq]; rfl)).int_inv
  · exact (hk i hi 0 _ (by rw [Ag.d_eq]; rfl)).str_inv.2
theorem AgsAt.keep {w w' : World} {xs : List Ag} {v : Value} (h : AgsAt w xs v) (hb : Below w.heap.size w w') : AgsAt w' xs v := DAt.keep h hb
theorem AgsAt.elem {w : World} {xs : List Ag} {a : Option Addr} {n cap : Nat} (h : AgsAt w xs (.slice a n cap)) {k : Nat} (hk : k < xs.length) : ∃ (b off : Nat), a = some ⟨b, off, none⟩ ∧ b < w.heap.size ∧ w.cell? ⟨b, off + k * 2, none⟩ = some (.string xs[k].var) ∧ w.cell? ⟨b, off + k * 2 + 1, none⟩ = some (.int .i64 xs[k].elem) ∧ Ag.At w xs[k] := by
  obtain ⟨a', cap', e, h1, h2, h3, h4⟩ := h.open_
  injection e with e1 e2 e3
  subst e1
  obtain ⟨b, off, rfl, hb, c0, c1⟩ := h3.at2 hk
  have hF := h4 k hk
  simp only [getD_at _ hk, Ag.c] at c0 c1
  exact ⟨b, off, rfl, hb, c0, c1, hF⟩
structure Bd where
  var : ByteArray
  term : Tm
def Bd.d (x : Bd) : List D := [.str x.var, .str x.term.name, .arr (x.term.args.map Tm.d)]
theorem Bd.d_eq (x : Bd) : Bd.d x = [.str x.var, .str x.term.name, .arr (x.term.args.map Tm.d)] := rfl
def Bd.bulk (x : Bd) : Nat := x.var.size + x.term.bulk
theorem Bd.bulk_eq (x : Bd) : x.bulk = x.var.size + x.term.bulk := rfl
def Bd.sumB : List Bd → Nat
  | [] => 0
  | x :: xs => x.bulk + Bd.sumB xs
def Bd.zero : Bd := ⟨⟨#[]⟩, Tm.zero⟩
theorem Bd.bulk_le : ∀ (xs : List Bd) (k : Nat) (h : k < xs.length), xs[k].bulk ≤ Bd.sumB xs
  | [], k, h => absurd h (by simp)
  | x :: xs, 0, _ => by rw [Bd.sumB]; simp
  | x :: xs, k + 1, h => by
    have := Bd.bulk_le xs k (by simpa using h)
    rw [Bd.sumB]; simp only [List.getElem_cons_succ]; omega
def Bd.c (x : Bd) (s0 : Value) (j : Nat) : Value := match j with | 0 => .string x.var | 1 => .string x.term.name | _ => s0
abbrev BdsAt (w : World) (xs : List Bd) (v : Value) : Prop := DAt w (.arr (xs.map Bd.d)) v
def Bd.At (w : World) (x : Bd) (s0 : Value) : Prop := x.var.size ≤ 9223372036854775807 ∧ x.term.name.size ≤ 9223372036854775807 ∧ TmsAt w x.term.args s0
theorem Bd.At.keep {w w' : World} {x : Bd} {s0 : Value} (h : Bd.At w x s0) (hb : Below w.heap.size w w') : Bd.At w' x s0 := ⟨h.1, h.2.1, DAt.keep h.2.2 hb⟩
theorem BdsAt.open_ {w : World} {xs : List Bd} {v : Value} (h : BdsAt w xs v) : ∃ (a : Option Addr) (cap : Nat) (S0 : Nat → Value), v = .slice a xs.length cap ∧ xs.length ≤ cap ∧ cap ≤ 9223372036854775807 ∧ SlA w 0 3 xs.length (fun i j => Bd.c (xs.getD i Bd.zero) (S0 i) j) a ∧ ∀ i (h : i < xs.length), Bd.At w xs[i] (S0 i) := by
  obtain ⟨sz, a, cap, f, e, h1, h2, h3, h4, h5⟩ := h.arr_inv
  simp only [List.length_map] at e h1 h3 h4 h5
  have hl : ∀ i, i < xs.length → sz = 3 := fun i hi => by
    have := h4 i hi
    rw [List.getElem_map, Bd.d_eq] at this
    exact this.symm
  have hk : ∀ i (hi : i < xs.length) j (d : D), (Bd.d xs[i])[j]? = some d → DAt w d (f i j) := by
    intro i hi j d hd
    have hj : j < (Bd.d xs[i]).length := (List.getElem?_eq_some_iff.1 hd).1
    have := h5 i j hi (by rw [List.getElem_map]; exact hj)
    simp only [List.getElem_map] at this
    rw [List.getElem?_eq_getElem hj] at hd
    rw [Option.some.inj hd] at this
    exact this
  refine ⟨a, cap, fun i => f i 2, e, h1, h2, ?_, fun i hi => ?_⟩
  · rcases Nat.eq_zero_or_pos xs.length with h0 | h0
    · exact .inl h0
    · rw [hl 0 h0] at h3
      refine h3.congr fun i j hi hj => ?_
      rw [getD_at _ hi]
      match j, hj with
      | 0, _ => exact (hk i hi 0 _ (by rw [Bd.d_eq]; rfl)).str_inv.1
      | 1, _ => exact (hk i hi 1 _ (by rw [Bd.d_eq]; rfl)).str_inv.1
      | 2, _ => rfl
  · exact ⟨(hk i hi 0 _ (by rw [Bd.d_eq]; rfl)).str_inv.2, (hk i hi 1 _ (by rw [Bd.d_eq]; rfl)).str_inv.2, hk i hi 2 _ (by rw [Bd.d_eq]; rfl)⟩
theorem BdsAt.keep {w w' : World} {xs : List Bd} {v : Value} (h : BdsAt w xs v) (hb : Below w.heap.size w w') : BdsAt w' xs v := DAt.keep h hb
theorem BdsAt.elem {w : World} {xs : List Bd} {a : Option Addr} {n cap : Nat} (h : BdsAt w xs (.slice a n cap)) {k : Nat} (hk : k < xs.length) : ∃ (b off : Nat) (y0 : Option Addr) (n0 c0 : Nat), a = some ⟨b, off, none⟩ ∧ b < w.heap.size ∧ w.cell? ⟨b, off + k * 3, none⟩ = some (.string xs[k].var) ∧ w.cell? ⟨b, off + k * 3 + 1, none⟩ = some (.string xs[k].term.name) ∧ w.cell? ⟨b, off + k * 3 + 2, none⟩ = some (.slice y0 n0 c0) ∧ Bd.At w xs[k] (.slice y0 n0 c0) := by
  obtain ⟨a', cap', S0, e, h1, h2, h3, h4⟩ := h.open_
  injection e with e1 e2 e3
  subst e1
  obtain ⟨b, off, rfl, hb, c0, c1, c2⟩ := h3.at3 hk
  have hF := h4 k hk
  obtain ⟨y0, n0, cc0, e0⟩ := DAt.form hF.2.2
  simp only [getD_at _ hk, Bd.c] at c0 c1 c2
  rw [e0] at c2
  refine ⟨b, off, y0, n0, cc0, rfl, hb, c0, c1, c2, ?_⟩
  rw [e0] at hF
  exact hF
structure Sb where
  binds : List Bd
def Sb.d (x : Sb) : List D := [.arr (x.binds.map Bd.d)]
theorem Sb.d_eq (x : Sb) : Sb.d x = [.arr (x.binds.map Bd.d)] := rfl
def Sb.bulk (x : Sb) : Nat := (x.binds.length + Bd.sumB x.binds)
theorem Sb.bulk_eq (x : Sb) : x.bulk = (x.binds.length + Bd.sumB x.binds) := rfl
def Sb.sumB : List Sb → Nat
  | [] => 0
  | x :: xs => x.bulk + Sb.sumB xs
def Sb.zero : Sb := ⟨[]⟩
theorem Sb.bulk_le : ∀ (xs : List Sb) (k : Nat) (h : k < xs.length), xs[k].bulk ≤ Sb.sumB xs
  | [], k, h => absurd h (by simp)
  | x :: xs, 0, _ => by rw [Sb.sumB]; simp
  | x :: xs, k + 1, h => by
    have := Sb.bulk_le xs k (by simpa using h)
    rw [Sb.sumB]; simp only [List.getElem_cons_succ]; omega
def Sb.c (x : Sb) (s0 : Value) (j : Nat) : Value := match j with | _ => s0
abbrev SbsAt (w : World) (xs : List Sb) (v : Value) : Prop := DAt w (.arr (xs.map Sb.d)) v
def Sb.At (w : World) (x : Sb) (s0 : Value) : Prop := BdsAt w x.binds s0
theorem Sb.At.keep {w w' : World} {x : Sb} {s0 : Value} (h : Sb.At w x s0) (hb : Below w.heap.size w w') : Sb.At w' x s0 := DAt.keep h hb
theorem SbsAt.open_ {w : World} {xs : List Sb} {v : Value} (h : SbsAt w xs v) : ∃ (a : Option Addr) (cap : Nat) (S0 : Nat → Value), v = .slice a xs.length cap ∧ xs.length ≤ cap ∧ cap ≤ 9223372036854775807 ∧ SlA w 0 1 xs.length (fun i j => Sb.c (xs.getD i Sb.zero) (S0 i) j) a ∧ ∀ i (h : i < xs.length), Sb.At w xs[i] (S0 i) := by
  obtain ⟨sz, a, cap, f, e, h1, h2, h3, h4, h5⟩ := h.arr_inv
  simp only [List.length_map] at e h1 h3 h4 h5
  have hl : ∀ i, i < xs.length → sz = 1 := fun i hi => by
    have := h4 i hi
    rw [List.getElem_map, Sb.d_eq] at this
    exact this.symm
  have hk : ∀ i (hi : i < xs.length) j (d : D), (Sb.d xs[i])[j]? = some d → DAt w d (f i j) := by
    intro i hi j d hd
    have hj : j < (Sb.d xs[i]).length := (List.getElem?_eq_some_iff.1 hd).1
    have := h5 i j hi (by rw [List.getElem_map]; exact hj)
    simp only [List.getElem_map] at this
    rw [List.getElem?_eq_getElem hj] at hd
    rw [Option.some.inj hd] at this
    exact this
  refine ⟨a, cap, fun i => f i 0, e, h1, h2, ?_, fun i hi => ?_⟩
  · rcases Nat.eq_zero_or_pos xs.length with h0 | h0
    · exact .inl h0
    · rw [hl 0 h0] at h3
      refine h3.congr fun i j hi hj => ?_
      rw [getD_at _ hi]
      match j, hj with
      | 0, _ => rfl
  · exact hk i hi 0 _ (by rw [Sb.d_eq]; rfl)
theorem SbsAt.keep {w w' : World} {xs : List Sb} {v : Value} (h : SbsAt w xs v) (hb : Below w.heap.size w w') : SbsAt w' xs v := DAt.keep h hb
theorem SbsAt.elem {w : World} {xs : List Sb} {a : Option Addr} {n cap : Nat} (h : SbsAt w xs (.slice a n cap)) {k : Nat} (hk : k < xs.length) : ∃ (b off : Nat) (y0 : Option Addr) (n0 c0 : Nat), a = some ⟨b, off, none⟩ ∧ b < w.heap.size ∧ w.cell? ⟨b, off + k, none⟩ = some (.slice y0 n0 c0) ∧ Sb.At w xs[k] (.slice y0 n0 c0) := by
  obtain ⟨a', cap', S0, e, h1, h2, h3, h4⟩ := h.open_
  injection e with e1 e2 e3
  subst e1
  obtain ⟨b, off, rfl, hb, c0⟩ := h3.at1 hk
  have hF := h4 k hk
  obtain ⟨y0, n0, cc0, e0⟩ := DAt.form hF
  simp only [getD_at _ hk, Sb.c] at c0
  rw [e0] at c0
  refine ⟨b, off, y0, n0, cc0, rfl, hb, c0, ?_⟩
  rw [e0] at hF
  exact hF
structure Df where
  name : ByteArray
  vars : List ByteArray
  form : Fm
def Df.d (x : Df) : List D := [.str x.name, .arr (x.vars.map fun s => [.str s]), .int x.form.op, .str x.form.atom.name, .arr (x.form.atom.args.map Tm.d), .str x.form.var, .arr (x.form.parts.map Fm.d)]
theorem Df.d_eq (x : Df) : Df.d x = [.str x.name, .arr (x.vars.map fun s => [.str s]), .int x.form.op, .str x.form.atom.name, .arr (x.form.atom.args.map Tm.d), .str x.form.var, .arr (x.form.parts.map Fm.d)] := rfl
def Df.bulk (x : Df) : Nat := x.name.size + (x.vars.length + strB x.vars) + x.form.bulk
theorem Df.bulk_eq (x : Df) : x.bulk = x.name.size + (x.vars.length + strB x.vars) + x.form.bulk := rfl
def Df.sumB : List Df → Nat
  | [] => 0
  | x :: xs => x.bulk + Df.sumB xs
def Df.zero : Df := ⟨⟨#[]⟩, [], Fm.zero⟩
theorem Df.bulk_le : ∀ (xs : List Df) (k : Nat) (h : k < xs.length), xs[k].bulk ≤ Df.sumB xs
  | [], k, h => absurd h (by simp)
  | x :: xs, 0, _ => by rw [Df.sumB]; simp
  | x :: xs, k + 1, h => by
    have := Df.bulk_le xs k (by simpa using h)
    rw [Df.sumB]; simp only [List.getElem_cons_succ]; omega
def Df.c (x : Df) (s0 : Value) (s1 : Value) (s2 : Value) (j : Nat) : Value := match j with | 0 => .string x.name | 1 => s0 | 2 => .int .i64 x.form.op | 3 => .string x.form.atom.name | 4 => s1 | 5 => .string x.form.var | _ => s2
abbrev DfsAt (w : World) (xs : List Df) (v : Value) : Prop := DAt w (.arr (xs.map Df.d)) v
def Df.At (w : World) (x : Df) (s0 : Value) (s1 : Value) (s2 : Value) : Prop := x.name.size ≤ 9223372036854775807 ∧ StrsAt w x.vars s0 ∧ x.form.atom.name.size ≤ 9223372036854775807 ∧ TmsAt w x.form.atom.args s1 ∧ x.form.var.size ≤ 9223372036854775807 ∧ FmsAt w x.form.parts s2
theorem Df.At.keep {w w' : World} {x : Df} {s0 : Value} {s1 : Value} {s2 : Value} (h : Df.At w x s0 s1 s2) (hb : Below w.heap.size w w') : Df.At w' x s0 s1 s2 := ⟨h.1, DAt.keep h.2.1 hb, h.2.2.1, DAt.keep h.2.2.2.1 hb, h.2.2.2.2.1, DAt.keep h.2.2.2.2.2 hb⟩
theorem DfsAt.open_ {w : World} {xs : List Df} {v : Value} (h : DfsAt w xs v) : ∃ (a : Option Addr) (cap : Nat) (S0 : Nat → Value) (S1 : Nat → Value) (S2 : Nat → Value), v = .slice a xs.length cap ∧ xs.length ≤ cap ∧ cap ≤ 9223372036854775807 ∧ SlA w 0 7 xs.length (fun i j => Df.c (xs.getD i Df.zero) (S0 i) (S1 i) (S2 i) j) a ∧ ∀ i (h : i < xs.length), Df.At w xs[i] (S0 i) (S1 i) (S2 i) := by
  obtain ⟨sz, a, cap, f, e, h1, h2, h3, h4, h5⟩ := h.arr_inv
  simp only [List.length_map] at e h1 h3 h4 h5
  have hl : ∀ i, i < xs.length → sz = 7 := fun i hi => by
    have := h4 i hi
    rw [List.getElem_map, Df.d_eq] at this
    exact this.symm
  have hk : ∀ i (hi : i < xs.length) j (d : D), (Df.d xs[i])[j]? = some d → DAt w d (f i j) := by
    intro i hi j d hd
    have hj : j < (Df.d xs[i]).length := (List.getElem?_eq_some_iff.1 hd).1
    have := h5 i j hi (by rw [List.getElem_map]; exact hj)
    simp only [List.getElem_map] at this
    rw [List.getElem?_eq_getElem hj] at hd
    rw [Option.some.inj hd] at this
    exact this
  refine ⟨a, cap, fun i => f i 1, fun i => f i 4, fun i => f i 6, e, h1, h2, ?_, fun i hi => ?_⟩
  · rcases Nat.eq_zero_or_pos xs.length with h0 | h0
    · exact .inl h0
    · rw [hl 0 h0] at h3
      refine h3.congr fun i j hi hj => ?_
      rw [getD_at _ hi]
      match j, hj with
      | 0, _ => exact (hk i hi 0 _ (by rw [Df.d_eq]; rfl)).str_inv.1
      | 1, _ => rfl
      | 2, _ => exact (hk i hi 2 _ (by rw [Df.d_eq]; rfl)).int_inv
      | 3, _ => exact (hk i hi 3 _ (by rw [Df.d_eq]; rfl)).str_inv.1
      | 4, _ => rfl
      | 5, _ => exact (hk i hi 5 _ (by rw [Df.d_eq]; rfl)).str_inv.1
      | 6, _ => rfl
  · exact ⟨(hk i hi 0 _ (by rw [Df.d_eq]; rfl)).str_inv.2, hk i hi 1 _ (by rw [Df.d_eq]; rfl), (hk i hi 3 _ (by rw [Df.d_eq]; rfl)).str_inv.2, hk i hi 4 _ (by rw [Df.d_eq]; rfl), (hk i hi 5 _ (by rw [Df.d_eq]; rfl)).str_inv.2, hk i hi 6 _ (by rw [Df.d_eq]; rfl)⟩
theorem DfsAt.keep {w w' : World} {xs : List Df} {v : Value} (h : DfsAt w xs v) (hb : Below w.heap.size w w') : DfsAt w' xs v := DAt.keep h hb
theorem DfsAt.elem {w : World} {xs : List Df} {a : Option Addr} {n cap : Nat} (h : DfsAt w xs (.slice a n cap)) {k : Nat} (hk : k < xs.length) : ∃ (b off : Nat) (y0 : Option Addr) (n0 c0 : Nat) (y1 : Option Addr) (n1 c1 : Nat) (y2 : Option Addr) (n2 c2 : Nat), a = some ⟨b, off, none⟩ ∧ b < w.heap.size ∧ w.cell? ⟨b, off + k * 7, none⟩ = some (.string xs[k].name) ∧ w.cell? ⟨b, off + k * 7 + 1, none⟩ = some (.slice y0 n0 c0) ∧ w.cell? ⟨b, off + k * 7 + 2, none⟩ = some (.int .i64 xs[k].form.op) ∧ w.cell? ⟨b, off + k * 7 + 3, none⟩ = some (.string xs[k].form.atom.name) ∧ w.cell? ⟨b, off + k * 7 + 4, none⟩ = some (.slice y1 n1 c1) ∧ w.cell? ⟨b, off + k * 7 + 5, none⟩ = some (.string xs[k].form.var) ∧ w.cell? ⟨b, off + k * 7 + 6, none⟩ = some (.slice y2 n2 c2) ∧ Df.At w xs[k] (.slice y0 n0 c0) (.slice y1 n1 c1) (.slice y2 n2 c2) := by
  obtain ⟨a', cap', S0, S1, S2, e, h1, h2, h3, h4⟩ := h.open_
  injection e with e1 e2 e3
  subst e1
  obtain ⟨b, off, rfl, hb, c0, c1, c2, c3, c4, c5, c6⟩ := h3.at7 hk
  have hF := h4 k hk
  obtain ⟨y0, n0, cc0, e0⟩ := DAt.form hF.2.1
  obtain ⟨y1, n1, cc1, e1⟩ := DAt.form hF.2.2.2.1
  obtain ⟨y2, n2, cc2, e2⟩ := DAt.form hF.2.2.2.2.2
  simp only [getD_at _ hk, Df.c] at c0 c1 c2 c3 c4 c5 c6
  rw [e0] at c1
  rw [e1] at c4
  rw [e2] at c6
  refine ⟨b, off, y0, n0, cc0, y1, n1, cc1, y2, n2, cc2, rfl, hb, c0, c1, c2, c3, c4, c5, c6, ?_⟩
  rw [e0, e1, e2] at hF
  exact hF
theorem Fun.of_ret {f : FuncId} {args : List SV} {r : SV} {rv : Value} (hr : ∀ (w : World) (I : Nat → Prop) (V : Nat → Option Value), RepV w I V r rv)
    (h : ∀ (w : World) (I : Nat → Prop) (V : Nat → Option Value) (vs : List Value), RepVs w I V args vs → Calls Tryz.prog f vs.toArray w (Ret w rv)) : Fun Tryz.prog f args [] r [] := by
  intro w I V B vs hwf hvs
  refine (h w I V vs hvs).mono ?_
  rintro e w' ⟨rfl, hb⟩
  refine ⟨rv, I, V, B, rfl, hr _ _ _, ⟨⟨hb.os, hb.tape, hb.output, hb.size, fun b hlt _ => hb.block b hlt⟩, fun _ h => h, fun _ h => .inl h, VLe.refl _, ?_, fun g b hl => by simp [geto, Ob.live] at hl⟩⟩
  exact ⟨fun b hb' => Nat.lt_of_lt_of_le (hwf.ilt b hb') hb.size, fun g hl => by simp [geto, Ob.live] at hl, fun g b hl => by simp [geto, Ob.live] at hl, fun g b hl => by simp [geto, Ob.live] at hl, fun g g' b hl => by simp [geto, Ob.live] at hl, fun g hf => hwf.fr g rfl, hwf.gl.keep ⟨hb.size, fun b _ hlt => hb.block b hlt⟩ fun _ h => h⟩
theorem Fun.of_same {f : FuncId} {args : List SV} {r : SV} {rv : Value} (hr : ∀ (w : World) (I : Nat → Prop) (V : Nat → Option Value), RepV w I V r rv)
    (h : ∀ (w : World) (I : Nat → Prop) (V : Nat → Option Value) (vs : List Value), RepVs w I V args vs → Calls Tryz.prog f vs.toArray w (Same w rv)) : Fun Tryz.prog f args [] r [] :=
  Fun.of_ret hr fun w I V vs hvs => Same.ret (h w I V vs hvs)
section
variable {w : World} {I : Nat → Prop} {V : Nat → Option Value} {vs : List Value}
theorem args0 (h : RepVs w I V [] vs) : vs = [] := by simpa [RepVs] using h
theorem args_cons {x : SV} {xs : List SV} (h : RepVs w I V (x :: xs) vs) : ∃ v r, vs = v :: r ∧ RepV w I V x v ∧ RepVs w I V xs r := by simpa only [RepVs] using h
theorem rep_str {s : ByteArray} {v : Value} (h : RepV w I V (.str s) v) : v = .string s ∧ s.size ≤ 9223372036854775807 := by simpa only [RepV] using h
theorem rep_int {k : IntKind} {n : Int} {v : Value} (h : RepV w I V (.int k n) v) : v = .int k n := by simpa only [RepV] using h
end
mutual
def SV.fits : SV → Prop
  | .str s => s.size ≤ 9223372036854775807
  | .arr es => es.length ≤ 9223372036854775807
  | .agg l => fitsL l
  | _ => True
def fitsL : List SV → Prop
  | [] => True
  | x :: xs => x.fits ∧ fitsL xs
end
section
variable {w : World} {I : Nat → Prop} {V : Nat → Option Value}
end
theorem er_strs (xs : List ByteArray) : OT.erss (xs.map fun s => [OT.str s]) = xs.map fun s => [D.str s] := by
  induction xs with
  | nil => rfl
  | cons x r ih => simp only [List.map_cons, OT.erss, OT.ers, OT.er, ih]
theorem er_ints (xs : List Int) : OT.erss (xs.map fun s => [OT.int s]) = xs.map fun s => [D.int s] := by
  induction xs with
  | nil => rfl
  | cons x r ih => simp only [List.map_cons, OT.erss, OT.ers, OT.er, ih]
theorem no_strs (xs : List ByteArray) : OT.noShss (xs.map fun s => [OT.str s]) = true := by
  induction xs with
  | nil => rfl
  | cons x r ih => simp only [List.map_cons, OT.noShss, OT.noShs, OT.noSh, ih, Bool.and_self]
theorem no_ints (xs : List Int) : OT.noShss (xs.map fun s => [OT.int s]) = true := by
  induction xs with
  | nil => rfl
  | cons x r ih => simp only [List.map_cons, OT.noShss, OT.noShs, OT.noSh, ih, Bool.and_self]
def szR (left : Int) (n : Nat) : Int := if (n : Int) ≤ left then left - n else -1
def mkT (k : Nat) (acc : List UInt8) : List UInt8 := if h : k = 0 then acc else mkT (k / 10) (UInt8.ofNat (48 + k % 10) :: acc)
termination_by k
decreasing_by omega
def markT (k : Int) : ByteArray := ⟨(109 :: mkT k.toNat []).toArray⟩
theorem bytes_cat (a b : Array UInt8) : (⟨a⟩ ++ ⟨b⟩ : ByteArray) = ⟨a ++ b⟩ := by apply ByteArray.ext; simp
theorem mkT_len (k : Nat) (acc : List UInt8) : (mkT k acc).length ≤ acc.length + k := by
  induction k using Nat.strongRecOn generalizing acc with
  | _ k ih =>
    unfold mkT
    split
    · omega
    · have := ih (k / 10) (by omega) (UInt8.ofNat (48 + k % 10) :: acc)
      simp only [List.length_cons] at this
      omega
theorem markT_size {k : Int} (h : 0 ≤ k) (h1 : k ≤ 1099511627776) : (markT k).size ≤ 9223372036854775807 := by
  have := mkT_len k.toNat []
  show (109 :: mkT k.toNat []).toArray.size ≤ _
  simp only [List.size_toArray, List.length_cons, List.length_nil] at *
  omega
set_option maxHeartbeats 1000000 in
theorem markText_any (K : Nat) (w : World) (h1 : 1 ≤ K) (h2 : (K : Int) ≤ 1099511627776) : Calls Tryz.prog 42 #[.int .i64 (K : Int)] w (Ret w (.string (markT K))) := by
  go_enter Tryz.func42, Tryz.ntmps42
  go_wp2
  go_loopw [0, 3] (fun n s wr => ∃ (k : Nat) (acc : List UInt8), n = .int .i64 k ∧ s = .string ⟨acc.toArray⟩ ∧ acc.length + k ≤ K ∧ mkT k acc = mkT K [] ∧ Below w.heap.size w wr) (fun n _ _ => (intOf n).toNat)
  case atStart => exact ⟨K, [], rfl, rfl, by simp, rfl, Below.refl _ _⟩
  case round =>
    obtain ⟨k, acc, rfl, rfl, hle, hok, hbw⟩ := hrel
    have hzw := hbw.size
    have Hok := Lib.hid hok
    clear hok
    by_cases hlt : k = 0
    · subst hlt
      go_wp2_with fail
      go_ret
      refine Ret.bel ?_ hbw
      have h0 := Hok.out
      rw [mkT, dif_pos rfl] at h0
      unfold markT
      rw [Int.toNat_natCast, ← h0]
      show Value.string (⟨#[109]⟩ ++ ⟨acc.toArray⟩) = _
      rw [bytes_cat]
      simp
    · have hk0 : (0 : Int) < k := by omega
      have hr : (wr.alloc (.cells #[.int .u8 (48 + (k : Int) % 10)] 5)).cell? ⟨wr.heap.size, 0, none⟩ = some (.int .u8 (48 + (k : Int) % 10)) := by rw [World.cell?_alloc_at _ _ _ _ rfl]; rfl
      have hcv := run_convert_bytes_back (P := Tryz.prog) (wr.alloc (.cells #[.int .u8 (48 + (k : Int) % 10)] 5)) 102 9 5 ⟨wr.heap.size, 0, none⟩ 1 [UInt8.ofNat (48 + k % 10)] Tryz.underlying102 Tryz.underlying5 Tryz.underlying9 (fun j hj => by
        obtain rfl : j = 0 := by simpa using hj
        rw [show (⟨wr.heap.size, 0, none⟩ : Addr).add 0 = ⟨wr.heap.size, 0, none⟩ from rfl, hr]
        have : (UInt8.ofNat (48 + k % 10)).toNat = 48 + k % 10 := by rw [UInt8.toNat_ofNat']; omega
        simp only [List.getElem_cons_zero, this]
        push_cast
        rfl)
      simp only [List.length_cons, List.length_nil, Nat.zero_add] at hcv
      clear hr
      go_wp2_with fail
      refine ⟨⟨k / 10, UInt8.ofNat (48 + k % 10) :: acc, by go_num, ?_, ?_, ?_, (by (repeat' first | (with_reducible exact Below.refl _ _) | (with_reducible refine Below.setCell ?_ ?_ _) | (with_reducible refine Below.alloc ?_ ?_ _) | (with_reducible refine Below.drewN' ?_ _) | (with_reducible refine Below.via ?_ (by assumption) ?_) | (with_reducible exact Nat.le_refl _) | (simp; done) | (simp; omega) | omega))⟩, ?_⟩
      · rw [bytes_cat]; simp
      · simp only [List.length_cons]; omega
      · rw [← Hok.out, mkT.eq_def k acc, dif_neg hlt]
      · simp only [intOf]; omega
def lowB (b : Int) : Bool := decide (97 ≤ b) && decide (b ≤ 122)
def digB (b : Int) : Bool := decide (48 ≤ b) && decide (b ≤ 57)
def uppB (b : Int) : Bool := decide (65 ≤ b) && decide (b ≤ 90)
def inB (n lo hi : Int) : Bool := decide (lo ≤ n) && decide (n ≤ hi)
theorem within_any (n lo hi : Int) (w : World) :
    Calls Tryz.prog 111 #[.int .i64 n, .int .i64 lo, .int .i64 hi] w (Same w (.bool (inB n lo hi))) := by
  by_cases h1 : lo ≤ n <;> by_cases h2 : n ≤ hi
  all_goals
    go_enter Tryz.func111, Tryz.ntmps111
    go_wp2
    go_ret
    exact Same.mk' _ (by simp [inB, h1, h2])
theorem l1In_any (n lo hi : Int) (w : World) :
    Calls Tryz.prog 138 #[.int .i64 n, .int .i64 lo, .int .i64 hi] w (Same w (.bool (inB n lo hi))) := by
  by_cases h1 : lo ≤ n <;> by_cases h2 : n ≤ hi
  all_goals
    go_enter Tryz.func138, Tryz.ntmps138
    go_wp2
    go_ret
    exact Same.mk' _ (by simp [inB, h1, h2])
theorem isLower_any (n : Int) (w : World) : Calls Tryz.prog 109 #[.int .u8 n] w (Same w (.bool (lowB n))) := by
  by_cases h1 : 97 ≤ n <;> by_cases h2 : n ≤ 122
  all_goals
    go_enter Tryz.func109, Tryz.ntmps109
    go_wp2
    go_ret
    exact Same.mk' _ (by simp [lowB, h1, h2])
theorem isDigit_any (n : Int) (w : World) : Calls Tryz.prog 110 #[.int .u8 n] w (Same w (.bool (digB n))) := by
  by_cases h1 : 48 ≤ n <;> by_cases h2 : n ≤ 57
  all_goals
    go_enter Tryz.func110, Tryz.ntmps110
    go_wp2
    go_ret
    exact Same.mk' _ (by simp [digB, h1, h2])
theorem isUpper_any (n : Int) (w : World) : Calls Tryz.prog 108 #[.int .u8 n] w (Same w (.bool (uppB n))) := by
  by_cases h1 : 65 ≤ n <;> by_cases h2 : n ≤ 90
  all_goals
    go_enter Tryz.func108, Tryz.ntmps108
    go_wp2
    go_ret
    exact Same.mk' _ (by simp [uppB, h1, h2])
def smallB (n : Int) : Bool := lowB n || digB n
theorem l2Small_any (n : Int) (w : World) : Calls Tryz.prog 139 #[.int .u8 n] w (Same w (.bool (smallB n))) := by
  by_cases h1 : 97 ≤ n <;> by_cases h2 : n ≤ 122 <;> by_cases h3 : 48 ≤ n <;> by_cases h4 : n ≤ 57 <;> first | (exfalso; omega) | skip
  all_goals
    go_enter Tryz.func139, Tryz.ntmps139
    go_wp2
    go_ret
    exact Same.mk' _ (by simp [smallB, lowB, digB, h1, h2, h3, h4])
def byteZ (s : ByteArray) (k : Nat) : Int := ((s.toList.getD k 0).toNat : Int)
theorem byteZ_get {s : ByteArray} {k : Nat} (h : k < s.size) : (s[k].toNat : Int) = byteZ s k := by
  have h' : k < s.data.toList.length := h
  unfold byteZ
  rw [ByteArray.toList_eq, List.getD_eq_getElem?_getD, List.getElem?_eq_getElem h']
  rfl
def loopB (p : Nat → Int → Bool) (s : ByteArray) (k : Nat) : Bool := (List.range k).all fun j => p j (byteZ s j)
theorem loopB_succ {p : Nat → Int → Bool} {s : ByteArray} {k : Nat} : loopB p s (k + 1) = (loopB p s k && p k (byteZ s k)) := by
  unfold loopB
  rw [List.range_succ, List.all_append]
  simp
theorem loopB_next {p : Nat → Int → Bool} {s : ByteArray} {k : Nat} (h : loopB p s k = true) (hk : p k (byteZ s k) = true) : loopB p s (k + 1) = true := by
  rw [loopB_succ, h, hk]; rfl
theorem loopB_mono {p : Nat → Int → Bool} {s : ByteArray} {k n : Nat} (h : loopB p s k = false) (hn : k ≤ n) : loopB p s n = false := by
  induction n with
  | zero => have : k = 0 := by omega
            subst this; exact h
  | succ n ih =>
    by_cases hk : k = n + 1
    · subst hk; exact h
    · rw [loopB_succ, ih (by omega)]; rfl
theorem loopB_stop {p : Nat → Int → Bool} {s : ByteArray} {k : Nat} (hk : k < s.size) (h : p k (byteZ s k) = false) : loopB p s s.size = false :=
  loopB_mono (k := k + 1) (by rw [loopB_succ, h]; simp) (by omega)
def symOk (k : Nat) (b : Int) : Bool := (k != 0 || lowB b) && (smallB b || b == 95)
def varOk (k : Nat) (b : Int) : Bool := (k != 0 || uppB b) && (k == 0 || smallB b)
def words : List (List UInt8) := [[116, 114, 117, 101], [102, 97, 108, 115, 101], [116, 114, 117, 116, 104], [98, 111, 116, 104], [101, 105, 116, 104, 101, 114], [105, 102], [97, 108, 108], [115, 111, 109, 101]]
def resB (s : ByteArray) : Bool := anyB (fun k => s.toList == words.getD k []) 8
def symB (s : ByteArray) : Bool := loopB symOk s s.size && inB s.size 1 6 && !resB s
def varB (s : ByteArray) : Bool := loopB varOk s s.size && inB s.size 1 4
set_option maxHeartbeats 1000000 in
theorem isVariable_any (s : ByteArray) (w : World) (hs : s.size ≤ 9223372036854775807) : Calls Tryz.prog 82 #[.string s] w (Same w (.bool (varB s))) := by
  go_enter Tryz.func82, Tryz.ntmps82
  go_wp2
  go_loopw [6] (fun i wr => Cnt w s.size (fun k => loopB varOk s k = true) i wr) (fun i _ => s.size - (intOf i).toNat)
  case atStart => exact ⟨0, Nat.zero_le _, rfl, rfl, rfl⟩
  case round =>
    obtain ⟨k, hk, rfl, hok, rfl⟩ := hrel
    have Hok := Lib.hid hok
    clear hok
    by_cases hlt : k < s.size
    · have Hb := Lib.hid (byteZ_get hlt)
      rcases Nat.eq_zero_or_pos k with rfl | hpos
      all_goals
        go_wp2_with (first
          | (go_at_call 109; refine (isLower_any _ _).mono ?_; rintro e w' ⟨rfl, rfl⟩)
          | (go_at_call 108; refine (isUpper_any _ _).mono ?_; rintro e w' ⟨rfl, rfl⟩)
          | (go_at_call 110; refine (isDigit_any _ _).mono ?_; rintro e w' ⟨rfl, rfl⟩))
        all_goals first
          | (go_ret
             refine Same.mk' _ ?_
             unfold varB
             rw [loopB_stop hlt (by rw [← Hb.out]; simp_all [varOk, smallB] <;> omega)]
             rfl)
          | (go_roundw
             case rel => exact ⟨_, hlt, by go_num, loopB_next Hok.out (by rw [← Hb.out]; simp_all [varOk, smallB] <;> omega), rfl⟩
             case measure => first | exact intOf_lt hlt | (simp [intOf]; omega))
    · obtain rfl : k = s.size := by omega
      go_wp2_with (first
        | (go_at_call 111; refine (within_any _ _ _ _).mono ?_; rintro e w' ⟨rfl, rfl⟩))
      go_ret
      exact Same.mk' _ (by unfold varB; rw [Hok.out]; rfl)
set_option maxHeartbeats 1000000 in
theorem indexS_any (b n c : Nat) (f : Nat → ByteArray) (x : ByteArray) (w : World) (hn : n ≤ 9223372036854775807)
   (hc : ∀ k, k < n → w.cell? ⟨b, k, none⟩ = some (.string (f k))) : Calls Tryz.prog 130 #[.slice (some ⟨b, 0, none⟩) n c, .string x] w (Same w (.int .i64 (idxZ (fun k => x.toList == (f k).toList) n))) := by
  go_enter Tryz.func130, Tryz.ntmps130
  go_wp2
  go_loopw [8] (fun i wr => Cnt w n (fun k => ∀ j, j < k → (x.toList == (f j).toList) = false) i wr) (fun i _ => n - (intOf i).toNat)
  case atStart => exact ⟨0, Nat.zero_le _, rfl, fun j hj => absurd hj (by omega), rfl⟩
  case round =>
    obtain ⟨k, hk, rfl, hok, rfl⟩ := hrel
    have Hok := Lib.hid hok
    clear hok
    by_cases hlt : k < n
    · have hck := hc k (by omega)
      go_wp2_with fail
      · go_ret
        exact Same.mk' _ (by rw [idxZ_hit hlt Hok.out (by assumption)]; rfl)
      · go_roundw
        case rel => exact ⟨_, hlt, by go_num, all_lt_succ Hok.out (by assumption), rfl⟩
        case measure => exact intOf_lt hlt
    · obtain rfl : k = n := by omega
      go_wp2_with fail
      go_ret
      exact Same.mk' _ (by rw [idxZ_miss Hok.out]; rfl)
theorem containsS_any (b n c : Nat) (f : Nat → ByteArray) (x : ByteArray) (w : World) (hn : n ≤ 9223372036854775807)
   (hc : ∀ k, k < n → w.cell? ⟨b, k, none⟩ = some (.string (f k))) : Calls Tryz.prog 96 #[.slice (some ⟨b, 0, none⟩) n c, .string x] w (Same w (.bool (anyB (fun k => x.toList == (f k).toList) n))) := by
  have Hc := Lib.hid hc
  clear hc
  go_enter Tryz.func96, Tryz.ntmps96
  go_wp2_with (first
    | (go_at_call 130; refine (indexS_any _ _ _ f _ _ hn Hc.out).mono ?_; rintro e w' ⟨rfl, rfl⟩))
  go_ret
  exact Same.mk' _ (by rw [← idxZ_ge]; rfl)
theorem reserved_any (w : World) : Calls Tryz.prog 129 #[] w fun e w' => e = .returned (.slice (some ⟨w.heap.size, 0, none⟩) 8 8) ∧ w' = w.alloc (.cells ((words.map fun l => Value.string ⟨l.toArray⟩).toArray) 9) := by
  go_enter Tryz.func129, Tryz.ntmps129
  go_wp2
  go_ret
  exact ⟨rfl, rfl⟩
theorem words_cells (w : World) : ∀ k, k < 8 → (w.alloc (.cells ((words.map fun l => Value.string ⟨l.toArray⟩).toArray) 9)).cell? ⟨w.heap.size, k, none⟩ = some (.string ⟨(words.getD k []).toArray⟩) := by
  intro k hk
  have hh : (w.alloc (.cells ((words.map fun l => Value.string ⟨l.toArray⟩).toArray) 9)).heap[w.heap.size]? = some (.cells ((words.map fun l => Value.string ⟨l.toArray⟩).toArray) 9) := heap_alloc_new w _
  unfold World.cell?
  rw [hh]
  match k, hk with
  | 0, _ => rfl
  | 1, _ => rfl
  | 2, _ => rfl
  | 3, _ => rfl
  | 4, _ => rfl
  | 5, _ => rfl
  | 6, _ => rfl
  | 7, _ => rfl
set_option maxHeartbeats 1000000 in
theorem isSymbol_any (s : ByteArray) (w : World) (hs : s.size ≤ 9223372036854775807) : Calls Tryz.prog 95 #[.string s] w (Ret w (.bool (symB s))) := by
  go_enter Tryz.func95, Tryz.ntmps95
  go_wp2
  go_loopw [6] (fun i wr => Cnt w s.size (fun k => loopB symOk s k = true) i wr) (fun i _ => s.size - (intOf i).toNat)
  case atStart => exact ⟨0, Nat.zero_le _, rfl, rfl, rfl⟩
  case round =>
    obtain ⟨k, hk, rfl, hok, rfl⟩ := hrel
    have Hok := Lib.hid hok
    clear hok
    by_cases hlt : k < s.size
    · have Hb := Lib.hid (byteZ_get hlt)
      rcases Nat.eq_zero_or_pos k with rfl | hpos
      all_goals
        go_wp2_with (first
          | (go_at_call 109; refine (isLower_any _ _).mono ?_; rintro e w' ⟨rfl, rfl⟩)
          | (go_at_call 110; refine (isDigit_any _ _).mono ?_; rintro e w' ⟨rfl, rfl⟩))
        all_goals first
          | (go_ret
             refine Ret.same _ ?_
             unfold symB
             rw [loopB_stop hlt (by rw [← Hb.out]; simp_all [symOk, smallB] <;> omega)]
             rfl)
          | (go_roundw
             case rel => exact ⟨_, hlt, by go_num, loopB_next Hok.out (by rw [← Hb.out]; simp_all [symOk, smallB] <;> omega), rfl⟩
             case measure => first | exact intOf_lt hlt | (simp [intOf]; omega))
    · obtain rfl : k = s.size := by omega
      cases hin : inB s.size 1 6
      · go_wp2_with (first
          | (go_at_call 111; refine (within_any _ _ _ _).mono ?_; rintro e w' ⟨rfl, rfl⟩))
        go_ret
        exact Ret.same _ (by unfold symB; rw [hin]; simp)
      · go_wp2_with (first
          | (go_at_call 111; refine (within_any _ _ _ _).mono ?_; rintro e w' ⟨rfl, rfl⟩)
          | (go_at_call 129; refine (reserved_any _).mono ?_; rintro e w' ⟨rfl, rfl⟩)
          | (go_at_call 96; refine (containsS_any _ _ _ (fun k => ⟨(words.getD k []).toArray⟩) _ _ (by omega) (words_cells w)).mono ?_; rintro e w' ⟨rfl, rfl⟩))
        go_ret
        refine Ret.bel ?_ ((Below.refl _ _).alloc (Nat.le_refl _) _)
        unfold symB resB
        rw [hin, Hok.out]
        simp
set_option maxHeartbeats 1000000 in
theorem l2Var_any (s : ByteArray) (w : World) (hs : s.size ≤ 9223372036854775807) : Calls Tryz.prog 103 #[.string s] w (Same w (.bool (varB s))) := by
  cases hin : inB s.size 1 4
  · go_enter Tryz.func103, Tryz.ntmps103
    go_wp2_with (first
      | (go_at_call 138; refine (l1In_any _ _ _ _).mono ?_; rintro e w' ⟨rfl, rfl⟩))
    go_ret
    exact Same.mk' _ (by unfold varB; rw [hin]; simp)
  · have hpos : 0 < s.size := by simp [inB] at hin; omega
    have Hb := Lib.hid (byteZ_get hpos)
    go_enter Tryz.func103, Tryz.ntmps103
    go_wp2_with (first
      | (go_at_call 138; refine (l1In_any _ _ _ _).mono ?_; rintro e w' ⟨rfl, rfl⟩))
    all_goals first
      | (go_ret
         refine Same.mk' _ ?_
         unfold varB
         rw [loopB_stop hpos (by rw [← Hb.out]; simp [varOk, uppB]; omega)]
         rfl)
      | skip
    · go_loopw [3] (fun i wr => Cnt w s.size (fun k => 1 ≤ k ∧ loopB varOk s k = true) i wr) (fun i _ => s.size - (intOf i).toNat)
      case atStart => exact ⟨1, hpos, rfl, ⟨Nat.le_refl _, by rw [loopB_succ, ← Hb.out]; simp [loopB, varOk, uppB]; omega⟩, rfl⟩
      case round =>
        obtain ⟨k, hk, rfl, ⟨hk1, hok⟩, rfl⟩ := hrel
        have Hok := Lib.hid hok
        clear hok
        by_cases hlt : k < s.size
        · have Hbk := Lib.hid (byteZ_get hlt)
          have hk0 : k ≠ 0 := by omega
          go_wp2_with (first
            | (go_at_call 139; refine (l2Small_any _ _).mono ?_; rintro e w' ⟨rfl, rfl⟩))
          all_goals first
            | (go_ret
               refine Same.mk' _ ?_
               unfold varB
               rw [loopB_stop hlt (by rw [← Hbk.out]; simp_all [varOk] <;> omega)]
               rfl)
            | (go_roundw
               case rel => exact ⟨_, hlt, by go_num, ⟨by omega, loopB_next Hok.out (by rw [← Hbk.out]; simp_all [varOk] <;> omega)⟩, rfl⟩
               case measure => first | exact intOf_lt hlt | (simp [intOf]; omega))
        · obtain rfl : k = s.size := by omega
          go_wp2_with fail
          go_ret
          exact Same.mk' _ (by unfold varB; rw [Hok.out, hin]; rfl)
theorem resB_eq (s : ByteArray) : resB s = (s.toList == [116, 114, 117, 101] || s.toList == [102, 97, 108, 115, 101] || s.toList == [116, 114, 117, 116, 104] || s.toList == [98, 111, 116, 104] || s.toList == [101, 105, 116, 104, 101, 114] || s.toList == [105, 102] || s.toList == [97, 108, 108] || s.toList == [115, 111, 109, 101]) := by
  unfold resB anyB words
  simp [List.range, List.range.loop, Bool.or_assoc]
set_option maxHeartbeats 2000000 in
theorem l2Symbol_any (s : ByteArray) (w : World) (hs : s.size ≤ 9223372036854775807) : Calls Tryz.prog 136 #[.string s] w (Same w (.bool (symB s))) := by
  cases hin : inB s.size 1 6
  · go_enter Tryz.func136, Tryz.ntmps136
    go_wp2_with (first
      | (go_at_call 138; refine (l1In_any _ _ _ _).mono ?_; rintro e w' ⟨rfl, rfl⟩))
    go_ret
    exact Same.mk' _ (by unfold symB; rw [hin]; simp)
  · have hpos : 0 < s.size := by simp [inB] at hin; omega
    have Hb := Lib.hid (byteZ_get hpos)
    cases hres : resB s
    case true =>
      have Hres := Lib.hid hres
      rw [resB_eq] at hres
      go_enter Tryz.func136, Tryz.ntmps136
      go_wp2_with (first
        | (go_at_call 138; refine (l1In_any _ _ _ _).mono ?_; rintro e w' ⟨rfl, rfl⟩))
      all_goals first
        | (go_ret
           refine Same.mk' _ ?_
           unfold symB
           rw [Hres.out]; simp)
        | (exfalso; simp_all; done)
    have Hres := Lib.hid hres
    rw [resB_eq] at hres
    simp only [Bool.or_eq_false_iff] at hres
    obtain ⟨⟨⟨⟨⟨⟨⟨e1, e2⟩, e3⟩, e4⟩, e5⟩, e6⟩, e7⟩, e8⟩ := hres
    go_enter Tryz.func136, Tryz.ntmps136
    go_wp2_with (first
      | (go_at_call 138; refine (l1In_any _ _ _ _).mono ?_; rintro e w' ⟨rfl, rfl⟩))
    all_goals first
      | (go_ret
         refine Same.mk' _ ?_
         unfold symB
         rw [loopB_stop hpos (by rw [← Hb.out]; simp [symOk, lowB]; omega)]; rfl)
      | skip
    go_loopw [3] (fun i wr => Cnt w s.size (fun k => 1 ≤ k ∧ loopB symOk s k = true) i wr) (fun i _ => s.size - (intOf i).toNat)
    case atStart => exact ⟨1, hpos, rfl, ⟨Nat.le_refl _, by rw [loopB_succ, ← Hb.out]; simp [loopB, symOk, smallB, lowB]; omega⟩, rfl⟩
    case round =>
      obtain ⟨k, hk, rfl, ⟨hk1, hok⟩, rfl⟩ := hrel
      have Hok := Lib.hid hok
      clear hok
      by_cases hlt : k < s.size
      · have Hbk := Lib.hid (byteZ_get hlt)
        have hk0 : k ≠ 0 := by omega
        go_wp2_with (first
          | (go_at_call 139; refine (l2Small_any _ _).mono ?_; rintro e w' ⟨rfl, rfl⟩))
        all_goals first
          | (go_ret
             refine Same.mk' _ ?_
             unfold symB
             rw [loopB_stop hlt (by rw [← Hbk.out]; simp_all [symOk] <;> omega)]
             rfl)
          | (go_roundw
             case rel => exact ⟨_, hlt, by go_num, ⟨by omega, loopB_next Hok.out (by rw [← Hbk.out]; simp_all [symOk] <;> omega)⟩, rfl⟩
             case measure => first | exact intOf_lt hlt | (simp [intOf]; omega))
      · obtain rfl : k = s.size := by omega
        go_wp2_with fail
        go_ret
        exact Same.mk' _ (by unfold symB; rw [Hok.out, hin, Hres.out]; rfl)
end Go.Proofs.YtihclcmgbkkhfaaGreatDoor
set_option maxRecDepth 100000
namespace Go.Proofs.YtihclcmgbkkhfaaGreatDoor
open Go.Shelf
def so_CloneS_ren : Go.Shelf.Ren := ⟨fun | 16 => 39 | n => n, fun | 24 => 41 | 9 => 9 | 4 => 4 | n => n, fun | n => n⟩
theorem so_CloneS : Go.Proofs.Lays2.n16 Tryz.prog so_CloneS_ren := {
  mixed := by kernel_rfl,
  f16 := Tryz.func39.trans (congrArg some (by kernel_rfl)),
  t4 := Tryz.underlying4,
  a4 := Tryz.isAgg4,
  z4 := Tryz.sizeOf4,
  v4 := Tryz.zeroValue4,
  t9 := Tryz.underlying9,
  a9 := Tryz.isAgg9,
  z9 := Tryz.sizeOf9,
  v9 := Tryz.zeroValue9,
  t24 := Tryz.underlying41,
  a24 := Tryz.isAgg41,
  z24 := Tryz.sizeOf41,
  v24 := Tryz.zeroValue41,
  i9 := by kernel_rfl }
end Go.Proofs.YtihclcmgbkkhfaaGreatDoor
set_option maxRecDepth 100000
set_option linter.unusedSimpArgs false
set_option linter.unusedVariables false
namespace Go.Proofs.YtihclcmgbkkhfaaGreatDoor
open Go.RowKit
theorem newRow_post {w w' : World} {I : Nat → Prop} {V : Nat → Option Value} {B : Nat → Nat → Prop} (hwf : Wf w I V B (geto [])) (hbel : Below w.heap.size w w') {v : Value} {t : TypeId} {os : List OT} {vals : List Value} (hl : vals.length = os.length)
    (hown : w'.ownsRow w.heap.size t 1 v os.length vals) (hv : ∀ i (h : i < os.length), ORep w' I (fun _ => False) os[i] (vals.getD i undef)) :
    ∃ V' B', RepV w' I V' (.ref 0) v ∧ FunPost w I V B [] [.row t 1 (os.map fun o => [o])] w' I V' B' := by
  have hV0 : V 0 = none := hwf.fr 0 rfl
  have hn := hbel.size
  have gS : ∀ (e : List (List OT)) (g : Nat), geto [Ob.row t 1 e] (g + 1) = .free := fun _ _ => rfl
  obtain ⟨hx, hform⟩ := hown
  let B' : Nat → Nat → Prop := fun g b => g = 0 ∧ w.heap.size ≤ b ∧ b < w'.heap.size ∧ ∃ o n c, v = .slice (some ⟨b, o, none⟩) n c
  have hform2 : ∃ a n c, v = .slice a n c := by
    rcases hform with ⟨rfl, _⟩ | ⟨g, cap, cur, rfl, _⟩
    · exact ⟨_, _, _, rfl⟩
    · exact ⟨_, _, _, rfl⟩
  have hrow : RowR w' I (B' 0) t 1 (os.map fun o => [o]) v := by
    rcases hform with ⟨rfl, h0⟩ | ⟨g, cap, cur, rfl, hg, hb, h1, h2, h3, h4⟩
    · left
      have : os = [] := List.eq_nil_of_length_eq_zero h0
      subst this
      exact ⟨rfl, rfl⟩
    · right
      have hlt := (Array.getElem?_eq_some_iff.1 hb).1
      refine ⟨g, cap, cur, fun _ _ _ => False, by rw [List.length_map], ⟨rfl, hg, hlt, _, _, _, rfl⟩, hb, by rw [List.length_map]; exact h1, by unfold maxLen at h2; omega, h3, fun i hi => by simp, fun _ _ _ h => h.elim, fun _ _ _ _ _ h => h.elim, fun i j hi hj => ?_⟩
      have hi' : i < os.length := by simpa using hi
      have hj0 : j = 0 := by simpa using hj
      subst hj0
      have e : cur.getD (i * 1 + 0) undef = vals.getD i undef := by
        have hc : i < cur.size := by omega
        rw [← h4, Nat.mul_one, Nat.add_zero, Array.getD_eq_getD_getElem?, List.getD_eq_getElem?_getD, List.getElem?_take]
        simp only [Nat.mul_one, hi', if_true, Array.getElem?_toList]
      rw [e]
      have := hv i hi'
      simpa using this
  refine ⟨fun g => if g = 0 then some v else V g, B', ?_, ?_⟩
  · simp only [RepV]
    exact ⟨by simp, by obtain ⟨a, n, c, e⟩ := hform2; rw [e]; rfl⟩
  · refine ⟨⟨hbel.os, hbel.tape, hbel.output, hn, fun x hx _ => hbel.block x hx⟩, fun x hx => hx, fun x hx => .inl hx, fun g u hu => ?_, ⟨fun x hx => Nat.lt_of_lt_of_le (hwf.ilt x hx) hn, fun g hl => ?_, fun g b hl hb => hb.2.2.1, fun g b hl hb hI => ?_, fun g g' b hl hl' hb hb' => ?_, fun g hg => ?_, hwf.gl.keep ⟨hn, fun x _ hlt => hbel.block x hlt⟩ fun _ h => h⟩, fun g b hl hb => .inr hb.2.1⟩
    · by_cases h0 : g = 0
      · subst h0; rw [hV0] at hu; cases hu
      · simp only [if_neg h0]; exact hu
    · cases g with
      | zero => exact ⟨v, by simp, hrow⟩
      | succ g => rw [gS] at hl; exact hl.elim
    · have := hwf.ilt b hI
      have := hb.2.1
      omega
    · rw [hb.1, hb'.1]
    · cases g with
      | zero => cases hg
      | succ g => simp only [Nat.add_eq_zero_iff, Nat.succ_ne_self, and_false, if_false]; exact hwf.fr (g + 1) rfl
theorem flat_cells {w : World} {I : Nat → Prop} {es : List (List D)} {v : Value} (h : DRep false w I (.arr es) v) (hsz : ∀ e ∈ es, e.length = 1) :
    (es = [] ∧ ∃ a c, v = .slice a 0 c) ∨ ∃ b off cap, v = .slice (some ⟨b, off, none⟩) es.length cap ∧ ∀ i (hi : i < es.length), ∃ u, w.cell? ⟨b, off + i, none⟩ = some u ∧ ∃ S, DRep false w S (es[i].headD (.int 0)) u := by
  cases h with
  | arr S sz es a cap f Sub h1 h2 h3 h4 h5 h6 h7 =>
    rcases h3 with h3 | ⟨b, off, rfl, hS, hb, hc, _⟩
    · left
      have he : es = [] := List.eq_nil_of_length_eq_zero h3
      subst he
      exact ⟨rfl, _, _, rfl⟩
    · rcases Nat.eq_zero_or_pos es.length with h0 | h0
      · left
        have he : es = [] := List.eq_nil_of_length_eq_zero h0
        subst he
        exact ⟨rfl, _, _, rfl⟩
      · right
        have hs1 : sz = 1 := by rw [← h4 0 h0]; exact hsz _ (List.getElem_mem h0)
        subst hs1
        refine ⟨b, off, cap, rfl, fun i hi => ⟨f i 0, by have := hc i 0 hi (by omega); simpa using this, Sub i 0, ?_⟩⟩
        have hl := hsz _ (List.getElem_mem hi)
        have := h7 i 0 hi (by omega)
        have key : ∀ (l : List D) (h : 0 < l.length), l.headD (.int 0) = l[0] := fun l h => by
          cases l with
          | nil => cases h
          | cons d r => rfl
        have e := key es[i] (by omega)
        rw [e]
        exact this
def unS : List D → ByteArray
  | D.str s :: _ => s
  | _ => ⟨#[]⟩
noncomputable def cloneS (xs : List SV) (ob : List Ob) : Option (SV × List Ob) :=
  match xs, ob with
  | [.arr es], [] => bif dec ((∀ e ∈ es, ∃ s, e = [D.str s]) ∧ es.length ≤ 1048576) then some (.ref 0, [.row 9 1 (es.map fun e => [OT.str (unS e)])]) else none
  | _, _ => none
set_option maxHeartbeats 1000000 in
theorem cloneS_told {xs : List SV} {ob : List Ob} {r : SV} {ob' : List Ob} (h : cloneS xs ob = some (r, ob')) : Fun Tryz.prog 39 xs ob r ob' := by
  unfold cloneS at h
  split at h
  · rename_i es
    obtain ⟨h1, h2⟩ := bif_some h
    obtain ⟨k1, k2⟩ := dec_iff.1 h1
    simp only [Option.some.injEq, Prod.mk.injEq] at h2
    obtain ⟨rfl, rfl⟩ := h2
    intro w I V B vs hwf hvs
    obtain ⟨v, q, rfl, hv, hvs⟩ := args_cons hvs
    obtain rfl := args0 hvs
    simp only [RepV] at hv
    have hsz : ∀ e ∈ es, e.length = 1 := fun e he => by obtain ⟨s, rfl⟩ := k1 e he; rfl
    have hmap : (es.map fun e => [OT.str (unS e)]) = ((es.map fun e => OT.str (unS e)).map fun o => [o]) := by rw [List.map_map]; rfl
    rcases flat_cells hv hsz with ⟨rfl, a, c, rfl⟩ | ⟨b, off, cap, rfl, hcell⟩
    · cases a with
      | none =>
        have hcon := Any.slices_Clone_string_nil so_CloneS 0 c w
        change Calls Tryz.prog 39 _ _ _ at hcon
        refine hcon.mono ?_
        rintro e w' ⟨rfl, rfl⟩
        obtain ⟨V', B', h3, h4⟩ := newRow_post (t := 9) (os := []) (vals := []) hwf (Below.refl _ _) rfl ⟨rfl, .inl ⟨rfl, rfl⟩⟩ (fun i h => absurd h (by simp))
        exact ⟨_, I, V', B', rfl, h3, h4⟩
      | some a =>
        have hcon := Any.slices_Clone_string_zero so_CloneS a c w
        change Calls Tryz.prog 39 _ _ _ at hcon
        refine hcon.mono ?_
        rintro e w' ⟨v', rfl, hown, _, hbel⟩
        obtain ⟨V', B', h3, h4⟩ := newRow_post (t := 9) (os := []) (vals := []) hwf hbel rfl hown (fun i h => absurd h (by simp))
        exact ⟨_, I, V', B', rfl, h3, h4⟩
    · obtain ⟨zs, hzs⟩ : ∃ zs, zs = es.map unS := ⟨_, rfl⟩
      have hzl : zs.length = es.length := by rw [hzs, List.length_map]
      have hcz : ∀ j (hj : j < es.length), w.cell? ⟨b, off + j, none⟩ = some (Value.string (unS es[j])) ∧ (unS es[j]).size ≤ 9223372036854775807 := fun j hj => by
        obtain ⟨u, hu, S, hd⟩ := hcell j hj
        obtain ⟨s, he⟩ := k1 es[j] (List.getElem_mem hj)
        rw [he] at hd ⊢
        simp only [List.headD_cons] at hd
        cases hd
        exact ⟨hu, by assumption⟩
      have hcon := Any.slices_Clone_string so_CloneS b off es.length cap zs w (by omega) (by omega) (fun j hj => by
        have hj' : j < es.length := by omega
        rw [(hcz j hj').1]
        rw [List.getD_eq_getElem?_getD, List.getElem?_eq_getElem hj]
        simp [hzs])
      change Calls Tryz.prog 39 _ _ _ at hcon
      refine hcon.mono ?_
      rintro e w' ⟨v', rfl, hown, _, hbel⟩
      have ht : zs.take es.length = zs := List.take_of_length_le (by omega)
      rw [ht] at hown
      have hown2 : w'.ownsRow w.heap.size 9 1 v' (es.map fun e => OT.str (unS e)).length (zs.map Value.string) := by rw [List.length_map]; exact hown
      obtain ⟨V', B', h3, h4⟩ := newRow_post (t := 9) (os := es.map fun e => OT.str (unS e)) (vals := zs.map Value.string) hwf hbel (by simp [hzl]) hown2 (fun i hi => by
        have hi' : i < es.length := by simpa using hi
        have e : (zs.map Value.string).getD i undef = Value.string (unS es[i]) := by
          rw [List.getD_eq_getElem?_getD, List.getElem?_map, List.getElem?_eq_getElem (by omega)]
          simp [hzs]
        rw [e, List.getElem_map]
        exact .str _ _ (hcz i hi').2)
      rw [hmap]
      exact ⟨_, I, V', B', rfl, h3, h4⟩
  · cases h
end Go.Proofs.YtihclcmgbkkhfaaGreatDoor
set_option maxRecDepth 100000
set_option linter.unusedSimpArgs false
set_option linter.unusedVariables false
namespace Go.Proofs.YtihclcmgbkkhfaaGreatDoor
open Go.RowKit Go.Shelf Go.Lib Go.Sort
theorem row_new {w w' : World} {I : Nat → Prop} {V : Nat → Option Value} {B : Nat → Nat → Prop} {t : TypeId} {sz : Nat} {es es' : List (List OT)} {b cap : Nat} {cur cur' : Array Value} (Sub : Nat → Nat → Nat → Prop)
    (hwf : Wf w I V B (geto [.row t sz es])) (hv : V 0 = some (.slice (some ⟨b, 0, none⟩) es.length cap)) (hn : es'.length = es.length) (hs : B 0 b) (hb : w.heap[b]? = some (.cells cur t (0, 0)))
    (h1 : es.length ≤ cap) (h2 : cap ≤ 9223372036854775807) (h3 : cur.size = cap * sz) (h4 : ∀ i (h : i < es'.length), es'[i].length = sz) (h5 : ∀ i j x, Sub i j x → B 0 x ∧ x ≠ b)
    (h6 : ∀ i j i' j' x, Sub i j x → Sub i' j' x → i = i' ∧ j = j')
    (hos : w'.os = w.os) (htape : w'.tape = w.tape) (hout : w'.output = w.output) (hsz : w.heap.size ≤ w'.heap.size) (hblk : ∀ x, x < w.heap.size → x ≠ b → w'.heap[x]? = w.heap[x]?)
    (hb' : w'.heap[b]? = some (.cells cur' t (0, 0))) (hcs : cur'.size = cur.size)
    (h7 : ∀ i j (h : i < es'.length) (h' : j < es'[i].length), ORep w' I (Sub i j) (es'[i][j]) (cur'.getD (i * sz + j) undef)) :
    FunPost w I V B [.row t sz es] [.row t sz es'] w' I V B := by
  have g0 : ∀ (e : List (List OT)), geto [Ob.row t sz e] 0 = .row t sz e := fun _ => rfl
  have gS : ∀ (e : List (List OT)) (g : Nat), geto [Ob.row t sz e] (g + 1) = .free := fun _ _ => rfl
  have lv : ∀ (e e' : List (List OT)) (g : Nat), (geto [Ob.row t sz e] g).live → (geto [Ob.row t sz e'] g).live := fun e e' g h => by
    cases g with
    | zero => trivial
    | succ g => rw [gS] at h; exact h.elim
  have hbS : ∀ x, B 0 x → HB B [Ob.row t sz es] x := fun x hx => ⟨0, trivial, hx⟩
  refine ⟨⟨hos, htape, hout, hsz, fun x hx hn => hblk x hx fun e => hn (hbS x (e ▸ hs))⟩, fun _ h => h, fun _ h => .inl h, VLe.refl _, ?_, fun g x hl hx => .inl ⟨g, lv _ _ g hl, hx⟩⟩
  refine ⟨fun x hx => Nat.lt_of_lt_of_le (hwf.ilt x hx) hsz, fun g hl => ?_, fun g x hl hx => Nat.lt_of_lt_of_le (hwf.lt g x (lv _ _ g hl) hx) hsz, fun g x hl hx => hwf.dI g x (lv _ _ g hl) hx, fun g g' x hl hl' hx hx' => hwf.dO g g' x (lv _ _ g hl) (lv _ _ g' hl') hx hx', fun g hf => ?_, hwf.gl.keep ⟨hsz, fun x hx hlt => hblk x hlt fun e => hwf.dI 0 x trivial (e ▸ hs) hx⟩ fun _ h => h⟩
  · cases g with
    | zero =>
      refine ⟨_, hv, .inr ⟨b, cap, cur', Sub, by rw [hn], hs, hb', by rw [hn]; exact h1, h2, by rw [hcs]; exact h3, h4, h5, h6, h7⟩⟩
    | succ g => rw [gS] at hl; exact hl.elim
  · cases g with
    | zero => cases hf
    | succ g => exact hwf.fr (g + 1) rfl
theorem row_same {w : World} {I : Nat → Prop} {V : Nat → Option Value} {B : Nat → Nat → Prop} {ob : List Ob} (hwf : Wf w I V B (geto ob)) : FunPost w I V B ob ob w I V B :=
  ⟨⟨rfl, rfl, rfl, Nat.le_refl _, fun _ _ _ => rfl⟩, fun _ h => h, fun _ h => .inl h, VLe.refl _, hwf, fun g b hl hb => .inl ⟨g, hl, hb⟩⟩
def keyB : List OT → ByteArray
  | .str s :: _ => s
  | _ => ⟨#[]⟩
theorem ORep.oneCell {w : World} {I S : Nat → Prop} {o : OT} {v : Value} (h : ORep w I S o v) : v.oneCell' = true := by
  cases h with
  | int S n => rfl
  | bool S b => rfl
  | str S s h => rfl
  | sh S es v h => obtain ⟨a, c, rfl, _⟩ := h.slice_form; rfl
  | nil S => rfl
  | hole S v h => exact h
  | row S t sz es b cap cur Sub hS hb h1 h2 h3 h4 h5 h6 h7 => rfl
end Go.Proofs.YtihclcmgbkkhfaaGreatDoor
set_option maxRecDepth 100000
namespace Go.Proofs.YtihclcmgbkkhfaaGreatDoor
open Go.Shelf
def so_SortS_ren : Go.Shelf.Ren := ⟨fun | 190 => 61 | 125 => 93 | 258 => 92 | 128 => 127 | 129 => 128 | 302 => 118 | 303 => 119 | 304 => 120 | 305 => 121 | 306 => 122 | 307 => 123 | 308 => 124 | 309 => 125 | 310 => 126 | 333 => 145 | 329 => 146 | 330 => 147 | 334 => 148 | 335 => 149 | 336 => 150 | 344 => 156 | n => n, fun | 31 => 41 | 9 => 9 | 3 => 3 | 46 => 112 | 0 => 0 | 51 => 137 | 53 => 139 | 4 => 4 | 183 => 129 | 182 => 128 | 131 => 134 | 5 => 5 | 218 => 144 | 222 => 148 | 228 => 152 | 229 => 153 | n => n, fun | n => n⟩
theorem so_SortS : Go.Proofs.Lays.n190 Tryz.prog so_SortS_ren := {
  mixed := by kernel_rfl,
  f125 := Tryz.func93.trans (congrArg some (by kernel_rfl)),
  f128 := Tryz.func127.trans (congrArg some (by kernel_rfl)),
  f129 := Tryz.func128.trans (congrArg some (by kernel_rfl)),
  f190 := Tryz.func61.trans (congrArg some (by kernel_rfl)),
  f258 := Tryz.func92.trans (congrArg some (by kernel_rfl)),
  f302 := Tryz.func118.trans (congrArg some (by kernel_rfl)),
  f303 := Tryz.func119.trans (congrArg some (by kernel_rfl)),
  f304 := Tryz.func120.trans (congrArg some (by kernel_rfl)),
  f305 := Tryz.func121.trans (congrArg some (by kernel_rfl)),
  f306 := Tryz.func122.trans (congrArg some (by kernel_rfl)),
  f307 := Tryz.func123.trans (congrArg some (by kernel_rfl)),
  f308 := Tryz.func124.trans (congrArg some (by kernel_rfl)),
  f309 := Tryz.func125.trans (congrArg some (by kernel_rfl)),
  f310 := Tryz.func126.trans (congrArg some (by kernel_rfl)),
  f329 := Tryz.func146.trans (congrArg some (by kernel_rfl)),
  f330 := Tryz.func147.trans (congrArg some (by kernel_rfl)),
  f333 := Tryz.func145.trans (congrArg some (by kernel_rfl)),
  f334 := Tryz.func148.trans (congrArg some (by kernel_rfl)),
  f335 := Tryz.func149.trans (congrArg some (by kernel_rfl)),
  f336 := Tryz.func150.trans (congrArg some (by kernel_rfl)),
  f344 := Tryz.func156.trans (congrArg some (by kernel_rfl)),
  t0 := Tryz.underlying0,
  a0 := Tryz.isAgg0,
  z0 := Tryz.sizeOf0,
  v0 := Tryz.zeroValue0,
  t3 := Tryz.underlying3,
  a3 := Tryz.isAgg3,
  z3 := Tryz.sizeOf3,
  v3 := Tryz.zeroValue3,
  t4 := Tryz.underlying4,
  a4 := Tryz.isAgg4,
  z4 := Tryz.sizeOf4,
  v4 := Tryz.zeroValue4,
  t5 := Tryz.underlying5,
  a5 := Tryz.isAgg5,
  z5 := Tryz.sizeOf5,
  v5 := Tryz.zeroValue5,
  t9 := Tryz.underlying9,
  a9 := Tryz.isAgg9,
  z9 := Tryz.sizeOf9,
  v9 := Tryz.zeroValue9,
  t31 := Tryz.underlying41,
  a31 := Tryz.isAgg41,
  z31 := Tryz.sizeOf41,
  v31 := Tryz.zeroValue41,
  t46 := Tryz.underlying112,
  a46 := Tryz.isAgg112,
  z46 := Tryz.sizeOf112,
  v46 := Tryz.zeroValue112,
  t51 := Tryz.underlying137,
  a51 := Tryz.isAgg137,
  z51 := Tryz.sizeOf137,
  v51 := Tryz.zeroValue137,
  t53 := Tryz.underlying139,
  a53 := Tryz.isAgg139,
  z53 := Tryz.sizeOf139,
  v53 := Tryz.zeroValue139,
  t131 := Tryz.underlying134,
  a131 := Tryz.isAgg134,
  z131 := Tryz.sizeOf134,
  v131 := Tryz.zeroValue134,
  t182 := Tryz.underlying128,
  a182 := Tryz.isAgg128,
  z182 := Tryz.sizeOf128,
  v182 := Tryz.zeroValue128,
  t183 := Tryz.underlying129,
  a183 := Tryz.isAgg129,
  z183 := Tryz.sizeOf129,
  v183 := Tryz.zeroValue129,
  t218 := Tryz.underlying144,
  a218 := Tryz.isAgg144,
  z218 := Tryz.sizeOf144,
  v218 := Tryz.zeroValue144,
  t222 := Tryz.underlying148,
  a222 := Tryz.isAgg148,
  z222 := Tryz.sizeOf148,
  v222 := Tryz.zeroValue148,
  t228 := Tryz.underlying152,
  a228 := Tryz.isAgg152,
  z228 := Tryz.sizeOf152,
  v228 := Tryz.zeroValue152,
  t229 := Tryz.underlying153,
  a229 := Tryz.isAgg153,
  z229 := Tryz.sizeOf153,
  v229 := Tryz.zeroValue153 }
end Go.Proofs.YtihclcmgbkkhfaaGreatDoor
set_option maxRecDepth 100000
set_option linter.unusedSimpArgs false
set_option linter.unusedVariables false
namespace Go.Proofs.YtihclcmgbkkhfaaGreatDoor
open Go.RowKit Go.Shelf Go.Lib Go.Sort
theorem putW_heap (w : World) (b m : Nat) (ss : List (List UInt8)) (os : Array Obj) (x : Nat) (hx : x < w.heap.size) :
    (Sort.grow (putRow encStr (Sort.ahead w m) b 0 ss.toArray) os).heap[x]? = if b = x then (w.heap[x]?).map (onCells (putCells encStr 0 ss.toArray)) else w.heap[x]? := by
  unfold Sort.grow putRow mapBlock Sort.ahead
  have hx' : x < (w.heap.modify b (onCells (putCells encStr 0 ss.toArray))).size := by simpa using hx
  simp only [Array.getElem?_append, Array.size_modify, hx, if_true, Array.getElem?_modify]
def srt (ss : List (List UInt8)) : List (List UInt8) := ss.mergeSort fun x y => decide (x ≤ y)
def strOT (l : List UInt8) : List OT := [.str ⟨l.toArray⟩]
noncomputable def sortStr (xs : List SV) (ob : List Ob) : Option (SV × List Ob) :=
  match xs, ob with
  | [.ref 0], [.row t sz es] => bif dec (sz = 1 ∧ (∀ e ∈ es, ∃ s, e = [.str s]) ∧ es.length ≤ 1099511627776) then some (.tup [], [.row t sz ((srt (es.map fun e => (keyB e).toList)).map strOT)]) else none
  | _, _ => none
theorem ORep.strZ {w : World} {I S : Nat → Prop} {s : ByteArray} {v : Value} (h : ORep w I S (.str s) v) : v = .string s ∧ s.size ≤ 9223372036854775807 := by
  cases h with
  | str _ _ hz => exact ⟨rfl, hz⟩
theorem bytes_back (s : ByteArray) : (⟨s.toList.toArray⟩ : ByteArray) = s := bytes_ext (by rw [ByteArray.toList_eq])
set_option maxHeartbeats 4000000 in
theorem sortStr_told {xs : List SV} {ob : List Ob} {r : SV} {ob' : List Ob} (h : sortStr xs ob = some (r, ob')) : Fun Tryz.prog 61 xs ob r ob' := by
  unfold sortStr at h
  split at h
  · rename_i t sz es
    obtain ⟨h1, h2⟩ := bif_some h
    obtain ⟨rfl, hk1, hk3⟩ := dec_iff.1 h1
    simp only [Option.some.injEq, Prod.mk.injEq] at h2
    obtain ⟨rfl, rfl⟩ := h2
    intro w I V B vs hwf hvs
    obtain ⟨v, q, rfl, hv, hvs⟩ := args_cons hvs
    obtain rfl := args0 hvs
    simp only [RepV] at hv
    obtain ⟨val, hval, hrow⟩ := hwf.obj 0 trivial
    rw [hv.1] at hval
    obtain rfl := Option.some.inj hval
    have hv0 := hv.1
    have hrow : RowR w I (B 0) t 1 es v := hrow
    rcases Nat.eq_zero_or_pos es.length with h0 | h0
    · have he : es = [] := List.eq_nil_of_length_eq_zero h0
      subst he
      obtain ⟨a, c, rfl, _⟩ := hrow.form
      have hcon := Any.slices_Sort_string_none so_SortS a c w
      change Calls Tryz.prog 61 _ _ _ at hcon
      refine hcon.mono ?_
      rintro e w' ⟨rfl, rfl⟩
      have e0 : (srt ([].map fun e : List OT => (keyB e).toList)).map strOT = [] := by simp [srt]
      rw [e0]
      exact ⟨_, I, V, B, rfl, by simp only [RepV, RepVs]; exact ⟨[], rfl, rfl⟩, row_same hwf⟩
    · rcases hrow with ⟨he, _⟩ | ⟨b, cap, cur, Sub, rfl, hs, hb, g1, g2, g3, g4, g5, g6, g7⟩
      · subst he; simp at h0
      have hblt := (Array.getElem?_eq_some_iff.1 hb).1
      obtain ⟨ss, hss⟩ : ∃ ss, ss = es.map fun e => (keyB e).toList := ⟨_, rfl⟩
      have hsl : ss.length = es.length := by rw [hss]; simp
      rw [← hss]
      have cellv : ∀ i (hi : i < es.length), cur[i]? = some (.string (keyB es[i])) ∧ (keyB es[i]).size ≤ 9223372036854775807 := fun i hi => by
        obtain ⟨s, he⟩ := hk1 es[i] (List.getElem_mem hi)
        have hlt : i < cur.size := by rw [g3]; omega
        have l0 := g7 i 0 hi (by rw [g4 i hi]; omega)
        simp only [he, List.getElem_cons_zero, Nat.mul_one, Nat.add_zero, Array.getD_eq_getD_getElem?, Array.getElem?_eq_getElem hlt, Option.getD_some] at l0
        rw [Array.getElem?_eq_getElem hlt, he]
        obtain ⟨z1, z2⟩ := ORep.strZ l0
        exact ⟨by rw [z1]; rfl, z2⟩
      have hH : Holds encStr w b 0 ss.toArray := by
        intro j hj
        have hj1 : j < ss.length := by simpa using hj
        have hj' : j < es.length := by rw [← hsl]; exact hj1
        refine ⟨?_, ?_⟩
        · rw [Nat.zero_add, cell_of_row w b _ _ _ _ hb, (cellv j hj').1, getElem!_pos ss.toArray j hj]
          simp only [List.getElem_toArray, hss, List.getElem_map, encStr, bytes_back]
        · unfold World.frozen?
          rw [hb]
          simp
      have hcon := Any.slices_Sort_string so_SortS b 0 cap ss w hH hblt (by rw [hsl]; omega)
      change Calls Tryz.prog 61 _ _ _ at hcon
      rw [hsl] at hcon
      refine hcon.mono ?_
      rintro e w' ⟨rfl, m, os, rfl⟩
      refine ⟨_, I, V, B, rfl, by simp only [RepV, RepVs]; exact ⟨[], rfl, rfl⟩, ?_⟩
      have hper : (srt ss).Perm ss := List.mergeSort_perm _ _
      have hsl2 : (srt ss).length = es.length := by rw [hper.length_eq, hsl]
      have hgrow : ∀ x, x < w.heap.size → x ≠ b → (Sort.grow (putRow encStr (Sort.ahead w m) b 0 (srt ss).toArray) os).heap[x]? = w.heap[x]? := fun x hx hne => by
        rw [putW_heap w b m _ os x hx, if_neg (fun e => hne e.symm)]
      have hbl : (Sort.grow (putRow encStr (Sort.ahead w m) b 0 (srt ss).toArray) os).heap[b]? = some (.cells (putCells encStr 0 (srt ss).toArray cur) t (0, 0)) := by
        rw [putW_heap w b m _ os b hblt, if_pos rfl, hb]; rfl
      have hsz : w.heap.size ≤ (Sort.grow (putRow encStr (Sort.ahead w m) b 0 (srt ss).toArray) os).heap.size := by
        unfold Sort.grow
        simp [putRow, mapBlock, Sort.ahead]
      have hmem : ∀ l ∈ ss, ∃ e ∈ es, (keyB e).toList = l := by
        rw [hss]
        intro l h
        exact List.mem_map.1 h
      have hstr : ∀ i (hi : i < (srt ss).length), (⟨(srt ss)[i].toArray⟩ : ByteArray).size ≤ 9223372036854775807 := fun i hi => by
        obtain ⟨e, he, heq⟩ := hmem _ (hper.mem_iff.1 (List.getElem_mem hi))
        obtain ⟨k, hk, rfl⟩ := List.getElem_of_mem he
        have := (cellv k hk).2
        rw [← heq, bytes_back]
        exact this
      refine row_new (fun _ _ _ => False) hwf hv0 (by rw [List.length_map, hsl2]) hs hb g1 g2 g3 (fun i hi => by rw [List.getElem_map]; rfl) (fun i j x h => h.elim) (fun i j i' j' x h h' => h.elim) rfl rfl rfl hsz hgrow hbl (by simp [putCells]) (fun i j hi hj => ?_)
      have hi' : i < (srt ss).length := by simpa using hi
      have hj' : j < 1 := by simpa [strOT] using hj
      obtain rfl : j = 0 := by omega
      have hlt : i < cur.size := by rw [g3]; omega
      have hc : (putCells encStr 0 (srt ss).toArray cur).getD (i * 1 + 0) undef = .string ⟨(srt ss)[i].toArray⟩ := by
        simp only [Nat.mul_one, Nat.add_zero, putCells, Array.getD_eq_getD_getElem?, Array.getElem?_mapIdx, Array.getElem?_eq_getElem hlt, Option.map_some, Option.getD_some, Nat.zero_le, true_and, Nat.zero_add, List.size_toArray, hi', if_true, Nat.sub_zero]
        rw [getElem!_pos (srt ss).toArray i (by simpa using hi')]
        rfl
      rw [hc]
      simp only [List.getElem_map, strOT, List.getElem_cons_zero]
      exact .str _ _ (hstr i hi')
  · cases h
end Go.Proofs.YtihclcmgbkkhfaaGreatDoor
set_option maxRecDepth 100000
namespace Go.Proofs.YtihclcmgbkkhfaaGreatDoor
open Go.Shelf
def so_Itoa_ren : Go.Shelf.Ren := ⟨fun | 171 => 100 | 243 => 133 | 246 => 152 | 283 => 157 | 284 => 158 | 285 => 159 | 286 => 160 | 129 => 128 | 317 => 162 | 318 => 163 | 319 => 164 | 320 => 165 | 337 => 166 | 338 => 167 | n => n, fun | 3 => 3 | 9 => 9 | 2 => 2 | 4 => 4 | 171 => 155 | 0 => 0 | 53 => 139 | 37 => 102 | 5 => 5 | 173 => 157 | 212 => 162 | 51 => 137 | 20 => 20 | 213 => 163 | 46 => 112 | 232 => 164 | 233 => 165 | n => n, fun | 17 => 0 | 18 => 1 | 19 => 2 | n => n⟩
theorem so_Itoa : Go.Proofs.LaysM.n171 Tryz.prog so_Itoa_ren := {
  mixed := by kernel_rfl,
  f129 := Tryz.func128.trans (congrArg some (by kernel_rfl)),
  f171 := Tryz.func100.trans (congrArg some (by kernel_rfl)),
  f243 := Tryz.func133.trans (congrArg some (by kernel_rfl)),
  f246 := Tryz.func152.trans (congrArg some (by kernel_rfl)),
  f283 := Tryz.func157.trans (congrArg some (by kernel_rfl)),
  f284 := Tryz.func158.trans (congrArg some (by kernel_rfl)),
  f285 := Tryz.func159.trans (congrArg some (by kernel_rfl)),
  f286 := Tryz.func160.trans (congrArg some (by kernel_rfl)),
  f317 := Tryz.func162.trans (congrArg some (by kernel_rfl)),
  f318 := Tryz.func163.trans (congrArg some (by kernel_rfl)),
  f319 := Tryz.func164.trans (congrArg some (by kernel_rfl)),
  f320 := Tryz.func165.trans (congrArg some (by kernel_rfl)),
  f337 := Tryz.func166.trans (congrArg some (by kernel_rfl)),
  f338 := Tryz.func167.trans (congrArg some (by kernel_rfl)),
  t0 := Tryz.underlying0,
  a0 := Tryz.isAgg0,
  z0 := Tryz.sizeOf0,
  v0 := Tryz.zeroValue0,
  t2 := Tryz.underlying2,
  a2 := Tryz.isAgg2,
  z2 := Tryz.sizeOf2,
  v2 := Tryz.zeroValue2,
  t3 := Tryz.underlying3,
  a3 := Tryz.isAgg3,
  z3 := Tryz.sizeOf3,
  v3 := Tryz.zeroValue3,
  t4 := Tryz.underlying4,
  a4 := Tryz.isAgg4,
  z4 := Tryz.sizeOf4,
  v4 := Tryz.zeroValue4,
  t5 := Tryz.underlying5,
  a5 := Tryz.isAgg5,
  z5 := Tryz.sizeOf5,
  v5 := Tryz.zeroValue5,
  t9 := Tryz.underlying9,
  a9 := Tryz.isAgg9,
  z9 := Tryz.sizeOf9,
  v9 := Tryz.zeroValue9,
  t20 := Tryz.underlying20,
  a20 := Tryz.isAgg20,
  z20 := Tryz.sizeOf20,
  v20 := Tryz.zeroValue20,
  t37 := Tryz.underlying102,
  a37 := Tryz.isAgg102,
  z37 := Tryz.sizeOf102,
  v37 := Tryz.zeroValue102,
  t46 := Tryz.underlying112,
  a46 := Tryz.isAgg112,
  z46 := Tryz.sizeOf112,
  v46 := Tryz.zeroValue112,
  t51 := Tryz.underlying137,
  a51 := Tryz.isAgg137,
  z51 := Tryz.sizeOf137,
  v51 := Tryz.zeroValue137,
  t53 := Tryz.underlying139,
  a53 := Tryz.isAgg139,
  z53 := Tryz.sizeOf139,
  v53 := Tryz.zeroValue139,
  t171 := Tryz.underlying155,
  a171 := Tryz.isAgg155,
  z171 := Tryz.sizeOf155,
  v171 := Tryz.zeroValue155,
  t173 := Tryz.underlying157,
  a173 := Tryz.isAgg157,
  z173 := Tryz.sizeOf157,
  v173 := Tryz.zeroValue157,
  t212 := Tryz.underlying162,
  a212 := Tryz.isAgg162,
  z212 := Tryz.sizeOf162,
  v212 := Tryz.zeroValue162,
  t213 := Tryz.underlying163,
  a213 := Tryz.isAgg163,
  z213 := Tryz.sizeOf163,
  t232 := Tryz.underlying164,
  a232 := Tryz.isAgg164,
  z232 := Tryz.sizeOf164,
  v232 := Tryz.zeroValue164,
  t233 := Tryz.underlying165,
  a233 := Tryz.isAgg165,
  z233 := Tryz.sizeOf165,
  v233 := Tryz.zeroValue165,
  g17 := by kernel_rfl,
  g18 := by kernel_rfl,
  g19 := by kernel_rfl,
  i0 := by kernel_rfl,
  i2 := by kernel_rfl,
  i3 := by kernel_rfl,
  i4 := by kernel_rfl,
  i5 := by kernel_rfl,
  i9 := by kernel_rfl,
  i20 := by kernel_rfl,
  i37 := by kernel_rfl,
  i46 := by kernel_rfl,
  i51 := by kernel_rfl,
  i53 := by kernel_rfl,
  i171 := by kernel_rfl,
  i173 := by kernel_rfl,
  i212 := by kernel_rfl,
  i232 := by kernel_rfl,
  i233 := by kernel_rfl,
  m17 := by kernel_rfl,
  m18 := by kernel_rfl,
  m19 := by kernel_rfl }
end Go.Proofs.YtihclcmgbkkhfaaGreatDoor
set_option maxRecDepth 100000
set_option linter.unusedSimpArgs false
set_option linter.unusedVariables false
namespace Go.Proofs.YtihclcmgbkkhfaaGreatDoor
open Go.RowKit
def numB (n : Int) : ByteArray := ⟨(Lib.itoa n).toArray⟩
noncomputable def itoaX : List SV → Option SV
  | [.int .i64 n] => bif dec (0 ≤ n ∧ n ≤ 1099511627776) then some (.str (numB n)) else none
  | _ => none
theorem numB_size {n : Int} (h0 : 0 ≤ n) (h1 : n ≤ 1099511627776) : (numB n).size ≤ 20 := by
  obtain ⟨u, rfl⟩ : ∃ u : Nat, n = u := ⟨n.toNat, by omega⟩
  show (Lib.itoa u).toArray.size ≤ 20
  rw [Lib.itoa_nonneg, List.size_toArray, Lib.decDigits_length]
  rcases Nat.eq_zero_or_pos u with rfl | hu
  · rw [Lib.nDigits_small (by omega)]; omega
  · have := Lib.numDigits_eq u hu (by omega)
    split at this <;> omega
theorem itoaX_told {xs : List SV} {r : SV} (h : itoaX xs = some r) : Fun Tryz.prog 100 xs [] r [] := by
  unfold itoaX at h
  split at h
  · rename_i n
    obtain ⟨h1, h2⟩ := bif_some h
    obtain ⟨k1, k2⟩ := dec_iff.1 h1
    obtain rfl := Option.some.inj h2
    intro w I V B vs hwf hvs
    obtain ⟨v, q, rfl, hv, hvs⟩ := args_cons hvs
    obtain rfl := args0 hvs
    obtain rfl := rep_int hv
    have hcon := Any.strconv_Itoa so_Itoa n (by omega) (by omega) w hwf.gl.2.2
    change Calls Tryz.prog 100 _ _ _ at hcon
    refine hcon.mono ?_
    rintro e w' ⟨rfl, k, os, rfl⟩
    have hsz : w.heap.size ≤ (Sort.grow (w.drewN k) os).heap.size := by simp [Sort.grow, World.drewN]
    have hbl : ∀ x, x < w.heap.size → (Sort.grow (w.drewN k) os).heap[x]? = w.heap[x]? := fun x hx => by
      simp only [Sort.grow, World.drewN]
      rw [Array.getElem?_append_left hx]
    have hno : ∀ g, ¬ (geto ([] : List Ob) g).live := fun g h => by
      have e : geto ([] : List Ob) g = .free := rfl
      rw [e] at h
      exact h
    refine ⟨_, I, V, B, rfl, ?_, ⟨⟨rfl, rfl, rfl, hsz, fun x hx _ => hbl x hx⟩, fun _ h => h, fun _ h => .inl h, VLe.refl _, ⟨fun x hx => Nat.lt_of_lt_of_le (hwf.ilt x hx) hsz, fun g hl => (hno g hl).elim, fun g x hl => (hno g hl).elim, fun g x hl => (hno g hl).elim, fun g g' x hl => (hno g hl).elim, fun g hg => hwf.fr g rfl, hwf.gl.keep ⟨hsz, fun x _ hx => hbl x hx⟩ fun _ h => h⟩, fun g x hl => (hno g hl).elim⟩⟩
    have := numB_size k1 k2
    simp only [RepV]
    exact ⟨rfl, by omega⟩
  · cases h
def lookM : List (Nat × FM) → Nat → FM
  | [], _ => ⟨[], .asis, none, false⟩
  | (f, m) :: r, g => bif f == g then m else lookM r g
theorem lookM_ext {l : List (Nat × FM)} {f : Nat} {g : List SV → List Ob → Option (SV × List Ob)} (h : (lookM l f).ext = some g) : ∃ m, (f, m) ∈ l ∧ m.ext = some g := by
  induction l with
  | nil => cases h
  | cons x r ih =>
    obtain ⟨f', m⟩ := x
    simp only [lookM] at h
    cases e : f' == f with
    | true =>
      rw [e] at h
      obtain rfl : f' = f := by simpa using e
      exact ⟨m, by simp, h⟩
    | false =>
      rw [e] at h
      obtain ⟨m', h1, h2⟩ := ih h
      exact ⟨m', by simp [h1], h2⟩
noncomputable def markX : List SV → Option SV
  | [.int .i64 k] => bif dec (1 ≤ k) && dec (k ≤ 1099511627776) then some (.str (markT k)) else none
  | _ => none
theorem markX_told {xs : List SV} {r : SV} (h : markX xs = some r) : Fun Tryz.prog 42 xs [] r [] := by
  unfold markX at h
  split at h
  · rename_i k
    obtain ⟨h1, h2⟩ := bif_some h
    rw [Bool.and_eq_true, dec_iff, dec_iff] at h1
    obtain rfl := Option.some.inj h2
    obtain ⟨n, rfl⟩ : ∃ n : Nat, k = n := ⟨k.toNat, by omega⟩
    refine Fun.of_ret (rv := .string (markT n)) (fun w I V => by simp only [RepV, true_and]; exact markT_size (by omega) (by omega)) fun w I V vs h => ?_
    obtain ⟨v, r, rfl, h3, h⟩ := args_cons h
    obtain rfl := args0 h
    obtain rfl := rep_int h3
    exact markText_any n w (by omega) (by omega)
  · cases h
def varX : List SV → Option SV
  | [.str s] => some (.bool (varB s))
  | _ => none
theorem varX_told {xs : List SV} {r : SV} (h : varX xs = some r) : Fun Tryz.prog 82 xs [] r [] := by
  unfold varX at h
  split at h
  · rename_i s
    obtain rfl := Option.some.inj h
    refine Fun.of_same (rv := .bool (varB s)) (fun w I V => by simp only [RepV]) fun w I V vs h => ?_
    obtain ⟨v, r, rfl, h3, h⟩ := args_cons h
    obtain rfl := args0 h
    obtain ⟨rfl, h4⟩ := rep_str h3
    exact isVariable_any s w h4
  · cases h
def varY : List SV → Option SV
  | [.str s] => some (.bool (varB s))
  | _ => none
theorem varY_told {xs : List SV} {r : SV} (h : varY xs = some r) : Fun Tryz.prog 103 xs [] r [] := by
  unfold varY at h
  split at h
  · rename_i s
    obtain rfl := Option.some.inj h
    refine Fun.of_same (rv := .bool (varB s)) (fun w I V => by simp only [RepV]) fun w I V vs h => ?_
    obtain ⟨v, r, rfl, h3, h⟩ := args_cons h
    obtain rfl := args0 h
    obtain ⟨rfl, h4⟩ := rep_str h3
    exact l2Var_any s w h4
  · cases h
def symX : List SV → Option SV
  | [.str s] => some (.bool (symB s))
  | _ => none
theorem symX_told {xs : List SV} {r : SV} (h : symX xs = some r) : Fun Tryz.prog 95 xs [] r [] := by
  unfold symX at h
  split at h
  · rename_i s
    obtain rfl := Option.some.inj h
    refine Fun.of_ret (rv := .bool (symB s)) (fun w I V => by simp only [RepV]) fun w I V vs h => ?_
    obtain ⟨v, r, rfl, h3, h⟩ := args_cons h
    obtain rfl := args0 h
    obtain ⟨rfl, h4⟩ := rep_str h3
    exact isSymbol_any s w h4
  · cases h
def symY : List SV → Option SV
  | [.str s] => some (.bool (symB s))
  | _ => none
theorem symY_told {xs : List SV} {r : SV} (h : symY xs = some r) : Fun Tryz.prog 136 xs [] r [] := by
  unfold symY at h
  split at h
  · rename_i s
    obtain rfl := Option.some.inj h
    refine Fun.of_same (rv := .bool (symB s)) (fun w I V => by simp only [RepV]) fun w I V vs h => ?_
    obtain ⟨v, r, rfl, h3, h⟩ := args_cons h
    obtain rfl := args0 h
    obtain ⟨rfl, h4⟩ := rep_str h3
    exact l2Symbol_any s w h4
  · cases h
noncomputable def modes : FuncId → FM := lookM [(42, ⟨[], .asis, some (valX markX), false⟩), (82, ⟨[], .asis, some (valX varX), false⟩), (103, ⟨[], .asis, some (valX varY), false⟩), (95, ⟨[], .asis, some (valX symX), false⟩), (136, ⟨[], .asis, some (valX symY), false⟩), (53, ⟨[true], .asis, none, true⟩), (29, ⟨[true], .asis, none, false⟩), (30, ⟨[true], .asis, none, true⟩), (10, ⟨[true], .asis, none, false⟩), (17, ⟨[true], .asis, none, true⟩), (132, ⟨[], .own [some (31, 2)], none, false⟩), (117, ⟨[], .frz, none, false⟩), (90, ⟨[], .frz, none, false⟩), (183, ⟨[], .frz, none, false⟩), (91, ⟨[], .frz, none, false⟩), (107, ⟨[], .frz, none, false⟩), (106, ⟨[], .frz, none, false⟩), (61, ⟨[true], .asis, some sortStr, false⟩), (131, ⟨[true], .asis, none, false⟩), (66, ⟨[true], .own [some (9, 1)], none, false⟩), (74, ⟨[], .own [none, none, some (31, 2), none, some (34, 5)], none, false⟩), (70, ⟨[false, false, true], .own [none, none, some (31, 2), none, some (34, 5)], none, false⟩), (68, ⟨[true], .own [none, none, some (31, 2), none, some (34, 5)], none, false⟩), (25, ⟨[true], .own [none, none, some (31, 2), none, some (34, 5), none], none, false⟩), (67, ⟨[true], .asis, none, false⟩), (39, ⟨[], .asis, some cloneS, false⟩), (86, ⟨[], .own [none, some (31, 2)], none, false⟩), (69, ⟨[], .own [none, some (31, 2)], none, false⟩), (73, ⟨[], .own [some (31, 2)], none, false⟩), (51, ⟨[], .own [none, none, some (31, 2), none, some (34, 5)], none, false⟩), (88, ⟨[], .own [none, none, some (31, 2), none, some (34, 5)], none, false⟩), (26, ⟨[], .own [none, none, some (31, 2), none, some (34, 5)], none, false⟩), (41, ⟨[], .own [none, none, some (31, 2), none, some (34, 5)], none, false⟩), (75, ⟨[], .own [none, none, some (31, 2), none, some (34, 5)], none, false⟩), (8, ⟨[], .own [none, none, some (31, 2), none, some (34, 5), none], none, false⟩), (15, ⟨[], .own [none, none, some (31, 2), none, some (34, 5), none], none, false⟩), (77, ⟨[], .frz, none, false⟩), (46, ⟨[], .frz, none, false⟩), (21, ⟨[], .frz, none, false⟩), (6, ⟨[], .frz, none, false⟩), (59, ⟨[], .frz, none, false⟩), (35, ⟨[], .frz, none, false⟩), (13, ⟨[], .frz, none, false⟩), (55, ⟨[], .frz, none, false⟩), (89, ⟨[], .frz, none, false⟩), (57, ⟨[], .frz, none, false⟩), (38, ⟨[true], .own [some (9, 1)], none, false⟩), (100, ⟨[], .asis, some (valX itoaX), false⟩)]
theorem modes_told : ExtTold Tryz.prog modes := by
  intro f g xs ob r ob' hg hx
  obtain ⟨m, h1, h2⟩ := lookM_ext hg
  rcases List.mem_cons.1 h1 with h1 | h1
  · obtain ⟨rfl, rfl⟩ := Prod.mk.inj h1
    obtain rfl := Option.some.inj h2
    exact valX_told markX_told hx
  rcases List.mem_cons.1 h1 with h1 | h1
  · obtain ⟨rfl, rfl⟩ := Prod.mk.inj h1
    obtain rfl := Option.some.inj h2
    exact valX_told varX_told hx
  rcases List.mem_cons.1 h1 with h1 | h1
  · obtain ⟨rfl, rfl⟩ := Prod.mk.inj h1
    obtain rfl := Option.some.inj h2
    exact valX_told varY_told hx
  rcases List.mem_cons.1 h1 with h1 | h1
  · obtain ⟨rfl, rfl⟩ := Prod.mk.inj h1
    obtain rfl := Option.some.inj h2
    exact valX_told symX_told hx
  rcases List.mem_cons.1 h1 with h1 | h1
  · obtain ⟨rfl, rfl⟩ := Prod.mk.inj h1
    obtain rfl := Option.some.inj h2
    exact valX_told symY_told hx
  rcases List.mem_cons.1 h1 with h1 | h1
  · obtain ⟨rfl, rfl⟩ := Prod.mk.inj h1
    cases h2
  rcases List.mem_cons.1 h1 with h1 | h1
  · obtain ⟨rfl, rfl⟩ := Prod.mk.inj h1
    cases h2
  rcases List.mem_cons.1 h1 with h1 | h1
  · obtain ⟨rfl, rfl⟩ := Prod.mk.inj h1
    cases h2
  rcases List.mem_cons.1 h1 with h1 | h1
  · obtain ⟨rfl, rfl⟩ := Prod.mk.inj h1
    cases h2
  rcases List.mem_cons.1 h1 with h1 | h1
  · obtain ⟨rfl, rfl⟩ := Prod.mk.inj h1
    cases h2
  rcases List.mem_cons.1 h1 with h1 | h1
  · obtain ⟨rfl, rfl⟩ := Prod.mk.inj h1
    cases h2
  rcases List.mem_cons.1 h1 with h1 | h1
  · obtain ⟨rfl, rfl⟩ := Prod.mk.inj h1
    cases h2
  rcases List.mem_cons.1 h1 with h1 | h1
  · obtain ⟨rfl, rfl⟩ := Prod.mk.inj h1
    cases h2
  rcases List.mem_cons.1 h1 with h1 | h1
  · obtain ⟨rfl, rfl⟩ := Prod.mk.inj h1
    cases h2
  rcases List.mem_cons.1 h1 with h1 | h1
  · obtain ⟨rfl, rfl⟩ := Prod.mk.inj h1
    cases h2
  rcases List.mem_cons.1 h1 with h1 | h1
  · obtain ⟨rfl, rfl⟩ := Prod.mk.inj h1
    cases h2
  rcases List.mem_cons.1 h1 with h1 | h1
  · obtain ⟨rfl, rfl⟩ := Prod.mk.inj h1
    cases h2
  rcases List.mem_cons.1 h1 with h1 | h1
  · obtain ⟨rfl, rfl⟩ := Prod.mk.inj h1
    obtain rfl := Option.some.inj h2
    exact sortStr_told hx
  rcases List.mem_cons.1 h1 with h1 | h1
  · obtain ⟨rfl, rfl⟩ := Prod.mk.inj h1
    cases h2
  rcases List.mem_cons.1 h1 with h1 | h1
  · obtain ⟨rfl, rfl⟩ := Prod.mk.inj h1
    cases h2
  rcases List.mem_cons.1 h1 with h1 | h1
  · obtain ⟨rfl, rfl⟩ := Prod.mk.inj h1
    cases h2
  rcases List.mem_cons.1 h1 with h1 | h1
  · obtain ⟨rfl, rfl⟩ := Prod.mk.inj h1
    cases h2
  rcases List.mem_cons.1 h1 with h1 | h1
  · obtain ⟨rfl, rfl⟩ := Prod.mk.inj h1
    cases h2
  rcases List.mem_cons.1 h1 with h1 | h1
  · obtain ⟨rfl, rfl⟩ := Prod.mk.inj h1
    cases h2
  rcases List.mem_cons.1 h1 with h1 | h1
  · obtain ⟨rfl, rfl⟩ := Prod.mk.inj h1
    cases h2
  rcases List.mem_cons.1 h1 with h1 | h1
  · obtain ⟨rfl, rfl⟩ := Prod.mk.inj h1
    obtain rfl := Option.some.inj h2
    exact cloneS_told hx
  rcases List.mem_cons.1 h1 with h1 | h1
  · obtain ⟨rfl, rfl⟩ := Prod.mk.inj h1
    cases h2
  rcases List.mem_cons.1 h1 with h1 | h1
  · obtain ⟨rfl, rfl⟩ := Prod.mk.inj h1
    cases h2
  rcases List.mem_cons.1 h1 with h1 | h1
  · obtain ⟨rfl, rfl⟩ := Prod.mk.inj h1
    cases h2
  rcases List.mem_cons.1 h1 with h1 | h1
  · obtain ⟨rfl, rfl⟩ := Prod.mk.inj h1
    cases h2
  rcases List.mem_cons.1 h1 with h1 | h1
  · obtain ⟨rfl, rfl⟩ := Prod.mk.inj h1
    cases h2
  rcases List.mem_cons.1 h1 with h1 | h1
  · obtain ⟨rfl, rfl⟩ := Prod.mk.inj h1
    cases h2
  rcases List.mem_cons.1 h1 with h1 | h1
  · obtain ⟨rfl, rfl⟩ := Prod.mk.inj h1
    cases h2
  rcases List.mem_cons.1 h1 with h1 | h1
  · obtain ⟨rfl, rfl⟩ := Prod.mk.inj h1
    cases h2
  rcases List.mem_cons.1 h1 with h1 | h1
  · obtain ⟨rfl, rfl⟩ := Prod.mk.inj h1
    cases h2
  rcases List.mem_cons.1 h1 with h1 | h1
  · obtain ⟨rfl, rfl⟩ := Prod.mk.inj h1
    cases h2
  rcases List.mem_cons.1 h1 with h1 | h1
  · obtain ⟨rfl, rfl⟩ := Prod.mk.inj h1
    cases h2
  rcases List.mem_cons.1 h1 with h1 | h1
  · obtain ⟨rfl, rfl⟩ := Prod.mk.inj h1
    cases h2
  rcases List.mem_cons.1 h1 with h1 | h1
  · obtain ⟨rfl, rfl⟩ := Prod.mk.inj h1
    cases h2
  rcases List.mem_cons.1 h1 with h1 | h1
  · obtain ⟨rfl, rfl⟩ := Prod.mk.inj h1
    cases h2
  rcases List.mem_cons.1 h1 with h1 | h1
  · obtain ⟨rfl, rfl⟩ := Prod.mk.inj h1
    cases h2
  rcases List.mem_cons.1 h1 with h1 | h1
  · obtain ⟨rfl, rfl⟩ := Prod.mk.inj h1
    cases h2
  rcases List.mem_cons.1 h1 with h1 | h1
  · obtain ⟨rfl, rfl⟩ := Prod.mk.inj h1
    cases h2
  rcases List.mem_cons.1 h1 with h1 | h1
  · obtain ⟨rfl, rfl⟩ := Prod.mk.inj h1
    cases h2
  rcases List.mem_cons.1 h1 with h1 | h1
  · obtain ⟨rfl, rfl⟩ := Prod.mk.inj h1
    cases h2
  rcases List.mem_cons.1 h1 with h1 | h1
  · obtain ⟨rfl, rfl⟩ := Prod.mk.inj h1
    cases h2
  rcases List.mem_cons.1 h1 with h1 | h1
  · obtain ⟨rfl, rfl⟩ := Prod.mk.inj h1
    cases h2
  rcases List.mem_cons.1 h1 with h1 | h1
  · obtain ⟨rfl, rfl⟩ := Prod.mk.inj h1
    obtain rfl := Option.some.inj h2
    exact valX_told itoaX_told hx
  cases h1
noncomputable def E : FEnv := ev Tryz.prog modes
noncomputable def calls : CallF := fCall modes E
theorem E_told {f : FuncId} {xs : List SV} {ob : List Ob} {r : SV} {ob' : List Ob} (h : E f xs ob = some (r, ob')) : Fun Tryz.prog f xs ob r ob' := ev_told mixed_ modes_told f xs ob r ob' h
noncomputable def run (n0 : Nat) : SC → St → Option (X × St) := fr Tryz.prog calls (loopWA n0)
def go (n0 : Nat) (sc : SC) (st : St) (K : X → St → Prop) : Prop := ∃ x st', run n0 sc st = some (x, st') ∧ K x st'
def seqk (n0 : Nat) (b : SC) (K : X → St → Prop) : X → St → Prop
  | .normal, st => go n0 b st K
  | .exit i, st => K (.exit i) st
  | .ret, st => K .ret st
def blk (id : Nat) (K : X → St → Prop) : X → St → Prop
  | .normal, st => K .normal st
  | .exit i, st => if i = id then K .normal st else K (.exit i) st
  | .ret, st => K .ret st
def someP (r : Option St) (k : X → St → Prop) : Prop :=
  match r with
  | some st => k .normal st
  | none => False
def drawP (anc : List (List Nat)) (r : Option (List Ent × St)) (k : X → St → Prop) : Prop :=
  match r with
  | some (es, st) => obB anc [] (locs es) 0 = true ∧ k .normal st
  | none => False
def boolP (v : SV) (a b : Unit → Prop) : Prop :=
  match v with
  | .bool true => a ()
  | .bool false => b ()
  | _ => False
noncomputable def regF (ops : List SOper) (st : St) : Option St := fSeq Tryz.prog calls ops st
noncomputable def drgF (ops : List SOper) (acc : List Ent) (st : St) : Option (List Ent × St) := fOps Tryz.prog calls ops acc st
section
variable {n0 : Nat} {st : St} {K : X → St → Prop}
theorem go_skip : go n0 .skip st K = K .normal st := by
  refine propext ⟨fun ⟨x, st', h, k⟩ => ?_, fun k => ⟨_, _, rfl, k⟩⟩
  obtain ⟨rfl, rfl⟩ : X.normal = x ∧ st = st' := by simpa [run, fr] using h
  exact k
theorem go_exit {i : Nat} : go n0 (.exit i) st K = K (.exit i) st := by
  refine propext ⟨fun ⟨x, st', h, k⟩ => ?_, fun k => ⟨_, _, rfl, k⟩⟩
  obtain ⟨rfl, rfl⟩ : X.exit i = x ∧ st = st' := by simpa [run, fr] using h
  exact k
theorem go_ret : go n0 .ret st K = K .ret st := by
  refine propext ⟨fun ⟨x, st', h, k⟩ => ?_, fun k => ⟨_, _, rfl, k⟩⟩
  obtain ⟨rfl, rfl⟩ : X.ret = x ∧ st = st' := by simpa [run, fr] using h
  exact k
theorem go_reg {ops : List SOper} : go n0 (.reg ops) st K = someP (regF ops st) K := by
  unfold someP regF
  refine propext ⟨fun ⟨x, st', h, k⟩ => ?_, fun k => ?_⟩
  · simp only [run, fr] at h
    split at h
    · rename_i s hs
      simp only [Option.some.injEq, Prod.mk.injEq] at h
      obtain ⟨rfl, rfl⟩ := h
      first | exact k | (simp only [hs]; exact k)
    · cases h
  · split at k
    · rename_i s hs
      exact ⟨.normal, s, by simp only [run, fr, hs], k⟩
    · exact k.elim
theorem go_dreg {anc : List (List Nat)} {ops : List SOper} : go n0 (.dreg anc ops) st K = drawP anc (drgF ops [] st) K := by
  unfold drawP drgF
  refine propext ⟨fun ⟨x, st', h, k⟩ => ?_, fun k => ?_⟩
  · simp only [run, fr] at h
    split at h
    · rename_i es s hs
      obtain ⟨h1, h2⟩ := bif_some h
      simp only [Option.some.injEq, Prod.mk.injEq] at h2
      obtain ⟨rfl, rfl⟩ := h2
      first | exact ⟨h1, k⟩ | (simp only [hs]; exact ⟨h1, k⟩)
    · cases h
  · split at k
    · rename_i es s hs
      exact ⟨.normal, s, by simp only [run, fr, hs, k.1, cond_true], k.2⟩
    · exact k.elim
theorem go_seq {a b : SC} : go n0 (.seq a b) st K = go n0 a st (seqk n0 b K) := by
  refine propext ⟨fun ⟨x, st', h, k⟩ => ?_, fun ⟨x, st', h, k⟩ => ?_⟩
  · simp only [run, fr, thenF] at h
    split at h
    · rename_i s hs
      exact ⟨.normal, s, hs, x, st', h, k⟩
    · rename_i i s hs
      simp only [Option.some.injEq, Prod.mk.injEq] at h
      obtain ⟨rfl, rfl⟩ := h
      exact ⟨_, _, hs, k⟩
    · rename_i s hs
      simp only [Option.some.injEq, Prod.mk.injEq] at h
      obtain ⟨rfl, rfl⟩ := h
      exact ⟨_, _, hs, k⟩
    · cases h
  · simp only [run] at h
    cases x with
    | normal =>
      obtain ⟨x2, st2, h2, k2⟩ := k
      exact ⟨x2, st2, by simp only [run, fr, thenF, h]; exact h2, k2⟩
    | exit i => exact ⟨_, st', by simp only [run, fr, thenF, h], k⟩
    | ret => exact ⟨_, st', by simp only [run, fr, thenF, h], k⟩
theorem go_block {id : Nat} {b : SC} : go n0 (.block id b) st K = go n0 b st (blk id K) := by
  refine propext ⟨fun ⟨x, st', h, k⟩ => ?_, fun ⟨x, st', h, k⟩ => ?_⟩
  · simp only [run, fr, blockF] at h
    split at h
    · rename_i s hs
      simp only [Option.some.injEq, Prod.mk.injEq] at h
      obtain ⟨rfl, rfl⟩ := h
      exact ⟨.normal, s, hs, k⟩
    · rename_i i s hs
      refine ⟨.exit i, s, hs, ?_⟩
      simp only [blk]
      by_cases hi : i = id
      · simp only [if_pos hi, Option.some.injEq, Prod.mk.injEq] at h ⊢
        obtain ⟨rfl, rfl⟩ := h
        exact k
      · simp only [if_neg hi, Option.some.injEq, Prod.mk.injEq] at h ⊢
        obtain ⟨rfl, rfl⟩ := h
        exact k
    · rename_i s hs
      simp only [Option.some.injEq, Prod.mk.injEq] at h
      obtain ⟨rfl, rfl⟩ := h
      exact ⟨_, s, hs, k⟩
    · cases h
  · simp only [run] at h
    cases x with
    | normal => exact ⟨_, st', by simp only [run, fr, blockF, h], k⟩
    | exit i =>
      simp only [blk] at k
      by_cases hi : i = id
      · simp only [if_pos hi] at k
        exact ⟨.normal, st', by simp only [run, fr, blockF, h, if_pos hi], k⟩
      · simp only [if_neg hi] at k
        exact ⟨.exit i, st', by simp only [run, fr, blockF, h, if_neg hi], k⟩
    | ret => exact ⟨_, st', by simp only [run, fr, blockF, h], k⟩
theorem go_cond {q : SX} {a b : SC} : go n0 (.cond q a b) st K = boolP (getX (gets st.sl) q) (fun _ => go n0 a st K) (fun _ => go n0 b st K) := by
  unfold boolP
  refine propext ⟨fun ⟨x, st', h, k⟩ => ?_, fun k => ?_⟩
  · simp only [run, fr] at h
    split at h
    · rename_i t ht
      simp only [ht]
      cases t with
      | true => exact ⟨x, st', h, k⟩
      | false => exact ⟨x, st', h, k⟩
    · cases h
  · split at k
    · rename_i ht
      obtain ⟨x, st', h, k⟩ := k
      exact ⟨x, st', by simp only [run, fr, ht, cond_true]; exact h, k⟩
    · rename_i ht
      obtain ⟨x, st', h, k⟩ := k
      exact ⟨x, st', by simp only [run, fr, ht, cond_false]; exact h, k⟩
    · exact k.elim
theorem boolP_t {a b : Unit → Prop} : boolP (.bool true) a b = a () := rfl
theorem boolP_f {a b : Unit → Prop} : boolP (.bool false) a b = b () := rfl
theorem boolP_n {t : Bool} {a b : Unit → Prop} : boolP (.bool (!t)) a b = boolP (.bool t) b a := by cases t <;> rfl
theorem go_condT {q : SX} {a b : SC} (h : getX (gets st.sl) q = .bool true) (k : go n0 a st K) : go n0 (.cond q a b) st K := by rw [go_cond, h]; exact k
theorem go_condF {q : SX} {a b : SC} (h : getX (gets st.sl) q = .bool false) (k : go n0 b st K) : go n0 (.cond q a b) st K := by rw [go_cond, h]; exact k
theorem boolP_split {t : Bool} {a b : Unit → Prop} (h1 : t = true → a ()) (h2 : t = false → b ()) : boolP (.bool t) a b := by
  cases t with
  | true => exact h1 rfl
  | false => exact h2 rfl
theorem seqk_n {b : SC} : seqk n0 b K .normal st = go n0 b st K := rfl
theorem seqk_e {b : SC} {i : Nat} : seqk n0 b K (.exit i) st = K (.exit i) st := rfl
theorem seqk_r {b : SC} : seqk n0 b K .ret st = K .ret st := rfl
theorem blk_n {id : Nat} : blk id K .normal st = K .normal st := rfl
theorem blk_e {id i : Nat} : blk id K (.exit i) st = if i = id then K .normal st else K (.exit i) st := rfl
theorem blk_r {id : Nat} : blk id K .ret st = K .ret st := rfl
theorem someP_s : someP (some st) K = K .normal st := rfl
def quiet : List Ent → Bool
  | [] => true
  | ⟨_, _, [], _⟩ :: r => quiet r
  | ⟨_, _, _ :: _, _⟩ :: _ => false
theorem obBj_quiet {anc : List (List Nat)} {rd : List Nat} {j : Nat} : ∀ {l : List Ent} {i : Nat}, quiet l = true → obBj anc rd [] j (locs l) i = true
  | [], i, _ => rfl
  | ⟨_, _, [], rdi⟩ :: r, i, h => by
    have := obBj_quiet (anc := anc) (rd := rd) (j := j) (l := r) (i := i + 1) h
    simp only [locs, List.map_cons, List.map_nil] at this ⊢
    simp only [obBj, this, Bool.and_true]
    have e1 : meets [] (rd ++ []) = false := rfl
    have e2 : meets rdi [] = false := by cases rdi <;> simp [meets]
    rw [e1, e2]; rfl
theorem quiet_app {l l' : List Ent} (h : quiet l = true) (h' : quiet l' = true) : quiet (l ++ l') = true := by
  induction l with
  | nil => exact h'
  | cons x r ih =>
    obtain ⟨a, b, c, d⟩ := x
    cases c with
    | nil => exact ih h
    | cons _ _ => cases h
theorem obB_quiet {anc : List (List Nat)} : ∀ {l pre : List Ent} {j : Nat}, quiet pre = true → quiet l = true → obB anc (locs pre) (locs l) j = true
  | [], pre, j, _, _ => rfl
  | ⟨a, b, [], rd⟩ :: r, pre, j, hp, h => by
    have e := obB_quiet (anc := anc) (l := r) (pre := pre ++ [⟨a, b, [], rd⟩]) (j := j + 1) (quiet_app hp rfl) h
    have e2 := obBj_quiet (anc := anc) (rd := rd) (j := j) (i := 0) hp
    simp only [locs, List.map_append, List.map_cons, List.map_nil] at e e2 ⊢
    simp only [obB, e2, e, Bool.and_self]
theorem drawP_s {anc : List (List Nat)} {es : List Ent} : drawP anc (some (es, st)) K = match quiet es with
    | true => K .normal st
    | false => obB anc [] (locs es) 0 = true ∧ K .normal st := by
  show (obB anc [] (locs es) 0 = true ∧ K .normal st) = _
  cases h : quiet es with
  | true => exact propext ⟨fun h => h.2, fun h' => ⟨obB_quiet (pre := []) rfl h, h'⟩⟩
  | false => rfl
noncomputable def regN (r : List SOper) (e : Option (Ent × St)) : Option St :=
  match e with
  | some (_, st) => regF r st
  | none => none
noncomputable def drgN (r : List SOper) (acc : List Ent) (e : Option (Ent × St)) : Option (List Ent × St) :=
  match e with
  | some (x, st) => drgF r (acc ++ [x]) st
  | none => none
noncomputable def opF (so : SOp) (sl : List SV) (ob : List Ob) : Option R3 := fOp Tryz.prog calls so sl ob
theorem regF_nil : regF [] st = some st := rfl
theorem regF_cons {d : Option Tmp} {so : SOp} {r : List SOper} {sl : List SV} {ob : List Ob} : regF (⟨d, none, so⟩ :: r) ⟨sl, ob⟩ = regN r (appF d ⟨sl, ob⟩ (opF so sl ob)) := rfl
noncomputable def gdF (d : Option Tmp) (so : SOp) (want : Bool) (sl : List SV) (ob : List Ob) (v : SV) : Option (Ent × St) :=
  match v with
  | .bool b => bif eqBo b want then appF d ⟨sl, ob⟩ (opF so sl ob) else some (⟨false, .tup [], [], []⟩, ⟨putS sl d (.tup []), ob⟩)
  | .tup [] => some (⟨false, .tup [], [], []⟩, ⟨putS sl d (.tup []), ob⟩)
  | _ => none
theorem regF_gd {d : Option Tmp} {k : Nat} {want : Bool} {so : SOp} {r : List SOper} {sl : List SV} {ob : List Ob} : regF (⟨d, some (k, want), so⟩ :: r) ⟨sl, ob⟩ = regN r (gdF d so want sl ob (gets sl k)) := rfl
theorem drgF_nil {acc : List Ent} : drgF [] acc st = some (acc, st) := rfl
theorem drgF_cons {d : Option Tmp} {so : SOp} {r : List SOper} {acc : List Ent} {sl : List SV} {ob : List Ob} : drgF (⟨d, none, so⟩ :: r) acc ⟨sl, ob⟩ = drgN r acc (appF d ⟨sl, ob⟩ (opF so sl ob)) := rfl
theorem drgF_gd {d : Option Tmp} {k : Nat} {want : Bool} {so : SOp} {r : List SOper} {acc : List Ent} {sl : List SV} {ob : List Ob} : drgF (⟨d, some (k, want), so⟩ :: r) acc ⟨sl, ob⟩ = drgN r acc (gdF d so want sl ob (gets sl k)) := rfl
theorem regN_s {r : List SOper} {e : Ent} : regN r (some (e, st)) = regF r st := rfl
theorem drgN_s {r : List SOper} {acc : List Ent} {e : Ent} : drgN r acc (some (e, st)) = drgF r (acc ++ [e]) st := rfl
theorem gdF_t {d : Option Tmp} {so : SOp} {sl : List SV} {ob : List Ob} : gdF d so true sl ob (.bool true) = appF d ⟨sl, ob⟩ (opF so sl ob) := rfl
theorem gdF_ff {d : Option Tmp} {so : SOp} {sl : List SV} {ob : List Ob} : gdF d so false sl ob (.bool false) = appF d ⟨sl, ob⟩ (opF so sl ob) := rfl
theorem gdF_tf {d : Option Tmp} {so : SOp} {sl : List SV} {ob : List Ob} : gdF d so true sl ob (.bool false) = some (⟨false, .tup [], [], []⟩, ⟨putS sl d (.tup []), ob⟩) := rfl
theorem gdF_ft {d : Option Tmp} {so : SOp} {sl : List SV} {ob : List Ob} : gdF d so false sl ob (.bool true) = some (⟨false, .tup [], [], []⟩, ⟨putS sl d (.tup []), ob⟩) := rfl
theorem gdF_u {d : Option Tmp} {so : SOp} {want : Bool} {sl : List SV} {ob : List Ob} : gdF d so want sl ob (.tup []) = some (⟨false, .tup [], [], []⟩, ⟨putS sl d (.tup []), ob⟩) := rfl
theorem appF_n {d : Option Tmp} {x : SV} {rd : List Nat} : appF d st (some (x, [], rd)) = some (⟨true, x, [], rd⟩, ⟨putS st.sl d x, st.ob⟩) := rfl
theorem appF_c {d : Option Tmp} {x : SV} {q : Nat × Ob} {u : List (Nat × Ob)} {rd : List Nat} : appF d st (some (x, q :: u, rd)) = bif okUB (newOb st.ob (q :: u)).length (q :: u) then some (⟨true, x, q :: u, rd⟩, ⟨putS st.sl d x, newOb st.ob (q :: u)⟩) else none := rfl
def callN (ob : List Ob) (xs : List SV) (sel : List Nat) (r : Option (SV × List Ob)) (n : Nat) : Option R3 :=
  match r with
  | some (r, fob') => bif decide (n ≤ fob'.length) then some (callRes sel (lentL sel xs) ob.length r fob') else none
  | none => none
def selN (hd : List Bool) (f : FuncId) (xs : List SV) (ob : List Ob) (sel : List Nat) (e : List SV → List Ob → Option (SV × List Ob)) (b : Option (List Ob)) : Option R3 :=
  match b with
  | some fob => bif nodupB sel && allLtB ob.length sel && allIdsB fob.length fob then callN ob xs sel (e (lendN hd (geto ob) sel xs) fob) fob.length else none
  | none => none
def callS (hd : List Bool) (f : FuncId) (xs : List SV) (ob : List Ob) (sel : List Nat) (e : List SV → List Ob → Option (SV × List Ob)) : Option R3 := selN hd f xs ob sel e (backObs sel ob sel)
theorem calls_eq {f : FuncId} {xs : List SV} {ob : List Ob} : calls f xs ob = lateF (modes f).res (callS (modes f).hand f xs ob (reach ob 64 (handRefs (modes f).hand xs) []) (E f)) := rfl
theorem late_a {r : Option R3} : lateF .asis r = r := rfl
theorem late_f {r : Option R3} : lateF .frz r = r := rfl
theorem late_o {l : List (Option (Nat × Nat))} {r : Option R3} : lateF (.own l) r = r := rfl
theorem late_s {r : R3} : lateF .late (some r) = lateC r := rfl
theorem goneIn_nil : ∀ u : List (Nat × Ob), goneIn [] u = u
  | [] => rfl
  | (g, o) :: u => by rw [goneIn, goneIn_nil u]; rfl
theorem late_b {m : RM} {b : Bool} {u : List (Nat × Ob)} {rd : List Nat} : lateF m (some (.bool b, u, rd)) = some (.bool b, u, rd) := by
  cases m <;> first | rfl | (show some (SV.bool b, goneIn [] u, rd) = _; rw [goneIn_nil])
theorem late_i {m : RM} {k : IntKind} {n : Int} {u : List (Nat × Ob)} {rd : List Nat} : lateF m (some (.int k n, u, rd)) = some (.int k n, u, rd) := by
  cases m <;> first | rfl | (show some (SV.int k n, goneIn [] u, rd) = _; rw [goneIn_nil])
theorem callS_nil {hd : List Bool} {f : FuncId} {xs : List SV} {ob : List Ob} {e : List SV → List Ob → Option (SV × List Ob)} : callS hd f xs ob [] e = callN ob xs [] (e (lendN hd (geto ob) [] xs) []) 0 := rfl
theorem callS_cons {hd : List Bool} {f : FuncId} {xs : List SV} {ob : List Ob} {g : Nat} {r : List Nat} {e : List SV → List Ob → Option (SV × List Ob)} : callS hd f xs ob (g :: r) e = selN hd f xs ob (g :: r) e (backObs (g :: r) ob (g :: r)) := rfl
theorem callN_z {ob : List Ob} {xs : List SV} {r : SV} {fob' : List Ob} : callN ob xs [] (some (r, fob')) 0 = some (callRes [] (lentL [] xs) ob.length r fob') := rfl
theorem callN_s {ob : List Ob} {xs : List SV} {sel : List Nat} {r : SV} {fob' : List Ob} {n : Nat} : callN ob xs sel (some (r, fob')) n = bif decide (n ≤ fob'.length) then some (callRes sel (lentL sel xs) ob.length r fob') else none := rfl
theorem selN_s {hd : List Bool} {f : FuncId} {xs : List SV} {ob : List Ob} {sel : List Nat} {fob : List Ob} {e : List SV → List Ob → Option (SV × List Ob)} : selN hd f xs ob sel e (some fob) = bif nodupB sel && allLtB ob.length sel && allIdsB fob.length fob then callN ob xs sel (e (lendN hd (geto ob) sel xs) fob) fob.length else none := rfl
theorem callRes_v {p : Nat} {r : SV} : callRes [] [] p r [] = (r.ren (sgp [] p), [], []) := rfl
def roundK {α : Type} (n0 : Nat) (keep : List Nat) (H : α → St) (R : α → Prop) (μ : α → Nat) (a : α) (K : X → St → Prop) : X → St → Prop
  | .normal, st' => ∃ y, R y ∧ μ y < μ a ∧ canon n0 keep st' = H y
  | .exit i, st' => K (.exit i) st'
  | .ret, st' => K .ret st'
theorem roundK_n {α : Type} {keep : List Nat} {H : α → St} {R : α → Prop} {μ : α → Nat} {a : α} {st' : St} : roundK n0 keep H R μ a K .normal st' = ∃ y, R y ∧ μ y < μ a ∧ canon n0 keep st' = H y := rfl
theorem roundK_e {α : Type} {keep : List Nat} {H : α → St} {R : α → Prop} {μ : α → Nat} {a : α} {i : Nat} {st' : St} : roundK n0 keep H R μ a K (.exit i) st' = K (.exit i) st' := rfl
theorem roundK_r {α : Type} {keep : List Nat} {H : α → St} {R : α → Prop} {μ : α → Nat} {a : α} {st' : St} : roundK n0 keep H R μ a K .ret st' = K .ret st' := rfl
theorem go_loop {α : Type} {keep : List Nat} {b : SC} (H : α → St) (R : α → Prop) (μ : α → Nat) (a0 : α) (hR : R a0) (h0 : canon n0 keep st = H a0) (round : ∀ a, R a → go n0 b (H a) (roundK n0 keep H R μ a K)) : go n0 (.loop keep b) st K := by
  have key : ∀ (n : Nat) (a : α) (st : St), μ a ≤ n → R a → canon n0 keep st = H a → ∃ x st', loopW n0 keep (run n0 b) st = some (x, st') ∧ K x st' := by
    intro n
    induction n with
    | zero =>
      intro a st hn hR hc
      obtain ⟨x, st', h, k⟩ := round a hR
      cases x with
      | normal =>
        obtain ⟨y, _, h2, _⟩ := k
        omega
      | exit i => exact ⟨_, st', by rw [loopW_eq, hc, h]; rfl, k⟩
      | ret => exact ⟨_, st', by rw [loopW_eq, hc, h]; rfl, k⟩
    | succ n ih =>
      intro a st hn hR hc
      obtain ⟨x, st', h, k⟩ := round a hR
      cases x with
      | normal =>
        obtain ⟨y, h1, h2, h3⟩ := k
        obtain ⟨x2, st2, h4, k2⟩ := ih y st' (by omega) h1 h3
        exact ⟨x2, st2, by rw [loopW_eq, hc, h]; exact h4, k2⟩
      | exit i => exact ⟨_, st', by rw [loopW_eq, hc, h]; rfl, k⟩
      | ret => exact ⟨_, st', by rw [loopW_eq, hc, h]; rfl, k⟩
  exact key (μ a0) a0 st (Nat.le_refl _) hR h0
def mroundK (n0 : Nat) (keep keepO : List Nat) (H : EL → St) (F : X × St) (p : EL) : X → St → Prop
  | .normal, st' => canon n0 keep st' = H p
  | .exit i, st' => F = (.exit i, canon n0 keepO st')
  | .ret, st' => F = (.ret, canon n0 keepO st')
def mendK (n0 : Nat) (keepO : List Nat) (F : X × St) : X → St → Prop
  | .normal, _ => False
  | .exit i, st' => F = (.exit i, canon n0 keepO st')
  | .ret, st' => F = (.ret, canon n0 keepO st')
theorem mroundK_n {keep keepO : List Nat} {H : EL → St} {F : X × St} {p : EL} {st' : St} : mroundK n0 keep keepO H F p .normal st' = (canon n0 keep st' = H p) := rfl
theorem mroundK_e {keep keepO : List Nat} {H : EL → St} {F : X × St} {p : EL} {i : Nat} {st' : St} : mroundK n0 keep keepO H F p (.exit i) st' = (F = (.exit i, canon n0 keepO st')) := rfl
theorem mroundK_r {keep keepO : List Nat} {H : EL → St} {F : X × St} {p : EL} {st' : St} : mroundK n0 keep keepO H F p .ret st' = (F = (.ret, canon n0 keepO st')) := rfl
theorem mendK_e {keepO : List Nat} {F : X × St} {i : Nat} {st' : St} : mendK n0 keepO F (.exit i) st' = (F = (.exit i, canon n0 keepO st')) := rfl
theorem mendK_r {keepO : List Nat} {F : X × St} {st' : St} : mendK n0 keepO F .ret st' = (F = (.ret, canon n0 keepO st')) := rfl
theorem go_mloop {keep keepO : List Nat} {it : SX} {nx more : Nat} {b : SC} (f : MF) (hfin : ∃ l, Enum f l) (F : X × St) (hF : K F.1 F.2) (H : EL → St) (g : Nat) (ks : Bool)
    (h0 : canon n0 keep st = H []) (hit : ∀ p : EL, itOf it (H p) = some (g, ks, f, (p.map (·.1)).reverse))
    (round : ∀ (p : EL) (k : MK) (x : MV), (p.map (·.1)).Nodup → (∀ e, e ∈ p → f e.1 = some e.2) → f k = some x → k ∉ p.map (·.1) → go n0 b (nextSt nx more (H p) true [(g, .it ks f (k :: (p.map (·.1)).reverse) (some (k, x)))]) (mroundK n0 keep keepO H F (p ++ [(k, x)])))
    (fin : ∀ p : EL, Enum f p → go n0 b (nextSt nx more (H p) false []) (mendK n0 keepO F)) : go n0 (.mloop keep keepO it nx more b) st K := by
  have key : ∀ (l p : EL) (s : St), Enum f (p ++ l) → canon n0 keep s = H p → outM n0 keepO (mrun n0 ⟨keepO, it, nx, more⟩ keep (run n0 b) f l (p.map (·.1)).reverse s) = some F := by
    intro l
    induction l with
    | nil =>
      intro p s hE hs
      rw [List.append_nil] at hE
      unfold mrun
      rw [hs, hit p]
      simp only
      try rw [dec_t (p := f = f) rfl, dec_t (p := (p.map (·.1)).reverse = (p.map (·.1)).reverse) rfl]
      simp only [dec_t True.intro, Bool.and_self, cond_true]
      obtain ⟨x, st', h1, h2⟩ := fin p hE
      rw [h1]
      cases x with
      | normal => exact h2.elim
      | exit i => have h2 : F = _ := h2; rw [h2]; rfl
      | ret => have h2 : F = _ := h2; rw [h2]; rfl
    | cons e l ih =>
      intro p s hE hs
      obtain ⟨k, x⟩ := e
      have hnd := hE.nd
      rw [List.map_append, List.nodup_append] at hnd
      have hpm : ∀ e, e ∈ p → f e.1 = some e.2 := fun e he => (hE.mem e.1 e.2).1 (by simp [he])
      have hk : f k = some x := (hE.mem k x).1 (by simp)
      have hn : k ∉ p.map (·.1) := fun hm => hnd.2.2 k hm k (by simp) rfl
      obtain ⟨x1, st1, h1, h2⟩ := round p k x hnd.1 hpm hk hn
      unfold mrun
      rw [hs, hit p]
      simp only
      try rw [dec_t (p := f = f) rfl, dec_t (p := (p.map (·.1)).reverse = (p.map (·.1)).reverse) rfl]
      simp only [dec_t True.intro, Bool.and_self, cond_true]
      rw [h1]
      cases x1 with
      | normal =>
        have h2 : canon n0 keep st1 = H (p ++ [(k, x)]) := h2
        have := ih (p ++ [(k, x)]) st1 (by rw [List.append_assoc]; exact hE) h2
        have hrev : ((p ++ [(k, x)]).map (·.1)).reverse = k :: (p.map (·.1)).reverse := by simp
        rw [hrev] at this
        exact this
      | exit i => have h2 : F = _ := h2; rw [h2]; rfl
      | ret => have h2 : F = _ := h2; rw [h2]; rfl
  refine ⟨F.1, F.2, ?_, hF⟩
  have : loopM n0 ⟨keepO, it, nx, more⟩ keep (run n0 b) st = some F := by
    unfold loopM
    rw [h0, hit []]
    exact sameOf_iff.2 ⟨hfin, fun l hl => key l [] st (by simpa using hl) h0⟩
  exact this
end
def slots : Nat → Nat → List (Nat × SV) → List SV
  | 0, _, _ => []
  | n + 1, k, [] => .any :: slots n (k + 1) []
  | n + 1, k, (j, x) :: r => bif j == k then x :: slots n (k + 1) r else .any :: slots n (k + 1) ((j, x) :: r)
def finK (res : RM) (n0 : Nat) (rs : List RX) (out : SV × List Ob) (x : X) (st : St) : Prop := fin res n0 rs x st = some out
def ordF (res : RM) (n0 : Nat) (r : Option (SV × List Ob)) : Option (SV × List Ob) :=
  match r with
  | some (r, ob) => order res n0 r ob
  | none => none
def resF1 (res : RM) (n0 : Nat) (ob : List Ob) (r : Option SV) : Option (SV × List Ob) :=
  match r with
  | some r0 => ordF res n0 (gc n0 r0 ob)
  | none => none
theorem finK_r {res : RM} {n0 : Nat} {rs : List RX} {out : SV × List Ob} {sl : List SV} {ob : List Ob} : finK res n0 rs out .ret ⟨sl, ob⟩ = (resF1 res n0 ob (resV ⟨sl, ob⟩ rs) = some out) := rfl
theorem finK_n {res : RM} {n0 : Nat} {rs : List RX} {out : SV × List Ob} {sl : List SV} {ob : List Ob} : finK res n0 rs out .normal ⟨sl, ob⟩ = (resF1 res n0 ob (resV ⟨sl, ob⟩ rs) = some out) := rfl
theorem resF1_s {res : RM} {n0 : Nat} {ob : List Ob} {r : SV} : resF1 res n0 ob (some r) = ordF res n0 (gc n0 r ob) := rfl
theorem ordF_s {n0 : Nat} {r : SV} {ob : List Ob} {res : RM} : ordF res n0 (some (r, ob)) = order res n0 r ob := rfl
theorem E_walk {f : FuncId} {fc : FC} {hand : List Bool} {res : RM} {tr : Bool} {xs : List SV} {ob : List Ob} {out : SV × List Ob} (hc : codeOf Tryz.prog f = some fc) (hr : modes f = ⟨hand, res, none, tr⟩) (hn : xs.length ≤ fc.nt) (h : go ob.length fc.sc ⟨xs ++ anys (fc.nt - xs.length), entry tr ob⟩ (finK res ob.length fc.rs out)) : E f xs ob = some out := by
  obtain ⟨x, st', h1, h2⟩ := h
  unfold E
  rw [ev_eq]
  unfold bodyF
  rw [hc, hr]
  simp only
  rw [decide_eq_true hn, cond_true]
  have h1 : fr Tryz.prog (fCall modes (ev Tryz.prog modes)) (loopWA ob.length) fc.sc ⟨xs ++ anys (fc.nt - xs.length), entry tr ob⟩ = some (x, st') := h1
  rw [h1]
  exact h2
theorem E_extO {f : FuncId} {g : List SV → List Ob → Option (SV × List Ob)} {xs : List SV} {ob : List Ob} (hg : (modes f).ext = some g) : E f xs ob = g xs ob := by
  unfold E
  rw [ev_eq]
  unfold bodyF
  rw [hg]
theorem E_ext {f : FuncId} {g : List SV → Option SV} {xs : List SV} {r : SV} (hg : (modes f).ext = some (valX g)) (h : g xs = some r) : E f xs [] = some (r, []) := by
  rw [E_extO hg]
  simp only [valX, h]
theorem m_laws_markText : modes 42 = ⟨[], .asis, some (valX markX), false⟩ := by unfold modes; rfl
theorem markText_E {k : Int} (h1 : 1 ≤ k) (h2 : k ≤ 1099511627776) : E 42 [.int .i64 k] [] = some (.str (markT k), []) := by
  refine E_ext (g := markX) (by unfold modes; rfl) ?_
  simp only [markX, dec_t h1, dec_t h2, Bool.and_self, cond_true]
theorem m_impl_isVariable : modes 82 = ⟨[], .asis, some (valX varX), false⟩ := by unfold modes; rfl
theorem isVariable_E (s : ByteArray) : E 82 [.str s] [] = some (.bool (varB s), []) := E_ext (g := varX) (congrArg FM.ext m_impl_isVariable) rfl
theorem m_spec_l2Var : modes 103 = ⟨[], .asis, some (valX varY), false⟩ := by unfold modes; rfl
theorem l2Var_E (s : ByteArray) : E 103 [.str s] [] = some (.bool (varB s), []) := E_ext (g := varY) (congrArg FM.ext m_spec_l2Var) rfl
theorem m_impl_isSymbol : modes 95 = ⟨[], .asis, some (valX symX), false⟩ := by unfold modes; rfl
theorem isSymbol_E (s : ByteArray) : E 95 [.str s] [] = some (.bool (symB s), []) := E_ext (g := symX) (congrArg FM.ext m_impl_isSymbol) rfl
theorem m_spec_l2Symbol : modes 136 = ⟨[], .asis, some (valX symY), false⟩ := by unfold modes; rfl
theorem l2Symbol_E (s : ByteArray) : E 136 [.str s] [] = some (.bool (symB s), []) := E_ext (g := symY) (congrArg FM.ext m_spec_l2Symbol) rfl
abbrev Tm.sv (x : Tm) : SV := .agg [.str x.name, .arr (x.args.map Tm.d)]
mutual
def Tm.o : Tm → List OT
  | .mk name args => [.str name, .ow (Tm.os args)]
def Tm.os : List Tm → List (List OT)
  | [] => []
  | x :: xs => Tm.o x :: Tm.os xs
end
theorem Tm.os_eq : ∀ xs : List Tm, Tm.os xs = xs.map Tm.o
  | [] => rfl
  | x :: xs => by rw [Tm.os, Tm.os_eq xs]; rfl
theorem Tm.o_eq (x : Tm) : Tm.o x = [.str x.name, .ow (x.args.map Tm.o)] := by
  obtain ⟨name, args⟩ := x
  rw [Tm.o, Tm.os_eq]; rfl
theorem Tm.ers_of : ∀ xs : List Tm, (∀ x ∈ xs, OT.ers (Tm.o x) = Tm.d x) → OT.erss (xs.map Tm.o) = xs.map Tm.d
  | [], _ => rfl
  | x :: xs, h => by
    simp only [List.map_cons, OT.erss]
    rw [h x (by simp), Tm.ers_of xs fun y hy => h y (by simp [hy])]
theorem Tm.er (x : Tm) : OT.ers (Tm.o x) = Tm.d x := by
  have h := Tm.ers_of x.args fun y hy => Tm.er y
  rw [Tm.o_eq, Tm.d_eq]
  simp only [OT.ers, OT.er, h]
termination_by SizeOf.sizeOf x
decreasing_by exact Tm.lt_of_mem hy
theorem Tm.erss (xs : List Tm) : OT.erss (xs.map Tm.o) = xs.map Tm.d := Tm.ers_of xs fun x _ => Tm.er x
theorem Tm.nos_of : ∀ xs : List Tm, (∀ x ∈ xs, OT.noShs (Tm.o x) = true) → OT.noShss (xs.map Tm.o) = true
  | [], _ => rfl
  | x :: xs, h => by
    simp only [List.map_cons, OT.noShss]
    rw [h x (by simp), Tm.nos_of xs fun y hy => h y (by simp [hy])]; rfl
theorem Tm.no (x : Tm) : OT.noShs (Tm.o x) = true := by
  have h := Tm.nos_of x.args fun y hy => Tm.no y
  rw [Tm.o_eq]
  simp only [OT.noShs, OT.noSh, h, Bool.and_self, Bool.and_true]
termination_by SizeOf.sizeOf x
decreasing_by exact Tm.lt_of_mem hy
theorem Tm.noss (xs : List Tm) : OT.noShss (xs.map Tm.o) = true := Tm.nos_of xs fun x _ => Tm.no x
abbrev Tm.osv (x : Tm) : SV := .agg [.str x.name, .ref 0]
abbrev Tm.obs (x : Tm) : List Ob := [.row 31 2 (x.args.map Tm.o)]
abbrev Fm.sv (x : Fm) : SV := .agg [.int .i64 x.op, .str x.atom.name, .arr (x.atom.args.map Tm.d), .str x.var, .arr (x.parts.map Fm.d)]
mutual
def Fm.o : Fm → List OT
  | .mk op atom var parts => [.int op, .str atom.name, .ow (atom.args.map Tm.o), .str var, .ow (Fm.os parts)]
def Fm.os : List Fm → List (List OT)
  | [] => []
  | x :: xs => Fm.o x :: Fm.os xs
end
theorem Fm.os_eq : ∀ xs : List Fm, Fm.os xs = xs.map Fm.o
  | [] => rfl
  | x :: xs => by rw [Fm.os, Fm.os_eq xs]; rfl
theorem Fm.o_eq (x : Fm) : Fm.o x = [.int x.op, .str x.atom.name, .ow (x.atom.args.map Tm.o), .str x.var, .ow (x.parts.map Fm.o)] := by
  obtain ⟨op, atom, var, parts⟩ := x
  rw [Fm.o, Fm.os_eq]; rfl
theorem Fm.ers_of : ∀ xs : List Fm, (∀ x ∈ xs, OT.ers (Fm.o x) = Fm.d x) → OT.erss (xs.map Fm.o) = xs.map Fm.d
  | [], _ => rfl
  | x :: xs, h => by
    simp only [List.map_cons, OT.erss]
    rw [h x (by simp), Fm.ers_of xs fun y hy => h y (by simp [hy])]
theorem Fm.er (x : Fm) : OT.ers (Fm.o x) = Fm.d x := by
  have h := Fm.ers_of x.parts fun y hy => Fm.er y
  rw [Fm.o_eq, Fm.d_eq]
  simp only [OT.ers, OT.er, h, Tm.erss]
termination_by SizeOf.sizeOf x
decreasing_by exact Fm.lt_of_mem hy
theorem Fm.erss (xs : List Fm) : OT.erss (xs.map Fm.o) = xs.map Fm.d := Fm.ers_of xs fun x _ => Fm.er x
theorem Fm.nos_of : ∀ xs : List Fm, (∀ x ∈ xs, OT.noShs (Fm.o x) = true) → OT.noShss (xs.map Fm.o) = true
  | [], _ => rfl
  | x :: xs, h => by
    simp only [List.map_cons, OT.noShss]
    rw [h x (by simp), Fm.nos_of xs fun y hy => h y (by simp [hy])]; rfl
theorem Fm.no (x : Fm) : OT.noShs (Fm.o x) = true := by
  have h := Fm.nos_of x.parts fun y hy => Fm.no y
  rw [Fm.o_eq]
  simp only [OT.noShs, OT.noSh, h, Tm.noss, Bool.and_self, Bool.and_true]
termination_by SizeOf.sizeOf x
decreasing_by exact Fm.lt_of_mem hy
theorem Fm.noss (xs : List Fm) : OT.noShss (xs.map Fm.o) = true := Fm.nos_of xs fun x _ => Fm.no x
abbrev Fm.osv (x : Fm) : SV := .agg [.int .i64 x.op, .str x.atom.name, .ref 0, .str x.var, .ref 1]
abbrev Fm.obs (x : Fm) : List Ob := [.row 31 2 (x.atom.args.map Tm.o), .row 34 5 (x.parts.map Fm.o)]
abbrev Bd.sv (x : Bd) : SV := .agg [.str x.var, .str x.term.name, .arr (x.term.args.map Tm.d)]
def Bd.o (x : Bd) : List OT := [.str x.var, .str x.term.name, .ow (x.term.args.map Tm.o)]
theorem Bd.o_eq (x : Bd) : Bd.o x = [.str x.var, .str x.term.name, .ow (x.term.args.map Tm.o)] := rfl
theorem Bd.er (x : Bd) : OT.ers (Bd.o x) = Bd.d x := by
  simp only [Bd.o, Bd.d, OT.ers, OT.er, Tm.erss]
theorem Bd.erss : ∀ xs : List Bd, OT.erss (xs.map Bd.o) = xs.map Bd.d
  | [] => rfl
  | x :: xs => by simp only [List.map_cons, OT.erss, Bd.er, Bd.erss xs]
theorem Bd.no (x : Bd) : OT.noShs (Bd.o x) = true := by
  simp only [Bd.o, OT.noShs, OT.noSh, Tm.noss, Bool.and_self, Bool.and_true]
theorem Bd.noss : ∀ xs : List Bd, OT.noShss (xs.map Bd.o) = true
  | [] => rfl
  | x :: xs => by simp only [List.map_cons, OT.noShss, Bd.no, Bd.noss xs, Bool.and_self]
abbrev Bd.osv (x : Bd) : SV := .agg [.str x.var, .str x.term.name, .ref 0]
abbrev Bd.obs (x : Bd) : List Ob := [.row 31 2 (x.term.args.map Tm.o)]
abbrev Sb.sv (x : Sb) : SV := .agg [.arr (x.binds.map Bd.d)]
def Sb.o (x : Sb) : List OT := [.ow (x.binds.map Bd.o)]
theorem Sb.o_eq (x : Sb) : Sb.o x = [.ow (x.binds.map Bd.o)] := rfl
theorem Sb.er (x : Sb) : OT.ers (Sb.o x) = Sb.d x := by
  simp only [Sb.o, Sb.d, OT.ers, OT.er, Bd.erss]
theorem Sb.erss : ∀ xs : List Sb, OT.erss (xs.map Sb.o) = xs.map Sb.d
  | [] => rfl
  | x :: xs => by simp only [List.map_cons, OT.erss, Sb.er, Sb.erss xs]
theorem Sb.no (x : Sb) : OT.noShs (Sb.o x) = true := by
  simp only [Sb.o, OT.noShs, OT.noSh, Bd.noss, Bool.and_self, Bool.and_true]
theorem Sb.noss : ∀ xs : List Sb, OT.noShss (xs.map Sb.o) = true
  | [] => rfl
  | x :: xs => by simp only [List.map_cons, OT.noShss, Sb.no, Sb.noss xs, Bool.and_self]
abbrev Sb.osv (x : Sb) : SV := .agg [.ref 0]
abbrev Sb.obs (x : Sb) : List Ob := [.row 126 3 (x.binds.map Bd.o)]
theorem dec_i64 {n : Int} (h1 : -9223372036854775808 ≤ n) (h2 : n ≤ 9223372036854775807) : dec (inK .i64 n) = true := dec_t (inK_i64.2 ⟨h1, h2⟩)
theorem get_at {α β : Type} (f : α → β) {xs : List α} {k : Nat} (h : k < xs.length) : (xs.map f)[k]? = some (f xs[k]) := by rw [List.getElem?_map, List.getElem?_eq_getElem h]; rfl
theorem szR_spec (left : Int) (n : Nat) : ((n : Int) ≤ left ∧ szR left n = left - n) ∨ (left < n ∧ szR left n = -1) := by
  unfold szR; split <;> omega
mutual
def D.fit : D → Prop
  | .int _ => True
  | .bool _ => True
  | .str s => s.size ≤ 9223372036854775807
  | .arr es => es.length ≤ 9223372036854775807 ∧ D.fitss es
def D.fits : List D → Prop
  | [] => True
  | x :: r => D.fit x ∧ D.fits r
def D.fitss : List (List D) → Prop
  | [] => True
  | x :: r => D.fits x ∧ D.fitss r
end
theorem D.fits_of : ∀ {l : List D}, (∀ (j : Nat) (h : j < l.length), D.fit l[j]) → D.fits l
  | [], _ => trivial
  | x :: r, h => ⟨h 0 (by simp), D.fits_of fun j hj => h (j + 1) (by simpa using hj)⟩
theorem D.fitss_of : ∀ {es : List (List D)}, (∀ (i : Nat) (h : i < es.length), D.fits es[i]) → D.fitss es
  | [], _ => trivial
  | x :: r, h => ⟨h 0 (by simp), D.fitss_of fun j hj => h (j + 1) (by simpa using hj)⟩
theorem D.fitss_mem {α : Type} {f : α → List D} : ∀ {xs : List α}, D.fitss (xs.map f) → ∀ x ∈ xs, D.fits (f x)
  | [], _, x, h => by cases h
  | y :: r, h, x, hx => by
    simp only [List.map_cons, D.fitss] at h
    rcases List.mem_cons.1 hx with rfl | hx
    · exact h.1
    · exact D.fitss_mem h.2 x hx
theorem DRep.fit {own : Bool} {w : World} {S : Nat → Prop} {d : D} {v : Value} (h : DRep own w S d v) : D.fit d := by
  induction h with
  | int => trivial
  | bool => trivial
  | str S s h => exact h
  | arr S sz es a cap f Sub h1 h2 h3 h4 h5 h6 h7 ih => exact ⟨Nat.le_trans h1 h2, D.fitss_of fun i hi => D.fits_of fun j hj => ih i j hi hj⟩
theorem dec_T : dec True = true := dec_t trivial
theorem dec_F : dec False = false := dec_f fun h => h
attribute [go_sem] lendN lend1 SV.isNil Ob.idsB SV.idsB SV.idsBL List.getElem?_cons_zero List.getElem?_cons_succ OT.fullss OT.fulls OT.full entry toTree plugA plugG plugH setG holesBack holeAt treeF scalO canonO OT.erss OT.ers OT.er OT.noShss OT.noShs OT.noSh quiet obB obBj locs meets memAnc go_skip go_exit go_ret go_reg go_dreg go_seq go_block boolP_t boolP_f boolP_n seqk_n seqk_e seqk_r blk_n blk_e blk_r someP_s drawP_s regF_nil regF_cons regF_gd drgF_nil drgF_cons drgF_gd regN_s drgN_s gdF_t gdF_ff gdF_tf gdF_ft gdF_u appF_n appF_c calls_eq late_a late_f late_o late_s late_b late_i lateC keysB goneIn seen callS_nil callS_cons callN_z callN_s selN_s callRes_v callRes roundK_n roundK_e roundK_r finK_r finK_n resF1_s ordF_s order opF fOp ret1 ret1o fBin fBinI fBinS fBinB fArith eqK getX gets geto sets putS newOb updL extL lookO okUB SV.cellsN SV.one fillS splice toOTs toOT refs1 refsC fsts gids gone1 allSome bndLo bndHi intN eOp.mkEs eOp.addS D.sv OT.sv D.ot memB nodupB reach SV.refs SV.refsS SV.ptrs SV.ptrsS Ob.refs Ob.liveB handRefs backObs SV.back SV.backL Ob.back posN lendL lendV lentL lentV allLtB allIdsB SV.ren SV.renL Ob.ren mkU sgp gc gcObs names upTo canon keepS keepRefs slots resV rxVs rxV anys noShB SV.noSh SV.noShL Ob.noSh SV.own SV.ownL goneAt cond_true cond_false List.length_cons List.length_nil List.map_cons List.map_nil List.drop_succ_cons List.drop_zero List.drop_nil List.take_succ_cons List.take_zero List.take_nil List.append_nil List.nil_append List.cons_append List.all_cons List.all_nil List.getD_cons_zero List.getD_cons_succ List.any_cons List.any_nil List.contains_cons List.contains_nil List.isEmpty_nil List.isEmpty_cons List.flatten_cons List.flatten_nil List.replicate_succ List.replicate_zero List.set_cons_zero List.set_cons_succ Nat.add_zero Nat.zero_add Nat.le_refl Nat.zero_le Bool.and_true Bool.true_and Bool.and_self Bool.or_false Bool.false_or Bool.true_or Bool.or_true Bool.not_true Bool.not_false Bool.false_and Bool.and_false decide_true decide_false beq_self_eq_true if_true if_false Option.map_some Option.map_none Option.some.injEq Option.getD_some Option.getD_none Int.toNat_natCast true_and and_true and_self eq_self_iff_true List.length_map Bool.false_eq_true Bool.true_eq_false Prod.mk.injEq SV.int.injEq SV.bool.injEq SV.str.injEq SV.agg.injEq SV.tup.injEq SV.arr.injEq List.cons.injEq St.mk.injEq Int.zero_add dec_T dec_F dec_i64 dec_t dec_f fGet svK svD svDs svM MV.sv mapAt mput_int mput_str nomap_eq nextSt St.app itOf MK.sv mroundK_n mroundK_e mroundK_r mendK_e mendK_r
theorem fu_strs : ∀ xs : List ByteArray, OT.fullss (xs.map fun s => [OT.str s]) = true
  | [] => rfl
  | x :: xs => by simp only [List.map_cons, OT.fullss, OT.fulls, OT.full, fu_strs xs, Bool.and_self]
theorem fu_ints : ∀ xs : List Int, OT.fullss (xs.map fun n => [OT.int n]) = true
  | [] => rfl
  | x :: xs => by simp only [List.map_cons, OT.fullss, OT.fulls, OT.full, fu_ints xs, Bool.and_self]
theorem Tm.fu_of : ∀ xs : List Tm, (∀ x ∈ xs, OT.fulls (Tm.o x) = true) → OT.fullss (xs.map Tm.o) = true
  | [], _ => rfl
  | x :: xs, h => by
    simp only [List.map_cons, OT.fullss]
    rw [h x (by simp), Tm.fu_of xs fun y hy => h y (by simp [hy])]; rfl
theorem Tm.fu (x : Tm) : OT.fulls (Tm.o x) = true := by
  have h := Tm.fu_of x.args fun y hy => Tm.fu y
  rw [Tm.o_eq]
  simp only [OT.fulls, OT.full, h, Bool.and_self, Bool.and_true]
termination_by SizeOf.sizeOf x
decreasing_by exact Tm.lt_of_mem hy
theorem Tm.fus (xs : List Tm) : OT.fullss (xs.map Tm.o) = true := Tm.fu_of xs fun x _ => Tm.fu x
theorem Fm.fu_of : ∀ xs : List Fm, (∀ x ∈ xs, OT.fulls (Fm.o x) = true) → OT.fullss (xs.map Fm.o) = true
  | [], _ => rfl
  | x :: xs, h => by
    simp only [List.map_cons, OT.fullss]
    rw [h x (by simp), Fm.fu_of xs fun y hy => h y (by simp [hy])]; rfl
theorem Fm.fu (x : Fm) : OT.fulls (Fm.o x) = true := by
  have h := Fm.fu_of x.parts fun y hy => Fm.fu y
  rw [Fm.o_eq]
  simp only [OT.fulls, OT.full, h, Tm.fus, Bool.and_self, Bool.and_true]
termination_by SizeOf.sizeOf x
decreasing_by exact Fm.lt_of_mem hy
theorem Fm.fus (xs : List Fm) : OT.fullss (xs.map Fm.o) = true := Fm.fu_of xs fun x _ => Fm.fu x
theorem Bd.fu (x : Bd) : OT.fulls (Bd.o x) = true := by
  simp only [Bd.o, OT.fulls, OT.full, Tm.fus, Bool.and_self, Bool.and_true]
theorem Bd.fus : ∀ xs : List Bd, OT.fullss (xs.map Bd.o) = true
  | [] => rfl
  | x :: xs => by simp only [List.map_cons, OT.fullss, Bd.fu, Bd.fus xs, Bool.and_self]
theorem Sb.fu (x : Sb) : OT.fulls (Sb.o x) = true := by
  simp only [Sb.o, OT.fulls, OT.full, Bd.fus, Bool.and_self, Bool.and_true]
theorem Sb.fus : ∀ xs : List Sb, OT.fullss (xs.map Sb.o) = true
  | [] => rfl
  | x :: xs => by simp only [List.map_cons, OT.fullss, Sb.fu, Sb.fus xs, Bool.and_self]
attribute [go_sem] fu_strs fu_ints er_strs er_ints no_strs no_ints Tm.fus Tm.erss Tm.noss Fm.fus Fm.erss Fm.noss Bd.fus Bd.erss Bd.noss Sb.fus Sb.erss Sb.noss
theorem map_set_mid {α β : Type} (f : α → β) (dn rest : List α) (x y : α) {k : Nat} (h : dn.length = k) : ((dn ++ x :: rest).map f).set k (f y) = ((dn ++ [y]) ++ rest).map f := by
  subst h
  rw [List.map_append, List.set_append_right _ _ (by simp)]
  simp
theorem dec_refl {α : Type} (a : α) : dec (a = a) = true := dec_t rfl
def fillR {α β : Type} (f : α → β) (z : β) (xs : List α) (k : Nat) : List β := (xs.take k).map f ++ List.replicate (xs.length - k) z
section
variable {α β : Type} (f : α → β) (z : β) {xs : List α} {k : Nat}
theorem fillR_zero : fillR f z xs 0 = List.replicate xs.length z := by simp [fillR]
theorem fillR_len : (fillR f z xs k).length = xs.length := by simp [fillR]; omega
theorem fillR_end : fillR f z xs xs.length = xs.map f := by simp [fillR]
theorem fillR_get (h : k < xs.length) : (fillR f z xs k)[k]? = some z := by
  have hl : ((xs.take k).map f).length = k := by simp; omega
  unfold fillR
  rw [List.getElem?_append_right (by omega), hl, Nat.sub_self, List.getElem?_replicate]
  simp; omega
theorem fillR_set (h : k < xs.length) : (fillR f z xs k).set k (f xs[k]) = fillR f z xs (k + 1) := by
  have hl : ((xs.take k).map f).length = k := by simp; omega
  have e : List.take (k + 1) xs = List.take k xs ++ [xs[k]] := List.take_succ_eq_append_getElem h
  unfold fillR
  rw [List.set_append_right _ _ (by omega), hl, Nat.sub_self, e, List.map_append, List.append_assoc]
  congr 1
  rw [show xs.length - k = (xs.length - (k + 1)) + 1 by omega, List.replicate_succ, List.set_cons_zero]
  rfl
end
theorem max_bif (a b : Int) : (bif dec (a < b) then b else a) = max a b := by
  by_cases h : a < b
  · rw [dec_t h, cond_true, Int.max_eq_right (by omega)]
  · rw [dec_f h, cond_false, Int.max_eq_left (by omega)]
def idxP {α : Type} (p : α → Bool) : List α → Int → Int
  | [], _ => -1
  | x :: xs, i => if p x then i else idxP p xs (i + 1)
theorem idxP_any {α : Type} (p : α → Bool) : ∀ (xs : List α), dec (0 ≤ idxP p xs 0) = xs.any p := by
  have key : ∀ (xs : List α) (i : Int), 0 ≤ i → (0 ≤ idxP p xs i ↔ xs.any p = true) := by
    intro xs
    induction xs with
    | nil => intro i h; simp [idxP]
    | cons x xs ih =>
      intro i h
      simp only [idxP, List.any_cons, Bool.or_eq_true]
      by_cases hp : p x = true
      · simp [hp, h]
      · rw [if_neg hp, ih (i + 1) (by omega)]; simp [hp]
  intro xs
  cases h : xs.any p with
  | true => exact dec_t ((key xs 0 (by omega)).2 h)
  | false => exact dec_f fun h' => by rw [(key xs 0 (by omega)).1 h'] at h; cases h
noncomputable def fillM (p : EL) : MF := p.foldl (fun m e => mput m e.1 e.2) nomap
theorem fillM_snoc (p : EL) (k : MK) (x : MV) : fillM (p ++ [(k, x)]) = mput (fillM p) k x := by unfold fillM; rw [List.foldl_append]; rfl
theorem fillM_eq {f : MF} {p : EL} (h : Enum f p) : fillM p = f := by
  have key : ∀ (p : EL) (m0 : MF) (k : MK), (p.map (·.1)).Nodup → p.foldl (fun m e => mput m e.1 e.2) m0 k = match p.find? (fun e => dec (e.1 = k)) with | some e => some e.2 | none => m0 k := by
    intro p
    induction p with
    | nil => intro m0 k _; rfl
    | cons e p ih =>
      intro m0 k hn
      rw [List.map_cons, List.nodup_cons] at hn
      rw [List.foldl_cons, ih _ _ hn.2, List.find?_cons]
      by_cases he : e.1 = k
      · rw [dec_t he]
        have : p.find? (fun e => dec (e.1 = k)) = none := by
          rw [List.find?_eq_none]
          intro e' he' hd
          rw [dec_iff] at hd
          exact hn.1 (List.mem_map.2 ⟨e', he', by rw [hd, he]⟩)
        rw [this]
        simp only
        rw [← he, mput_same]
      · rw [dec_f he]
        simp only
        cases p.find? (fun e => dec (e.1 = k)) with
        | some e' => rfl
        | none => simp only; rw [mput_ne fun h => he h.symm]
  funext k
  unfold fillM
  rw [key p nomap k h.nd]
  cases hf : p.find? (fun e => dec (e.1 = k)) with
  | some e =>
    have h1 := List.mem_of_find?_eq_some hf
    have h2 := List.find?_some hf
    rw [dec_iff] at h2
    subst h2
    exact ((h.mem e.1 e.2).1 h1).symm
  | none =>
    simp only
    cases hk : f k with
    | none => rfl
    | some x =>
      have h1 := (h.mem k x).2 hk
      rw [List.find?_eq_none] at hf
      exact absurd (dec_t rfl) (hf _ h1)
theorem enum_of {f : MF} (l : List ByteArray) (hl : ∀ k x, f k = some x → ∃ s ∈ l, k = .str s) : ∃ L, Enum f L := by
  have key : ∀ l : List ByteArray, ∃ L : EL, (L.map (·.1)).Nodup ∧ ∀ k x, (k, x) ∈ L ↔ f k = some x ∧ k ∈ l.map MK.str := by
    intro l
    induction l with
    | nil => exact ⟨[], by simp, fun k x => by simp⟩
    | cons s l ih =>
      obtain ⟨L, h1, h2⟩ := ih
      cases hs : f (.str s) with
      | none =>
        refine ⟨L, h1, fun k x => ?_⟩
        rw [h2]
        constructor
        · rintro ⟨a, b⟩; exact ⟨a, by simp only [List.map_cons, List.mem_cons]; exact .inr b⟩
        · rintro ⟨a, b⟩
          rcases List.mem_cons.1 b with rfl | b
          · rw [hs] at a; cases a
          · exact ⟨a, b⟩
      | some v =>
        by_cases hm : MK.str s ∈ l.map MK.str
        · refine ⟨L, h1, fun k x => ?_⟩
          rw [h2]
          constructor
          · rintro ⟨a, b⟩; exact ⟨a, by simp only [List.map_cons, List.mem_cons]; exact .inr b⟩
          · rintro ⟨a, b⟩
            rcases List.mem_cons.1 b with rfl | b
            · exact ⟨a, hm⟩
            · exact ⟨a, b⟩
        · refine ⟨(.str s, v) :: L, ?_, fun k x => ?_⟩
          · rw [List.map_cons, List.nodup_cons]
            refine ⟨fun hk => ?_, h1⟩
            obtain ⟨⟨k, x⟩, hk1, hk2⟩ := List.mem_map.1 hk
            have := (h2 k x).1 hk1
            have hk2 : k = .str s := hk2
            rw [hk2] at this
            exact hm this.2
          · rw [List.mem_cons, h2]
            constructor
            · rintro (hk | ⟨a, b⟩)
              · obtain ⟨rfl, rfl⟩ := Prod.mk.inj hk
                exact ⟨hs, by simp⟩
              · exact ⟨a, by simp only [List.map_cons, List.mem_cons]; exact .inr b⟩
            · rintro ⟨a, b⟩
              rcases List.mem_cons.1 b with rfl | b
              · rw [hs] at a
                exact .inl (by rw [Option.some.inj a])
              · exact .inr ⟨a, b⟩
  obtain ⟨L, h1, h2⟩ := key l
  refine ⟨L, h1, fun k x => ?_⟩
  rw [h2]
  exact ⟨fun h => h.1, fun h => ⟨h, by obtain ⟨s, hs, rfl⟩ := hl k x h; exact List.mem_map.2 ⟨s, hs, rfl⟩⟩⟩
theorem dec_ii {p q : Prop} (h : p ↔ q) : dec p = dec q := by rw [propext h]
mutual
def Tm.nodes : Tm → Nat
  | .mk _ args => 1 + Tm.nodeS args
def Tm.nodeS : List Tm → Nat
  | [] => 0
  | x :: xs => Tm.nodes x + Tm.nodeS xs
end
theorem Tm.nodes_eq (x : Tm) : x.nodes = 1 + Tm.nodeS x.args := by
  obtain ⟨name, args⟩ := x
  rw [Tm.nodes]; rfl
theorem Tm.nodes_pos (x : Tm) : 1 ≤ x.nodes := by rw [Tm.nodes_eq]; omega
theorem Tm.nodes_le : ∀ (xs : List Tm) (k : Nat) (h : k < xs.length), xs[k].nodes ≤ Tm.nodeS xs
  | [], k, h => absurd h (by simp)
  | x :: xs, 0, _ => by rw [Tm.nodeS]; simp
  | x :: xs, k + 1, h => by
    have := Tm.nodes_le xs k (by simpa using h)
    rw [Tm.nodeS]; simp only [List.getElem_cons_succ]; omega
mutual
def Tm.deep : Tm → Nat
  | .mk _ args => Tm.deepS args + 1
def Tm.deepS : List Tm → Nat
  | [] => 0
  | x :: xs => max (Tm.deep x) (Tm.deepS xs)
end
theorem Tm.deep_eq (x : Tm) : x.deep = Tm.deepS x.args + 1 := by
  obtain ⟨name, args⟩ := x
  rw [Tm.deep]; rfl
theorem Tm.deepS_le_nodes : ∀ xs : List Tm, (∀ y ∈ xs, y.deep ≤ y.nodes) → Tm.deepS xs ≤ Tm.nodeS xs
  | [], _ => by simp [Tm.deepS]
  | x :: xs, h => by
    have h1 := h x (by simp)
    have h2 := Tm.deepS_le_nodes xs fun y hy => h y (by simp [hy])
    rw [Tm.deepS, Tm.nodeS]; omega
theorem Tm.deep_le_nodes (x : Tm) : x.deep ≤ x.nodes := by
  rw [Tm.deep_eq, Tm.nodes_eq]
  have := Tm.deepS_le_nodes x.args fun y hy => Tm.deep_le_nodes y
  omega
termination_by SizeOf.sizeOf x
decreasing_by exact Tm.lt_of_mem hy
mutual
def Tm.names : Tm → Bool
  | .mk name args => if varB name then args.length == 0 else symB name && decide (args.length ≤ 4) && Tm.nameS args
def Tm.nameS : List Tm → Bool
  | [] => true
  | x :: xs => Tm.names x && Tm.nameS xs
end
theorem Tm.names_eq (x : Tm) : x.names = if varB x.name then x.args.length == 0 else symB x.name && decide (x.args.length ≤ 4) && Tm.nameS x.args := by
  obtain ⟨name, args⟩ := x
  rw [Tm.names]; rfl
theorem Tm.nameS_all : ∀ xs : List Tm, Tm.nameS xs = xs.all Tm.names
  | [] => rfl
  | x :: xs => by rw [Tm.nameS, Tm.nameS_all xs]; rfl
theorem Tm.length_le : ∀ xs : List Tm, xs.length ≤ Tm.nodeS xs
  | [] => Nat.le_refl _
  | x :: xs => by
    have := Tm.length_le xs
    have := Tm.nodes_pos x
    rw [Tm.nodeS]; simp only [List.length_cons]; omega
theorem Tm.nodes_mem {xs : List Tm} {y : Tm} (h : y ∈ xs) : y.nodes ≤ Tm.nodeS xs := by
  obtain ⟨k, hk, rfl⟩ := List.getElem_of_mem h
  exact Tm.nodes_le xs k hk
def Tm.small (x : Tm) : Bool := decide (x.nodes ≤ 30) && decide (x.deep ≤ 8)
def Tm.valid (x : Tm) : Bool := x.small && x.names
noncomputable def Tm.eqn (x : Tm) : Bool := dec (x.name = ⟨#[61]⟩)
noncomputable def Tm.atom (x : Tm) : Bool := if x.eqn then x.args.length == 2 && x.small && Tm.nameS x.args else symB x.name && x.valid
theorem nameS_two {xs : List Tm} (h : xs.length = 2) : Tm.nameS xs = ((xs[0]'(by omega)).names && (xs[1]'(by omega)).names) := by
  match xs, h with
  | [a, b], _ => simp [Tm.nameS]
mutual
def Tm.cap : Tm → Int
  | .mk _ xs => Tm.capL xs 1
def Tm.capL : List Tm → Int → Int
  | [], n => n
  | x :: xs, n => if 30 < n then n else Tm.capL xs (n + Tm.cap x)
end
theorem Tm.cap_eq (x : Tm) : x.cap = Tm.capL x.args 1 := by
  obtain ⟨n, xs⟩ := x
  rw [Tm.cap]; rfl
theorem Tm.capL_spec : ∀ (xs : List Tm) (n : Int), (∀ x ∈ xs, 1 ≤ x.cap ∧ x.cap ≤ x.nodes ∧ (x.cap ≤ 30 → x.cap = x.nodes)) → 1 ≤ n → n ≤ Tm.capL xs n ∧ Tm.capL xs n ≤ n + Tm.nodeS xs ∧ (Tm.capL xs n ≤ 30 → Tm.capL xs n = n + Tm.nodeS xs)
  | [], n, _, h => by simp [Tm.capL, Tm.nodeS]
  | x :: xs, n, hx, h => by
    rw [Tm.capL, Tm.nodeS]
    have h1 := hx x (by simp)
    split
    · omega
    · have := Tm.capL_spec xs (n + x.cap) (fun y hy => hx y (by simp [hy])) (by omega)
      omega
theorem Tm.cap_spec (x : Tm) : 1 ≤ x.cap ∧ x.cap ≤ x.nodes ∧ (x.cap ≤ 30 → x.cap = x.nodes) := by
  rw [Tm.cap_eq, Tm.nodes_eq]
  have := Tm.capL_spec x.args 1 (fun y hy => Tm.cap_spec y) (by omega)
  omega
termination_by SizeOf.sizeOf x
decreasing_by exact Tm.lt_of_mem hy
mutual
def Tm.many : Tm → Int → Int
  | .mk _ xs, m => Tm.manyL xs m 1
def Tm.manyL : List Tm → Int → Int → Int
  | [], _, n => n
  | x :: xs, m, n => if n ≤ m then Tm.manyL xs m (n + Tm.many x (m - n)) else n
end
theorem Tm.many_eq (x : Tm) (m : Int) : x.many m = Tm.manyL x.args m 1 := by
  obtain ⟨n, xs⟩ := x
  rw [Tm.many]; rfl
theorem Tm.manyL_spec (m : Int) : ∀ (xs : List Tm) (n : Int), (∀ x ∈ xs, ∀ m, 0 ≤ m → 1 ≤ x.many m ∧ x.many m ≤ x.nodes ∧ (x.many m ≤ m → x.many m = x.nodes)) → 1 ≤ n → n ≤ Tm.manyL xs m n ∧ Tm.manyL xs m n ≤ n + Tm.nodeS xs ∧ (Tm.manyL xs m n ≤ m → Tm.manyL xs m n = n + Tm.nodeS xs)
  | [], n, _, h => by simp [Tm.manyL, Tm.nodeS]
  | x :: xs, n, hx, h => by
    rw [Tm.manyL, Tm.nodeS]
    split
    · have h1 := hx x (by simp) (m - n) (by omega)
      have := Tm.manyL_spec m xs (n + x.many (m - n)) (fun y hy => hx y (by simp [hy])) (by omega)
      omega
    · omega
theorem Tm.many_spec (x : Tm) (m : Int) : 1 ≤ x.many m ∧ x.many m ≤ x.nodes ∧ (x.many m ≤ m → x.many m = x.nodes) := by
  rw [Tm.many_eq, Tm.nodes_eq]
  have := Tm.manyL_spec m x.args 1 (fun y hy m _ => Tm.many_spec y m) (by omega)
  omega
termination_by SizeOf.sizeOf x
decreasing_by exact Tm.lt_of_mem hy
theorem Tm.names_var {x : Tm} (h : x.names = true) (hv : varB x.name = true) : x.args = [] := by
  rw [Tm.names_eq, if_pos hv] at h
  exact List.eq_nil_of_length_eq_zero (by simpa using h)
theorem Tm.names_arg {x : Tm} (h : x.names = true) {y : Tm} (hy : y ∈ x.args) : y.names = true := by
  rw [Tm.names_eq] at h
  split at h
  · have : x.args = [] := List.eq_nil_of_length_eq_zero (by simpa using h)
    rw [this] at hy; cases hy
  · rw [Bool.and_eq_true, Tm.nameS_all, List.all_eq_true] at h
    exact h.2 y hy
abbrev SEnv := ByteArray → Option ByteArray
def senvM (e : SEnv) : MF
  | .str s => match e s with
    | some n => some (false, [.str n])
    | none => none
  | .int _ => none
theorem senvM_str (e : SEnv) (s : ByteArray) : senvM e (.str s) = match e s with | some n => some (false, [.str n]) | none => none := rfl
noncomputable def putN (e : SEnv) (s n : ByteArray) : SEnv := fun q => bif dec (q = s) then some n else e q
theorem senvM_put (e : SEnv) (s n : ByteArray) : mput (senvM e) (.str s) (false, [.str n]) = senvM (putN e s n) := by
  funext k
  cases k with
  | int i => rw [mput_ne (fun h => by cases h)]; rfl
  | str q =>
    rw [mput_str, senvM_str, senvM_str]
    unfold putN
    cases dec (q = s) <;> rfl
theorem senvM_none : senvM (fun _ => none) = nomap := by
  funext k
  cases k <;> rfl
def FinS (e : SEnv) : Prop := ∃ l : List ByteArray, ∀ s, e s ≠ none → s ∈ l
theorem FinS.none : FinS fun _ => Option.none := ⟨[], fun s h => absurd rfl h⟩
theorem FinS.put {e : SEnv} (h : FinS e) (s n : ByteArray) : FinS (putN e s n) := by
  obtain ⟨l, hl⟩ := h
  refine ⟨s :: l, fun q hq => ?_⟩
  unfold putN at hq
  by_cases he : q = s
  · simp [he]
  · rw [dec_f he, cond_false] at hq
    simp [hl q hq]
theorem FinS.enum {e : SEnv} (h : FinS e) : ∃ L, Enum (senvM e) L := by
  obtain ⟨l, hl⟩ := h
  refine enum_of l fun k x hk => ?_
  cases k with
  | int i => cases hk
  | str s => exact ⟨s, hl s (fun hn => by rw [senvM_str, hn] at hk; exact absurd hk (by simp)), rfl⟩
mutual
noncomputable def Tm.rn (e : SEnv) : Tm → Tm
  | .mk n args => .mk (bif args.isEmpty then (e n).getD n else n) (Tm.rnL e args)
noncomputable def Tm.rnL (e : SEnv) : List Tm → List Tm
  | [] => []
  | x :: xs => Tm.rn e x :: Tm.rnL e xs
end
theorem Tm.rnL_map (e : SEnv) : ∀ xs : List Tm, Tm.rnL e xs = xs.map (Tm.rn e)
  | [] => by rw [Tm.rnL]; rfl
  | x :: xs => by rw [Tm.rnL, Tm.rnL_map e xs]; rfl
theorem Tm.rn_eq (e : SEnv) (x : Tm) : x.rn e = .mk (bif x.args.isEmpty then (e x.name).getD x.name else x.name) (x.args.map (Tm.rn e)) := by
  obtain ⟨n, args⟩ := x
  rw [Tm.rn, Tm.rnL_map]; rfl
theorem Tm.rn_nodes (e : SEnv) (x : Tm) : (x.rn e).nodes = x.nodes := by
  have key : ∀ xs : List Tm, (∀ y ∈ xs, (y.rn e).nodes = y.nodes) → Tm.nodeS (xs.map (Tm.rn e)) = Tm.nodeS xs := by
    intro xs
    induction xs with
    | nil => intro _; rfl
    | cons y ys ih =>
      intro h
      rw [List.map_cons, Tm.nodeS, Tm.nodeS, h y (by simp), ih fun z hz => h z (by simp [hz])]
  rw [Tm.rn_eq, Tm.nodes_eq, Tm.nodes_eq]
  show 1 + Tm.nodeS (x.args.map (Tm.rn e)) = _
  rw [key x.args fun y hy => Tm.rn_nodes e y]
termination_by SizeOf.sizeOf x
decreasing_by exact Tm.lt_of_mem hy
theorem decD_ne (u : Nat) : Lib.decDigits u ≠ [] := by
  rw [Lib.decDigits]
  split <;> simp
theorem dig_inj {a b : Nat} (ha : a < 10) (hb : b < 10) (h : UInt8.ofNat (48 + a) = UInt8.ofNat (48 + b)) : a = b := by
  have := congrArg UInt8.toNat h
  rw [UInt8.toNat_ofNat', UInt8.toNat_ofNat'] at this
  omega
theorem decD_inj : ∀ u v : Nat, Lib.decDigits u = Lib.decDigits v → u = v := by
  intro u
  induction u using Nat.strongRecOn with
  | _ u ih =>
    intro v h
    rw [Lib.decDigits, Lib.decDigits.eq_def v] at h
    split at h <;> split at h
    · rename_i h1 h2
      exact dig_inj h1 h2 (by simpa using h)
    · rename_i h1 h2
      have := congrArg List.length h
      have hne := decD_ne (v / 10)
      rw [List.length_append] at this
      have : (Lib.decDigits (v / 10)).length = 0 := by simp at this; simpa using this
      exact absurd (List.eq_nil_of_length_eq_zero this) hne
    · rename_i h1 h2
      have := congrArg List.length h
      have hne := decD_ne (u / 10)
      rw [List.length_append] at this
      have : (Lib.decDigits (u / 10)).length = 0 := by simp at this; simpa using this
      exact absurd (List.eq_nil_of_length_eq_zero this) hne
    · rename_i h1 h2
      obtain ⟨e1, e2⟩ := List.append_inj' h rfl
      have e3 := ih (u / 10) (by omega) _ e1
      have e4 := dig_inj (Nat.mod_lt _ (by omega)) (Nat.mod_lt _ (by omega)) (by simpa using e2)
      omega
theorem numB_inj {a b : Int} (ha : 0 ≤ a) (hb : 0 ≤ b) (h : numB a = numB b) : a = b := by
  obtain ⟨u, rfl⟩ : ∃ u : Nat, a = u := ⟨a.toNat, by omega⟩
  obtain ⟨v, rfl⟩ : ∃ v : Nat, b = v := ⟨b.toNat, by omega⟩
  unfold numB at h
  rw [Lib.itoa_nonneg, Lib.itoa_nonneg] at h
  have := decD_inj u v (by have := congrArg (fun x : ByteArray => x.data.toList) h; simpa using this)
  omega
theorem numB_small {n : Int} (h0 : 0 ≤ n) (h : n < 10) : numB n = ⟨#[UInt8.ofNat (48 + n.toNat)]⟩ := by
  obtain ⟨u, rfl⟩ : ∃ u : Nat, n = u := ⟨n.toNat, by omega⟩
  unfold numB
  rw [Lib.itoa_nonneg, Lib.decDigits, dif_pos (by omega)]
  rfl
theorem numB_big {n : Int} (h : 10 ≤ n) : numB n = numB (n.tdiv 10) ++ ⟨#[UInt8.ofNat (48 + (n.tmod 10).toNat)]⟩ := by
  obtain ⟨u, rfl⟩ : ∃ u : Nat, n = u := ⟨n.toNat, by omega⟩
  have e1 : (u : Int).tdiv 10 = ((u / 10 : Nat) : Int) := by rw [Int.tdiv_eq_ediv_of_nonneg (by omega)]; rfl
  have e2 : ((u : Int).tmod 10).toNat = u % 10 := by rw [Int.tmod_eq_emod_of_nonneg (by omega)]; omega
  rw [e1, e2]
  unfold numB
  rw [Lib.itoa_nonneg, Lib.itoa_nonneg, Lib.decDigits, dif_neg (by omega)]
  have key : ∀ (x : List UInt8) (y : UInt8), (⟨(x ++ [y]).toArray⟩ : ByteArray) = ⟨x.toArray⟩ ++ ⟨#[y]⟩ := fun x y => by
    have e : ∀ a b : ByteArray, a.data = b.data → a = b := fun a b h => by cases a; cases b; cases h; rfl
    apply e
    simp
  exact key _ _
def pre (p : ByteArray) (n : Int) : ByteArray := p ++ numB n
theorem pre_inj {p : ByteArray} {a b : Int} (ha : 0 ≤ a) (hb : 0 ≤ b) (h : pre p a = pre p b) : a = b := by
  refine numB_inj ha hb ?_
  unfold pre at h
  simpa using h
noncomputable def beyond (p : ByteArray) (taken : List ByteArray) (c : Int) : Nat := (taken.filter fun s => dec (∃ k : Int, c < k ∧ s = pre p k)).length
theorem beyond_le (p : ByteArray) (taken : List ByteArray) (c : Int) : beyond p taken c ≤ taken.length := List.length_filter_le _ _
theorem beyond_lt {p : ByteArray} {taken : List ByteArray} {c : Int} (hc : 0 ≤ c) (h : pre p (c + 1) ∈ taken) : beyond p taken (c + 1) < beyond p taken c := by
  unfold beyond
  refine filter_lt (fun x hx => ?_) h (dec_t ⟨c + 1, by omega, rfl⟩) (dec_f ?_)
  · rw [dec_iff] at hx ⊢
    obtain ⟨k, h1, h2⟩ := hx
    exact ⟨k, by omega, h2⟩
  · rintro ⟨k, h1, h2⟩
    have := pre_inj (by omega) (by omega) h2
    omega
noncomputable def freshN (p : ByteArray) (taken : List ByteArray) : Nat → Int → Int
  | 0, c => c + 1
  | k + 1, c => bif dec (pre p (c + 1) ∈ taken) then freshN p taken k (c + 1) else c + 1
noncomputable def fresh (p : ByteArray) (taken : List ByteArray) (c : Int) : Int := freshN p taken (taken.length + 1) c
theorem freshN_range (p : ByteArray) (taken : List ByteArray) : ∀ (k : Nat) (c : Int), c < freshN p taken k c ∧ freshN p taken k c ≤ c + 1 + k
  | 0, c => by rw [freshN]; omega
  | k + 1, c => by
    have := freshN_range p taken k (c + 1)
    rw [freshN]
    cases dec (pre p (c + 1) ∈ taken) with
    | true => rw [cond_true]; omega
    | false => rw [cond_false]; omega
theorem freshN_more {p : ByteArray} {taken : List ByteArray} : ∀ (k j : Nat) (c : Int), 0 ≤ c → beyond p taken c < k → beyond p taken c < j → freshN p taken k c = freshN p taken j c
  | 0, _, _, _, h, _ => by omega
  | _, 0, _, _, _, h => by omega
  | k + 1, j + 1, c, hc, h1, h2 => by
    rw [freshN, freshN]
    by_cases h : pre p (c + 1) ∈ taken
    · have := beyond_lt hc h
      rw [dec_t h, cond_true, cond_true]
      exact freshN_more k j (c + 1) (by omega) (by omega) (by omega)
    · rw [dec_f h]; rfl
theorem fresh_hit {p : ByteArray} {taken : List ByteArray} {c : Int} (hc : 0 ≤ c) (h : pre p (c + 1) ∈ taken) : fresh p taken c = fresh p taken (c + 1) := by
  have h1 := beyond_lt hc h
  have h2 := beyond_le p taken c
  unfold fresh
  rw [freshN, dec_t h, cond_true]
  exact freshN_more _ _ _ (by omega) (by omega) (by omega)
theorem fresh_new {p : ByteArray} {taken : List ByteArray} {c : Int} (h : ¬ pre p (c + 1) ∈ taken) : fresh p taken c = c + 1 := by
  unfold fresh
  rw [freshN, dec_f h]; rfl
theorem fresh_range (p : ByteArray) (taken : List ByteArray) (c : Int) : c < fresh p taken c ∧ fresh p taken c ≤ c + 2 + taken.length := by
  have := freshN_range p taken (taken.length + 1) c
  unfold fresh
  omega
theorem m_strconv_Itoa : modes 100 = ⟨[], .asis, some (valX itoaX), false⟩ := by unfold modes; rfl
theorem itoa_E (n : Int) (h0 : 0 ≤ n) (h1 : n ≤ 1099511627776) : E 100 [.int .i64 n] [] = some (.str (numB n), []) :=
  E_ext (g := itoaX) (congrArg FM.ext m_strconv_Itoa) (by simp only [itoaX, dec_t (⟨h0, h1⟩ : 0 ≤ n ∧ n ≤ 1099511627776), cond_true])
def c_impl_size : SC := (.seq (.reg [⟨some 1, none, .boxv 31 2 (.t 0)⟩, ⟨some 2, none, .mv (.c (.int .i64 0))⟩]) (.seq (.reg [⟨some 3, none, .mv (.c (.int .i64 1))⟩]) (.seq (.seq (.reg [⟨some 6, none, .faddr 1 (.t 1)⟩, ⟨some 7, none, .load false 1 (.t 6)⟩, ⟨some 8, none, .len false (.t 7)⟩, ⟨some 9, none, .mv (.c (.int .i64 0))⟩]) (.block 0 (.loop [0, 0, 0, 1, 0, 0, 0, 1, 1, 1, 0, 0, 0, 0, 0, 0, 0, 0, 0, 0, 0, 0] (.seq (.reg [⟨some 10, none, .bin .lss false (.t 9) (.t 8)⟩]) (.seq (.cond (.t 10) .skip (.exit 0)) (.seq (.block 1 (.seq (.reg [⟨some 11, none, .iaddr 2 (.t 7) (.t 9)⟩, ⟨some 12, none, .load true 2 (.t 11)⟩, ⟨(some 5), none, (.alloc 31 [(.str ⟨#[]⟩), .nil])⟩, ⟨none, none, (.store 2 (.t 5) (.t 12))⟩]) (.seq (.seq (.reg [⟨some 13, none, .mv (.t 3)⟩, ⟨some 14, none, .bin .gtr false (.t 13) (.c (.int .i64 30))⟩]) (.cond (.t 14) (.seq (.reg [⟨some 15, none, .mv (.t 3)⟩, ⟨some 2, none, .mv (.t 15)⟩]) .ret) .skip)) (.reg [⟨some 16, none, .mv (.t 3)⟩, ⟨some 17, none, .load true 2 (.t 5)⟩, ⟨some 18, none, .call 141 [(.t 17)]⟩, ⟨some 19, none, .bin .add false (.t 16) (.t 18)⟩, ⟨some 3, none, .mv (.t 19)⟩])))) (.reg [⟨some 20, none, .bin .add false (.t 9) (.c (.int .i64 1))⟩, ⟨some 9, none, .mv (.t 20)⟩]))))))) (.seq (.reg [⟨some 21, none, .mv (.t 3)⟩, ⟨some 2, none, .mv (.t 21)⟩]) .ret))))
theorem k_impl_size : codeOf Tryz.prog 141 = some ⟨22, c_impl_size, [(.tmp 2)]⟩ := by kernel_rfl
theorem m_impl_size : modes 141 = ⟨[], .asis, none, false⟩ := by unfold modes; rfl
set_option maxHeartbeats 1000000 in
theorem size_of (x : Tm) (hn : x.nodes ≤ 1099511627776) (ih : ∀ y ∈ x.args, E 141 [y.sv] [] = some (.int .i64 y.cap, [])) : E 141 [x.sv] [] = some (.int .i64 x.cap, []) := by
  have hl := Tm.length_le x.args
  have hx := Tm.nodes_eq x
  rw [Tm.cap_eq]
  refine E_walk k_impl_size m_impl_size (of_decide_eq_true rfl) ?_
  simp (disch := omega) only [c_impl_size, go_sem, go_cond, zA, zB, zC, zD, zE, zF, zG, zH, ↓reduceIte, zI, reduceCtorEq, zJ, zK]
  refine go_loop (α := Int × Int) (fun a => ⟨slots 22 0 [(3, .int .i64 a.2), (7, .arr (x.args.map Tm.d)), (8, .int .i64 x.args.length), (9, .int .i64 a.1)], []⟩) (fun a => ∃ k : Nat, a.1 = k ∧ k ≤ x.args.length ∧ 1 ≤ a.2 ∧ a.2 + Tm.nodeS (x.args.drop k) ≤ x.nodes ∧ Tm.capL (x.args.drop k) a.2 = Tm.capL x.args 1) (fun a => x.args.length - a.1.toNat) (0, 1) ⟨0, rfl, Nat.zero_le _, by dsimp only; omega, by rw [List.drop_zero]; dsimp only; omega, rfl⟩ (by simp (disch := omega) only [go_sem, go_cond, zA, zB, zC, zD, zE, zF, zG, zH, ↓reduceIte, zI, reduceCtorEq, zJ, zK]) ?_
  rintro ⟨i, n⟩ ⟨k, hi, hk, hn0, hn1, hs⟩
  dsimp only at hi hn0 hn1 hs
  have hni : i.toNat = k := by omega
  rcases Nat.lt_or_ge k x.args.length with hlt | hge
  · have hg := get_at Tm.d hlt
    rw [Tm.d_eq] at hg
    have hd : x.args.drop k = x.args[k] :: x.args.drop (k + 1) := List.drop_eq_getElem_cons hlt
    have hc := ih x.args[k] (List.getElem_mem hlt)
    have hp := Tm.cap_spec x.args[k]
    rw [hd, Tm.capL] at hs
    rw [hd, Tm.nodeS] at hn1
    rcases Int.lt_or_le 30 n with h30 | h30
    · rw [if_pos h30] at hs
      simp (disch := omega) only [go_sem, go_cond, zA, zB, zC, zD, zE, zF, zG, zH, ↓reduceIte, zI, reduceCtorEq, zJ, zK, hni, hg, hc, m_impl_size]
      exact hs
    · rw [if_neg (by omega)] at hs
      simp (disch := omega) only [go_sem, go_cond, zA, zB, zC, zD, zE, zF, zG, zH, ↓reduceIte, zI, reduceCtorEq, zJ, zK, hni, hg, hc, m_impl_size]
      refine ⟨(i + 1, n + x.args[k].cap), ⟨k + 1, by dsimp only; omega, hlt, by dsimp only; omega, by dsimp only; omega, hs⟩, by dsimp only; omega, ?_⟩
      simp only [and_self]
  · have hd : x.args.drop k = [] := List.drop_eq_nil_of_le hge
    rw [hd, Tm.capL] at hs
    simp (disch := omega) only [go_sem, go_cond, zA, zB, zC, zD, zE, zF, zG, zH, ↓reduceIte, zI, reduceCtorEq, zJ, zK, hni]
    exact hs
theorem size_E (x : Tm) (hn : x.nodes ≤ 1099511627776) : E 141 [x.sv] [] = some (.int .i64 x.cap, []) :=
  size_of x hn fun y hy => size_E y (by have := Tm.nodes_mem hy; have := Tm.nodes_eq x; omega)
termination_by SizeOf.sizeOf x
decreasing_by exact Tm.lt_of_mem hy
def c_spec_l2Many : SC := (.seq (.reg [⟨some 2, none, .boxv 31 2 (.t 0)⟩, ⟨some 4, none, .mv (.c (.int .i64 0))⟩]) (.seq (.reg [⟨some 5, none, .mv (.c (.int .i64 1))⟩]) (.seq (.seq (.reg [⟨some 6, none, .mv (.c (.int .i64 0))⟩]) (.block 0 (.loop [0, 1, 1, 0, 0, 1, 1, 0, 0, 0, 0, 0, 0, 0, 0, 0, 0, 0, 0, 0, 0, 0, 0, 0, 0, 0, 0, 0, 0, 0, 0] (.seq (.seq (.reg [⟨some 7, none, .mv (.t 6)⟩, ⟨some 8, none, .faddr 1 (.t 2)⟩, ⟨some 9, none, .load false 1 (.t 8)⟩, ⟨some 10, none, .len false (.t 9)⟩, ⟨some 11, none, .bin .lss false (.t 7) (.t 10)⟩, ⟨some 12, none, .mv (.t 11)⟩, ⟨(some 13), (some (12, true)), (.mv (.t 5))⟩, ⟨(some 14), (some (12, true)), (.mv (.t 1))⟩, ⟨(some 15), (some (12, true)), (.bin .leq false (.t 13) (.t 14))⟩, ⟨some 16, none, .pick (.t 12) (.t 15) (.c (.bool false))⟩]) (.cond (.t 16) .skip (.exit 0))) (.seq (.block 1 (.reg [⟨some 19, none, .mv (.t 5)⟩, ⟨some 20, none, .faddr 1 (.t 2)⟩, ⟨some 21, none, .load false 1 (.t 20)⟩, ⟨some 22, none, .mv (.t 6)⟩, ⟨some 23, none, .iaddr 2 (.t 21) (.t 22)⟩, ⟨some 24, none, .load true 2 (.t 23)⟩, ⟨some 25, none, .mv (.t 1)⟩, ⟨some 26, none, .mv (.t 5)⟩, ⟨some 27, none, .bin .sub false (.t 25) (.t 26)⟩, ⟨some 28, none, .call 153 [(.t 24), (.t 27)]⟩, ⟨some 29, none, .bin .add false (.t 19) (.t 28)⟩, ⟨some 5, none, .mv (.t 29)⟩])) (.reg [⟨some 17, none, .mv (.t 6)⟩, ⟨some 18, none, .bin .add false (.t 17) (.c (.int .i64 1))⟩, ⟨some 6, none, .mv (.t 18)⟩])))))) (.seq (.reg [⟨some 30, none, .mv (.t 5)⟩, ⟨some 4, none, .mv (.t 30)⟩]) .ret))))
theorem k_spec_l2Many : codeOf Tryz.prog 153 = some ⟨31, c_spec_l2Many, [(.tmp 4)]⟩ := by kernel_rfl
theorem m_spec_l2Many : modes 153 = ⟨[], .asis, none, false⟩ := by unfold modes; rfl
set_option maxHeartbeats 1000000 in
theorem many_of (x : Tm) (m : Int) (hm : 0 ≤ m) (hm1 : m ≤ 1099511627776) (hn : x.nodes ≤ 1099511627776) (ih : ∀ y ∈ x.args, ∀ m : Int, 0 ≤ m → m ≤ 1099511627776 → E 153 [y.sv, .int .i64 m] [] = some (.int .i64 (y.many m), [])) : E 153 [x.sv, .int .i64 m] [] = some (.int .i64 (x.many m), []) := by
  have hl := Tm.length_le x.args
  have hx := Tm.nodes_eq x
  rw [Tm.many_eq]
  refine E_walk k_spec_l2Many m_spec_l2Many (of_decide_eq_true rfl) ?_
  simp (disch := omega) only [c_spec_l2Many, go_sem, go_cond, zA, zB, zC, zD, zE, zF, zG, zH, ↓reduceIte, zI, reduceCtorEq, zJ, zK]
  refine go_loop (α := Int × Int) (fun a => ⟨slots 31 0 [(1, .int .i64 m), (2, .ptr 0 0), (5, .int .i64 a.2), (6, .int .i64 a.1)], [.box 31 [.str x.name, .arr (x.args.map Tm.d)]]⟩) (fun a => ∃ k : Nat, a.1 = k ∧ k ≤ x.args.length ∧ 1 ≤ a.2 ∧ a.2 + Tm.nodeS (x.args.drop k) ≤ x.nodes ∧ Tm.manyL (x.args.drop k) m a.2 = Tm.manyL x.args m 1) (fun a => x.args.length - a.1.toNat) (0, 1) ⟨0, rfl, Nat.zero_le _, by dsimp only; omega, by rw [List.drop_zero]; dsimp only; omega, rfl⟩ (by simp (disch := omega) only [go_sem, go_cond, zA, zB, zC, zD, zE, zF, zG, zH, ↓reduceIte, zI, reduceCtorEq, zJ, zK]) ?_
  rintro ⟨i, n⟩ ⟨k, hi, hk, hn0, hn1, hs⟩
  dsimp only at hi hn0 hn1 hs
  have hni : i.toNat = k := by omega
  rcases Nat.lt_or_ge k x.args.length with hlt | hge
  · have hg := get_at Tm.d hlt
    rw [Tm.d_eq] at hg
    have hd : x.args.drop k = x.args[k] :: x.args.drop (k + 1) := List.drop_eq_getElem_cons hlt
    rw [hd, Tm.manyL] at hs
    rw [hd, Tm.nodeS] at hn1
    rcases Int.lt_or_le m n with h30 | h30
    · rw [if_neg (by omega)] at hs
      simp (disch := omega) only [go_sem, go_cond, zA, zB, zC, zD, zE, zF, zG, zH, ↓reduceIte, zI, reduceCtorEq, zJ, zK, hni, hg, m_spec_l2Many]
      exact hs
    · rw [if_pos h30] at hs
      have hc := ih x.args[k] (List.getElem_mem hlt) (m - n) (by omega) (by omega)
      have hp := Tm.many_spec x.args[k] (m - n)
      simp (disch := omega) only [go_sem, go_cond, zA, zB, zC, zD, zE, zF, zG, zH, ↓reduceIte, zI, reduceCtorEq, zJ, zK, hni, hg, hc, m_spec_l2Many]
      refine ⟨(i + 1, n + x.args[k].many (m - n)), ⟨k + 1, by dsimp only; omega, hlt, by dsimp only; omega, by dsimp only; omega, hs⟩, by dsimp only; omega, ?_⟩
      simp only [and_self]
  · have hd : x.args.drop k = [] := List.drop_eq_nil_of_le hge
    rw [hd, Tm.manyL] at hs
    simp (disch := omega) only [go_sem, go_cond, zA, zB, zC, zD, zE, zF, zG, zH, ↓reduceIte, zI, reduceCtorEq, zJ, zK, hni]
    exact hs
theorem many_E (x : Tm) (m : Int) (hm : 0 ≤ m) (hm1 : m ≤ 1099511627776) (hn : x.nodes ≤ 1099511627776) : E 153 [x.sv, .int .i64 m] [] = some (.int .i64 (x.many m), []) :=
  many_of x m hm hm1 hn fun y hy m hm hm1 => many_E y m hm hm1 (by have := Tm.nodes_mem hy; have := Tm.nodes_eq x; omega)
termination_by SizeOf.sizeOf x
decreasing_by exact Tm.lt_of_mem hy
def c_impl_depth : SC := (.seq (.reg [⟨some 1, none, .boxv 31 2 (.t 0)⟩, ⟨some 2, none, .mv (.c (.int .i64 0))⟩]) (.seq (.reg [⟨some 3, none, .mv (.c (.int .i64 0))⟩]) (.seq (.seq (.reg [⟨some 6, none, .faddr 1 (.t 1)⟩, ⟨some 7, none, .load false 1 (.t 6)⟩, ⟨some 8, none, .len false (.t 7)⟩, ⟨some 9, none, .mv (.c (.int .i64 0))⟩]) (.block 0 (.loop [0, 0, 0, 1, 0, 0, 0, 1, 1, 1, 0, 0, 0, 0, 0, 0, 0, 0, 0, 0] (.seq (.reg [⟨some 10, none, .bin .lss false (.t 9) (.t 8)⟩]) (.seq (.cond (.t 10) .skip (.exit 0)) (.seq (.block 1 (.seq (.reg [⟨some 11, none, .iaddr 2 (.t 7) (.t 9)⟩, ⟨some 12, none, .load true 2 (.t 11)⟩, ⟨(some 5), none, (.alloc 31 [(.str ⟨#[]⟩), .nil])⟩, ⟨none, none, (.store 2 (.t 5) (.t 12))⟩]) (.reg [⟨some 13, none, .mv (.t 3)⟩, ⟨some 14, none, .load true 2 (.t 5)⟩, ⟨some 15, none, .call 142 [(.t 14)]⟩, ⟨some 16, none, .minmax true (.t 13) (.t 15)⟩, ⟨some 3, none, .mv (.t 16)⟩]))) (.reg [⟨some 17, none, .bin .add false (.t 9) (.c (.int .i64 1))⟩, ⟨some 9, none, .mv (.t 17)⟩]))))))) (.seq (.reg [⟨some 18, none, .mv (.t 3)⟩, ⟨some 19, none, .bin .add false (.t 18) (.c (.int .i64 1))⟩, ⟨some 2, none, .mv (.t 19)⟩]) .ret))))
theorem k_impl_depth : codeOf Tryz.prog 142 = some ⟨20, c_impl_depth, [(.tmp 2)]⟩ := by kernel_rfl
theorem m_impl_depth : modes 142 = ⟨[], .asis, none, false⟩ := by unfold modes; rfl
def c_spec_l1Most : SC := (.seq (.reg [⟨some 4, none, .mv (.c (.int .i64 0))⟩]) (.seq (.seq (.reg [⟨some 5, none, .mv (.t 0)⟩, ⟨some 6, none, .mv (.t 1)⟩, ⟨some 7, none, .bin .gtr false (.t 5) (.t 6)⟩]) (.cond (.t 7) (.seq (.reg [⟨some 8, none, .mv (.t 0)⟩, ⟨some 4, none, .mv (.t 8)⟩]) .ret) .skip)) (.seq (.reg [⟨some 9, none, .mv (.t 1)⟩, ⟨some 4, none, .mv (.t 9)⟩]) .ret)))
theorem k_spec_l1Most : codeOf Tryz.prog 161 = some ⟨10, c_spec_l1Most, [(.tmp 4)]⟩ := by kernel_rfl
theorem m_spec_l1Most : modes 161 = ⟨[], .asis, none, false⟩ := by unfold modes; rfl
def c_spec_l2Depth : SC := (.seq (.reg [⟨some 1, none, .boxv 31 2 (.t 0)⟩, ⟨some 2, none, .mv (.c (.int .i64 0))⟩]) (.seq (.reg [⟨some 3, none, .mv (.c (.int .i64 0))⟩]) (.seq (.seq (.reg [⟨some 4, none, .mv (.c (.int .i64 0))⟩]) (.block 0 (.loop [0, 1, 0, 1, 1, 0, 0, 0, 0, 0, 0, 0, 0, 0, 0, 0, 0, 0, 0, 0, 0, 0] (.seq (.seq (.reg [⟨some 5, none, .mv (.t 4)⟩, ⟨some 6, none, .faddr 1 (.t 1)⟩, ⟨some 7, none, .load false 1 (.t 6)⟩, ⟨some 8, none, .len false (.t 7)⟩, ⟨some 9, none, .bin .lss false (.t 5) (.t 8)⟩]) (.cond (.t 9) .skip (.exit 0))) (.seq (.block 1 (.reg [⟨some 12, none, .mv (.t 3)⟩, ⟨some 13, none, .faddr 1 (.t 1)⟩, ⟨some 14, none, .load false 1 (.t 13)⟩, ⟨some 15, none, .mv (.t 4)⟩, ⟨some 16, none, .iaddr 2 (.t 14) (.t 15)⟩, ⟨some 17, none, .load true 2 (.t 16)⟩, ⟨some 18, none, .call 154 [(.t 17)]⟩, ⟨some 19, none, .call 161 [(.t 12), (.t 18)]⟩, ⟨some 3, none, .mv (.t 19)⟩])) (.reg [⟨some 10, none, .mv (.t 4)⟩, ⟨some 11, none, .bin .add false (.t 10) (.c (.int .i64 1))⟩, ⟨some 4, none, .mv (.t 11)⟩])))))) (.seq (.reg [⟨some 20, none, .mv (.t 3)⟩, ⟨some 21, none, .bin .add false (.t 20) (.c (.int .i64 1))⟩, ⟨some 2, none, .mv (.t 21)⟩]) .ret))))
theorem k_spec_l2Depth : codeOf Tryz.prog 154 = some ⟨22, c_spec_l2Depth, [(.tmp 2)]⟩ := by kernel_rfl
theorem m_spec_l2Depth : modes 154 = ⟨[], .asis, none, false⟩ := by unfold modes; rfl
theorem l1Most_E (a b : Int) : E 161 [.int .i64 a, .int .i64 b] [] = some (.int .i64 (max a b), []) := by
  refine E_walk k_spec_l1Most m_spec_l1Most (of_decide_eq_true rfl) ?_
  simp (disch := omega) only [c_spec_l1Most, go_sem, go_cond, zA, zB, zC, zD, zE, zF, zG, zH, ↓reduceIte, zI, reduceCtorEq, zJ, zK]
  repeat' (refine boolP_split (fun hq => ?_) (fun hq => ?_) <;> (first | replace hq := dec_iff.1 hq | replace hq := dec_not.1 hq) <;> (try simp (disch := omega) only [go_sem, go_cond, zA, zB, zC, zD, zE, zF, zG, zH, ↓reduceIte, zI, reduceCtorEq, zJ, zK]))
  all_goals omega
set_option maxHeartbeats 1000000 in
theorem depth_of (x : Tm) (hn : x.nodes ≤ 1099511627776) (ih : ∀ y ∈ x.args, E 142 [y.sv] [] = some (.int .i64 y.deep, [])) : E 142 [x.sv] [] = some (.int .i64 x.deep, []) := by
  have hl := Tm.length_le x.args
  have hx := Tm.nodes_eq x
  have hd1 := Tm.deep_eq x
  have hd2 := Tm.deep_le_nodes x
  refine E_walk k_impl_depth m_impl_depth (of_decide_eq_true rfl) ?_
  simp (disch := omega) only [c_impl_depth, go_sem, go_cond, zA, zB, zC, zD, zE, zF, zG, zH, ↓reduceIte, zI, reduceCtorEq, zJ, zK]
  refine go_loop (α := Int × (Int)) (fun a => ⟨slots 20 0 [(3, .int .i64 (a.2)), (7, .arr (x.args.map Tm.d)), (8, .int .i64 x.args.length), (9, .int .i64 (a.1))], []⟩) (fun a => ∃ k : Nat, a.1 = k ∧ k ≤ (x.args).length ∧ 0 ≤ (a.2) ∧ max (a.2) (Tm.deepS (x.args.drop k) : Nat) = (Tm.deepS x.args : Nat)) (fun a => (x.args).length - (a.1).toNat) (0, 0) ⟨0, rfl, Nat.zero_le _, by dsimp only; omega, by rw [List.drop_zero]; dsimp only; omega⟩ (by simp (disch := omega) only [go_sem, go_cond, zA, zB, zC, zD, zE, zF, zG, zH, ↓reduceIte, zI, reduceCtorEq, zJ, zK]) ?_
  rintro ⟨i, n⟩ ⟨k, hi, hk, hR⟩
  dsimp only at hi hR
  have hni : i.toNat = k := by omega
  have hni1 : (i + 1).toNat = k + 1 := by omega
  rcases Nat.lt_or_ge k (x.args).length with hlt | hge
  · have hg := get_at Tm.d hlt
    rw [Tm.d_eq] at hg
    have hc := ih x.args[k] (List.getElem_mem hlt)
    rw [List.drop_eq_getElem_cons hlt, Tm.deepS] at hR
    simp (disch := omega) only [go_sem, go_cond, zA, zB, zC, zD, zE, zF, zG, zH, ↓reduceIte, zI, reduceCtorEq, zJ, zK, hni, hg, hc, m_impl_depth, max_bif]
    refine ⟨(i + 1, max n (x.args[k].deep : Int)), ⟨k + 1, by dsimp only; omega, hlt, by dsimp only; omega⟩, by dsimp only; omega, ?_⟩
    simp only [and_self]
  · rw [List.drop_eq_nil_of_le hge, Tm.deepS] at hR
    simp (disch := omega) only [go_sem, go_cond, zA, zB, zC, zD, zE, zF, zG, zH, ↓reduceIte, zI, reduceCtorEq, zJ, zK, hni]
    omega
theorem depth_E (x : Tm) (hn : x.nodes ≤ 1099511627776) : E 142 [x.sv] [] = some (.int .i64 x.deep, []) :=
  depth_of x hn fun y hy => depth_E y (by have := Tm.nodes_mem hy; have := Tm.nodes_eq x; omega)
termination_by SizeOf.sizeOf x
decreasing_by exact Tm.lt_of_mem hy
set_option maxHeartbeats 1000000 in
theorem l2Depth_of (x : Tm) (hn : x.nodes ≤ 1099511627776) (ih : ∀ y ∈ x.args, E 154 [y.sv] [] = some (.int .i64 y.deep, [])) : E 154 [x.sv] [] = some (.int .i64 x.deep, []) := by
  have hl := Tm.length_le x.args
  have hx := Tm.nodes_eq x
  have hd1 := Tm.deep_eq x
  have hd2 := Tm.deep_le_nodes x
  refine E_walk k_spec_l2Depth m_spec_l2Depth (of_decide_eq_true rfl) ?_
  simp (disch := omega) only [c_spec_l2Depth, go_sem, go_cond, zA, zB, zC, zD, zE, zF, zG, zH, ↓reduceIte, zI, reduceCtorEq, zJ, zK]
  refine go_loop (α := Int × (Int)) (fun a => ⟨slots 22 0 [(1, .ptr 0 0), (3, .int .i64 (a.2)), (4, .int .i64 (a.1))], [.box 31 [.str x.name, .arr (x.args.map Tm.d)]]⟩) (fun a => ∃ k : Nat, a.1 = k ∧ k ≤ (x.args).length ∧ 0 ≤ (a.2) ∧ max (a.2) (Tm.deepS (x.args.drop k) : Nat) = (Tm.deepS x.args : Nat)) (fun a => (x.args).length - (a.1).toNat) (0, 0) ⟨0, rfl, Nat.zero_le _, by dsimp only; omega, by rw [List.drop_zero]; dsimp only; omega⟩ (by simp (disch := omega) only [go_sem, go_cond, zA, zB, zC, zD, zE, zF, zG, zH, ↓reduceIte, zI, reduceCtorEq, zJ, zK]) ?_
  rintro ⟨i, n⟩ ⟨k, hi, hk, hR⟩
  dsimp only at hi hR
  have hni : i.toNat = k := by omega
  have hni1 : (i + 1).toNat = k + 1 := by omega
  rcases Nat.lt_or_ge k (x.args).length with hlt | hge
  · have hg := get_at Tm.d hlt
    rw [Tm.d_eq] at hg
    have hc := ih x.args[k] (List.getElem_mem hlt)
    rw [List.drop_eq_getElem_cons hlt, Tm.deepS] at hR
    simp (disch := omega) only [go_sem, go_cond, zA, zB, zC, zD, zE, zF, zG, zH, ↓reduceIte, zI, reduceCtorEq, zJ, zK, hni, hg, hc, m_spec_l2Depth, l1Most_E, m_spec_l1Most]
    refine ⟨(i + 1, max n (x.args[k].deep : Int)), ⟨k + 1, by dsimp only; omega, hlt, by dsimp only; omega⟩, by dsimp only; omega, ?_⟩
    simp only [and_self]
  · rw [List.drop_eq_nil_of_le hge, Tm.deepS] at hR
    simp (disch := omega) only [go_sem, go_cond, zA, zB, zC, zD, zE, zF, zG, zH, ↓reduceIte, zI, reduceCtorEq, zJ, zK, hni]
    omega
theorem l2Depth_E (x : Tm) (hn : x.nodes ≤ 1099511627776) : E 154 [x.sv] [] = some (.int .i64 x.deep, []) :=
  l2Depth_of x hn fun y hy => l2Depth_E y (by have := Tm.nodes_mem hy; have := Tm.nodes_eq x; omega)
termination_by SizeOf.sizeOf x
decreasing_by exact Tm.lt_of_mem hy
def c_slices_IndexFunc_impl_Term_impl_Term : SC := (.seq (.reg [⟨some 4, none, .mv (.c (.int .i64 0))⟩]) (.seq (.seq (.reg [⟨some 6, none, .mv (.t 0)⟩, ⟨some 7, none, .len false (.t 6)⟩, ⟨some 8, none, .mv (.c (.int .i64 0))⟩]) (.block 0 (.loop [1, 1, 0, 0, 0, 0, 0, 1, 1, 0, 0, 0, 0, 0, 0, 0, 0, 0, 0] (.seq (.reg [⟨some 9, none, .bin .lss false (.t 8) (.t 7)⟩]) (.seq (.cond (.t 9) .skip (.exit 0)) (.seq (.block 1 (.seq (.reg [⟨some 10, none, .mv (.t 8)⟩, ⟨some 5, none, .mv (.t 10)⟩]) (.seq (.reg [⟨some 11, none, .mv (.t 1)⟩, ⟨some 12, none, .mv (.t 0)⟩, ⟨some 13, none, .mv (.t 5)⟩, ⟨some 14, none, .iaddr 2 (.t 12) (.t 13)⟩, ⟨some 15, none, .load true 2 (.t 14)⟩, ⟨some 16, none, .callv (.t 11) [(.t 15)]⟩]) (.cond (.t 16) (.seq (.reg [⟨some 17, none, .mv (.t 5)⟩, ⟨some 4, none, .mv (.t 17)⟩]) .ret) .skip)))) (.reg [⟨some 18, none, .bin .add false (.t 8) (.c (.int .i64 1))⟩, ⟨some 8, none, .mv (.t 18)⟩]))))))) (.seq (.reg [⟨some 4, none, .mv (.c (.int .i64 (-(0 + 1))))⟩]) .ret)))
theorem k_slices_IndexFunc_impl_Term_impl_Term : codeOf Tryz.prog 155 = some ⟨19, c_slices_IndexFunc_impl_Term_impl_Term, [(.tmp 4)]⟩ := by kernel_rfl
theorem m_slices_IndexFunc_impl_Term_impl_Term : modes 155 = ⟨[], .asis, none, false⟩ := by unfold modes; rfl
def c_slices_ContainsFunc_impl_Term_impl_Term : SC := (.seq (.reg [⟨some 4, none, .mv (.c (.bool false))⟩]) (.seq (.reg [⟨some 5, none, .mv (.t 0)⟩, ⟨some 6, none, .mv (.t 1)⟩, ⟨some 7, none, .call 155 [(.t 5), (.t 6)]⟩, ⟨some 8, none, .bin .geq false (.t 7) (.c (.int .i64 0))⟩, ⟨some 4, none, .mv (.t 8)⟩]) .ret))
theorem k_slices_ContainsFunc_impl_Term_impl_Term : codeOf Tryz.prog 143 = some ⟨9, c_slices_ContainsFunc_impl_Term_impl_Term, [(.tmp 4)]⟩ := by kernel_rfl
theorem m_slices_ContainsFunc_impl_Term_impl_Term : modes 143 = ⟨[], .asis, none, false⟩ := by unfold modes; rfl
theorem indexFunc_terms (fid : Nat) (p : Tm → Bool) (xs : List Tm) (hl : xs.length ≤ 1099511627776) (hg : goFn Tryz.prog fid = true) (hm : (modes fid).hand = []) (hE : ∀ x ∈ xs, E fid [x.sv] [] = some (.bool (p x), [])) : E 155 [.arr (xs.map Tm.d), .fn fid []] [] = some (.int .i64 (idxP p xs 0), []) := by
  refine E_walk k_slices_IndexFunc_impl_Term_impl_Term m_slices_IndexFunc_impl_Term_impl_Term (of_decide_eq_true rfl) ?_
  simp (disch := omega) only [c_slices_IndexFunc_impl_Term_impl_Term, go_sem, go_cond, zA, zB, zC, zD, zE, zF, zG, zH, ↓reduceIte, zI, reduceCtorEq, zJ, zK]
  refine go_loop (α := Int) (fun a => ⟨slots 19 0 [(0, .arr (xs.map Tm.d)), (1, .fn fid []), (7, .int .i64 xs.length), (8, .int .i64 a)], []⟩) (fun a => ∃ k : Nat, a = k ∧ k ≤ (xs).length ∧ idxP p (xs.drop k) a = idxP p xs 0) (fun a => (xs).length - (a).toNat) 0 ⟨0, rfl, Nat.zero_le _, by rw [List.drop_zero]⟩ (by simp (disch := omega) only [go_sem, go_cond, zA, zB, zC, zD, zE, zF, zG, zH, ↓reduceIte, zI, reduceCtorEq, zJ, zK]) ?_
  rintro i ⟨k, hi, hk, hR⟩
  have hni : i.toNat = k := by omega
  have hni1 : (i + 1).toNat = k + 1 := by omega
  rcases Nat.lt_or_ge k (xs).length with hlt | hge
  · have hg' := get_at Tm.d hlt
    rw [Tm.d_eq] at hg'
    have hc := hE xs[k] (List.getElem_mem hlt)
    rw [List.drop_eq_getElem_cons hlt, idxP] at hR
    cases hp : p xs[k] with
    | true =>
      rw [hp] at hc hR
      simp (disch := omega) only [go_sem, go_cond, zA, zB, zC, zD, zE, zF, zG, zH, ↓reduceIte, zI, reduceCtorEq, zJ, zK, hni, hg', hc, hg, hm]
      simpa using hR
    | false =>
      rw [hp] at hc hR
      simp (disch := omega) only [go_sem, go_cond, zA, zB, zC, zD, zE, zF, zG, zH, ↓reduceIte, zI, reduceCtorEq, zJ, zK, hni, hg', hc, hg, hm]
      exact ⟨i + 1, ⟨k + 1, by omega, hlt, by simpa using hR⟩, by omega, by first | trivial | rfl⟩
  · rw [List.drop_eq_nil_of_le hge, idxP] at hR
    simp (disch := omega) only [go_sem, go_cond, zA, zB, zC, zD, zE, zF, zG, zH, ↓reduceIte, zI, reduceCtorEq, zJ, zK, hni]
    exact hR
theorem containsFunc_terms (fid : Nat) (p : Tm → Bool) (xs : List Tm) (hl : xs.length ≤ 1099511627776) (hg : goFn Tryz.prog fid = true) (hm : (modes fid).hand = []) (hE : ∀ x ∈ xs, E fid [x.sv] [] = some (.bool (p x), [])) : E 143 [.arr (xs.map Tm.d), .fn fid []] [] = some (.bool (xs.any p), []) := by
  have h := indexFunc_terms fid p xs hl hg hm hE
  refine E_walk k_slices_ContainsFunc_impl_Term_impl_Term m_slices_ContainsFunc_impl_Term_impl_Term (of_decide_eq_true rfl) ?_
  simp (disch := omega) only [c_slices_ContainsFunc_impl_Term_impl_Term, go_sem, go_cond, zA, zB, zC, zD, zE, zF, zG, zH, ↓reduceIte, zI, reduceCtorEq, zJ, zK, h, m_slices_IndexFunc_impl_Term_impl_Term]
  rw [idxP_any]
def c_impl_hasNames : SC := (.seq (.reg [⟨some 1, none, .boxv 31 2 (.t 0)⟩, ⟨some 2, none, .mv (.c (.bool false))⟩]) (.seq (.seq (.reg [⟨some 3, none, .faddr 0 (.t 1)⟩, ⟨some 4, none, .load false 1 (.t 3)⟩, ⟨some 5, none, .call 82 [(.t 4)]⟩]) (.cond (.t 5) (.seq (.reg [⟨some 6, none, .faddr 1 (.t 1)⟩, ⟨some 7, none, .load false 1 (.t 6)⟩, ⟨some 8, none, .len false (.t 7)⟩, ⟨some 9, none, .bin .eql false (.t 8) (.c (.int .i64 0))⟩, ⟨some 2, none, .mv (.t 9)⟩]) .ret) .skip)) (.seq (.reg [⟨some 10, none, .faddr 0 (.t 1)⟩, ⟨some 11, none, .load false 1 (.t 10)⟩, ⟨some 12, none, .call 95 [(.t 11)]⟩, ⟨some 13, none, .mv (.t 12)⟩, ⟨(some 14), (some (13, true)), (.faddr 1 (.t 1))⟩, ⟨(some 15), (some (13, true)), (.load false 1 (.t 14))⟩, ⟨(some 16), (some (13, true)), (.len false (.t 15))⟩, ⟨(some 17), (some (13, true)), (.bin .leq false (.t 16) (.c (.int .i64 4)))⟩, ⟨some 18, none, .pick (.t 13) (.t 17) (.c (.bool false))⟩, ⟨some 19, none, .mv (.t 18)⟩, ⟨(some 20), (some (19, true)), (.faddr 1 (.t 1))⟩, ⟨(some 21), (some (19, true)), (.load false 1 (.t 20))⟩, ⟨(some 22), (some (19, true)), (.call 143 [(.t 21), (.c (.fn 144 []))])⟩, ⟨(some 23), (some (19, true)), (.un .not (.t 22))⟩, ⟨some 24, none, .pick (.t 19) (.t 23) (.c (.bool false))⟩, ⟨some 2, none, .mv (.t 24)⟩]) .ret)))
theorem k_impl_hasNames : codeOf Tryz.prog 114 = some ⟨25, c_impl_hasNames, [(.tmp 2)]⟩ := by kernel_rfl
theorem m_impl_hasNames : modes 114 = ⟨[], .asis, none, false⟩ := by unfold modes; rfl
def c_impl_hasNames_1 : SC := (.seq (.reg [⟨some 1, none, .boxv 31 2 (.t 0)⟩, ⟨some 2, none, .mv (.c (.bool false))⟩]) (.seq (.reg [⟨some 3, none, .load true 2 (.t 1)⟩, ⟨some 4, none, .call 114 [(.t 3)]⟩, ⟨some 5, none, .un .not (.t 4)⟩, ⟨some 2, none, .mv (.t 5)⟩]) .ret))
theorem k_impl_hasNames_1 : codeOf Tryz.prog 144 = some ⟨6, c_impl_hasNames_1, [(.tmp 2)]⟩ := by kernel_rfl
theorem m_impl_hasNames_1 : modes 144 = ⟨[], .asis, none, false⟩ := by unfold modes; rfl
theorem g_impl_hasNames_1 : goFn Tryz.prog 144 = true := by kernel_rfl
theorem Tm.any_not (xs : List Tm) : (!xs.any fun y => !y.names) = Tm.nameS xs := by
  rw [Tm.nameS_all]
  induction xs with
  | nil => rfl
  | cons x xs ih => simp only [List.any_cons, List.all_cons, Bool.not_or, Bool.not_not, ih]
set_option maxHeartbeats 1000000 in
theorem hasNames_of (x : Tm) (hn : x.nodes ≤ 1099511627776) (ih : ∀ y ∈ x.args, E 114 [y.sv] [] = some (.bool y.names, [])) : E 114 [x.sv] [] = some (.bool x.names, []) := by
  have hl := Tm.length_le x.args
  have hx := Tm.nodes_eq x
  have h1 : ∀ y ∈ x.args, E 144 [y.sv] [] = some (.bool (!y.names), []) := fun y hy => by
    have h := ih y hy
    refine E_walk k_impl_hasNames_1 m_impl_hasNames_1 (of_decide_eq_true rfl) ?_
    simp (disch := omega) only [c_impl_hasNames_1, go_sem, go_cond, zA, zB, zC, zD, zE, zF, zG, zH, ↓reduceIte, zI, reduceCtorEq, zJ, zK, h, m_impl_hasNames]
  have h2 := containsFunc_terms 144 (fun y => !y.names) x.args (by omega) g_impl_hasNames_1 (by rw [m_impl_hasNames_1]) h1
  rw [Tm.names_eq, ← Tm.any_not]
  cases hv : varB x.name with
  | true =>
    have h3 := isVariable_E x.name
    rw [hv] at h3
    refine E_walk k_impl_hasNames m_impl_hasNames (of_decide_eq_true rfl) ?_
    simp (disch := omega) only [c_impl_hasNames, go_sem, go_cond, zA, zB, zC, zD, zE, zF, zG, zH, ↓reduceIte, zI, reduceCtorEq, zJ, zK, h3, m_impl_isVariable]
    rw [dec_of]; cases x.args <;> simp <;> omega
  | false =>
    have h3 := isVariable_E x.name
    rw [hv] at h3
    have h4 := isSymbol_E x.name
    cases hs : symB x.name with
    | false =>
      rw [hs] at h4
      refine E_walk k_impl_hasNames m_impl_hasNames (of_decide_eq_true rfl) ?_
      simp (disch := omega) only [c_impl_hasNames, go_sem, go_cond, zA, zB, zC, zD, zE, zF, zG, zH, ↓reduceIte, zI, reduceCtorEq, zJ, zK, h2, h3, h4, m_impl_isVariable, m_impl_isSymbol]
    | true =>
      rw [hs] at h4
      rcases Nat.lt_or_ge 4 x.args.length with h5 | h5
      · refine E_walk k_impl_hasNames m_impl_hasNames (of_decide_eq_true rfl) ?_
        simp (disch := omega) only [c_impl_hasNames, go_sem, go_cond, zA, zB, zC, zD, zE, zF, zG, zH, ↓reduceIte, zI, reduceCtorEq, zJ, zK, h2, h3, h4, m_impl_isVariable, m_impl_isSymbol]
        simp; omega
      · refine E_walk k_impl_hasNames m_impl_hasNames (of_decide_eq_true rfl) ?_
        simp (disch := omega) only [c_impl_hasNames, go_sem, go_cond, zA, zB, zC, zD, zE, zF, zG, zH, ↓reduceIte, zI, reduceCtorEq, zJ, zK, h2, h3, h4, m_impl_isVariable, m_impl_isSymbol, m_slices_ContainsFunc_impl_Term_impl_Term]
        simp [h5]
theorem hasNames_E (x : Tm) (hn : x.nodes ≤ 1099511627776) : E 114 [x.sv] [] = some (.bool x.names, []) :=
  hasNames_of x hn fun y hy => hasNames_E y (by have := Tm.nodes_mem hy; have := Tm.nodes_eq x; omega)
termination_by SizeOf.sizeOf x
decreasing_by exact Tm.lt_of_mem hy
def c_spec_l2Nodes : SC := (.seq (.reg [⟨some 1, none, .boxv 31 2 (.t 0)⟩, ⟨some 2, none, .mv (.c (.bool false))⟩]) (.seq (.seq (.reg [⟨some 4, none, .faddr 0 (.t 1)⟩, ⟨some 5, none, .load false 1 (.t 4)⟩, ⟨some 6, none, .call 103 [(.t 5)]⟩]) (.cond (.t 6) (.seq (.reg [⟨some 7, none, .faddr 1 (.t 1)⟩, ⟨some 8, none, .load false 1 (.t 7)⟩, ⟨some 9, none, .len false (.t 8)⟩, ⟨some 10, none, .bin .eql false (.t 9) (.c (.int .i64 0))⟩, ⟨some 2, none, .mv (.t 10)⟩]) .ret) .skip)) (.seq (.seq (.reg [⟨some 11, none, .faddr 0 (.t 1)⟩, ⟨some 12, none, .load false 1 (.t 11)⟩, ⟨some 13, none, .call 136 [(.t 12)]⟩, ⟨some 14, none, .un .not (.t 13)⟩, ⟨some 15, none, .mv (.t 14)⟩, ⟨(some 16), (some (15, false)), (.faddr 1 (.t 1))⟩, ⟨(some 17), (some (15, false)), (.load false 1 (.t 16))⟩, ⟨(some 18), (some (15, false)), (.len false (.t 17))⟩, ⟨(some 19), (some (15, false)), (.bin .gtr false (.t 18) (.c (.int .i64 4)))⟩, ⟨some 20, none, .pick (.t 15) (.c (.bool true)) (.t 19)⟩]) (.cond (.t 20) (.seq (.reg [⟨some 2, none, .mv (.c (.bool false))⟩]) .ret) .skip)) (.seq (.seq (.reg [⟨some 3, none, .mv (.c (.int .i64 0))⟩]) (.block 0 (.loop [0, 1, 0, 1, 0, 0, 0, 0, 0, 0, 0, 0, 0, 0, 0, 0, 0, 0, 0, 0, 0, 0, 0, 0, 0, 0, 0, 0, 0, 0, 0, 0, 0, 0, 0] (.seq (.seq (.reg [⟨some 21, none, .mv (.t 3)⟩, ⟨some 22, none, .faddr 1 (.t 1)⟩, ⟨some 23, none, .load false 1 (.t 22)⟩, ⟨some 24, none, .len false (.t 23)⟩, ⟨some 25, none, .bin .lss false (.t 21) (.t 24)⟩]) (.cond (.t 25) .skip (.exit 0))) (.seq (.block 1 (.seq (.reg [⟨some 28, none, .faddr 1 (.t 1)⟩, ⟨some 29, none, .load false 1 (.t 28)⟩, ⟨some 30, none, .mv (.t 3)⟩, ⟨some 31, none, .iaddr 2 (.t 29) (.t 30)⟩, ⟨some 32, none, .load true 2 (.t 31)⟩, ⟨some 33, none, .call 135 [(.t 32)]⟩, ⟨some 34, none, .un .not (.t 33)⟩]) (.cond (.t 34) (.seq (.reg [⟨some 2, none, .mv (.c (.bool false))⟩]) .ret) .skip))) (.reg [⟨some 26, none, .mv (.t 3)⟩, ⟨some 27, none, .bin .add false (.t 26) (.c (.int .i64 1))⟩, ⟨some 3, none, .mv (.t 27)⟩])))))) (.seq (.reg [⟨some 2, none, .mv (.c (.bool true))⟩]) .ret)))))
theorem k_spec_l2Nodes : codeOf Tryz.prog 135 = some ⟨35, c_spec_l2Nodes, [(.tmp 2)]⟩ := by kernel_rfl
theorem m_spec_l2Nodes : modes 135 = ⟨[], .asis, none, false⟩ := by unfold modes; rfl
set_option maxHeartbeats 1000000 in
theorem l2Nodes_of (x : Tm) (hn : x.nodes ≤ 1099511627776) (ih : ∀ y ∈ x.args, E 135 [y.sv] [] = some (.bool y.names, [])) : E 135 [x.sv] [] = some (.bool x.names, []) := by
  have hl := Tm.length_le x.args
  have hx := Tm.nodes_eq x
  have h3 := l2Var_E x.name
  have h4 := l2Symbol_E x.name
  rw [Tm.names_eq]
  cases hv : varB x.name with
  | true =>
    rw [hv] at h3
    refine E_walk k_spec_l2Nodes m_spec_l2Nodes (of_decide_eq_true rfl) ?_
    simp (disch := omega) only [c_spec_l2Nodes, go_sem, go_cond, zA, zB, zC, zD, zE, zF, zG, zH, ↓reduceIte, zI, reduceCtorEq, zJ, zK, h3, m_spec_l2Var]
    rw [dec_of]; cases x.args <;> simp <;> omega
  | false =>
    rw [hv] at h3
    cases hs : symB x.name with
    | false =>
      rw [hs] at h4
      refine E_walk k_spec_l2Nodes m_spec_l2Nodes (of_decide_eq_true rfl) ?_
      simp (disch := omega) only [c_spec_l2Nodes, go_sem, go_cond, zA, zB, zC, zD, zE, zF, zG, zH, ↓reduceIte, zI, reduceCtorEq, zJ, zK, h3, h4, m_spec_l2Var, m_spec_l2Symbol]
    | true =>
      rw [hs] at h4
      rcases Nat.lt_or_ge 4 x.args.length with h5 | h5
      · refine E_walk k_spec_l2Nodes m_spec_l2Nodes (of_decide_eq_true rfl) ?_
        simp (disch := omega) only [c_spec_l2Nodes, go_sem, go_cond, zA, zB, zC, zD, zE, zF, zG, zH, ↓reduceIte, zI, reduceCtorEq, zJ, zK, h3, h4, m_spec_l2Var, m_spec_l2Symbol]
        simp; omega
      · refine E_walk k_spec_l2Nodes m_spec_l2Nodes (of_decide_eq_true rfl) ?_
        simp (disch := omega) only [c_spec_l2Nodes, go_sem, go_cond, zA, zB, zC, zD, zE, zF, zG, zH, ↓reduceIte, zI, reduceCtorEq, zJ, zK, h3, h4, m_spec_l2Var, m_spec_l2Symbol]
        refine go_loop (α := Int) (fun a => ⟨slots 35 0 [(1, .ptr 0 0), (3, .int .i64 a)], [.box 31 [.str x.name, .arr (x.args.map Tm.d)]]⟩) (fun a => ∃ k : Nat, a = k ∧ k ≤ (x.args).length ∧ Tm.nameS (x.args.drop k) = Tm.nameS x.args) (fun a => (x.args).length - (a).toNat) 0 ⟨0, rfl, Nat.zero_le _, by rw [List.drop_zero]⟩ (by simp (disch := omega) only [go_sem, go_cond, zA, zB, zC, zD, zE, zF, zG, zH, ↓reduceIte, zI, reduceCtorEq, zJ, zK]) ?_
        rintro i ⟨k, hi, hk, hR⟩
        have hni : i.toNat = k := by omega
        have hni1 : (i + 1).toNat = k + 1 := by omega
        rcases Nat.lt_or_ge k (x.args).length with hlt | hge
        · have hg := get_at Tm.d hlt
          rw [Tm.d_eq] at hg
          have hc := ih x.args[k] (List.getElem_mem hlt)
          rw [List.drop_eq_getElem_cons hlt, Tm.nameS] at hR
          cases hp : x.args[k].names with
          | true =>
            rw [hp] at hc hR
            simp (disch := omega) only [go_sem, go_cond, zA, zB, zC, zD, zE, zF, zG, zH, ↓reduceIte, zI, reduceCtorEq, zJ, zK, hni, hg, hc, m_spec_l2Nodes]
            exact ⟨i + 1, ⟨k + 1, by omega, hlt, by simpa using hR⟩, by omega, by first | trivial | rfl⟩
          | false =>
            rw [hp] at hc hR
            simp (disch := omega) only [go_sem, go_cond, zA, zB, zC, zD, zE, zF, zG, zH, ↓reduceIte, zI, reduceCtorEq, zJ, zK, hni, hg, hc, m_spec_l2Nodes]
            simp at hR ⊢; exact fun _ => hR
        · rw [List.drop_eq_nil_of_le hge, Tm.nameS] at hR
          simp (disch := omega) only [go_sem, go_cond, zA, zB, zC, zD, zE, zF, zG, zH, ↓reduceIte, zI, reduceCtorEq, zJ, zK, hni]
          simp [h5, ← hR]
theorem l2Nodes_E (x : Tm) (hn : x.nodes ≤ 1099511627776) : E 135 [x.sv] [] = some (.bool x.names, []) :=
  l2Nodes_of x hn fun y hy => l2Nodes_E y (by have := Tm.nodes_mem hy; have := Tm.nodes_eq x; omega)
termination_by SizeOf.sizeOf x
decreasing_by exact Tm.lt_of_mem hy
end Go.Proofs.YtihclcmgbkkhfaaGreatDoor
