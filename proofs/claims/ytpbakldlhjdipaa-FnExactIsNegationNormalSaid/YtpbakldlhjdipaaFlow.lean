/-
  This text proves one rule for regions that draw their order: operations that only read (exact value), calls with an exact result, and operations whose result is only described by a stable fact may come in any order that the edges allow; a forced tail is walked in order behind them. No condition beside those the rule names.
-/
import Derived.Test.YtpbakldlhjdipaaRows
import Derived.WalkKit
import Derived.Lib.QuietBelow
import Derived.StillTail
set_option linter.unusedSimpArgs false
set_option linter.unusedVariables false
namespace Go.Flow
open Go.RowKit Go.Sort

/-- How an operation of the region is spoken of: it only reads and yields one value (computed by the walk); it is a call with the very result u; it yields some value of which a stable fact holds. -/
inductive Kind where
  | quiet
  | fixed (u : Value)
  | told (F : Value → World → Prop)

def kindOf : List (Nat × Kind) → Nat → Kind
  | [], _ => .quiet
  | (k, x) :: r, i => if k = i then x else kindOf r i

def needsOf : List (Nat × List Nat) → Nat → List Nat
  | [], _ => []
  | (k, x) :: r, i => if k = i then x else needsOf r i

def factOf (ks : List (Nat × Kind)) (r : Nat) (v : Value) (w : World) : Prop :=
  match kindOf ks r with
  | .told F => F v w
  | _ => True

def upd (G : Nat → Option Value) (i : Nat) (v : Value) : Nat → Option Value := fun j => if j = i then some v else G j

theorem upd_comm (G : Nat → Option Value) {i j : Nat} (h : i ≠ j) (v u : Value) : upd (upd G i v) j u = upd (upd G j u) i v := by
  funext k
  unfold upd
  by_cases h1 : k = j
  · subst h1
    rw [if_pos rfl, if_neg (fun e => h e.symm), if_pos rfl]
  · rw [if_neg h1]
    by_cases h2 : k = i
    · subst h2; rw [if_pos rfl, if_pos rfl]
    · rw [if_neg h2, if_neg h2, if_neg h1]

def Facts (ks : List (Nat × Kind)) (ns : List Nat) (G : Nat → Option Value) (w : World) : Prop := ∀ r, r ∈ ns → ∀ v, G r = some v → factOf ks r v w

theorem Facts.upd {ks : List (Nat × Kind)} {ns : List Nat} {G : Nat → Option Value} {w : World} {i : Nat} (v : Value) (hi : i ∉ ns) : Facts ks ns (upd G i v) w ↔ Facts ks ns G w := by
  unfold Facts
  constructor
  · intro h r hr u hu
    exact h r hr u (by unfold Flow.upd; rw [if_neg (fun (e : r = i) => hi (e ▸ hr))]; exact hu)
  · intro h r hr u hu
    unfold Flow.upd at hu
    rw [if_neg (fun (e : r = i) => hi (e ▸ hr))] at hu
    exact h r hr u hu

/-- What is asked of an operation that is a call, or makes memory: it leaves what was there alone, and its result has the fact. -/
def relUpon (P : Program) (w : World) (F : Value → World → Prop) : Result Next → Prop
  | .ok (.value v) w' => Below w.heap.size w w' ∧ F v w'
  | .ok (.enter f args) w' => w' = w ∧ Calls P f args w (fun e w'' => ∃ v, e = .returned v ∧ Below w.heap.size w w'' ∧ F v w'')
  | _ => False

def relAt (P : Program) (o : Oper) (a : Act) (F : Value → World → Prop) (w : World) : Prop := relUpon P w F ((execOp a.eval o).run P w)

section
variable {P : Program} {ops : Array Oper} {md : Region.Mode} {C : World → Prop} {ks : List (Nat × Kind)} {nd : List (Nat × List Nat)}

def fStep (P : Program) (ops : Array Oper) (C : World → Prop) (ks : List (Nat × Kind)) (nd : List (Nat × List Nat)) (i : Nat) (o : Oper) (K : (Nat → Option Value) → Act → Prop) (G : Nat → Option Value) (a : Act) : Prop :=
  if Region.wanted o (yielded ops a.tmps) then
    match kindOf ks i with
    | .quiet => ∃ u, (∀ w, C w → (execOp a.eval o).run P w = .ok (.value u) w) ∧ K G (a.put o.dst u)
    | .fixed u => (∀ w, C w → relAt P o a (fun v _ => v = u) w) ∧ K G (a.put o.dst u)
    | .told F => (∀ w, C w → Facts ks (needsOf nd i) G w → relAt P o a F w) ∧ ∀ v, K (upd G i v) (a.put o.dst v)
  else K G (a.put o.dst undef)

theorem fStep_mono {i : Nat} {o : Oper} {K K' : (Nat → Option Value) → Act → Prop} (hK : ∀ G a, K G a → K' G a) {G : Nat → Option Value} {a : Act} (h : fStep P ops C ks nd i o K G a) : fStep P ops C ks nd i o K' G a := by
  unfold fStep at *
  split
  · rename_i hw
    simp only [hw, if_true] at h
    cases hk : kindOf ks i with
    | quiet => simp only [hk] at h ⊢; obtain ⟨u, h1, h2⟩ := h; exact ⟨u, h1, hK _ _ h2⟩
    | fixed u => simp only [hk] at h ⊢; exact ⟨h.1, hK _ _ h.2⟩
    | told F => simp only [hk] at h ⊢; exact ⟨h.1, fun v => hK _ _ (h.2 v)⟩
  · rename_i hw
    simp only [hw] at h
    exact hK _ _ h

theorem fStep_swap {i j : Nat} {oi oj : Oper} {K : (Nat → Option Value) → Act → Prop} {G : Nat → Option Value} {a : Act} (hC : ∃ w, C w) (hne : i ≠ j)
    (hap : oi.apart ops oj = true) (hsi : ∀ cs b, oi.op ≠ .select cs b) (hsj : ∀ cs b, oj.op ≠ .select cs b) (hij : i ∉ needsOf nd j) (hji : j ∉ needsOf nd i)
    (h : fStep P ops C ks nd i oi (fun G1 a1 => fStep P ops C ks nd j oj K G1 a1) G a) :
    fStep P ops C ks nd j oj (fun G2 a2 => fStep P ops C ks nd i oi K G2 a2) G a := by
  obtain ⟨h1, h2, h3⟩ := Oper.apart_spec hap
  obtain ⟨w0, hw0⟩ := hC
  have ewj : ∀ (v : Value), Region.wanted oj (yielded ops (a.put oi.dst v).tmps) = Region.wanted oj (yielded ops a.tmps) := fun v => wanted_put oj a oi.dst v h1
  have eej : ∀ (v : Value), execOp (a.put oi.dst v).eval oj = execOp a.eval oj := fun v => execOp_put oj hsj a oi.dst v h1
  have ewi : ∀ (u : Value), Region.wanted oi (yielded ops (a.put oj.dst u).tmps) = Region.wanted oi (yielded ops a.tmps) := fun u => wanted_put oi a oj.dst u h3
  have eei : ∀ (u : Value), execOp (a.put oj.dst u).eval oi = execOp a.eval oi := fun u => execOp_put oi hsi a oj.dst u h3
  have ec : ∀ (v u : Value), (a.put oi.dst v).put oj.dst u = (a.put oj.dst u).put oi.dst v := fun v u => Act.put_comm a v u h2
  unfold fStep at *
  simp only [ewj, eej, relAt, ec] at h
  simp only [ewi, eei, relAt]
  by_cases hwi : Region.wanted oi (yielded ops a.tmps) = true <;> by_cases hwj : Region.wanted oj (yielded ops a.tmps) = true
  · simp only [hwi, hwj, if_true] at h ⊢
    cases hki : kindOf ks i with
    | quiet =>
      simp only [hki] at h ⊢
      obtain ⟨u, hu, h⟩ := h
      cases hkj : kindOf ks j with
      | quiet => simp only [hkj] at h ⊢; obtain ⟨uj, huj, hK⟩ := h; exact ⟨uj, huj, u, hu, hK⟩
      | fixed uj => simp only [hkj] at h ⊢; exact ⟨h.1, u, hu, h.2⟩
      | told F => simp only [hkj] at h ⊢; exact ⟨h.1, fun v => ⟨u, hu, h.2 v⟩⟩
    | fixed u =>
      simp only [hki] at h ⊢
      obtain ⟨hu, h⟩ := h
      cases hkj : kindOf ks j with
      | quiet => simp only [hkj] at h ⊢; obtain ⟨uj, huj, hK⟩ := h; exact ⟨uj, huj, hu, hK⟩
      | fixed uj => simp only [hkj] at h ⊢; exact ⟨h.1, hu, h.2⟩
      | told F => simp only [hkj] at h ⊢; exact ⟨h.1, fun v => ⟨hu, h.2 v⟩⟩
    | told Fi =>
      simp only [hki] at h ⊢
      obtain ⟨hu, h⟩ := h
      cases hkj : kindOf ks j with
      | quiet =>
        simp only [hkj] at h ⊢
        obtain ⟨uj, huj, _⟩ := h undef
        refine ⟨uj, huj, hu, fun v => ?_⟩
        obtain ⟨uj', huj', hK⟩ := h v
        have e := (huj w0 hw0).symm.trans (huj' w0 hw0)
        injection e with e1 e2
        injection e1 with e3
        subst e3
        exact hK
      | fixed uj => simp only [hkj] at h ⊢; exact ⟨(h undef).1, hu, fun v => (h v).2⟩
      | told F =>
        simp only [hkj] at h ⊢
        refine ⟨fun w hw hf => (h undef).1 w hw ((Facts.upd undef hij).2 hf), fun u => ⟨fun w hw hf => hu w hw ((Facts.upd u hji).1 hf), fun v => ?_⟩⟩
        have := (h v).2 u
        rwa [upd_comm G hne] at this
  · simp only [hwi, hwj, if_true] at h ⊢
    cases hki : kindOf ks i with
    | quiet => simp only [hki] at h ⊢; exact h
    | fixed u => simp only [hki] at h ⊢; exact h
    | told Fi => simp only [hki] at h ⊢; exact h
  · simp only [hwi, hwj, if_true] at h ⊢
    cases hkj : kindOf ks j with
    | quiet => simp only [hkj] at h ⊢; exact h
    | fixed u => simp only [hkj] at h ⊢; exact h
    | told Fi => simp only [hkj] at h ⊢; exact h
  · simp only [hwi, hwj] at h ⊢
    exact h

def fOp (P : Program) (ops : Array Oper) (C : World → Prop) (ks : List (Nat × Kind)) (nd : List (Nat × List Nat)) (i : Nat) (K : (Nat → Option Value) → Act → Prop) (G : Nat → Option Value) (a : Act) : Prop :=
  match ops[i]? with
  | none => K G a
  | some o => fStep P ops C ks nd i o K G a

theorem fOp_mono {i : Nat} {K K' : (Nat → Option Value) → Act → Prop} (hK : ∀ G a, K G a → K' G a) {G : Nat → Option Value} {a : Act} (h : fOp P ops C ks nd i K G a) : fOp P ops C ks nd i K' G a := by
  unfold fOp at *
  cases ho : ops[i]? with
  | none => simp only [ho] at h ⊢; exact hK _ _ h
  | some o => simp only [ho] at h ⊢; exact fStep_mono hK h

/-- Whatever order is picked among the first n operations. -/
def fAny (P : Program) (md : Region.Mode) (ops : Array Oper) (C : World → Prop) (ks : List (Nat × Kind)) (nd : List (Nat × List Nat)) (n : Nat) (D : Array Bool → (Nat → Option Value) → Act → Prop) : Nat → Array Bool → (Nat → Option Value) → Act → Prop
  | 0, listed, G, a => D listed G a
  | f + 1, listed, G, a =>
    Region.ready md ops listed ≠ [] ∧ ∀ i ∈ Region.ready md ops listed, i < n ∧ fOp P ops C ks nd i (fAny P md ops C ks nd n D f (listed.setIfInBounds i true)) G a

/-- The needs are direct waits. -/
def needsB (md : Region.Mode) (ops : Array Oper) (nd : List (Nat × List Nat)) : Bool := nd.all fun p => p.2.all fun r => Region.waitsFor md ops p.1 r

theorem needsOf_mem {i r : Nat} (h : r ∈ needsOf nd i) : ∃ p ∈ nd, p.1 = i ∧ r ∈ p.2 := by
  induction nd with
  | nil => simp [needsOf] at h
  | cons p rest ih =>
    obtain ⟨k, x⟩ := p
    simp only [needsOf] at h
    split at h
    · rename_i hk; exact ⟨(k, x), by simp, hk, h⟩
    · obtain ⟨q, hq, h1, h2⟩ := ih h; exact ⟨q, by simp [hq], h1, h2⟩

theorem needs_waits (hB : needsB md ops nd = true) {i r : Nat} (h : r ∈ needsOf nd i) : Region.waitsFor md ops i r = true := by
  obtain ⟨p, hp, rfl, hr⟩ := needsOf_mem h
  exact List.all_eq_true.1 (List.all_eq_true.1 hB p hp) r hr

theorem not_need {i j : Nat} {listed : Array Bool} (hB : needsB md ops nd = true) (hj : j ∈ Region.ready md ops listed) (hi : listed.getD i true = false) : i ∉ needsOf nd j := by
  intro h
  obtain ⟨oj, hoj, e, he, hb, hon⟩ := Region.waitsFor_spec (needs_waits hB h)
  obtain ⟨_, o', ho', hall⟩ := mem_ready.1 hj
  have : oj = o' := Option.some.inj (hoj.symm.trans ho')
  subst this
  have h2 := hall e he hb
  rw [hon, getD_both hi] at h2
  cases h2

theorem fAny_first {n i : Nat} {oi : Oper} {D : Array Bool → (Nat → Option Value) → Act → Prop} (hi : ops[i]? = some oi) (hsel : ∀ (j : Nat) (o : Oper) cs b, ops[j]? = some o → o.op ≠ .select cs b)
    (hC : ∃ w, C w) (hnd : needsB md ops nd = true) (hin : i < n)
    (hbel : ∀ listed, HeadInv md ops n listed → ∀ i, i < n → listed.getD i true = false → ∀ t, n ≤ t → t ∉ Region.ready md ops listed)
    (hdone : ∀ listed G a, D listed G a → ∀ j ∈ Region.ready md ops listed, n ≤ j) :
    ∀ (f : Nat) (listed : Array Bool) (G : Nat → Option Value) (a : Act), HeadInv md ops n listed →
      (∀ j oj, ops[j]? = some oj → j ≠ i → listed.getD j true = false → (∀ e ∈ oj.after, Region.binds md e = true → e.on ≠ i) → oi.apart ops oj = true) →
      i ∈ Region.ready md ops listed →
      fStep P ops C ks nd i oi (fAny P md ops C ks nd n D f (listed.setIfInBounds i true)) G a → fAny P md ops C ks nd n D (f + 1) listed G a := by
  intro f
  induction f with
  | zero =>
    intro listed G a inv hfree hr H
    have hun := (mem_ready.1 hr).1
    refine ⟨fun h => (by rw [h] at hr; cases hr), fun j hj => ?_⟩
    have hjn : j < n := by
      rcases Nat.lt_or_ge j n with h | h
      · exact h
      · exact absurd hj (hbel listed inv i hin hun j h)
    refine ⟨hjn, ?_⟩
    by_cases hji : j = i
    · subst hji; unfold fOp; simp only [hi]; exact H
    · exfalso
      have hd : ∃ G' a', D (listed.setIfInBounds i true) G' a' := by
        unfold fStep at H
        split at H
        · cases hk : kindOf ks i with
          | quiet => simp only [hk] at H; obtain ⟨u, _, h⟩ := H; exact ⟨_, _, h⟩
          | fixed u => simp only [hk] at H; exact ⟨_, _, H.2⟩
          | told F => simp only [hk] at H; exact ⟨_, _, H.2 undef⟩
        · exact ⟨_, _, H⟩
      obtain ⟨G', a', hd⟩ := hd
      have := hdone _ _ _ hd j (ready_mono hj hji)
      omega
  | succ f ih =>
    intro listed G a inv hfree hr H
    have hun := (mem_ready.1 hr).1
    refine ⟨fun h => (by rw [h] at hr; cases hr), fun j hj => ?_⟩
    have hjn : j < n := by
      rcases Nat.lt_or_ge j n with h | h
      · exact h
      · exact absurd hj (hbel listed inv i hin hun j h)
    refine ⟨hjn, ?_⟩
    by_cases hji : j = i
    · subst hji; unfold fOp; simp only [hi]; exact H
    · obtain ⟨hjun, oj, hoj, hall⟩ := mem_ready.1 hj
      have hnot : ∀ e ∈ oj.after, Region.binds md e = true → e.on ≠ i := fun e he hb heq => by
        have h1 := hall e he hb
        rw [heq, getD_both hun] at h1
        cases h1
      have hfree' : ∀ k ok, ops[k]? = some ok → k ≠ i → (listed.setIfInBounds j true).getD k true = false →
          (∀ e ∈ ok.after, Region.binds md e = true → e.on ≠ i) → oi.apart ops ok = true := fun k ok hk hki hun' hno => by
        refine hfree k ok hk hki ?_ hno
        by_cases hjk : j = k
        · subst hjk; exact hjun
        · rw [getD_set_ne true hjk] at hun'; exact hun'
      have H1 : fStep P ops C ks nd i oi (fun G1 a1 => fStep P ops C ks nd j oj (fAny P md ops C ks nd n D f ((listed.setIfInBounds i true).setIfInBounds j true)) G1 a1) G a := by
        refine fStep_mono (fun G1 a1 h => ?_) H
        have h2 := (h.2 j (ready_mono hj hji)).2
        unfold fOp at h2
        simp only [hoj] at h2
        exact h2
      have H2 := fStep_swap hC (Ne.symm hji) (hfree j oj hoj hji hjun hnot) (fun cs b => hsel i oi cs b hi) (fun cs b => hsel j oj cs b hoj) (not_need hnd hj hun) (not_need hnd hr hjun) H1
      unfold fOp
      simp only [hoj]
      refine fStep_mono (fun G2 a2 h => ?_) H2
      refine ih _ G2 a2 (inv.set hj hjn) hfree' (ready_mono hr (Ne.symm hji)) ?_
      rw [Array.setIfInBounds_comm _ _ hji]
      exact h

/-- The walk in the text's order. -/
def wpFlow (P : Program) (ops : Array Oper) (C : World → Prop) (ks : List (Nat × Kind)) (nd : List (Nat × List Nat)) (Q : (Nat → Option Value) → Act → Prop) : List Oper → Nat → (Nat → Option Value) → Act → Prop
  | [], _, G, a => Q G a
  | o :: rest, i, G, a => fStep P ops C ks nd i o (wpFlow P ops C ks nd Q rest (i + 1)) G a

def headB (md : Region.Mode) (ops : Array Oper) (g : Nat) : Nat → Nat → Array Bool → Bool
  | 0, k, listed => Region.seqB md ops g k listed
  | f + 1, k, listed => (Region.ready md ops listed).contains k && Region.free md ops listed k && headB md ops g f (k + 1) (listed.setIfInBounds k true)

/-- The closed check: nothing is selected; either all operations flow, or the first n wait for the tail's head and the tail is forced; the text's order is one that the edges allow. -/
def flowB (md : Region.Mode) (ops : Array Oper) (n : Nat) (nd : List (Nat × List Nat)) : Bool :=
  Region.noSelect ops && needsB md ops nd && (n == ops.size || (decide (n < ops.size) && Region.sinkB md ops n && Region.chainB md ops n)) && headB md ops (ops.size - n) n 0 (Array.replicate ops.size false)

theorem fAny_lex {n g : Nat} {Lq : (Nat → Option Value) → Act → Prop} (hsel : Region.noSelect ops = true) (hC : ∃ w, C w) (hnd : needsB md ops nd = true)
    (hbel : ∀ listed, HeadInv md ops n listed → ∀ i, i < n → listed.getD i true = false → ∀ t, n ≤ t → t ∉ Region.ready md ops listed) :
    ∀ (l : List Oper) (k : Nat) (listed : Array Bool) (G : Nat → Option Value) (a : Act), (∀ j, j < l.length → l[j]? = ops[k + j]?) → k + l.length = n → HeadInv md ops n listed →
    headB md ops g l.length k listed = true → wpFlow P ops C ks nd Lq l k G a →
    fAny P md ops C ks nd n (fun listed' G' a' => Region.seqB md ops g n listed' = true ∧ Lq G' a') l.length listed G a
  | [], k, listed, G, a, _, hk, _, hB, h => by
    have : k = n := by simpa using hk
    subst this
    exact ⟨by simpa [headB] using hB, h⟩
  | o :: l, k, listed, G, a, hl, hk, inv, hB, h => by
    have h0 : ops[k]? = some o := by simpa using (hl 0 (by simp)).symm
    simp only [List.length_cons, headB, Bool.and_eq_true] at hB
    obtain ⟨⟨hr, hf⟩, hB'⟩ := hB
    have hkn : k < n := by simp only [List.length_cons] at hk; omega
    have hr' : k ∈ Region.ready md ops listed := by simpa using hr
    refine fAny_first h0 (Region.noSelect_spec hsel) hC hnd hkn hbel (fun listed' G' a' hL => seqB_ready hL.1) l.length listed G a inv (Region.free_spec h0 hf) hr' ?_
    refine fStep_mono (fun G1 a1 h1 => ?_) h
    exact fAny_lex hsel hC hnd hbel l (k + 1) _ G1 a1 (fun j hj => by have := hl (j + 1) (by simp; omega); simpa [Nat.add_assoc, Nat.add_comm 1 j] using this) (by simp only [List.length_cons] at hk; omega) (inv.set hr' hkn) hB' h1

/-- All facts so far hold. -/
def Held (ks : List (Nat × Kind)) (G : Nat → Option Value) (w : World) : Prop := ∀ r v, G r = some v → factOf ks r v w

theorem wpOp_of_fOp {Q' : Exit → Act → World → Prop} {i : Nat} {a : Act} {G : Nat → Option Value} {w : World} {K : (Nat → Option Value) → Act → Prop} {K' : Act → World → Prop}
    (hCs : ∀ w w', C w → Below w.heap.size w w' → C w') (hst : ∀ r v w w', factOf ks r v w → Below w.heap.size w w' → factOf ks r v w')
    (hw : C w) (hG : Held ks G w) (h : ∀ G' a' w', C w' → Held ks G' w' → K G' a' → K' a' w') (hh : fOp P ops C ks nd i K G a) : wpOp P ops Q' i K' a w := by
  unfold fOp at hh
  unfold wpOp
  cases ho : ops[i]? with
  | none => simp only [ho] at hh ⊢; exact h _ _ _ hw hG hh
  | some o =>
    simp only [ho] at hh ⊢
    unfold fStep at hh
    split
    · rename_i hwt
      simp only [hwt, if_true] at hh
      left
      unfold Oper.wp
      have rels : ∀ (F : Value → World → Prop) (KK : Value → Prop), relAt P o a F w → (∀ v w', Below w.heap.size w w' → F v w' → KK v → K' (a.put o.dst v) w') → (∀ v, KK v) →
          o.upon P a K' Q' ((execOp a.eval o).run P w) := by
        intro F KK hr hk hv
        unfold relAt at hr
        generalize (execOp a.eval o).run P w = r at hr ⊢
        cases r with
        | ok nx w' =>
          cases nx <;> simp only [relUpon] at hr <;> simp only [Oper.upon]
          case value v => exact hk _ _ hr.1 hr.2 (hv _)
          case enter f args =>
            obtain ⟨rfl, hc⟩ := hr
            exact hc.mono fun e w'' ⟨v, he, hb, hF⟩ => by subst he; exact hk _ _ hb hF (hv _)
        | halt x w' => simp only [relUpon] at hr
      cases hk : kindOf ks i with
      | quiet =>
        simp only [hk] at hh
        obtain ⟨u, hu, hK⟩ := hh
        rw [hu w hw]
        exact h _ _ _ hw hG hK
      | fixed u =>
        simp only [hk] at hh
        refine rels (fun v _ => v = u) (fun _ => True) (hh.1 w hw) (fun v w' hb hF _ => ?_) (fun _ => trivial)
        subst hF
        exact h _ _ _ (hCs _ _ hw hb) (fun r v' hv' => hst _ _ _ _ (hG r v' hv') hb) hh.2
      | told F =>
        simp only [hk] at hh
        refine rels F (fun v => K (upd G i v) (a.put o.dst v)) (hh.1 w hw (fun r _ v hv => hG r v hv)) (fun v w' hb hF hK => ?_) hh.2
        refine h _ _ _ (hCs _ _ hw hb) (fun r v' hv' => ?_) hK
        unfold upd at hv'
        split at hv'
        · rename_i hri
          subst hri
          have : v = v' := Option.some.inj hv'
          subst this
          unfold factOf
          simp only [hk]
          exact hF
        · exact hst _ _ _ _ (hG r v' hv') hb
    · rename_i hwt
      simp only [hwt] at hh
      exact h _ _ _ hw hG hh

theorem wpAny_of_fAny {n g : Nat} {D : Array Bool → (Nat → Option Value) → Act → Prop} {Q' : Exit → Act → World → Prop}
    (hCs : ∀ w w', C w → Below w.heap.size w w' → C w') (hst : ∀ r v w w', factOf ks r v w → Below w.heap.size w w' → factOf ks r v w')
    (hD : ∀ listed G a w, C w → Held ks G w → D listed G a → wpAny P md ops Q' g listed a w) :
    ∀ (f : Nat) (listed : Array Bool) (G : Nat → Option Value) (a : Act) (w : World), C w → Held ks G w → fAny P md ops C ks nd n D f listed G a → wpAny P md ops Q' (f + g) listed a w
  | 0, listed, G, a, w, hw, hG, h => by rw [Nat.zero_add]; exact hD _ _ _ _ hw hG h
  | f + 1, listed, G, a, w, hw, hG, h => by
    rw [show f + 1 + g = (f + g) + 1 by omega]
    exact ⟨fun h0 => absurd h0 h.1, fun i hi => wpOp_of_fOp hCs hst hw hG (fun G' a' w' hw' hG' h' => wpAny_of_fAny hCs hst hD f _ G' a' w' hw' hG' h') (h.2 i hi).2⟩

end

/-- The class: w with whatever was laid behind it. -/
def Cls (w : World) (w' : World) : Prop := ∃ p : Regrown, w' = grow (redrawn w p.d) p.os

theorem Cls.below {w w' : World} (h : Cls w w') : Below w.heap.size w w' := by
  obtain ⟨p, rfl⟩ := h
  exact below_regrown w p.d p.os

theorem Cls.of {w w' : World} (h : Below w.heap.size w w') : Cls w w' := regrown_of_below h

/-- THE RULE. -/
theorem wp_region_flow {P : Program} {id : Nat} {Q : Exit → Act → World → Prop} {a : Act} {w : World} {l : List Oper} (n : Nat) (ks : List (Nat × Kind)) (nd : List (Nat × List Nat))
    (hm : P.follows .mixedOrders = true) (hB : flowB .any l.toArray n nd = true) (hst : ∀ r v w w', factOf ks r v w → Below w.heap.size w w' → factOf ks r v w')
    (h : (∀ d os b o, b < w.heap.size → (grow (redrawn w d) os).cell? ⟨b, o, none⟩ = w.cell? ⟨b, o, none⟩) →
      wpFlow P l.toArray (Cls w) ks nd (fun G' a' => ∀ W, Below w.heap.size w W → Held ks G' W → wpList P l.toArray Q (l.drop n) a' W) (l.take n) 0 (fun _ => none) a) :
    (Code.region id l.toArray true).wp P Q a w := by
  have h := h fun d os b o hb => (below_regrown w d os).cell (p := ⟨b, o, none⟩) hb
  simp only [flowB, Bool.and_eq_true] at hB
  obtain ⟨⟨⟨hsel, hnd⟩, hcase⟩, hlex⟩ := hB
  have hnl : n ≤ l.length := by
    simp only [Bool.or_eq_true, Bool.and_eq_true, beq_iff_eq, decide_eq_true_eq] at hcase
    rcases hcase with h1 | h1
    · simp at h1; omega
    · have := h1.1.1; simp at this; omega
  have htl : (l.take n).length = n := List.length_take_of_le hnl
  have hsz : l.toArray.size = l.length := by simp
  have hdl : (l.drop n).length = l.toArray.size - n := by simp
  have hbel : ∀ listed, HeadInv .any l.toArray n listed → ∀ i, i < n → listed.getD i true = false → ∀ t, n ≤ t → t ∉ Region.ready .any l.toArray listed := by
    simp only [Bool.or_eq_true, Bool.and_eq_true, beq_iff_eq, decide_eq_true_eq] at hcase
    rcases hcase with h1 | ⟨⟨h1, h2⟩, h3⟩
    · intro listed _ i _ _ t ht hr
      obtain ⟨_, o, ho, _⟩ := mem_ready.1 hr
      have := (Array.getElem?_eq_some_iff.1 ho).1
      omega
    · intro listed inv i hi hun t ht
      exact tail_waits h2 h3 h1 inv _ i rfl hi hun t ht
  have inv0 : HeadInv .any l.toArray n (Array.replicate l.toArray.size false) :=
    ⟨by simp, fun j oj _ hl => (by rw [getD_replicate_false] at hl; cases hl), fun t _ ht => getD_in (by simpa using ht) (getD_replicate_false _ _)⟩
  have hCs : ∀ w1 w2, Cls w w1 → Below w1.heap.size w1 w2 → Cls w w2 := fun w1 w2 h1 h2 => Cls.of (h1.below.trans (h2.mono h1.below.size))
  have hC0 : Cls w { w with drawn := w.drawn + 1 } := Cls.of ⟨rfl, rfl, rfl, Nat.le_refl _, fun _ _ => rfl⟩
  have H := fAny_lex (md := .any) (C := Cls w) (g := l.toArray.size - n) hsel ⟨_, hC0⟩ hnd hbel (l.take n) 0 _ (fun _ => none) a (fun j hj => by
    have hj' : j < n := by rw [htl] at hj; exact hj
    simp [hj']) (by simpa using htl) inv0 (by rw [htl]; exact hlex) h
  refine wp_region_any hm ?_
  have := wpAny_of_fAny (Q' := Q) (g := l.toArray.size - n) hCs hst (fun listed G' a' w' hw' hG' hL => by
    have := wpAny_of_seq (md := .any) (Q' := Q) (l.drop n) n listed a' w' (fun j => by simp [List.getElem?_drop]) (by rw [hdl]; exact hL.1) (hL.2 w' hw'.below hG')
    rwa [hdl] at this) _ _ _ _ _ hC0 (fun r v hv => by cases hv) H
  rw [htl, show n + (l.toArray.size - n) = l.toArray.size by omega] at this
  exact this

section
variable {P : Program} {ops : Array Oper} {ks : List (Nat × Kind)} {nd : List (Nat × List Nat)} {Q : (Nat → Option Value) → Act → Prop} {w : World} {i : Nat} {G : Nat → Option Value} {a : Act} {o : Oper} {rest : List Oper}

theorem flow_nil (h : Q G a) : wpFlow P ops (Cls w) ks nd Q [] i G a := h

/-- Operations that never enter a Go function. -/
def plainOp : Op → Bool
  | .move _ | .assign _ | .pick .. | .build .. | .load .. | .binOp .. | .unOp .. | .convert .. | .makeInterface .. | .makeFunc .. | .slice .. | .fieldAddr .. | .field .. | .indexAddr .. | .index .. | .lookup .. | .extract .. => true
  | .call { callee := .builtin .len, .. } => true
  | _ => false

theorem run_value_bind {s : Sem Value} {w' : World} {r : Next} (h : (do pure (Next.value (← s)) : Sem Next).run P w = .ok r w') : ∃ v, r = .value v := by
  rw [Sem.run_bind] at h
  generalize s.run P w = x at h
  cases x with
  | ok v w1 => simp only [Result.andThen_ok, Sem.run_pure] at h; injection h with h1 _; exact ⟨v, h1.symm⟩
  | halt e w1 => cases h

theorem plain_value (ho : plainOp o.op = true) {ρ : Operand → Value} {w' : World} {r : Next} (h : (execOp ρ o).run P w = .ok r w') : ∃ v, r = .value v := by
  obtain ⟨dst, op, ty, pos, after, guard⟩ := o
  cases op <;> first | (simp only [plainOp, Bool.false_eq_true] at ho; done) | skip
  case move x => simp only [execOp, Sem.run_pure] at h; injection h with h1 _; exact ⟨_, h1.symm⟩
  case assign x => simp only [execOp, Sem.run_pure] at h; injection h with h1 _; exact ⟨_, h1.symm⟩
  case pick c x y =>
    simp only [execOp] at h
    rw [Sem.run_bind] at h
    generalize (asBool (ρ c)).run P w = z at h
    cases z with
    | ok v w1 => simp only [Result.andThen_ok, Sem.run_pure] at h; injection h with h1 _; exact ⟨_, h1.symm⟩
    | halt e w1 => cases h
  case call c =>
    obtain ⟨callee, args, ats⟩ := c
    cases callee with
    | value f => simp only [plainOp, Bool.false_eq_true] at ho
    | invoke rc m => simp only [plainOp, Bool.false_eq_true] at ho
    | builtin b =>
      cases b <;> first | (simp only [plainOp, Bool.false_eq_true] at ho; done) | skip
      simp only [execOp, resolve] at h
      rw [Sem.run_bind] at h
      simp only [Sem.run_pure, Result.andThen_ok] at h
      exact run_value_bind h
  all_goals exact run_value_bind h

/-- An operation that only reads: the walk computes its value in every world of the class. -/
theorem flow_quiet (hk : kindOf ks i = .quiet) (ho : plainOp o.op = true)
    (h : ∀ K : Act → Prop, (∀ a, wpFlow P ops (Cls w) ks nd Q rest (i + 1) G a → K a) → if Region.wanted o (yielded ops a.tmps) then o.quiet P a (fun w' => ∃ p : Regrown, w' = grow (redrawn w p.d) p.os) K else K (a.put o.dst undef)) :
    wpFlow P ops (Cls w) ks nd Q (o :: rest) i G a := by
  have h := h _ (fun _ h => h)
  unfold wpFlow fStep
  split
  · rename_i hw
    rw [if_pos hw] at h
    simp only [hk]
    obtain ⟨v, h1, h2⟩ := h
    refine ⟨v, fun w' hw' => ?_, h2⟩
    have h3 := h1 w' hw'
    unfold Oper.quietAt at h3
    generalize hr : (execOp a.eval o).run P w' = r at h3
    cases r with
    | ok nx w1 =>
      obtain ⟨u, rfl⟩ := plain_value ho hr
      obtain ⟨rfl, rfl⟩ := h3
      rfl
    | halt x w1 => exact h3.elim
  · rename_i hw
    rw [if_neg hw] at h
    exact h

theorem flow_skip (hw : Region.wanted o (yielded ops a.tmps) = false) (h : wpFlow P ops (Cls w) ks nd Q rest (i + 1) G (a.put o.dst undef)) : wpFlow P ops (Cls w) ks nd Q (o :: rest) i G a := by
  unfold wpFlow fStep
  rw [if_neg (by rw [hw]; simp)]
  exact h

/-- An operation that its guard passes over, the frame behind a variable. -/
theorem flow_pass (h : ∀ K : Act → Prop, (∀ a, wpFlow P ops (Cls w) ks nd Q rest (i + 1) G a → K a) → if Region.wanted o (yielded ops a.tmps) then False else K (a.put o.dst undef)) : wpFlow P ops (Cls w) ks nd Q (o :: rest) i G a := by
  have h := h _ (fun _ h => h)
  by_cases hw : Region.wanted o (yielded ops a.tmps) = true
  · rw [if_pos hw] at h; exact h.elim
  · rw [if_neg hw] at h; exact flow_skip (by simpa using hw) h

/-- A call with the very result u. -/
theorem flow_exact (u : Value) (hk : kindOf ks i = .fixed u) (hw : Region.wanted o (yielded ops a.tmps) = true)
    (h1 : ∀ W, Below w.heap.size w W → relAt P o a (fun v _ => v = u) W) (h2 : wpFlow P ops (Cls w) ks nd Q rest (i + 1) G (a.put o.dst u)) : wpFlow P ops (Cls w) ks nd Q (o :: rest) i G a := by
  unfold wpFlow fStep
  rw [if_pos hw]
  simp only [hk]
  exact ⟨fun W hW => h1 W hW.below, h2⟩

/-- An operation whose result is told by a fact. -/
theorem flow_rel (F : Value → World → Prop) (hk : kindOf ks i = .told F) (hw : Region.wanted o (yielded ops a.tmps) = true)
    (h1 : ∀ W, Below w.heap.size w W → Facts ks (needsOf nd i) G W → relAt P o a F W) (h2 : ∀ v, wpFlow P ops (Cls w) ks nd Q rest (i + 1) (upd G i v) (a.put o.dst v)) : wpFlow P ops (Cls w) ks nd Q (o :: rest) i G a := by
  unfold wpFlow fStep
  rw [if_pos hw]
  simp only [hk]
  exact ⟨fun W hW hF => h1 W hW.below hF, h2⟩

end
end Go.Flow
