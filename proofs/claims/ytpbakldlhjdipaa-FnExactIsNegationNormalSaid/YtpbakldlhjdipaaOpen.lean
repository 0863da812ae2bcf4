/-
  This text opens arguments: slices of integers, of structs, of tables: what is read as data lies in memory as our words say. No condition.
-/
import Derived.Test.YtpbakldlhjdipaaTabs
import Derived.ProofKit
import Derived.Deep.Slices
import Derived.Deep.Fields
import Derived.ChangeSame
import Derived.OpenShut
import Derived.ShutString
import Derived.ChangeOld
set_option maxRecDepth 100000
set_option linter.unusedSimpArgs false
set_option linter.unusedVariables false
namespace Go.Proofs.Ytpbakldlhjdipaa
open Go.RowKit Go.ChangeShapes Go.WideShapes Go.ChangeAt Go.Deep

section
variable {H : Type} {enc : TypeId × Value → H} {P : Program} {w : World} {base : Nat} {spare : Nat → Bool} {held : Bool}

theorem addr_add_plain {b o k : Nat} : (⟨b, o, none⟩ : Addr).add k = ⟨b, o + k, none⟩ := by
  unfold Addr.add; split
  · subst_vars; rfl
  · rfl
theorem cell_lt {a : Addr} {v : Value} (h : w.cell? a = some v) : a.block < w.heap.size := by
  unfold World.cell? at h
  cases hb : w.heap[a.block]? with
  | none => rw [hb] at h; cases h
  | some o => exact (Array.getElem?_eq_some_iff.1 hb).1

/-- A slice that is read: its cells, and each element's own reading. -/
theorem open_sl {t e : TypeId} {fuel : Nat} {cs : List Value} {x : DataW H × List MemPlace} (sz : Nat) (hsz : P.cellsOf e = sz) (h0 : 0 < sz) (ht : P.underlying t = some (.slice e)) (h : DataW.trod enc P w base spare held fuel t cs = some x) :
    ∃ (a : Option Addr) (len cap : Nat) (f : Nat → Nat → Value), cs = [.slice a len cap] ∧ len ≤ cap ∧ cap ≤ 9223372036854775807 ∧ SlA w 0 sz len f a ∧
      ∀ i, i < len → ∃ n x', DataW.trod enc P w base spare held n e ((List.range sz).map (f i)) = some x' := by
  rcases open_slice ht h with ⟨hcs, _⟩ | ⟨a, len, cap, m, n, D, Pl, hcs, hb, hl, hm, hmm, hx, hi⟩
  · exact ⟨none, 0, 0, fun _ _ => undef, hcs, Nat.le_refl _, by omega, .inl rfl, fun i hi => absurd hi (by omega)⟩
  · have hlm : len ≤ m := by rw [hmm]; split <;> omega
    have hcell : ∀ i j, i < len → j < sz → ∃ v, w.cell? (a.add (i * sz + j)) = some v := by
      intro i j hil hj
      obtain ⟨cs', hc, _⟩ := hi i (by omega)
      rw [hsz] at hc
      obtain ⟨_, hcl, hat⟩ := World.cells?_some hc
      have h1 := hat j hj
      rw [Go.Deep.add_add, List.getElem?_eq_getElem (by omega)] at h1
      exact ⟨_, h1⟩
    refine ⟨some a, len, cap, fun i j => (w.cell? (a.add (i * sz + j))).getD undef, hcs, hl, hm, ?_, ?_⟩
    · rcases Nat.eq_zero_or_pos len with h | h
      · exact .inl h
      · obtain ⟨v, hv⟩ := hcell 0 0 h h0
        rw [Nat.zero_mul, Nat.zero_add] at hv
        have hsp : a.spot = none := by simpa [Addr.add] using World.cell?_spot hv
        have hlt := cell_lt hv
        obtain ⟨b, off, spot⟩ := a
        simp only at hsp
        subst hsp
        refine .inr ⟨b, off, rfl, Nat.zero_le _, by simpa [Addr.add] using hlt, fun i j hil hj => ?_⟩
        obtain ⟨v', hv'⟩ := hcell i j hil hj
        rw [addr_add_plain] at hv'
        show _ = some ((w.cell? ((⟨b, off, none⟩ : Addr).add (i * sz + j))).getD undef)
        rw [addr_add_plain, Nat.add_assoc, hv']
        rfl
    · intro i hil
      obtain ⟨cs', hc, ht'⟩ := hi i (by omega)
      rw [hsz] at hc
      obtain ⟨_, hcl, hat⟩ := World.cells?_some hc
      refine ⟨n, (D i, Pl i), ?_⟩
      · have hcs' : (List.range sz).map (fun j => (w.cell? (a.add (i * sz + j))).getD undef) = cs' := by
          apply List.ext_getElem?
          intro j
          by_cases hj : j < sz
          · rw [List.getElem?_map, List.getElem?_range hj]
            have h1 := hat j hj
            rw [Go.Deep.add_add] at h1
            rw [List.getElem?_eq_getElem (by omega : j < cs'.length)] at h1 ⊢
            simp [h1]
          · rw [List.getElem?_eq_none (by simp; omega), List.getElem?_eq_none (by omega)]
        rw [hcs']
        exact ht'

/-- A struct of one-cell fields: each field's own reading. -/
theorem open_fields {e : TypeId} {fs : Array Field} {n sz : Nat} {g : Nat → Value} {x : DataW H × List MemPlace} (he : P.underlying e = some (.struct fs)) (hone : oneCellFields P fs = true) (hs : fs.size = sz)
    (h : DataW.trod enc P w base spare held n e ((List.range sz).map g) = some x) (j : Nat) (f : Field) (hj : fs[j]? = some f) :
    ∃ n' y, DataW.trod enc P w base spare held n' f.type [g j] = some y := by
  obtain ⟨xs, n', hn, hx, hlen, hxl, hf⟩ := DataW.trod_struct he h
  obtain ⟨ho, hk⟩ := hone_of hone j f hj
  have hjl : j < fs.size := (Array.getElem?_eq_some_iff.1 hj).1
  have h1 := hf j f hj
  rw [ho, hk] at h1
  have e1 : ((((List.range sz).map g).drop j).take 1) = [g j] := by
    rw [List.drop_eq_getElem_cons (by simp; omega)]
    simp
  rw [e1, List.getElem?_eq_getElem (by omega : j < xs.length)] at h1
  exact ⟨n', _, h1⟩

theorem open_intsAt {t e : TypeId} {fuel : Nat} {v : Value} {x : DataW H × List MemPlace} (ht : P.underlying t = some (.slice e)) (he : P.underlying e = some (.int .i64)) (hc : P.cellsOf e = 1)
    (h : DataW.trod enc P w base spare held fuel t [v] = some x) : ∃ xs, IntsAt w 0 v xs ∧ ∀ n ∈ xs, (Lit.int .i64 n).wf = true := by
  obtain ⟨a, len, cap, f, hcs, hl, hm, hS, hr⟩ := open_sl 1 hc (by omega) ht h
  simp only [List.cons.injEq, and_true] at hcs
  subst hcs
  have hint : ∀ i, i < len → ∃ z, f i 0 = .int .i64 z ∧ (Lit.int .i64 z).wf = true := by
    intro i hi
    obtain ⟨n, x', h1⟩ := hr i hi
    obtain ⟨z, hz, _, hw⟩ := DataW.trod_int he h1
    simp at hz
    exact ⟨z, hz, hw⟩
  let g : Nat → Int := fun i => match f i 0 with | .int _ z => z | _ => 0
  have hg : ∀ i, i < len → f i 0 = .int .i64 (g i) ∧ (Lit.int .i64 (g i)).wf = true := by
    intro i hi
    obtain ⟨z, hz, hw⟩ := hint i hi
    have : g i = z := by show (match f i 0 with | .int _ z => z | _ => 0) = z; rw [hz]
    rw [this]; exact ⟨hz, hw⟩
  refine ⟨(List.range len).map g, ⟨a, cap, by simp, by simpa using hl, hm, ?_⟩, ?_⟩
  · have : ((List.range len).map g).length = len := by simp
    rw [this]
    refine hS.congr fun i j hi hj => ?_
    obtain rfl : j = 0 := by omega
    rw [(hg i hi).1, atZ_get (by simpa using hi)]
    simp
  · intro n hn
    simp only [List.mem_map, List.mem_range] at hn
    obtain ⟨i, hi, rfl⟩ := hn
    exact (hg i hi).2
end

section
variable {H : Type} {enc : TypeId × Value → H} {w : World} {base : Nat} {spare : Nat → Bool} {held : Bool}

theorem open_tabs {fuel : Nat} {v : Value} {x : DataW H × List MemPlace} (h : DataW.trod enc Try.prog w base spare held fuel 22 [v] = some x) : ∃ ts, TabsAt w 0 v ts := by
  obtain ⟨a, len, cap, f, hcs, hl, hm, hS, hr⟩ := open_sl (P := Try.prog) 4 (by kernel_rfl) (by omega) Try.underlying22 h
  simp only [List.cons.injEq, and_true] at hcs
  subst hcs
  have hel : ∀ i, i < len → ∃ t : Tb, (f i 0 = .string t.name ∧ f i 1 = .int .i64 t.arity ∧ f i 2 = .bool t.pred) ∧ TabAt w 0 t (f i 3) := by
    intro i hi
    obtain ⟨n, x', h1⟩ := hr i hi
    obtain ⟨n0, y0, k0⟩ := open_fields (P := Try.prog) Try.underlying79 (by kernel_rfl) rfl h1 0 _ rfl
    obtain ⟨n1, y1, k1⟩ := open_fields (P := Try.prog) Try.underlying79 (by kernel_rfl) rfl h1 1 _ rfl
    obtain ⟨n2, y2, k2⟩ := open_fields (P := Try.prog) Try.underlying79 (by kernel_rfl) rfl h1 2 _ rfl
    obtain ⟨n3, y3, k3⟩ := open_fields (P := Try.prog) Try.underlying79 (by kernel_rfl) rfl h1 3 _ rfl
    obtain ⟨s, hs, _, hsz⟩ := DataW.trod_string Try.underlying9 k0
    obtain ⟨z, hz, _, _⟩ := DataW.trod_int Try.underlying3 k1
    obtain ⟨b, hb, _⟩ := DataW.trod_bool Try.underlying4 k2
    obtain ⟨xs, hxs, _⟩ := open_intsAt Try.underlying52 Try.underlying3 (by kernel_rfl) k3
    simp only [List.cons.injEq, and_true] at hs hz hb
    exact ⟨⟨s, z, b, xs⟩, ⟨hs, hz, hb⟩, hxs, hsz⟩
  obtain ⟨g, hg⟩ : ∃ g : Nat → Tb, ∀ i, i < len → (f i 0 = .string (g i).name ∧ f i 1 = .int .i64 (g i).arity ∧ f i 2 = .bool (g i).pred) ∧ TabAt w 0 (g i) (f i 3) :=
    ⟨fun i => if h : i < len then (hel i h).choose else ⟨⟨#[]⟩, 0, false, []⟩, fun i hi => by simp only [hi, dif_pos]; exact (hel i hi).choose_spec⟩
  have hlen : ((List.range len).map g).length = len := by simp
  have hget : ∀ i (hi : i < len), ((List.range len).map g).getD i ⟨⟨#[]⟩, 0, false, []⟩ = g i := by
    intro i hi
    rw [getD_at _ (by simpa using hi)]; simp
  refine ⟨(List.range len).map g, fun i => f i 3, ⟨a, cap, by simp, by simpa using hl, hm, ?_⟩, fun i hi => ?_⟩
  · rw [hlen]
    refine hS.congr fun i j hi hj => ?_
    rw [hget i hi]
    obtain ⟨⟨h0, h1, h2⟩, _⟩ := hg i hi
    match j, hj with
    | 0, _ => exact h0
    | 1, _ => exact h1
    | 2, _ => exact h2
    | 3, _ => rfl
  · rw [hlen] at hi
    have := (hg i hi).2
    simpa using this
end
end Go.Proofs.Ytpbakldlhjdipaa
