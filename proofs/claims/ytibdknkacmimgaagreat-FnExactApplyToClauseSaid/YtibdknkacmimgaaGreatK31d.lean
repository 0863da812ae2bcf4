/-
  This text holds, one behind the other: This text holds small laws for runs of code as functions. No condition.
  This text holds plain laws of terms: sizes, depths, names, validity. No condition.
  This text tells what the functions of terms answer in both packages: sizes, depths. No condition.
  This text tells what the functions of terms answer in both packages: depths, names. No condition.
  This text tells what the functions of terms answer in both packages: names, validity. No condition.
  This text tells what the functions of terms answer in both packages: valid terms and atoms. No condition.
  This text tells what the order of terms answers in both packages. No condition.
  This text tells what the comparisons of terms and literals answer in both packages. No condition.
  This text tells what the comparison of literals and the validity of clauses answer in both packages. No condition.
  This text gives the steps of runs once more, of a kind where no draw is taken back: no function is told apart there. No condition.
  This text tells what the comparison of literals answers, as a function that takes no draw back. No condition.
  This text tells what the equality of terms answers in both packages. No condition.
  This text tells what copies of terms answer in both packages. No condition.
  This text holds a rule for runs of which a part of the answer is left open. No condition.
-/
import Derived.Test.YtibdknkacmimgaaGreatK31c
open Nat renaming reduceAdd → zA, reduceSub → zB, reduceLT → zC, reduceLeDiff → zD, reduceEqDiff → zE, reduceBEq → zF, reduceBneDiff → zG, reduceMul → zH
open Int renaming reduceToNat → zI, reduceNeg → zJ, reduceAdd → zK
set_option maxRecDepth 100000
set_option linter.unusedSimpArgs false
set_option linter.unusedVariables false
set_option linter.unusedSectionVars false
namespace Go.Proofs.YtibdknkacmimgaaGreat
open Go.RowKit
theorem dec_i64 {n : Int} (h1 : -9223372036854775808 ≤ n) (h2 : n ≤ 9223372036854775807) : dec (inK .i64 n) = true := dec_t (inK_i64.2 ⟨h1, h2⟩)
theorem get_at {α β : Type} (f : α → β) {xs : List α} {k : Nat} (h : k < xs.length) : (xs.map f)[k]? = some (f xs[k]) := by rw [List.getElem?_map, List.getElem?_eq_getElem h]; rfl
theorem szR_spec (left : Int) (n : Nat) : ((n : Int) ≤ left ∧ szR left n = left - n) ∨ (left < n ∧ szR left n = -1) := by
  unfold szR; split <;> omega
mutual
def D.fit : D → Prop
  | .int _ => True
  | .bool _ => True
  | .str s => s.size ≤ 9223372036854775807
  | .arr es => es.length ≤ 9223372036854775807 ∧ D.fitss es
def D.fits : List D → Prop
  | [] => True
  | x :: r => D.fit x ∧ D.fits r
def D.fitss : List (List D) → Prop
  | [] => True
  | x :: r => D.fits x ∧ D.fitss r
end
theorem D.fits_of : ∀ {l : List D}, (∀ (j : Nat) (h : j < l.length), D.fit l[j]) → D.fits l
  | [], _ => trivial
  | x :: r, h => ⟨h 0 (by simp), D.fits_of fun j hj => h (j + 1) (by simpa using hj)⟩
theorem D.fitss_of : ∀ {es : List (List D)}, (∀ (i : Nat) (h : i < es.length), D.fits es[i]) → D.fitss es
  | [], _ => trivial
  | x :: r, h => ⟨h 0 (by simp), D.fitss_of fun j hj => h (j + 1) (by simpa using hj)⟩
theorem D.fitss_mem {α : Type} {f : α → List D} : ∀ {xs : List α}, D.fitss (xs.map f) → ∀ x ∈ xs, D.fits (f x)
  | [], _, x, h => by cases h
  | y :: r, h, x, hx => by
    simp only [List.map_cons, D.fitss] at h
    rcases List.mem_cons.1 hx with rfl | hx
    · exact h.1
    · exact D.fitss_mem h.2 x hx
theorem DRep.fit {own : Bool} {w : World} {S : Nat → Prop} {d : D} {v : Value} (h : DRep own w S d v) : D.fit d := by
  induction h with
  | int => trivial
  | bool => trivial
  | str S s h => exact h
  | arr S sz es a cap f Sub h1 h2 h3 h4 h5 h6 h7 ih => exact ⟨Nat.le_trans h1 h2, D.fitss_of fun i hi => D.fits_of fun j hj => ih i j hi hj⟩
theorem dec_T : dec True = true := dec_t trivial
theorem dec_F : dec False = false := dec_f fun h => h
attribute [go_sem] lendN lend1 SV.isNil Ob.idsB SV.idsB SV.idsBL List.getElem?_cons_zero List.getElem?_cons_succ OT.fullss OT.fulls OT.full entry toTree plugA plugG plugH setG holesBack holeAt treeF scalO canonO OT.erss OT.ers OT.er OT.noShss OT.noShs OT.noSh quiet obB obBj locs meets memAnc go_skip go_exit go_ret go_reg go_dreg go_seq go_block boolP_t boolP_f boolP_n seqk_n seqk_e seqk_r blk_n blk_e blk_r someP_s drawP_s regF_nil regF_cons regF_gd drgF_nil drgF_cons drgF_gd regN_s drgN_s gdF_t gdF_ff gdF_tf gdF_ft gdF_u appF_n appF_c calls_eq late_a late_f late_o late_t late_l late_s late_b late_i lateC keysB goneIn seen callS_nil callS_cons callN_z callN_s selN_s callRes_v callRes roundK_n roundK_e roundK_r finK_r finK_n resF1_s ordF_s order opF fOp ret1 ret1o fBin fBinI fBinS fBinB fArith eqK getX gets geto sets putS newOb updL extL lookO okUB SV.cellsN SV.one fillS splice toOTs toOT refs1 refsC fsts gids gone1 allSome bndLo bndHi intN eOp.mkEs eOp.addS D.sv OT.sv D.ot memB nodupB reach SV.refs SV.refsS SV.ptrs SV.ptrsS Ob.refs Ob.liveB handRefs backObs SV.back SV.backL Ob.back posN lendL lendV lentL lentV allLtB allIdsB SV.ren SV.renL Ob.ren mkU sgp gc gcObs names upTo canon_z canon_o canon_m canonP frz1 markR_a markR_f markR_s markR_o markR_t markR_l SC.mark keepS keepRefs slots resV rxVs rxV anys noShB SV.noSh SV.noShL Ob.noSh SV.own SV.ownL goneAt cond_true cond_false List.length_cons List.length_nil List.map_cons List.map_nil List.drop_succ_cons List.drop_zero List.drop_nil List.take_succ_cons List.take_zero List.take_nil List.append_nil List.nil_append List.cons_append List.all_cons List.all_nil List.getD_cons_zero List.getD_cons_succ List.any_cons List.any_nil List.contains_cons List.contains_nil List.isEmpty_nil List.isEmpty_cons List.flatten_cons List.flatten_nil List.replicate_succ List.replicate_zero List.set_cons_zero List.set_cons_succ Nat.add_zero Nat.zero_add Nat.le_refl Nat.zero_le Bool.and_true Bool.true_and Bool.and_self Bool.or_false Bool.false_or Bool.true_or Bool.or_true Bool.not_true Bool.not_false Bool.false_and Bool.and_false decide_true decide_false beq_self_eq_true if_true if_false Option.map_some Option.map_none Option.some.injEq Option.getD_some Option.getD_none Int.toNat_natCast true_and and_true and_self eq_self_iff_true List.length_map Bool.false_eq_true Bool.true_eq_false Prod.mk.injEq SV.int.injEq SV.bool.injEq SV.str.injEq SV.agg.injEq SV.tup.injEq SV.arr.injEq List.cons.injEq St.mk.injEq Int.zero_add dec_T dec_F dec_i64 dec_t dec_f fGet svK svD svDs svM MV.sv mapAt mput_int mput_str nomap_eq nextSt St.app itOf MK.sv mroundK_n mroundK_e mroundK_r mendK_e mendK_r
theorem fu_strs : ∀ xs : List ByteArray, OT.fullss (xs.map fun s => [OT.str s]) = true
  | [] => rfl
  | x :: xs => by simp only [List.map_cons, OT.fullss, OT.fulls, OT.full, fu_strs xs, Bool.and_self]
theorem fu_ints : ∀ xs : List Int, OT.fullss (xs.map fun n => [OT.int n]) = true
  | [] => rfl
  | x :: xs => by simp only [List.map_cons, OT.fullss, OT.fulls, OT.full, fu_ints xs, Bool.and_self]
theorem Tm.fu_of : ∀ xs : List Tm, (∀ x ∈ xs, OT.fulls (Tm.o x) = true) → OT.fullss (xs.map Tm.o) = true
  | [], _ => rfl
  | x :: xs, h => by
    simp only [List.map_cons, OT.fullss]
    rw [h x (by simp), Tm.fu_of xs fun y hy => h y (by simp [hy])]; rfl
theorem Tm.fu (x : Tm) : OT.fulls (Tm.o x) = true := by
  have h := Tm.fu_of x.args fun y hy => Tm.fu y
  rw [Tm.o_eq]
  simp only [OT.fulls, OT.full, h, Bool.and_self, Bool.and_true]
termination_by SizeOf.sizeOf x
decreasing_by exact Tm.lt_of_mem hy
theorem Tm.fus (xs : List Tm) : OT.fullss (xs.map Tm.o) = true := Tm.fu_of xs fun x _ => Tm.fu x
theorem Lt.fu (x : Lt) : OT.fulls (Lt.o x) = true := by
  simp only [Lt.o, OT.fulls, OT.full, Tm.fus, Bool.and_self, Bool.and_true]
theorem Lt.fus : ∀ xs : List Lt, OT.fullss (xs.map Lt.o) = true
  | [] => rfl
  | x :: xs => by simp only [List.map_cons, OT.fullss, Lt.fu, Lt.fus xs, Bool.and_self]
theorem Cl.fu (x : Cl) : OT.fulls (Cl.o x) = true := by
  simp only [Cl.o, OT.fulls, OT.full, Lt.fus, Bool.and_self, Bool.and_true]
theorem Cl.fus : ∀ xs : List Cl, OT.fullss (xs.map Cl.o) = true
  | [] => rfl
  | x :: xs => by simp only [List.map_cons, OT.fullss, Cl.fu, Cl.fus xs, Bool.and_self]
theorem Bd.fu (x : Bd) : OT.fulls (Bd.o x) = true := by
  simp only [Bd.o, OT.fulls, OT.full, Tm.fus, Bool.and_self, Bool.and_true]
theorem Bd.fus : ∀ xs : List Bd, OT.fullss (xs.map Bd.o) = true
  | [] => rfl
  | x :: xs => by simp only [List.map_cons, OT.fullss, Bd.fu, Bd.fus xs, Bool.and_self]
theorem Sb.fu (x : Sb) : OT.fulls (Sb.o x) = true := by
  simp only [Sb.o, OT.fulls, OT.full, Bd.fus, Bool.and_self, Bool.and_true]
theorem Sb.fus : ∀ xs : List Sb, OT.fullss (xs.map Sb.o) = true
  | [] => rfl
  | x :: xs => by simp only [List.map_cons, OT.fullss, Sb.fu, Sb.fus xs, Bool.and_self]
attribute [go_sem] fu_strs fu_ints er_strs er_ints no_strs no_ints Tm.fus Tm.erss Tm.noss Lt.fus Lt.erss Lt.noss Cl.fus Cl.erss Cl.noss Bd.fus Bd.erss Bd.noss Sb.fus Sb.erss Sb.noss
theorem map_set_mid {α β : Type} (f : α → β) (dn rest : List α) (x y : α) {k : Nat} (h : dn.length = k) : ((dn ++ x :: rest).map f).set k (f y) = ((dn ++ [y]) ++ rest).map f := by
  subst h
  rw [List.map_append, List.set_append_right _ _ (by simp)]
  simp
theorem dec_refl {α : Type} (a : α) : dec (a = a) = true := dec_t rfl
def fillR {α β : Type} (f : α → β) (z : β) (xs : List α) (k : Nat) : List β := (xs.take k).map f ++ List.replicate (xs.length - k) z
section
variable {α β : Type} (f : α → β) (z : β) {xs : List α} {k : Nat}
theorem fillR_zero : fillR f z xs 0 = List.replicate xs.length z := by simp [fillR]
theorem fillR_len : (fillR f z xs k).length = xs.length := by simp [fillR]; omega
theorem fillR_end : fillR f z xs xs.length = xs.map f := by simp [fillR]
theorem fillR_get (h : k < xs.length) : (fillR f z xs k)[k]? = some z := by
  have hl : ((xs.take k).map f).length = k := by simp; omega
  unfold fillR
  rw [List.getElem?_append_right (by omega), hl, Nat.sub_self, List.getElem?_replicate]
  simp; omega
theorem fillR_set (h : k < xs.length) : (fillR f z xs k).set k (f xs[k]) = fillR f z xs (k + 1) := by
  have hl : ((xs.take k).map f).length = k := by simp; omega
  have e : List.take (k + 1) xs = List.take k xs ++ [xs[k]] := List.take_succ_eq_append_getElem h
  unfold fillR
  rw [List.set_append_right _ _ (by omega), hl, Nat.sub_self, e, List.map_append, List.append_assoc]
  congr 1
  rw [show xs.length - k = (xs.length - (k + 1)) + 1 by omega, List.replicate_succ, List.set_cons_zero]
  rfl
end
theorem max_bif (a b : Int) : (bif dec (a < b) then b else a) = max a b := by
  by_cases h : a < b
  · rw [dec_t h, cond_true, Int.max_eq_right (by omega)]
  · rw [dec_f h, cond_false, Int.max_eq_left (by omega)]
def idxP {α : Type} (p : α → Bool) : List α → Int → Int
  | [], _ => -1
  | x :: xs, i => if p x then i else idxP p xs (i + 1)
theorem idxP_any {α : Type} (p : α → Bool) : ∀ (xs : List α), dec (0 ≤ idxP p xs 0) = xs.any p := by
  have key : ∀ (xs : List α) (i : Int), 0 ≤ i → (0 ≤ idxP p xs i ↔ xs.any p = true) := by
    intro xs
    induction xs with
    | nil => intro i h; simp [idxP]
    | cons x xs ih =>
      intro i h
      simp only [idxP, List.any_cons, Bool.or_eq_true]
      by_cases hp : p x = true
      · simp [hp, h]
      · rw [if_neg hp, ih (i + 1) (by omega)]; simp [hp]
  intro xs
  cases h : xs.any p with
  | true => exact dec_t ((key xs 0 (by omega)).2 h)
  | false => exact dec_f fun h' => by rw [(key xs 0 (by omega)).1 h'] at h; cases h
theorem dec_ii {p q : Prop} (h : p ↔ q) : dec p = dec q := by rw [propext h]
mutual
def Tm.nodes : Tm → Nat
  | .mk _ args => 1 + Tm.nodeS args
def Tm.nodeS : List Tm → Nat
  | [] => 0
  | x :: xs => Tm.nodes x + Tm.nodeS xs
end
theorem Tm.nodes_eq (x : Tm) : x.nodes = 1 + Tm.nodeS x.args := by
  obtain ⟨name, args⟩ := x
  rw [Tm.nodes]; rfl
theorem Tm.nodes_pos (x : Tm) : 1 ≤ x.nodes := by rw [Tm.nodes_eq]; omega
theorem Tm.nodes_le : ∀ (xs : List Tm) (k : Nat) (h : k < xs.length), xs[k].nodes ≤ Tm.nodeS xs
  | [], k, h => absurd h (by simp)
  | x :: xs, 0, _ => by rw [Tm.nodeS]; simp
  | x :: xs, k + 1, h => by
    have := Tm.nodes_le xs k (by simpa using h)
    rw [Tm.nodeS]; simp only [List.getElem_cons_succ]; omega
mutual
def Tm.deep : Tm → Nat
  | .mk _ args => Tm.deepS args + 1
def Tm.deepS : List Tm → Nat
  | [] => 0
  | x :: xs => max (Tm.deep x) (Tm.deepS xs)
end
theorem Tm.deep_eq (x : Tm) : x.deep = Tm.deepS x.args + 1 := by
  obtain ⟨name, args⟩ := x
  rw [Tm.deep]; rfl
theorem Tm.deepS_le_nodes : ∀ xs : List Tm, (∀ y ∈ xs, y.deep ≤ y.nodes) → Tm.deepS xs ≤ Tm.nodeS xs
  | [], _ => by simp [Tm.deepS]
  | x :: xs, h => by
    have h1 := h x (by simp)
    have h2 := Tm.deepS_le_nodes xs fun y hy => h y (by simp [hy])
    rw [Tm.deepS, Tm.nodeS]; omega
theorem Tm.deep_le_nodes (x : Tm) : x.deep ≤ x.nodes := by
  rw [Tm.deep_eq, Tm.nodes_eq]
  have := Tm.deepS_le_nodes x.args fun y hy => Tm.deep_le_nodes y
  omega
termination_by SizeOf.sizeOf x
decreasing_by exact Tm.lt_of_mem hy
mutual
def Tm.names : Tm → Bool
  | .mk name args => if varB name then args.length == 0 else symB name && decide (args.length ≤ 4) && Tm.nameS args
def Tm.nameS : List Tm → Bool
  | [] => true
  | x :: xs => Tm.names x && Tm.nameS xs
end
theorem Tm.names_eq (x : Tm) : x.names = if varB x.name then x.args.length == 0 else symB x.name && decide (x.args.length ≤ 4) && Tm.nameS x.args := by
  obtain ⟨name, args⟩ := x
  rw [Tm.names]; rfl
theorem Tm.nameS_all : ∀ xs : List Tm, Tm.nameS xs = xs.all Tm.names
  | [] => rfl
  | x :: xs => by rw [Tm.nameS, Tm.nameS_all xs]; rfl
theorem Tm.length_le : ∀ xs : List Tm, xs.length ≤ Tm.nodeS xs
  | [] => Nat.le_refl _
  | x :: xs => by
    have := Tm.length_le xs
    have := Tm.nodes_pos x
    rw [Tm.nodeS]; simp only [List.length_cons]; omega
theorem Tm.nodes_mem {xs : List Tm} {y : Tm} (h : y ∈ xs) : y.nodes ≤ Tm.nodeS xs := by
  obtain ⟨k, hk, rfl⟩ := List.getElem_of_mem h
  exact Tm.nodes_le xs k hk
def Tm.small (x : Tm) : Bool := decide (x.nodes ≤ 30) && decide (x.deep ≤ 8)
def Tm.valid (x : Tm) : Bool := x.small && x.names
noncomputable def Tm.eqn (x : Tm) : Bool := dec (x.name = ⟨#[61]⟩)
noncomputable def Tm.atom (x : Tm) : Bool := if x.eqn then x.args.length == 2 && x.small && Tm.nameS x.args else symB x.name && x.valid
theorem nameS_two {xs : List Tm} (h : xs.length = 2) : Tm.nameS xs = ((xs[0]'(by omega)).names && (xs[1]'(by omega)).names) := by
  match xs, h with
  | [a, b], _ => simp [Tm.nameS]
mutual
def Tm.cap : Tm → Int
  | .mk _ xs => Tm.capL xs 1
def Tm.capL : List Tm → Int → Int
  | [], n => n
  | x :: xs, n => if 30 < n then n else Tm.capL xs (n + Tm.cap x)
end
theorem Tm.cap_eq (x : Tm) : x.cap = Tm.capL x.args 1 := by
  obtain ⟨n, xs⟩ := x
  rw [Tm.cap]; rfl
theorem Tm.capL_spec : ∀ (xs : List Tm) (n : Int), (∀ x ∈ xs, 1 ≤ x.cap ∧ x.cap ≤ x.nodes ∧ (x.cap ≤ 30 → x.cap = x.nodes)) → 1 ≤ n → n ≤ Tm.capL xs n ∧ Tm.capL xs n ≤ n + Tm.nodeS xs ∧ (Tm.capL xs n ≤ 30 → Tm.capL xs n = n + Tm.nodeS xs)
  | [], n, _, h => by simp [Tm.capL, Tm.nodeS]
  | x :: xs, n, hx, h => by
    rw [Tm.capL, Tm.nodeS]
    have h1 := hx x (by simp)
    split
    · omega
    · have := Tm.capL_spec xs (n + x.cap) (fun y hy => hx y (by simp [hy])) (by omega)
      omega
theorem Tm.cap_spec (x : Tm) : 1 ≤ x.cap ∧ x.cap ≤ x.nodes ∧ (x.cap ≤ 30 → x.cap = x.nodes) := by
  rw [Tm.cap_eq, Tm.nodes_eq]
  have := Tm.capL_spec x.args 1 (fun y hy => Tm.cap_spec y) (by omega)
  omega
termination_by SizeOf.sizeOf x
decreasing_by exact Tm.lt_of_mem hy
mutual
def Tm.many : Tm → Int → Int
  | .mk _ xs, m => Tm.manyL xs m 1
def Tm.manyL : List Tm → Int → Int → Int
  | [], _, n => n
  | x :: xs, m, n => if n ≤ m then Tm.manyL xs m (n + Tm.many x (m - n)) else n
end
theorem Tm.many_eq (x : Tm) (m : Int) : x.many m = Tm.manyL x.args m 1 := by
  obtain ⟨n, xs⟩ := x
  rw [Tm.many]; rfl
theorem Tm.manyL_spec (m : Int) : ∀ (xs : List Tm) (n : Int), (∀ x ∈ xs, ∀ m, 0 ≤ m → 1 ≤ x.many m ∧ x.many m ≤ x.nodes ∧ (x.many m ≤ m → x.many m = x.nodes)) → 1 ≤ n → n ≤ Tm.manyL xs m n ∧ Tm.manyL xs m n ≤ n + Tm.nodeS xs ∧ (Tm.manyL xs m n ≤ m → Tm.manyL xs m n = n + Tm.nodeS xs)
  | [], n, _, h => by simp [Tm.manyL, Tm.nodeS]
  | x :: xs, n, hx, h => by
    rw [Tm.manyL, Tm.nodeS]
    split
    · have h1 := hx x (by simp) (m - n) (by omega)
      have := Tm.manyL_spec m xs (n + x.many (m - n)) (fun y hy => hx y (by simp [hy])) (by omega)
      omega
    · omega
theorem Tm.many_spec (x : Tm) (m : Int) : 1 ≤ x.many m ∧ x.many m ≤ x.nodes ∧ (x.many m ≤ m → x.many m = x.nodes) := by
  rw [Tm.many_eq, Tm.nodes_eq]
  have := Tm.manyL_spec m x.args 1 (fun y hy m _ => Tm.many_spec y m) (by omega)
  omega
termination_by SizeOf.sizeOf x
decreasing_by exact Tm.lt_of_mem hy
def c_impl_size : SC := (.seq (.reg [⟨some 1, none, .boxv 68 2 (.t 0)⟩, ⟨some 2, none, .mv (.c (.int .i64 0))⟩]) (.seq (.reg [⟨some 3, none, .mv (.c (.int .i64 1))⟩]) (.seq (.seq (.reg [⟨some 6, none, .faddr 1 (.t 1)⟩, ⟨some 7, none, .load false 1 (.t 6)⟩, ⟨some 8, none, .len false (.t 7)⟩, ⟨some 9, none, .mv (.c (.int .i64 0))⟩]) (.block 0 (.loop [0, 0, 0, 1, 0, 0, 0, 1, 1, 1, 0, 0, 0, 0, 0, 0, 0, 0, 0, 0, 0, 0] (.seq (.reg [⟨some 10, none, .bin .lss false (.t 9) (.t 8)⟩]) (.seq (.cond (.t 10) .skip (.exit 0)) (.seq (.block 1 (.seq (.reg [⟨some 11, none, .iaddr 2 (.t 7) (.t 9)⟩, ⟨some 12, none, .load true 2 (.t 11)⟩, ⟨(some 5), none, (.alloc 68 [(.str ⟨#[]⟩), .nil])⟩, ⟨none, none, (.store 2 (.t 5) (.t 12))⟩]) (.seq (.seq (.reg [⟨some 13, none, .mv (.t 3)⟩, ⟨some 14, none, .bin .gtr false (.t 13) (.c (.int .i64 30))⟩]) (.cond (.t 14) (.seq (.reg [⟨some 15, none, .mv (.t 3)⟩, ⟨some 2, none, .mv (.t 15)⟩]) .ret) .skip)) (.reg [⟨some 16, none, .mv (.t 3)⟩, ⟨some 17, none, .load true 2 (.t 5)⟩, ⟨some 18, none, .call 84 [(.t 17)]⟩, ⟨some 19, none, .bin .add false (.t 16) (.t 18)⟩, ⟨some 3, none, .mv (.t 19)⟩])))) (.reg [⟨some 20, none, .bin .add false (.t 9) (.c (.int .i64 1))⟩, ⟨some 9, none, .mv (.t 20)⟩]))))))) (.seq (.reg [⟨some 21, none, .mv (.t 3)⟩, ⟨some 2, none, .mv (.t 21)⟩]) .ret))))
theorem k_impl_size : codeOf Tryz.prog 84 = some ⟨22, c_impl_size, [(.tmp 2)]⟩ := by kernel_rfl
theorem m_impl_size : modes 84 = ⟨[], .asis, none, false⟩ := by unfold modes; rfl
set_option maxHeartbeats 1000000 in
theorem size_of (x : Tm) (hn : x.nodes ≤ 1099511627776) (ih : ∀ y ∈ x.args, E 84 [y.sv] [] = some (.int .i64 y.cap, [])) : E 84 [x.sv] [] = some (.int .i64 x.cap, []) := by
  have hl := Tm.length_le x.args
  have hx := Tm.nodes_eq x
  rw [Tm.cap_eq]
  refine E_walk k_impl_size m_impl_size (of_decide_eq_true rfl) ?_
  simp (disch := omega) only [c_impl_size, go_sem, go_cond, zA, zB, zC, zD, zE, zF, zG, zH, ↓reduceIte, zI, reduceCtorEq, zJ, zK]
  refine go_loop (α := Int × Int) (fun a => ⟨slots 22 0 [(3, .int .i64 a.2), (7, .arr (x.args.map Tm.d)), (8, .int .i64 x.args.length), (9, .int .i64 a.1)], []⟩) (fun a => ∃ k : Nat, a.1 = k ∧ k ≤ x.args.length ∧ 1 ≤ a.2 ∧ a.2 + Tm.nodeS (x.args.drop k) ≤ x.nodes ∧ Tm.capL (x.args.drop k) a.2 = Tm.capL x.args 1) (fun a => x.args.length - a.1.toNat) (0, 1) ⟨0, rfl, Nat.zero_le _, by dsimp only; omega, by rw [List.drop_zero]; dsimp only; omega, rfl⟩ (by simp (disch := omega) only [go_sem, go_cond, zA, zB, zC, zD, zE, zF, zG, zH, ↓reduceIte, zI, reduceCtorEq, zJ, zK]) ?_
  rintro ⟨i, n⟩ ⟨k, hi, hk, hn0, hn1, hs⟩
  dsimp only at hi hn0 hn1 hs
  have hni : i.toNat = k := by omega
  rcases Nat.lt_or_ge k x.args.length with hlt | hge
  · have hg := get_at Tm.d hlt
    rw [Tm.d_eq] at hg
    have hd : x.args.drop k = x.args[k] :: x.args.drop (k + 1) := List.drop_eq_getElem_cons hlt
    have hc := ih x.args[k] (List.getElem_mem hlt)
    have hp := Tm.cap_spec x.args[k]
    rw [hd, Tm.capL] at hs
    rw [hd, Tm.nodeS] at hn1
    rcases Int.lt_or_le 30 n with h30 | h30
    · rw [if_pos h30] at hs
      simp (disch := omega) only [go_sem, go_cond, zA, zB, zC, zD, zE, zF, zG, zH, ↓reduceIte, zI, reduceCtorEq, zJ, zK, hni, hg, hc, m_impl_size]
      exact hs
    · rw [if_neg (by omega)] at hs
      simp (disch := omega) only [go_sem, go_cond, zA, zB, zC, zD, zE, zF, zG, zH, ↓reduceIte, zI, reduceCtorEq, zJ, zK, hni, hg, hc, m_impl_size]
      refine ⟨(i + 1, n + x.args[k].cap), ⟨k + 1, by dsimp only; omega, hlt, by dsimp only; omega, by dsimp only; omega, hs⟩, by dsimp only; omega, ?_⟩
      simp only [and_self]
  · have hd : x.args.drop k = [] := List.drop_eq_nil_of_le hge
    rw [hd, Tm.capL] at hs
    simp (disch := omega) only [go_sem, go_cond, zA, zB, zC, zD, zE, zF, zG, zH, ↓reduceIte, zI, reduceCtorEq, zJ, zK, hni]
    exact hs
theorem size_E (x : Tm) (hn : x.nodes ≤ 1099511627776) : E 84 [x.sv] [] = some (.int .i64 x.cap, []) :=
  size_of x hn fun y hy => size_E y (by have := Tm.nodes_mem hy; have := Tm.nodes_eq x; omega)
termination_by SizeOf.sizeOf x
decreasing_by exact Tm.lt_of_mem hy
def c_spec_l2Many : SC := (.seq (.reg [⟨some 2, none, .boxv 68 2 (.t 0)⟩, ⟨some 4, none, .mv (.c (.int .i64 0))⟩]) (.seq (.reg [⟨some 5, none, .mv (.c (.int .i64 1))⟩]) (.seq (.seq (.reg [⟨some 6, none, .mv (.c (.int .i64 0))⟩]) (.block 0 (.loop [0, 1, 1, 0, 0, 1, 1, 0, 0, 0, 0, 0, 0, 0, 0, 0, 0, 0, 0, 0, 0, 0, 0, 0, 0, 0, 0, 0, 0, 0, 0] (.seq (.seq (.reg [⟨some 7, none, .mv (.t 6)⟩, ⟨some 8, none, .faddr 1 (.t 2)⟩, ⟨some 9, none, .load false 1 (.t 8)⟩, ⟨some 10, none, .len false (.t 9)⟩, ⟨some 11, none, .bin .lss false (.t 7) (.t 10)⟩, ⟨some 12, none, .mv (.t 11)⟩, ⟨(some 13), (some (12, true)), (.mv (.t 5))⟩, ⟨(some 14), (some (12, true)), (.mv (.t 1))⟩, ⟨(some 15), (some (12, true)), (.bin .leq false (.t 13) (.t 14))⟩, ⟨some 16, none, .pick (.t 12) (.t 15) (.c (.bool false))⟩]) (.cond (.t 16) .skip (.exit 0))) (.seq (.block 1 (.reg [⟨some 19, none, .mv (.t 5)⟩, ⟨some 20, none, .faddr 1 (.t 2)⟩, ⟨some 21, none, .load false 1 (.t 20)⟩, ⟨some 22, none, .mv (.t 6)⟩, ⟨some 23, none, .iaddr 2 (.t 21) (.t 22)⟩, ⟨some 24, none, .load true 2 (.t 23)⟩, ⟨some 25, none, .mv (.t 1)⟩, ⟨some 26, none, .mv (.t 5)⟩, ⟨some 27, none, .bin .sub false (.t 25) (.t 26)⟩, ⟨some 28, none, .call 80 [(.t 24), (.t 27)]⟩, ⟨some 29, none, .bin .add false (.t 19) (.t 28)⟩, ⟨some 5, none, .mv (.t 29)⟩])) (.reg [⟨some 17, none, .mv (.t 6)⟩, ⟨some 18, none, .bin .add false (.t 17) (.c (.int .i64 1))⟩, ⟨some 6, none, .mv (.t 18)⟩])))))) (.seq (.reg [⟨some 30, none, .mv (.t 5)⟩, ⟨some 4, none, .mv (.t 30)⟩]) .ret))))
theorem k_spec_l2Many : codeOf Tryz.prog 80 = some ⟨31, c_spec_l2Many, [(.tmp 4)]⟩ := by kernel_rfl
theorem m_spec_l2Many : modes 80 = ⟨[], .asis, none, false⟩ := by unfold modes; rfl
set_option maxHeartbeats 1000000 in
theorem many_of (x : Tm) (m : Int) (hm : 0 ≤ m) (hm1 : m ≤ 1099511627776) (hn : x.nodes ≤ 1099511627776) (ih : ∀ y ∈ x.args, ∀ m : Int, 0 ≤ m → m ≤ 1099511627776 → E 80 [y.sv, .int .i64 m] [] = some (.int .i64 (y.many m), [])) : E 80 [x.sv, .int .i64 m] [] = some (.int .i64 (x.many m), []) := by
  have hl := Tm.length_le x.args
  have hx := Tm.nodes_eq x
  rw [Tm.many_eq]
  refine E_walk k_spec_l2Many m_spec_l2Many (of_decide_eq_true rfl) ?_
  simp (disch := omega) only [c_spec_l2Many, go_sem, go_cond, zA, zB, zC, zD, zE, zF, zG, zH, ↓reduceIte, zI, reduceCtorEq, zJ, zK]
  refine go_loop (α := Int × Int) (fun a => ⟨slots 31 0 [(1, .int .i64 m), (2, .ptr 0 0), (5, .int .i64 a.2), (6, .int .i64 a.1)], [.box 68 [.str x.name, .arr (x.args.map Tm.d)]]⟩) (fun a => ∃ k : Nat, a.1 = k ∧ k ≤ x.args.length ∧ 1 ≤ a.2 ∧ a.2 + Tm.nodeS (x.args.drop k) ≤ x.nodes ∧ Tm.manyL (x.args.drop k) m a.2 = Tm.manyL x.args m 1) (fun a => x.args.length - a.1.toNat) (0, 1) ⟨0, rfl, Nat.zero_le _, by dsimp only; omega, by rw [List.drop_zero]; dsimp only; omega, rfl⟩ (by simp (disch := omega) only [go_sem, go_cond, zA, zB, zC, zD, zE, zF, zG, zH, ↓reduceIte, zI, reduceCtorEq, zJ, zK]) ?_
  rintro ⟨i, n⟩ ⟨k, hi, hk, hn0, hn1, hs⟩
  dsimp only at hi hn0 hn1 hs
  have hni : i.toNat = k := by omega
  rcases Nat.lt_or_ge k x.args.length with hlt | hge
  · have hg := get_at Tm.d hlt
    rw [Tm.d_eq] at hg
    have hd : x.args.drop k = x.args[k] :: x.args.drop (k + 1) := List.drop_eq_getElem_cons hlt
    rw [hd, Tm.manyL] at hs
    rw [hd, Tm.nodeS] at hn1
    rcases Int.lt_or_le m n with h30 | h30
    · rw [if_neg (by omega)] at hs
      simp (disch := omega) only [go_sem, go_cond, zA, zB, zC, zD, zE, zF, zG, zH, ↓reduceIte, zI, reduceCtorEq, zJ, zK, hni, hg, m_spec_l2Many]
      exact hs
    · rw [if_pos h30] at hs
      have hc := ih x.args[k] (List.getElem_mem hlt) (m - n) (by omega) (by omega)
      have hp := Tm.many_spec x.args[k] (m - n)
      simp (disch := omega) only [go_sem, go_cond, zA, zB, zC, zD, zE, zF, zG, zH, ↓reduceIte, zI, reduceCtorEq, zJ, zK, hni, hg, hc, m_spec_l2Many]
      refine ⟨(i + 1, n + x.args[k].many (m - n)), ⟨k + 1, by dsimp only; omega, hlt, by dsimp only; omega, by dsimp only; omega, hs⟩, by dsimp only; omega, ?_⟩
      simp only [and_self]
  · have hd : x.args.drop k = [] := List.drop_eq_nil_of_le hge
    rw [hd, Tm.manyL] at hs
    simp (disch := omega) only [go_sem, go_cond, zA, zB, zC, zD, zE, zF, zG, zH, ↓reduceIte, zI, reduceCtorEq, zJ, zK, hni]
    exact hs
theorem many_E (x : Tm) (m : Int) (hm : 0 ≤ m) (hm1 : m ≤ 1099511627776) (hn : x.nodes ≤ 1099511627776) : E 80 [x.sv, .int .i64 m] [] = some (.int .i64 (x.many m), []) :=
  many_of x m hm hm1 hn fun y hy m hm hm1 => many_E y m hm hm1 (by have := Tm.nodes_mem hy; have := Tm.nodes_eq x; omega)
termination_by SizeOf.sizeOf x
decreasing_by exact Tm.lt_of_mem hy
def c_impl_depth : SC := (.seq (.reg [⟨some 1, none, .boxv 68 2 (.t 0)⟩, ⟨some 2, none, .mv (.c (.int .i64 0))⟩]) (.seq (.reg [⟨some 3, none, .mv (.c (.int .i64 0))⟩]) (.seq (.seq (.reg [⟨some 6, none, .faddr 1 (.t 1)⟩, ⟨some 7, none, .load false 1 (.t 6)⟩, ⟨some 8, none, .len false (.t 7)⟩, ⟨some 9, none, .mv (.c (.int .i64 0))⟩]) (.block 0 (.loop [0, 0, 0, 1, 0, 0, 0, 1, 1, 1, 0, 0, 0, 0, 0, 0, 0, 0, 0, 0] (.seq (.reg [⟨some 10, none, .bin .lss false (.t 9) (.t 8)⟩]) (.seq (.cond (.t 10) .skip (.exit 0)) (.seq (.block 1 (.seq (.reg [⟨some 11, none, .iaddr 2 (.t 7) (.t 9)⟩, ⟨some 12, none, .load true 2 (.t 11)⟩, ⟨(some 5), none, (.alloc 68 [(.str ⟨#[]⟩), .nil])⟩, ⟨none, none, (.store 2 (.t 5) (.t 12))⟩]) (.reg [⟨some 13, none, .mv (.t 3)⟩, ⟨some 14, none, .load true 2 (.t 5)⟩, ⟨some 15, none, .call 85 [(.t 14)]⟩, ⟨some 16, none, .minmax true (.t 13) (.t 15)⟩, ⟨some 3, none, .mv (.t 16)⟩]))) (.reg [⟨some 17, none, .bin .add false (.t 9) (.c (.int .i64 1))⟩, ⟨some 9, none, .mv (.t 17)⟩]))))))) (.seq (.reg [⟨some 18, none, .mv (.t 3)⟩, ⟨some 19, none, .bin .add false (.t 18) (.c (.int .i64 1))⟩, ⟨some 2, none, .mv (.t 19)⟩]) .ret))))
theorem k_impl_depth : codeOf Tryz.prog 85 = some ⟨20, c_impl_depth, [(.tmp 2)]⟩ := by kernel_rfl
theorem m_impl_depth : modes 85 = ⟨[], .asis, none, false⟩ := by unfold modes; rfl
def c_spec_l1Most : SC := (.seq (.reg [⟨some 4, none, .mv (.c (.int .i64 0))⟩]) (.seq (.seq (.reg [⟨some 5, none, .mv (.t 0)⟩, ⟨some 6, none, .mv (.t 1)⟩, ⟨some 7, none, .bin .gtr false (.t 5) (.t 6)⟩]) (.cond (.t 7) (.seq (.reg [⟨some 8, none, .mv (.t 0)⟩, ⟨some 4, none, .mv (.t 8)⟩]) .ret) .skip)) (.seq (.reg [⟨some 9, none, .mv (.t 1)⟩, ⟨some 4, none, .mv (.t 9)⟩]) .ret)))
theorem k_spec_l1Most : codeOf Tryz.prog 100 = some ⟨10, c_spec_l1Most, [(.tmp 4)]⟩ := by kernel_rfl
theorem m_spec_l1Most : modes 100 = ⟨[], .asis, none, false⟩ := by unfold modes; rfl
def c_spec_l2Depth : SC := (.seq (.reg [⟨some 1, none, .boxv 68 2 (.t 0)⟩, ⟨some 2, none, .mv (.c (.int .i64 0))⟩]) (.seq (.reg [⟨some 3, none, .mv (.c (.int .i64 0))⟩]) (.seq (.seq (.reg [⟨some 4, none, .mv (.c (.int .i64 0))⟩]) (.block 0 (.loop [0, 1, 0, 1, 1, 0, 0, 0, 0, 0, 0, 0, 0, 0, 0, 0, 0, 0, 0, 0, 0, 0] (.seq (.seq (.reg [⟨some 5, none, .mv (.t 4)⟩, ⟨some 6, none, .faddr 1 (.t 1)⟩, ⟨some 7, none, .load false 1 (.t 6)⟩, ⟨some 8, none, .len false (.t 7)⟩, ⟨some 9, none, .bin .lss false (.t 5) (.t 8)⟩]) (.cond (.t 9) .skip (.exit 0))) (.seq (.block 1 (.reg [⟨some 12, none, .mv (.t 3)⟩, ⟨some 13, none, .faddr 1 (.t 1)⟩, ⟨some 14, none, .load false 1 (.t 13)⟩, ⟨some 15, none, .mv (.t 4)⟩, ⟨some 16, none, .iaddr 2 (.t 14) (.t 15)⟩, ⟨some 17, none, .load true 2 (.t 16)⟩, ⟨some 18, none, .call 81 [(.t 17)]⟩, ⟨some 19, none, .call 100 [(.t 12), (.t 18)]⟩, ⟨some 3, none, .mv (.t 19)⟩])) (.reg [⟨some 10, none, .mv (.t 4)⟩, ⟨some 11, none, .bin .add false (.t 10) (.c (.int .i64 1))⟩, ⟨some 4, none, .mv (.t 11)⟩])))))) (.seq (.reg [⟨some 20, none, .mv (.t 3)⟩, ⟨some 21, none, .bin .add false (.t 20) (.c (.int .i64 1))⟩, ⟨some 2, none, .mv (.t 21)⟩]) .ret))))
theorem k_spec_l2Depth : codeOf Tryz.prog 81 = some ⟨22, c_spec_l2Depth, [(.tmp 2)]⟩ := by kernel_rfl
theorem m_spec_l2Depth : modes 81 = ⟨[], .asis, none, false⟩ := by unfold modes; rfl
theorem l1Most_E (a b : Int) : E 100 [.int .i64 a, .int .i64 b] [] = some (.int .i64 (max a b), []) := by
  refine E_walk k_spec_l1Most m_spec_l1Most (of_decide_eq_true rfl) ?_
  simp (disch := omega) only [c_spec_l1Most, go_sem, go_cond, zA, zB, zC, zD, zE, zF, zG, zH, ↓reduceIte, zI, reduceCtorEq, zJ, zK]
  repeat' (refine boolP_split (fun hq => ?_) (fun hq => ?_) <;> (first | replace hq := dec_iff.1 hq | replace hq := dec_not.1 hq) <;> (try simp (disch := omega) only [go_sem, go_cond, zA, zB, zC, zD, zE, zF, zG, zH, ↓reduceIte, zI, reduceCtorEq, zJ, zK]))
  all_goals omega
set_option maxHeartbeats 1000000 in
theorem depth_of (x : Tm) (hn : x.nodes ≤ 1099511627776) (ih : ∀ y ∈ x.args, E 85 [y.sv] [] = some (.int .i64 y.deep, [])) : E 85 [x.sv] [] = some (.int .i64 x.deep, []) := by
  have hl := Tm.length_le x.args
  have hx := Tm.nodes_eq x
  have hd1 := Tm.deep_eq x
  have hd2 := Tm.deep_le_nodes x
  refine E_walk k_impl_depth m_impl_depth (of_decide_eq_true rfl) ?_
  simp (disch := omega) only [c_impl_depth, go_sem, go_cond, zA, zB, zC, zD, zE, zF, zG, zH, ↓reduceIte, zI, reduceCtorEq, zJ, zK]
  refine go_loop (α := Int × (Int)) (fun a => ⟨slots 20 0 [(3, .int .i64 (a.2)), (7, .arr (x.args.map Tm.d)), (8, .int .i64 x.args.length), (9, .int .i64 (a.1))], []⟩) (fun a => ∃ k : Nat, a.1 = k ∧ k ≤ (x.args).length ∧ 0 ≤ (a.2) ∧ max (a.2) (Tm.deepS (x.args.drop k) : Nat) = (Tm.deepS x.args : Nat)) (fun a => (x.args).length - (a.1).toNat) (0, 0) ⟨0, rfl, Nat.zero_le _, by dsimp only; omega, by rw [List.drop_zero]; dsimp only; omega⟩ (by simp (disch := omega) only [go_sem, go_cond, zA, zB, zC, zD, zE, zF, zG, zH, ↓reduceIte, zI, reduceCtorEq, zJ, zK]) ?_
  rintro ⟨i, n⟩ ⟨k, hi, hk, hR⟩
  dsimp only at hi hR
  have hni : i.toNat = k := by omega
  have hni1 : (i + 1).toNat = k + 1 := by omega
  rcases Nat.lt_or_ge k (x.args).length with hlt | hge
  · have hg := get_at Tm.d hlt
    rw [Tm.d_eq] at hg
    have hc := ih x.args[k] (List.getElem_mem hlt)
    rw [List.drop_eq_getElem_cons hlt, Tm.deepS] at hR
    simp (disch := omega) only [go_sem, go_cond, zA, zB, zC, zD, zE, zF, zG, zH, ↓reduceIte, zI, reduceCtorEq, zJ, zK, hni, hg, hc, m_impl_depth, max_bif]
    refine ⟨(i + 1, max n (x.args[k].deep : Int)), ⟨k + 1, by dsimp only; omega, hlt, by dsimp only; omega⟩, by dsimp only; omega, ?_⟩
    simp only [and_self]
  · rw [List.drop_eq_nil_of_le hge, Tm.deepS] at hR
    simp (disch := omega) only [go_sem, go_cond, zA, zB, zC, zD, zE, zF, zG, zH, ↓reduceIte, zI, reduceCtorEq, zJ, zK, hni]
    omega
theorem depth_E (x : Tm) (hn : x.nodes ≤ 1099511627776) : E 85 [x.sv] [] = some (.int .i64 x.deep, []) :=
  depth_of x hn fun y hy => depth_E y (by have := Tm.nodes_mem hy; have := Tm.nodes_eq x; omega)
termination_by SizeOf.sizeOf x
decreasing_by exact Tm.lt_of_mem hy
set_option maxHeartbeats 1000000 in
theorem l2Depth_of (x : Tm) (hn : x.nodes ≤ 1099511627776) (ih : ∀ y ∈ x.args, E 81 [y.sv] [] = some (.int .i64 y.deep, [])) : E 81 [x.sv] [] = some (.int .i64 x.deep, []) := by
  have hl := Tm.length_le x.args
  have hx := Tm.nodes_eq x
  have hd1 := Tm.deep_eq x
  have hd2 := Tm.deep_le_nodes x
  refine E_walk k_spec_l2Depth m_spec_l2Depth (of_decide_eq_true rfl) ?_
  simp (disch := omega) only [c_spec_l2Depth, go_sem, go_cond, zA, zB, zC, zD, zE, zF, zG, zH, ↓reduceIte, zI, reduceCtorEq, zJ, zK]
  refine go_loop (α := Int × (Int)) (fun a => ⟨slots 22 0 [(1, .ptr 0 0), (3, .int .i64 (a.2)), (4, .int .i64 (a.1))], [.box 68 [.str x.name, .arr (x.args.map Tm.d)]]⟩) (fun a => ∃ k : Nat, a.1 = k ∧ k ≤ (x.args).length ∧ 0 ≤ (a.2) ∧ max (a.2) (Tm.deepS (x.args.drop k) : Nat) = (Tm.deepS x.args : Nat)) (fun a => (x.args).length - (a.1).toNat) (0, 0) ⟨0, rfl, Nat.zero_le _, by dsimp only; omega, by rw [List.drop_zero]; dsimp only; omega⟩ (by simp (disch := omega) only [go_sem, go_cond, zA, zB, zC, zD, zE, zF, zG, zH, ↓reduceIte, zI, reduceCtorEq, zJ, zK]) ?_
  rintro ⟨i, n⟩ ⟨k, hi, hk, hR⟩
  dsimp only at hi hR
  have hni : i.toNat = k := by omega
  have hni1 : (i + 1).toNat = k + 1 := by omega
  rcases Nat.lt_or_ge k (x.args).length with hlt | hge
  · have hg := get_at Tm.d hlt
    rw [Tm.d_eq] at hg
    have hc := ih x.args[k] (List.getElem_mem hlt)
    rw [List.drop_eq_getElem_cons hlt, Tm.deepS] at hR
    simp (disch := omega) only [go_sem, go_cond, zA, zB, zC, zD, zE, zF, zG, zH, ↓reduceIte, zI, reduceCtorEq, zJ, zK, hni, hg, hc, m_spec_l2Depth, l1Most_E, m_spec_l1Most]
    refine ⟨(i + 1, max n (x.args[k].deep : Int)), ⟨k + 1, by dsimp only; omega, hlt, by dsimp only; omega⟩, by dsimp only; omega, ?_⟩
    simp only [and_self]
  · rw [List.drop_eq_nil_of_le hge, Tm.deepS] at hR
    simp (disch := omega) only [go_sem, go_cond, zA, zB, zC, zD, zE, zF, zG, zH, ↓reduceIte, zI, reduceCtorEq, zJ, zK, hni]
    omega
theorem l2Depth_E (x : Tm) (hn : x.nodes ≤ 1099511627776) : E 81 [x.sv] [] = some (.int .i64 x.deep, []) :=
  l2Depth_of x hn fun y hy => l2Depth_E y (by have := Tm.nodes_mem hy; have := Tm.nodes_eq x; omega)
termination_by SizeOf.sizeOf x
decreasing_by exact Tm.lt_of_mem hy
def c_slices_IndexFunc_impl_Term_impl_Term : SC := (.seq (.reg [⟨some 4, none, .mv (.c (.int .i64 0))⟩]) (.seq (.seq (.reg [⟨some 6, none, .mv (.t 0)⟩, ⟨some 7, none, .len false (.t 6)⟩, ⟨some 8, none, .mv (.c (.int .i64 0))⟩]) (.block 0 (.loop [1, 1, 0, 0, 0, 0, 0, 1, 1, 0, 0, 0, 0, 0, 0, 0, 0, 0, 0] (.seq (.reg [⟨some 9, none, .bin .lss false (.t 8) (.t 7)⟩]) (.seq (.cond (.t 9) .skip (.exit 0)) (.seq (.block 1 (.seq (.reg [⟨some 10, none, .mv (.t 8)⟩, ⟨some 5, none, .mv (.t 10)⟩]) (.seq (.reg [⟨some 11, none, .mv (.t 1)⟩, ⟨some 12, none, .mv (.t 0)⟩, ⟨some 13, none, .mv (.t 5)⟩, ⟨some 14, none, .iaddr 2 (.t 12) (.t 13)⟩, ⟨some 15, none, .load true 2 (.t 14)⟩, ⟨some 16, none, .callv (.t 11) [(.t 15)]⟩]) (.cond (.t 16) (.seq (.reg [⟨some 17, none, .mv (.t 5)⟩, ⟨some 4, none, .mv (.t 17)⟩]) .ret) .skip)))) (.reg [⟨some 18, none, .bin .add false (.t 8) (.c (.int .i64 1))⟩, ⟨some 8, none, .mv (.t 18)⟩]))))))) (.seq (.reg [⟨some 4, none, .mv (.c (.int .i64 (-(0 + 1))))⟩]) .ret)))
theorem k_slices_IndexFunc_impl_Term_impl_Term : codeOf Tryz.prog 103 = some ⟨19, c_slices_IndexFunc_impl_Term_impl_Term, [(.tmp 4)]⟩ := by kernel_rfl
theorem m_slices_IndexFunc_impl_Term_impl_Term : modes 103 = ⟨[], .asis, none, false⟩ := by unfold modes; rfl
def c_slices_ContainsFunc_impl_Term_impl_Term : SC := (.seq (.reg [⟨some 4, none, .mv (.c (.bool false))⟩]) (.seq (.reg [⟨some 5, none, .mv (.t 0)⟩, ⟨some 6, none, .mv (.t 1)⟩, ⟨some 7, none, .call 103 [(.t 5), (.t 6)]⟩, ⟨some 8, none, .bin .geq false (.t 7) (.c (.int .i64 0))⟩, ⟨some 4, none, .mv (.t 8)⟩]) .ret))
theorem k_slices_ContainsFunc_impl_Term_impl_Term : codeOf Tryz.prog 87 = some ⟨9, c_slices_ContainsFunc_impl_Term_impl_Term, [(.tmp 4)]⟩ := by kernel_rfl
theorem m_slices_ContainsFunc_impl_Term_impl_Term : modes 87 = ⟨[], .asis, none, false⟩ := by unfold modes; rfl
theorem indexFunc_terms (fid : Nat) (p : Tm → Bool) (xs : List Tm) (hl : xs.length ≤ 1099511627776) (hg : goFn Tryz.prog fid = true) (hm : (modes fid).hand = []) (hE : ∀ x ∈ xs, E fid [x.sv] [] = some (.bool (p x), [])) : E 103 [.arr (xs.map Tm.d), .fn fid []] [] = some (.int .i64 (idxP p xs 0), []) := by
  refine E_walk k_slices_IndexFunc_impl_Term_impl_Term m_slices_IndexFunc_impl_Term_impl_Term (of_decide_eq_true rfl) ?_
  simp (disch := omega) only [c_slices_IndexFunc_impl_Term_impl_Term, go_sem, go_cond, zA, zB, zC, zD, zE, zF, zG, zH, ↓reduceIte, zI, reduceCtorEq, zJ, zK]
  refine go_loop (α := Int) (fun a => ⟨slots 19 0 [(0, .arr (xs.map Tm.d)), (1, .fn fid []), (7, .int .i64 xs.length), (8, .int .i64 a)], []⟩) (fun a => ∃ k : Nat, a = k ∧ k ≤ (xs).length ∧ idxP p (xs.drop k) a = idxP p xs 0) (fun a => (xs).length - (a).toNat) 0 ⟨0, rfl, Nat.zero_le _, by rw [List.drop_zero]⟩ (by simp (disch := omega) only [go_sem, go_cond, zA, zB, zC, zD, zE, zF, zG, zH, ↓reduceIte, zI, reduceCtorEq, zJ, zK]) ?_
  rintro i ⟨k, hi, hk, hR⟩
  have hni : i.toNat = k := by omega
  have hni1 : (i + 1).toNat = k + 1 := by omega
  rcases Nat.lt_or_ge k (xs).length with hlt | hge
  · have hg' := get_at Tm.d hlt
    rw [Tm.d_eq] at hg'
    have hc := hE xs[k] (List.getElem_mem hlt)
    rw [List.drop_eq_getElem_cons hlt, idxP] at hR
    cases hp : p xs[k] with
    | true =>
      rw [hp] at hc hR
      simp (disch := omega) only [go_sem, go_cond, zA, zB, zC, zD, zE, zF, zG, zH, ↓reduceIte, zI, reduceCtorEq, zJ, zK, hni, hg', hc, hg, hm]
      simpa using hR
    | false =>
      rw [hp] at hc hR
      simp (disch := omega) only [go_sem, go_cond, zA, zB, zC, zD, zE, zF, zG, zH, ↓reduceIte, zI, reduceCtorEq, zJ, zK, hni, hg', hc, hg, hm]
      exact ⟨i + 1, ⟨k + 1, by omega, hlt, by simpa using hR⟩, by omega, by first | trivial | rfl⟩
  · rw [List.drop_eq_nil_of_le hge, idxP] at hR
    simp (disch := omega) only [go_sem, go_cond, zA, zB, zC, zD, zE, zF, zG, zH, ↓reduceIte, zI, reduceCtorEq, zJ, zK, hni]
    exact hR
theorem containsFunc_terms (fid : Nat) (p : Tm → Bool) (xs : List Tm) (hl : xs.length ≤ 1099511627776) (hg : goFn Tryz.prog fid = true) (hm : (modes fid).hand = []) (hE : ∀ x ∈ xs, E fid [x.sv] [] = some (.bool (p x), [])) : E 87 [.arr (xs.map Tm.d), .fn fid []] [] = some (.bool (xs.any p), []) := by
  have h := indexFunc_terms fid p xs hl hg hm hE
  refine E_walk k_slices_ContainsFunc_impl_Term_impl_Term m_slices_ContainsFunc_impl_Term_impl_Term (of_decide_eq_true rfl) ?_
  simp (disch := omega) only [c_slices_ContainsFunc_impl_Term_impl_Term, go_sem, go_cond, zA, zB, zC, zD, zE, zF, zG, zH, ↓reduceIte, zI, reduceCtorEq, zJ, zK, h, m_slices_IndexFunc_impl_Term_impl_Term]
  rw [idxP_any]
def c_impl_hasNames : SC := (.seq (.reg [⟨some 1, none, .boxv 68 2 (.t 0)⟩, ⟨some 2, none, .mv (.c (.bool false))⟩]) (.seq (.seq (.reg [⟨some 3, none, .faddr 0 (.t 1)⟩, ⟨some 4, none, .load false 1 (.t 3)⟩, ⟨some 5, none, .call 40 [(.t 4)]⟩]) (.cond (.t 5) (.seq (.reg [⟨some 6, none, .faddr 1 (.t 1)⟩, ⟨some 7, none, .load false 1 (.t 6)⟩, ⟨some 8, none, .len false (.t 7)⟩, ⟨some 9, none, .bin .eql false (.t 8) (.c (.int .i64 0))⟩, ⟨some 2, none, .mv (.t 9)⟩]) .ret) .skip)) (.seq (.reg [⟨some 10, none, .faddr 0 (.t 1)⟩, ⟨some 11, none, .load false 1 (.t 10)⟩, ⟨some 12, none, .call 86 [(.t 11)]⟩, ⟨some 13, none, .mv (.t 12)⟩, ⟨(some 14), (some (13, true)), (.faddr 1 (.t 1))⟩, ⟨(some 15), (some (13, true)), (.load false 1 (.t 14))⟩, ⟨(some 16), (some (13, true)), (.len false (.t 15))⟩, ⟨(some 17), (some (13, true)), (.bin .leq false (.t 16) (.c (.int .i64 4)))⟩, ⟨some 18, none, .pick (.t 13) (.t 17) (.c (.bool false))⟩, ⟨some 19, none, .mv (.t 18)⟩, ⟨(some 20), (some (19, true)), (.faddr 1 (.t 1))⟩, ⟨(some 21), (some (19, true)), (.load false 1 (.t 20))⟩, ⟨(some 22), (some (19, true)), (.call 87 [(.t 21), (.c (.fn 88 []))])⟩, ⟨(some 23), (some (19, true)), (.un .not (.t 22))⟩, ⟨some 24, none, .pick (.t 19) (.t 23) (.c (.bool false))⟩, ⟨some 2, none, .mv (.t 24)⟩]) .ret)))
theorem k_impl_hasNames : codeOf Tryz.prog 67 = some ⟨25, c_impl_hasNames, [(.tmp 2)]⟩ := by kernel_rfl
theorem m_impl_hasNames : modes 67 = ⟨[], .asis, none, false⟩ := by unfold modes; rfl
def c_impl_hasNames_1 : SC := (.seq (.reg [⟨some 1, none, .boxv 68 2 (.t 0)⟩, ⟨some 2, none, .mv (.c (.bool false))⟩]) (.seq (.reg [⟨some 3, none, .load true 2 (.t 1)⟩, ⟨some 4, none, .call 67 [(.t 3)]⟩, ⟨some 5, none, .un .not (.t 4)⟩, ⟨some 2, none, .mv (.t 5)⟩]) .ret))
theorem k_impl_hasNames_1 : codeOf Tryz.prog 88 = some ⟨6, c_impl_hasNames_1, [(.tmp 2)]⟩ := by kernel_rfl
theorem m_impl_hasNames_1 : modes 88 = ⟨[], .asis, none, false⟩ := by unfold modes; rfl
theorem g_impl_hasNames_1 : goFn Tryz.prog 88 = true := by kernel_rfl
theorem Tm.any_not (xs : List Tm) : (!xs.any fun y => !y.names) = Tm.nameS xs := by
  rw [Tm.nameS_all]
  induction xs with
  | nil => rfl
  | cons x xs ih => simp only [List.any_cons, List.all_cons, Bool.not_or, Bool.not_not, ih]
set_option maxHeartbeats 1000000 in
theorem hasNames_of (x : Tm) (hn : x.nodes ≤ 1099511627776) (ih : ∀ y ∈ x.args, E 67 [y.sv] [] = some (.bool y.names, [])) : E 67 [x.sv] [] = some (.bool x.names, []) := by
  have hl := Tm.length_le x.args
  have hx := Tm.nodes_eq x
  have h1 : ∀ y ∈ x.args, E 88 [y.sv] [] = some (.bool (!y.names), []) := fun y hy => by
    have h := ih y hy
    refine E_walk k_impl_hasNames_1 m_impl_hasNames_1 (of_decide_eq_true rfl) ?_
    simp (disch := omega) only [c_impl_hasNames_1, go_sem, go_cond, zA, zB, zC, zD, zE, zF, zG, zH, ↓reduceIte, zI, reduceCtorEq, zJ, zK, h, m_impl_hasNames]
  have h2 := containsFunc_terms 88 (fun y => !y.names) x.args (by omega) g_impl_hasNames_1 (by rw [m_impl_hasNames_1]) h1
  rw [Tm.names_eq, ← Tm.any_not]
  cases hv : varB x.name with
  | true =>
    have h3 := isVariable_E x.name
    rw [hv] at h3
    refine E_walk k_impl_hasNames m_impl_hasNames (of_decide_eq_true rfl) ?_
    simp (disch := omega) only [c_impl_hasNames, go_sem, go_cond, zA, zB, zC, zD, zE, zF, zG, zH, ↓reduceIte, zI, reduceCtorEq, zJ, zK, h3, m_impl_isVariable]
    rw [dec_of]; cases x.args <;> simp <;> omega
  | false =>
    have h3 := isVariable_E x.name
    rw [hv] at h3
    have h4 := isSymbol_E x.name
    cases hs : symB x.name with
    | false =>
      rw [hs] at h4
      refine E_walk k_impl_hasNames m_impl_hasNames (of_decide_eq_true rfl) ?_
      simp (disch := omega) only [c_impl_hasNames, go_sem, go_cond, zA, zB, zC, zD, zE, zF, zG, zH, ↓reduceIte, zI, reduceCtorEq, zJ, zK, h2, h3, h4, m_impl_isVariable, m_impl_isSymbol]
    | true =>
      rw [hs] at h4
      rcases Nat.lt_or_ge 4 x.args.length with h5 | h5
      · refine E_walk k_impl_hasNames m_impl_hasNames (of_decide_eq_true rfl) ?_
        simp (disch := omega) only [c_impl_hasNames, go_sem, go_cond, zA, zB, zC, zD, zE, zF, zG, zH, ↓reduceIte, zI, reduceCtorEq, zJ, zK, h2, h3, h4, m_impl_isVariable, m_impl_isSymbol]
        simp; omega
      · refine E_walk k_impl_hasNames m_impl_hasNames (of_decide_eq_true rfl) ?_
        simp (disch := omega) only [c_impl_hasNames, go_sem, go_cond, zA, zB, zC, zD, zE, zF, zG, zH, ↓reduceIte, zI, reduceCtorEq, zJ, zK, h2, h3, h4, m_impl_isVariable, m_impl_isSymbol, m_slices_ContainsFunc_impl_Term_impl_Term]
        simp [h5]
theorem hasNames_E (x : Tm) (hn : x.nodes ≤ 1099511627776) : E 67 [x.sv] [] = some (.bool x.names, []) :=
  hasNames_of x hn fun y hy => hasNames_E y (by have := Tm.nodes_mem hy; have := Tm.nodes_eq x; omega)
termination_by SizeOf.sizeOf x
decreasing_by exact Tm.lt_of_mem hy
def c_spec_l2Nodes : SC := (.seq (.reg [⟨some 1, none, .boxv 68 2 (.t 0)⟩, ⟨some 2, none, .mv (.c (.bool false))⟩]) (.seq (.seq (.reg [⟨some 4, none, .faddr 0 (.t 1)⟩, ⟨some 5, none, .load false 1 (.t 4)⟩, ⟨some 6, none, .call 32 [(.t 5)]⟩]) (.cond (.t 6) (.seq (.reg [⟨some 7, none, .faddr 1 (.t 1)⟩, ⟨some 8, none, .load false 1 (.t 7)⟩, ⟨some 9, none, .len false (.t 8)⟩, ⟨some 10, none, .bin .eql false (.t 9) (.c (.int .i64 0))⟩, ⟨some 2, none, .mv (.t 10)⟩]) .ret) .skip)) (.seq (.seq (.reg [⟨some 11, none, .faddr 0 (.t 1)⟩, ⟨some 12, none, .load false 1 (.t 11)⟩, ⟨some 13, none, .call 57 [(.t 12)]⟩, ⟨some 14, none, .un .not (.t 13)⟩, ⟨some 15, none, .mv (.t 14)⟩, ⟨(some 16), (some (15, false)), (.faddr 1 (.t 1))⟩, ⟨(some 17), (some (15, false)), (.load false 1 (.t 16))⟩, ⟨(some 18), (some (15, false)), (.len false (.t 17))⟩, ⟨(some 19), (some (15, false)), (.bin .gtr false (.t 18) (.c (.int .i64 4)))⟩, ⟨some 20, none, .pick (.t 15) (.c (.bool true)) (.t 19)⟩]) (.cond (.t 20) (.seq (.reg [⟨some 2, none, .mv (.c (.bool false))⟩]) .ret) .skip)) (.seq (.seq (.reg [⟨some 3, none, .mv (.c (.int .i64 0))⟩]) (.block 0 (.loop [0, 1, 0, 1, 0, 0, 0, 0, 0, 0, 0, 0, 0, 0, 0, 0, 0, 0, 0, 0, 0, 0, 0, 0, 0, 0, 0, 0, 0, 0, 0, 0, 0, 0, 0] (.seq (.seq (.reg [⟨some 21, none, .mv (.t 3)⟩, ⟨some 22, none, .faddr 1 (.t 1)⟩, ⟨some 23, none, .load false 1 (.t 22)⟩, ⟨some 24, none, .len false (.t 23)⟩, ⟨some 25, none, .bin .lss false (.t 21) (.t 24)⟩]) (.cond (.t 25) .skip (.exit 0))) (.seq (.block 1 (.seq (.reg [⟨some 28, none, .faddr 1 (.t 1)⟩, ⟨some 29, none, .load false 1 (.t 28)⟩, ⟨some 30, none, .mv (.t 3)⟩, ⟨some 31, none, .iaddr 2 (.t 29) (.t 30)⟩, ⟨some 32, none, .load true 2 (.t 31)⟩, ⟨some 33, none, .call 56 [(.t 32)]⟩, ⟨some 34, none, .un .not (.t 33)⟩]) (.cond (.t 34) (.seq (.reg [⟨some 2, none, .mv (.c (.bool false))⟩]) .ret) .skip))) (.reg [⟨some 26, none, .mv (.t 3)⟩, ⟨some 27, none, .bin .add false (.t 26) (.c (.int .i64 1))⟩, ⟨some 3, none, .mv (.t 27)⟩])))))) (.seq (.reg [⟨some 2, none, .mv (.c (.bool true))⟩]) .ret)))))
theorem k_spec_l2Nodes : codeOf Tryz.prog 56 = some ⟨35, c_spec_l2Nodes, [(.tmp 2)]⟩ := by kernel_rfl
theorem m_spec_l2Nodes : modes 56 = ⟨[], .asis, none, false⟩ := by unfold modes; rfl
set_option maxHeartbeats 1000000 in
theorem l2Nodes_of (x : Tm) (hn : x.nodes ≤ 1099511627776) (ih : ∀ y ∈ x.args, E 56 [y.sv] [] = some (.bool y.names, [])) : E 56 [x.sv] [] = some (.bool x.names, []) := by
  have hl := Tm.length_le x.args
  have hx := Tm.nodes_eq x
  have h3 := l2Var_E x.name
  have h4 := l2Symbol_E x.name
  rw [Tm.names_eq]
  cases hv : varB x.name with
  | true =>
    rw [hv] at h3
    refine E_walk k_spec_l2Nodes m_spec_l2Nodes (of_decide_eq_true rfl) ?_
    simp (disch := omega) only [c_spec_l2Nodes, go_sem, go_cond, zA, zB, zC, zD, zE, zF, zG, zH, ↓reduceIte, zI, reduceCtorEq, zJ, zK, h3, m_spec_l2Var]
    rw [dec_of]; cases x.args <;> simp <;> omega
  | false =>
    rw [hv] at h3
    cases hs : symB x.name with
    | false =>
      rw [hs] at h4
      refine E_walk k_spec_l2Nodes m_spec_l2Nodes (of_decide_eq_true rfl) ?_
      simp (disch := omega) only [c_spec_l2Nodes, go_sem, go_cond, zA, zB, zC, zD, zE, zF, zG, zH, ↓reduceIte, zI, reduceCtorEq, zJ, zK, h3, h4, m_spec_l2Var, m_spec_l2Symbol]
    | true =>
      rw [hs] at h4
      rcases Nat.lt_or_ge 4 x.args.length with h5 | h5
      · refine E_walk k_spec_l2Nodes m_spec_l2Nodes (of_decide_eq_true rfl) ?_
        simp (disch := omega) only [c_spec_l2Nodes, go_sem, go_cond, zA, zB, zC, zD, zE, zF, zG, zH, ↓reduceIte, zI, reduceCtorEq, zJ, zK, h3, h4, m_spec_l2Var, m_spec_l2Symbol]
        simp; omega
      · refine E_walk k_spec_l2Nodes m_spec_l2Nodes (of_decide_eq_true rfl) ?_
        simp (disch := omega) only [c_spec_l2Nodes, go_sem, go_cond, zA, zB, zC, zD, zE, zF, zG, zH, ↓reduceIte, zI, reduceCtorEq, zJ, zK, h3, h4, m_spec_l2Var, m_spec_l2Symbol]
        refine go_loop (α := Int) (fun a => ⟨slots 35 0 [(1, .ptr 0 0), (3, .int .i64 a)], [.box 68 [.str x.name, .arr (x.args.map Tm.d)]]⟩) (fun a => ∃ k : Nat, a = k ∧ k ≤ (x.args).length ∧ Tm.nameS (x.args.drop k) = Tm.nameS x.args) (fun a => (x.args).length - (a).toNat) 0 ⟨0, rfl, Nat.zero_le _, by rw [List.drop_zero]⟩ (by simp (disch := omega) only [go_sem, go_cond, zA, zB, zC, zD, zE, zF, zG, zH, ↓reduceIte, zI, reduceCtorEq, zJ, zK]) ?_
        rintro i ⟨k, hi, hk, hR⟩
        have hni : i.toNat = k := by omega
        have hni1 : (i + 1).toNat = k + 1 := by omega
        rcases Nat.lt_or_ge k (x.args).length with hlt | hge
        · have hg := get_at Tm.d hlt
          rw [Tm.d_eq] at hg
          have hc := ih x.args[k] (List.getElem_mem hlt)
          rw [List.drop_eq_getElem_cons hlt, Tm.nameS] at hR
          cases hp : x.args[k].names with
          | true =>
            rw [hp] at hc hR
            simp (disch := omega) only [go_sem, go_cond, zA, zB, zC, zD, zE, zF, zG, zH, ↓reduceIte, zI, reduceCtorEq, zJ, zK, hni, hg, hc, m_spec_l2Nodes]
            exact ⟨i + 1, ⟨k + 1, by omega, hlt, by simpa using hR⟩, by omega, by first | trivial | rfl⟩
          | false =>
            rw [hp] at hc hR
            simp (disch := omega) only [go_sem, go_cond, zA, zB, zC, zD, zE, zF, zG, zH, ↓reduceIte, zI, reduceCtorEq, zJ, zK, hni, hg, hc, m_spec_l2Nodes]
            simp at hR ⊢; exact fun _ => hR
        · rw [List.drop_eq_nil_of_le hge, Tm.nameS] at hR
          simp (disch := omega) only [go_sem, go_cond, zA, zB, zC, zD, zE, zF, zG, zH, ↓reduceIte, zI, reduceCtorEq, zJ, zK, hni]
          simp [h5, ← hR]
theorem l2Nodes_E (x : Tm) (hn : x.nodes ≤ 1099511627776) : E 56 [x.sv] [] = some (.bool x.names, []) :=
  l2Nodes_of x hn fun y hy => l2Nodes_E y (by have := Tm.nodes_mem hy; have := Tm.nodes_eq x; omega)
termination_by SizeOf.sizeOf x
decreasing_by exact Tm.lt_of_mem hy
def c_impl_isSmall : SC := (.seq (.reg [⟨some 1, none, .boxv 68 2 (.t 0)⟩, ⟨some 2, none, .mv (.c (.bool false))⟩]) (.seq (.reg [⟨some 3, none, .load true 2 (.t 1)⟩, ⟨some 4, none, .call 84 [(.t 3)]⟩, ⟨some 5, none, .bin .leq false (.t 4) (.c (.int .i64 30))⟩, ⟨some 6, none, .mv (.t 5)⟩, ⟨(some 7), (some (6, true)), (.load true 2 (.t 1))⟩, ⟨(some 8), (some (6, true)), (.call 85 [(.t 7)])⟩, ⟨(some 9), (some (6, true)), (.bin .leq false (.t 8) (.c (.int .i64 8)))⟩, ⟨some 10, none, .pick (.t 6) (.t 9) (.c (.bool false))⟩, ⟨some 2, none, .mv (.t 10)⟩]) .ret))
theorem k_impl_isSmall : codeOf Tryz.prog 66 = some ⟨11, c_impl_isSmall, [(.tmp 2)]⟩ := by kernel_rfl
theorem m_impl_isSmall : modes 66 = ⟨[], .asis, none, false⟩ := by unfold modes; rfl
def c_spec_l2Fits : SC := (.seq (.reg [⟨some 1, none, .boxv 68 2 (.t 0)⟩, ⟨some 2, none, .mv (.c (.bool false))⟩]) (.seq (.reg [⟨some 3, none, .load true 2 (.t 1)⟩, ⟨some 4, none, .call 80 [(.t 3), (.c (.int .i64 30))]⟩, ⟨some 5, none, .bin .leq false (.t 4) (.c (.int .i64 30))⟩, ⟨some 6, none, .mv (.t 5)⟩, ⟨(some 7), (some (6, true)), (.load true 2 (.t 1))⟩, ⟨(some 8), (some (6, true)), (.call 81 [(.t 7)])⟩, ⟨(some 9), (some (6, true)), (.bin .leq false (.t 8) (.c (.int .i64 8)))⟩, ⟨some 10, none, .pick (.t 6) (.t 9) (.c (.bool false))⟩, ⟨some 2, none, .mv (.t 10)⟩]) .ret))
theorem k_spec_l2Fits : codeOf Tryz.prog 55 = some ⟨11, c_spec_l2Fits, [(.tmp 2)]⟩ := by kernel_rfl
theorem m_spec_l2Fits : modes 55 = ⟨[], .asis, none, false⟩ := by unfold modes; rfl
def c_impl_IsValidTerm : SC := (.seq (.reg [⟨some 1, none, .boxv 68 2 (.t 0)⟩, ⟨some 2, none, .mv (.c (.bool false))⟩]) (.seq (.reg [⟨some 3, none, .load true 2 (.t 1)⟩, ⟨some 4, none, .call 66 [(.t 3)]⟩, ⟨some 5, none, .mv (.t 4)⟩, ⟨(some 6), (some (5, true)), (.load true 2 (.t 1))⟩, ⟨(some 7), (some (5, true)), (.call 67 [(.t 6)])⟩, ⟨some 8, none, .pick (.t 5) (.t 7) (.c (.bool false))⟩, ⟨some 2, none, .mv (.t 8)⟩]) .ret))
theorem k_impl_IsValidTerm : codeOf Tryz.prog 41 = some ⟨9, c_impl_IsValidTerm, [(.tmp 2)]⟩ := by kernel_rfl
theorem m_impl_IsValidTerm : modes 41 = ⟨[], .asis, none, false⟩ := by unfold modes; rfl
def c_spec_l2Good : SC := (.seq (.reg [⟨some 1, none, .boxv 68 2 (.t 0)⟩, ⟨some 2, none, .mv (.c (.bool false))⟩]) (.seq (.reg [⟨some 3, none, .load true 2 (.t 1)⟩, ⟨some 4, none, .call 55 [(.t 3)]⟩, ⟨some 5, none, .mv (.t 4)⟩, ⟨(some 6), (some (5, true)), (.load true 2 (.t 1))⟩, ⟨(some 7), (some (5, true)), (.call 56 [(.t 6)])⟩, ⟨some 8, none, .pick (.t 5) (.t 7) (.c (.bool false))⟩, ⟨some 2, none, .mv (.t 8)⟩]) .ret))
theorem k_spec_l2Good : codeOf Tryz.prog 33 = some ⟨9, c_spec_l2Good, [(.tmp 2)]⟩ := by kernel_rfl
theorem m_spec_l2Good : modes 33 = ⟨[], .asis, none, false⟩ := by unfold modes; rfl
def c_impl_isEquality : SC := (.seq (.reg [⟨some 1, none, .boxv 68 2 (.t 0)⟩, ⟨some 2, none, .mv (.c (.bool false))⟩]) (.seq (.reg [⟨some 3, none, .faddr 0 (.t 1)⟩, ⟨some 4, none, .load false 1 (.t 3)⟩, ⟨(some 5), none, (.bin .eql false (.t 4) (.c (.str ⟨#[61]⟩)))⟩, ⟨some 2, none, .mv (.t 5)⟩]) .ret))
theorem k_impl_isEquality : codeOf Tryz.prog 89 = some ⟨6, c_impl_isEquality, [(.tmp 2)]⟩ := by kernel_rfl
theorem m_impl_isEquality : modes 89 = ⟨[], .asis, none, false⟩ := by unfold modes; rfl
def c_impl_IsValidAtom : SC := (.seq (.reg [⟨some 1, none, .boxv 68 2 (.t 0)⟩, ⟨some 2, none, .mv (.c (.bool false))⟩]) (.seq (.seq (.reg [⟨some 3, none, .load true 2 (.t 1)⟩, ⟨some 4, none, .call 89 [(.t 3)]⟩]) (.cond (.t 4) (.seq (.reg [⟨some 5, none, .faddr 1 (.t 1)⟩, ⟨some 6, none, .load false 1 (.t 5)⟩, ⟨some 7, none, .len false (.t 6)⟩, ⟨some 8, none, .bin .eql false (.t 7) (.c (.int .i64 2))⟩, ⟨some 9, none, .mv (.t 8)⟩, ⟨(some 10), (some (9, true)), (.load true 2 (.t 1))⟩, ⟨(some 11), (some (9, true)), (.call 66 [(.t 10)])⟩, ⟨some 12, none, .pick (.t 9) (.t 11) (.c (.bool false))⟩, ⟨some 13, none, .mv (.t 12)⟩, ⟨(some 14), (some (13, true)), (.faddr 1 (.t 1))⟩, ⟨(some 15), (some (13, true)), (.load false 1 (.t 14))⟩, ⟨(some 16), (some (13, true)), (.iaddr 2 (.t 15) (.c (.int .i64 0)))⟩, ⟨(some 17), (some (13, true)), (.load true 2 (.t 16))⟩, ⟨(some 18), (some (13, true)), (.call 67 [(.t 17)])⟩, ⟨some 19, none, .pick (.t 13) (.t 18) (.c (.bool false))⟩, ⟨some 20, none, .mv (.t 19)⟩, ⟨(some 21), (some (20, true)), (.faddr 1 (.t 1))⟩, ⟨(some 22), (some (20, true)), (.load false 1 (.t 21))⟩, ⟨(some 23), (some (20, true)), (.iaddr 2 (.t 22) (.c (.int .i64 1)))⟩, ⟨(some 24), (some (20, true)), (.load true 2 (.t 23))⟩, ⟨(some 25), (some (20, true)), (.call 67 [(.t 24)])⟩, ⟨some 26, none, .pick (.t 20) (.t 25) (.c (.bool false))⟩, ⟨some 2, none, .mv (.t 26)⟩]) .ret) .skip)) (.seq (.reg [⟨some 27, none, .faddr 0 (.t 1)⟩, ⟨some 28, none, .load false 1 (.t 27)⟩, ⟨some 29, none, .call 86 [(.t 28)]⟩, ⟨some 30, none, .mv (.t 29)⟩, ⟨(some 31), (some (30, true)), (.load true 2 (.t 1))⟩, ⟨(some 32), (some (30, true)), (.call 41 [(.t 31)])⟩, ⟨some 33, none, .pick (.t 30) (.t 32) (.c (.bool false))⟩, ⟨some 2, none, .mv (.t 33)⟩]) .ret)))
theorem k_impl_IsValidAtom : codeOf Tryz.prog 68 = some ⟨34, c_impl_IsValidAtom, [(.tmp 2)]⟩ := by kernel_rfl
theorem m_impl_IsValidAtom : modes 68 = ⟨[], .asis, none, false⟩ := by unfold modes; rfl
def c_spec_l2Atom : SC := (.seq (.reg [⟨some 1, none, .boxv 68 2 (.t 0)⟩, ⟨some 2, none, .mv (.c (.bool false))⟩]) (.seq (.seq (.reg [⟨some 3, none, .faddr 0 (.t 1)⟩, ⟨some 4, none, .load false 1 (.t 3)⟩, ⟨(some 5), none, (.bin .eql false (.t 4) (.c (.str ⟨#[61]⟩)))⟩]) (.cond (.t 5) (.seq (.reg [⟨some 6, none, .faddr 1 (.t 1)⟩, ⟨some 7, none, .load false 1 (.t 6)⟩, ⟨some 8, none, .len false (.t 7)⟩, ⟨some 9, none, .bin .eql false (.t 8) (.c (.int .i64 2))⟩, ⟨some 10, none, .mv (.t 9)⟩, ⟨(some 11), (some (10, true)), (.load true 2 (.t 1))⟩, ⟨(some 12), (some (10, true)), (.call 55 [(.t 11)])⟩, ⟨some 13, none, .pick (.t 10) (.t 12) (.c (.bool false))⟩, ⟨some 14, none, .mv (.t 13)⟩, ⟨(some 15), (some (14, true)), (.faddr 1 (.t 1))⟩, ⟨(some 16), (some (14, true)), (.load false 1 (.t 15))⟩, ⟨(some 17), (some (14, true)), (.iaddr 2 (.t 16) (.c (.int .i64 0)))⟩, ⟨(some 18), (some (14, true)), (.load true 2 (.t 17))⟩, ⟨(some 19), (some (14, true)), (.call 56 [(.t 18)])⟩, ⟨some 20, none, .pick (.t 14) (.t 19) (.c (.bool false))⟩, ⟨some 21, none, .mv (.t 20)⟩, ⟨(some 22), (some (21, true)), (.faddr 1 (.t 1))⟩, ⟨(some 23), (some (21, true)), (.load false 1 (.t 22))⟩, ⟨(some 24), (some (21, true)), (.iaddr 2 (.t 23) (.c (.int .i64 1)))⟩, ⟨(some 25), (some (21, true)), (.load true 2 (.t 24))⟩, ⟨(some 26), (some (21, true)), (.call 56 [(.t 25)])⟩, ⟨some 27, none, .pick (.t 21) (.t 26) (.c (.bool false))⟩, ⟨some 2, none, .mv (.t 27)⟩]) .ret) .skip)) (.seq (.reg [⟨some 28, none, .faddr 0 (.t 1)⟩, ⟨some 29, none, .load false 1 (.t 28)⟩, ⟨some 30, none, .call 57 [(.t 29)]⟩, ⟨some 31, none, .mv (.t 30)⟩, ⟨(some 32), (some (31, true)), (.load true 2 (.t 1))⟩, ⟨(some 33), (some (31, true)), (.call 33 [(.t 32)])⟩, ⟨some 34, none, .pick (.t 31) (.t 33) (.c (.bool false))⟩, ⟨some 2, none, .mv (.t 34)⟩]) .ret)))
theorem k_spec_l2Atom : codeOf Tryz.prog 34 = some ⟨35, c_spec_l2Atom, [(.tmp 2)]⟩ := by kernel_rfl
theorem m_spec_l2Atom : modes 34 = ⟨[], .asis, none, false⟩ := by unfold modes; rfl
theorem isSmall_E (x : Tm) (hn : x.nodes ≤ 1099511627776) : E 66 [x.sv] [] = some (.bool x.small, []) := by
  have h1 := size_E x hn
  have h2 := depth_E x hn
  have h3 := Tm.cap_spec x
  have h4 := Tm.many_spec x 30
  unfold Tm.small
  rcases Nat.lt_or_ge 30 x.nodes with h5 | h5
  · rw [decide_eq_false (by omega), Bool.false_and]
    refine E_walk k_impl_isSmall m_impl_isSmall (of_decide_eq_true rfl) ?_
    simp (disch := omega) only [c_impl_isSmall, go_sem, go_cond, zA, zB, zC, zD, zE, zF, zG, zH, ↓reduceIte, zI, reduceCtorEq, zJ, zK, h1, h2, m_impl_size, m_impl_depth]
  · rw [decide_eq_true h5, Bool.true_and]
    refine E_walk k_impl_isSmall m_impl_isSmall (of_decide_eq_true rfl) ?_
    simp (disch := omega) only [c_impl_isSmall, go_sem, go_cond, zA, zB, zC, zD, zE, zF, zG, zH, ↓reduceIte, zI, reduceCtorEq, zJ, zK, h1, h2, m_impl_size, m_impl_depth]
    rcases Nat.lt_or_ge 8 x.deep with h6 | h6
    · rw [decide_eq_false (by omega), dec_f (by omega)]
    · rw [decide_eq_true h6, dec_t (by omega)]
theorem l2Fits_E (x : Tm) (hn : x.nodes ≤ 1099511627776) : E 55 [x.sv] [] = some (.bool x.small, []) := by
  have h1 := many_E x 30 (by omega) (by omega) hn
  have h2 := l2Depth_E x hn
  have h3 := Tm.cap_spec x
  have h4 := Tm.many_spec x 30
  unfold Tm.small
  rcases Nat.lt_or_ge 30 x.nodes with h5 | h5
  · rw [decide_eq_false (by omega), Bool.false_and]
    refine E_walk k_spec_l2Fits m_spec_l2Fits (of_decide_eq_true rfl) ?_
    simp (disch := omega) only [c_spec_l2Fits, go_sem, go_cond, zA, zB, zC, zD, zE, zF, zG, zH, ↓reduceIte, zI, reduceCtorEq, zJ, zK, h1, h2, m_spec_l2Many, m_spec_l2Depth]
  · rw [decide_eq_true h5, Bool.true_and]
    refine E_walk k_spec_l2Fits m_spec_l2Fits (of_decide_eq_true rfl) ?_
    simp (disch := omega) only [c_spec_l2Fits, go_sem, go_cond, zA, zB, zC, zD, zE, zF, zG, zH, ↓reduceIte, zI, reduceCtorEq, zJ, zK, h1, h2, m_spec_l2Many, m_spec_l2Depth]
    rcases Nat.lt_or_ge 8 x.deep with h6 | h6
    · rw [decide_eq_false (by omega), dec_f (by omega)]
    · rw [decide_eq_true h6, dec_t (by omega)]
theorem isValidTerm_E (x : Tm) (hn : x.nodes ≤ 1099511627776) : E 41 [x.sv] [] = some (.bool x.valid, []) := by
  have h1 := isSmall_E x hn
  have h2 := hasNames_E x hn
  unfold Tm.valid
  cases h3 : x.small <;> rw [h3] at h1
  · refine E_walk k_impl_IsValidTerm m_impl_IsValidTerm (of_decide_eq_true rfl) ?_
    simp (disch := omega) only [c_impl_IsValidTerm, go_sem, go_cond, zA, zB, zC, zD, zE, zF, zG, zH, ↓reduceIte, zI, reduceCtorEq, zJ, zK, h1, h2, m_impl_isSmall, m_impl_hasNames]
  · refine E_walk k_impl_IsValidTerm m_impl_IsValidTerm (of_decide_eq_true rfl) ?_
    simp (disch := omega) only [c_impl_IsValidTerm, go_sem, go_cond, zA, zB, zC, zD, zE, zF, zG, zH, ↓reduceIte, zI, reduceCtorEq, zJ, zK, h1, h2, m_impl_isSmall, m_impl_hasNames]
theorem l2Good_E (x : Tm) (hn : x.nodes ≤ 1099511627776) : E 33 [x.sv] [] = some (.bool x.valid, []) := by
  have h1 := l2Fits_E x hn
  have h2 := l2Nodes_E x hn
  unfold Tm.valid
  cases h3 : x.small <;> rw [h3] at h1
  · refine E_walk k_spec_l2Good m_spec_l2Good (of_decide_eq_true rfl) ?_
    simp (disch := omega) only [c_spec_l2Good, go_sem, go_cond, zA, zB, zC, zD, zE, zF, zG, zH, ↓reduceIte, zI, reduceCtorEq, zJ, zK, h1, h2, m_spec_l2Fits, m_spec_l2Nodes]
  · refine E_walk k_spec_l2Good m_spec_l2Good (of_decide_eq_true rfl) ?_
    simp (disch := omega) only [c_spec_l2Good, go_sem, go_cond, zA, zB, zC, zD, zE, zF, zG, zH, ↓reduceIte, zI, reduceCtorEq, zJ, zK, h1, h2, m_spec_l2Fits, m_spec_l2Nodes]
theorem isEquality_E (x : Tm) : E 89 [x.sv] [] = some (.bool x.eqn, []) := by
  unfold Tm.eqn
  refine E_walk k_impl_isEquality m_impl_isEquality (of_decide_eq_true rfl) ?_
  simp (disch := omega) only [c_impl_isEquality, go_sem, go_cond, zA, zB, zC, zD, zE, zF, zG, zH, ↓reduceIte, zI, reduceCtorEq, zJ, zK]
set_option maxHeartbeats 1000000 in
theorem isValidAtom_E (x : Tm) (hn : x.nodes ≤ 1099511627776) : E 68 [x.sv] [] = some (.bool x.atom, []) := by
  have hl := Tm.length_le x.args
  have hx := Tm.nodes_eq x
  have h0 := isEquality_E x
  have h1 := isSmall_E x hn
  have h2 := isSymbol_E x.name
  have h3 := isValidTerm_E x hn
  have hE : dec (x.name = ⟨#[61]⟩) = x.eqn := rfl
  unfold Tm.atom
  cases he : x.eqn <;> rw [he] at h0 hE
  · rw [if_neg (by simp)]
    cases hs : symB x.name <;> rw [hs] at h2
    · refine E_walk k_impl_IsValidAtom m_impl_IsValidAtom (of_decide_eq_true rfl) ?_
      simp (disch := omega) only [c_impl_IsValidAtom, go_sem, go_cond, zA, zB, zC, zD, zE, zF, zG, zH, ↓reduceIte, zI, reduceCtorEq, zJ, zK, h0, h1, h2, h3, hE, m_impl_isSmall, m_impl_hasNames, m_impl_isSymbol, m_impl_IsValidTerm, m_impl_isEquality]
    · refine E_walk k_impl_IsValidAtom m_impl_IsValidAtom (of_decide_eq_true rfl) ?_
      simp (disch := omega) only [c_impl_IsValidAtom, go_sem, go_cond, zA, zB, zC, zD, zE, zF, zG, zH, ↓reduceIte, zI, reduceCtorEq, zJ, zK, h0, h1, h2, h3, hE, m_impl_isSmall, m_impl_hasNames, m_impl_isSymbol, m_impl_IsValidTerm, m_impl_isEquality]
  · rw [if_pos rfl]
    by_cases hc : x.args.length = 2
    · have hlt0 : 0 < x.args.length := by omega
      have hlt1 : 1 < x.args.length := by omega
      have hg0 := get_at Tm.d hlt0
      have hg1 := get_at Tm.d hlt1
      rw [Tm.d_eq] at hg0 hg1
      have hb0 := Tm.nodes_le x.args 0 hlt0
      have hb1 := Tm.nodes_le x.args 1 hlt1
      have hn0 := hasNames_E x.args[0] (by omega)
      have hn1 := hasNames_E x.args[1] (by omega)
      rw [nameS_two hc, show (x.args.length == 2) = true by simpa using hc]
      cases hs : x.small <;> rw [hs] at h1
      · refine E_walk k_impl_IsValidAtom m_impl_IsValidAtom (of_decide_eq_true rfl) ?_
        simp (disch := omega) only [c_impl_IsValidAtom, go_sem, go_cond, zA, zB, zC, zD, zE, zF, zG, zH, ↓reduceIte, zI, reduceCtorEq, zJ, zK, h0, h1, h2, h3, hE, hg0, hg1, hn0, hn1, hc, m_impl_isSmall, m_impl_hasNames, m_impl_isSymbol, m_impl_IsValidTerm, m_impl_isEquality]
        try simp
      · cases hq : (x.args[0]'hlt0).names <;> rw [hq] at hn0
        · refine E_walk k_impl_IsValidAtom m_impl_IsValidAtom (of_decide_eq_true rfl) ?_
          simp (disch := omega) only [c_impl_IsValidAtom, go_sem, go_cond, zA, zB, zC, zD, zE, zF, zG, zH, ↓reduceIte, zI, reduceCtorEq, zJ, zK, h0, h1, h2, h3, hE, hg0, hg1, hn0, hn1, hc, m_impl_isSmall, m_impl_hasNames, m_impl_isSymbol, m_impl_IsValidTerm, m_impl_isEquality]
          try simp
        · refine E_walk k_impl_IsValidAtom m_impl_IsValidAtom (of_decide_eq_true rfl) ?_
          simp (disch := omega) only [c_impl_IsValidAtom, go_sem, go_cond, zA, zB, zC, zD, zE, zF, zG, zH, ↓reduceIte, zI, reduceCtorEq, zJ, zK, h0, h1, h2, h3, hE, hg0, hg1, hn0, hn1, hc, m_impl_isSmall, m_impl_hasNames, m_impl_isSymbol, m_impl_IsValidTerm, m_impl_isEquality]
          try simp
    · refine E_walk k_impl_IsValidAtom m_impl_IsValidAtom (of_decide_eq_true rfl) ?_
      simp (disch := omega) only [c_impl_IsValidAtom, go_sem, go_cond, zA, zB, zC, zD, zE, zF, zG, zH, ↓reduceIte, zI, reduceCtorEq, zJ, zK, h0, h1, h2, h3, hE, m_impl_isSmall, m_impl_hasNames, m_impl_isSymbol, m_impl_IsValidTerm, m_impl_isEquality]
      rw [show (x.args.length == 2) = false by simpa using hc]
      try simp
set_option maxHeartbeats 1000000 in
theorem l2Atom_E (x : Tm) (hn : x.nodes ≤ 1099511627776) : E 34 [x.sv] [] = some (.bool x.atom, []) := by
  have hl := Tm.length_le x.args
  have hx := Tm.nodes_eq x
  have h0 := isEquality_E x
  have h1 := l2Fits_E x hn
  have h2 := l2Symbol_E x.name
  have h3 := l2Good_E x hn
  have hE : dec (x.name = ⟨#[61]⟩) = x.eqn := rfl
  unfold Tm.atom
  cases he : x.eqn <;> rw [he] at h0 hE
  · rw [if_neg (by simp)]
    cases hs : symB x.name <;> rw [hs] at h2
    · refine E_walk k_spec_l2Atom m_spec_l2Atom (of_decide_eq_true rfl) ?_
      simp (disch := omega) only [c_spec_l2Atom, go_sem, go_cond, zA, zB, zC, zD, zE, zF, zG, zH, ↓reduceIte, zI, reduceCtorEq, zJ, zK, h0, h1, h2, h3, hE, m_spec_l2Fits, m_spec_l2Nodes, m_spec_l2Symbol, m_spec_l2Good]
    · refine E_walk k_spec_l2Atom m_spec_l2Atom (of_decide_eq_true rfl) ?_
      simp (disch := omega) only [c_spec_l2Atom, go_sem, go_cond, zA, zB, zC, zD, zE, zF, zG, zH, ↓reduceIte, zI, reduceCtorEq, zJ, zK, h0, h1, h2, h3, hE, m_spec_l2Fits, m_spec_l2Nodes, m_spec_l2Symbol, m_spec_l2Good]
  · rw [if_pos rfl]
    by_cases hc : x.args.length = 2
    · have hlt0 : 0 < x.args.length := by omega
      have hlt1 : 1 < x.args.length := by omega
      have hg0 := get_at Tm.d hlt0
      have hg1 := get_at Tm.d hlt1
      rw [Tm.d_eq] at hg0 hg1
      have hb0 := Tm.nodes_le x.args 0 hlt0
      have hb1 := Tm.nodes_le x.args 1 hlt1
      have hn0 := l2Nodes_E x.args[0] (by omega)
      have hn1 := l2Nodes_E x.args[1] (by omega)
      rw [nameS_two hc, show (x.args.length == 2) = true by simpa using hc]
      cases hs : x.small <;> rw [hs] at h1
      · refine E_walk k_spec_l2Atom m_spec_l2Atom (of_decide_eq_true rfl) ?_
        simp (disch := omega) only [c_spec_l2Atom, go_sem, go_cond, zA, zB, zC, zD, zE, zF, zG, zH, ↓reduceIte, zI, reduceCtorEq, zJ, zK, h0, h1, h2, h3, hE, hg0, hg1, hn0, hn1, hc, m_spec_l2Fits, m_spec_l2Nodes, m_spec_l2Symbol, m_spec_l2Good]
        try simp
      · cases hq : (x.args[0]'hlt0).names <;> rw [hq] at hn0
        · refine E_walk k_spec_l2Atom m_spec_l2Atom (of_decide_eq_true rfl) ?_
          simp (disch := omega) only [c_spec_l2Atom, go_sem, go_cond, zA, zB, zC, zD, zE, zF, zG, zH, ↓reduceIte, zI, reduceCtorEq, zJ, zK, h0, h1, h2, h3, hE, hg0, hg1, hn0, hn1, hc, m_spec_l2Fits, m_spec_l2Nodes, m_spec_l2Symbol, m_spec_l2Good]
          try simp
        · refine E_walk k_spec_l2Atom m_spec_l2Atom (of_decide_eq_true rfl) ?_
          simp (disch := omega) only [c_spec_l2Atom, go_sem, go_cond, zA, zB, zC, zD, zE, zF, zG, zH, ↓reduceIte, zI, reduceCtorEq, zJ, zK, h0, h1, h2, h3, hE, hg0, hg1, hn0, hn1, hc, m_spec_l2Fits, m_spec_l2Nodes, m_spec_l2Symbol, m_spec_l2Good]
          try simp
    · refine E_walk k_spec_l2Atom m_spec_l2Atom (of_decide_eq_true rfl) ?_
      simp (disch := omega) only [c_spec_l2Atom, go_sem, go_cond, zA, zB, zC, zD, zE, zF, zG, zH, ↓reduceIte, zI, reduceCtorEq, zJ, zK, h0, h1, h2, h3, hE, m_spec_l2Fits, m_spec_l2Nodes, m_spec_l2Symbol, m_spec_l2Good]
      rw [show (x.args.length == 2) = false by simpa using hc]
      try simp
theorem cmpL_drop {xs ys : List Tm} {k : Nat} (h : k < xs.length) (h' : k < ys.length) : Tm.cmpL (xs.drop k) (ys.drop k) = orZ (xs[k].cmp ys[k]) (Tm.cmpL (xs.drop (k + 1)) (ys.drop (k + 1))) := by
  rw [List.drop_eq_getElem_cons h, List.drop_eq_getElem_cons h', Tm.cmpL]
theorem cmpL_short {xs ys : List Tm} {k : Nat} (h : k < xs.length) (h' : ys.length ≤ k) : Tm.cmpL (xs.drop k) (ys.drop k) = 1 := by
  rw [List.drop_eq_getElem_cons h, List.drop_eq_nil_of_le h', Tm.cmpL]
theorem cmpL_end {xs ys : List Tm} {k : Nat} (h : xs.length ≤ k) (h' : k < ys.length) : Tm.cmpL (xs.drop k) (ys.drop k) = -1 := by
  rw [List.drop_eq_getElem_cons h', List.drop_eq_nil_of_le h, Tm.cmpL]
theorem cmpL_both {xs ys : List Tm} {k : Nat} (h : xs.length ≤ k) (h' : ys.length ≤ k) : Tm.cmpL (xs.drop k) (ys.drop k) = 0 := by
  rw [List.drop_eq_nil_of_le h', List.drop_eq_nil_of_le h, Tm.cmpL]
theorem loopB_zero {p : Nat → Int → Bool} {s : ByteArray} (h : loopB p s s.size = true) (hs : 0 < s.size) : p 0 (byteZ s 0) = true := by
  unfold loopB at h
  rw [List.all_eq_true] at h
  exact h 0 (List.mem_range.2 hs)
theorem nameC_var {s : ByteArray} (h : varB s = true) : nameC s = true := by
  have h0 := h
  unfold varB inB at h
  rw [Bool.and_eq_true, Bool.and_eq_true, decide_eq_true_eq, decide_eq_true_eq] at h
  have hs : 0 < s.size := by omega
  have h1 := loopB_zero h.1 hs
  unfold varOk at h1
  unfold nameC
  rw [h0]
  simp at h1
  simp [hs, h1]
theorem nameC_not {s : ByteArray} (hs : 0 < s.size) (h : uppB (byteZ s 0) = false) : nameC s = true := by
  have hv : varB s = false := by
    rw [Bool.eq_false_iff]
    intro hv
    unfold varB at hv
    rw [Bool.and_eq_true] at hv
    have h1 := loopB_zero hv.1 hs
    unfold varOk at h1
    rw [h] at h1
    simp at h1
  unfold nameC
  rw [hv, h]
  simp [hs]
theorem nameC_sym {s : ByteArray} (h : symB s = true) : nameC s = true := by
  unfold symB inB at h
  rw [Bool.and_eq_true, Bool.and_eq_true, Bool.and_eq_true, decide_eq_true_eq, decide_eq_true_eq] at h
  have hs : 0 < s.size := by omega
  refine nameC_not hs ?_
  have h1 := loopB_zero h.1.1 hs
  unfold symOk at h1
  simp at h1
  have h2 := h1.1
  unfold lowB at h2
  unfold uppB
  simp at h2 ⊢
  omega
theorem nameC_eqn {s : ByteArray} (h : s.toList = [61]) : nameC s = true := by
  have hs : s.size = 1 := by
    have := congrArg List.length h
    rw [ByteArray.toList_eq] at this
    simpa using this
  refine nameC_not (by omega) ?_
  unfold byteZ
  rw [h]
  rfl
mutual
theorem Tm.cok_names : ∀ x : Tm, x.names = true → x.cok = true
  | .mk n xs, h => by
    rw [Tm.names] at h
    rw [Tm.cok, Bool.and_eq_true]
    split at h
    · rename_i hv
      have : xs = [] := by
        rw [beq_iff_eq] at h
        exact List.eq_nil_of_length_eq_zero h
      subst this
      exact ⟨nameC_var hv, rfl⟩
    · rw [Bool.and_eq_true, Bool.and_eq_true] at h
      exact ⟨nameC_sym h.1.1, Tm.cokS_names xs h.2⟩
theorem Tm.cokS_names : ∀ xs : List Tm, Tm.nameS xs = true → Tm.cokS xs = true
  | [], _ => rfl
  | x :: xs, h => by
    rw [Tm.nameS, Bool.and_eq_true] at h
    rw [Tm.cokS, Bool.and_eq_true]
    exact ⟨Tm.cok_names x h.1, Tm.cokS_names xs h.2⟩
end
theorem Tm.atom_cok {x : Tm} (h : x.atom = true) : x.cok = true := by
  unfold Tm.atom at h
  rcases he : x.eqn with _ | _
  · rw [he, if_neg (by simp), Bool.and_eq_true] at h
    unfold Tm.valid at h
    rw [Bool.and_eq_true] at h
    exact Tm.cok_names x h.2.2
  · rw [he, if_pos rfl, Bool.and_eq_true, Bool.and_eq_true] at h
    unfold Tm.eqn at he
    rw [dec_iff] at he
    rw [Tm.cok_eq, Bool.and_eq_true]
    exact ⟨nameC_eqn (by rw [he, ByteArray.toList_eq]), Tm.cokS_names _ h.2⟩
theorem byteAt_eq {s : ByteArray} {k : Nat} (h : k < s.size) : byteAt s k = byteZ s k := by
  rw [← byteZ_get h]
  unfold byteAt
  rw [show s[k]? = some s[k] from getElem?_pos s k h]; rfl
theorem nameC_upp {s : ByteArray} (h : nameC s = true) : 0 < s.size ∧ (dec (65 ≤ byteAt s 0) && dec (byteAt s 0 ≤ 90)) = varB s := by
  unfold nameC at h
  rw [Bool.and_eq_true, decide_eq_true_eq, beq_iff_eq] at h
  refine ⟨h.1, ?_⟩
  rw [← h.2, byteAt_eq h.1, dec_of, dec_of]
  unfold uppB
  rfl
theorem strLt_self (a : ByteArray) : strLt a a = false := by
  unfold strLt
  have key : ∀ l : List UInt8, Op.bytesLess l l = false := by
    intro l
    induction l with
    | nil => rfl
    | cons x l ih => simp [Op.bytesLess, ih]
  exact key _
def c_cmp_isNaN_string : SC := (.seq (.reg [⟨some 2, none, .mv (.c (.bool false))⟩]) (.seq (.reg [⟨some 3, none, .mv (.t 0)⟩, ⟨some 4, none, .mv (.t 0)⟩, ⟨some 5, none, .bin .neq false (.t 3) (.t 4)⟩, ⟨some 2, none, .mv (.t 5)⟩]) .ret))
theorem k_cmp_isNaN_string : codeOf Tryz.prog 104 = some ⟨6, c_cmp_isNaN_string, [(.tmp 2)]⟩ := by kernel_rfl
theorem m_cmp_isNaN_string : modes 104 = ⟨[], .asis, none, false⟩ := by unfold modes; rfl
def c_cmp_isNaN_int : SC := (.seq (.reg [⟨some 2, none, .mv (.c (.bool false))⟩]) (.seq (.reg [⟨some 3, none, .mv (.t 0)⟩, ⟨some 4, none, .mv (.t 0)⟩, ⟨some 5, none, .bin .neq false (.t 3) (.t 4)⟩, ⟨some 2, none, .mv (.t 5)⟩]) .ret))
theorem k_cmp_isNaN_int : codeOf Tryz.prog 93 = some ⟨6, c_cmp_isNaN_int, [(.tmp 2)]⟩ := by kernel_rfl
theorem m_cmp_isNaN_int : modes 93 = ⟨[], .asis, none, false⟩ := by unfold modes; rfl
def c_cmp_Compare_string : SC := (.seq (.reg [⟨some 4, none, .mv (.c (.int .i64 0))⟩]) (.seq (.reg [⟨some 7, none, .mv (.t 0)⟩, ⟨some 8, none, .call 104 [(.t 7)]⟩, ⟨some 5, none, .mv (.t 8)⟩]) (.seq (.reg [⟨some 9, none, .mv (.t 1)⟩, ⟨some 10, none, .call 104 [(.t 9)]⟩, ⟨some 6, none, .mv (.t 10)⟩]) (.seq (.seq (.reg [⟨some 11, none, .mv (.t 5)⟩]) (.cond (.t 11) (.seq (.seq (.reg [⟨some 12, none, .mv (.t 6)⟩]) (.cond (.t 12) (.seq (.reg [⟨some 4, none, .mv (.c (.int .i64 0))⟩]) .ret) .skip)) (.seq (.reg [⟨some 4, none, .mv (.c (.int .i64 (-(0 + 1))))⟩]) .ret)) .skip)) (.seq (.seq (.reg [⟨some 13, none, .mv (.t 6)⟩]) (.cond (.t 13) (.seq (.reg [⟨some 4, none, .mv (.c (.int .i64 1))⟩]) .ret) .skip)) (.seq (.seq (.reg [⟨some 14, none, .mv (.t 0)⟩, ⟨some 15, none, .mv (.t 1)⟩, ⟨some 16, none, .bin .lss false (.t 14) (.t 15)⟩]) (.cond (.t 16) (.seq (.reg [⟨some 4, none, .mv (.c (.int .i64 (-(0 + 1))))⟩]) .ret) .skip)) (.seq (.seq (.reg [⟨some 17, none, .mv (.t 0)⟩, ⟨some 18, none, .mv (.t 1)⟩, ⟨some 19, none, .bin .gtr false (.t 17) (.t 18)⟩]) (.cond (.t 19) (.seq (.reg [⟨some 4, none, .mv (.c (.int .i64 1))⟩]) .ret) .skip)) (.seq (.reg [⟨some 4, none, .mv (.c (.int .i64 0))⟩]) .ret))))))))
theorem k_cmp_Compare_string : codeOf Tryz.prog 91 = some ⟨20, c_cmp_Compare_string, [(.tmp 4)]⟩ := by kernel_rfl
theorem m_cmp_Compare_string : modes 91 = ⟨[], .asis, none, false⟩ := by unfold modes; rfl
def c_cmp_Compare_int : SC := (.seq (.reg [⟨some 4, none, .mv (.c (.int .i64 0))⟩]) (.seq (.reg [⟨some 7, none, .mv (.t 0)⟩, ⟨some 8, none, .call 93 [(.t 7)]⟩, ⟨some 5, none, .mv (.t 8)⟩]) (.seq (.reg [⟨some 9, none, .mv (.t 1)⟩, ⟨some 10, none, .call 93 [(.t 9)]⟩, ⟨some 6, none, .mv (.t 10)⟩]) (.seq (.seq (.reg [⟨some 11, none, .mv (.t 5)⟩]) (.cond (.t 11) (.seq (.seq (.reg [⟨some 12, none, .mv (.t 6)⟩]) (.cond (.t 12) (.seq (.reg [⟨some 4, none, .mv (.c (.int .i64 0))⟩]) .ret) .skip)) (.seq (.reg [⟨some 4, none, .mv (.c (.int .i64 (-(0 + 1))))⟩]) .ret)) .skip)) (.seq (.seq (.reg [⟨some 13, none, .mv (.t 6)⟩]) (.cond (.t 13) (.seq (.reg [⟨some 4, none, .mv (.c (.int .i64 1))⟩]) .ret) .skip)) (.seq (.seq (.reg [⟨some 14, none, .mv (.t 0)⟩, ⟨some 15, none, .mv (.t 1)⟩, ⟨some 16, none, .bin .lss false (.t 14) (.t 15)⟩]) (.cond (.t 16) (.seq (.reg [⟨some 4, none, .mv (.c (.int .i64 (-(0 + 1))))⟩]) .ret) .skip)) (.seq (.seq (.reg [⟨some 17, none, .mv (.t 0)⟩, ⟨some 18, none, .mv (.t 1)⟩, ⟨some 19, none, .bin .gtr false (.t 17) (.t 18)⟩]) (.cond (.t 19) (.seq (.reg [⟨some 4, none, .mv (.c (.int .i64 1))⟩]) .ret) .skip)) (.seq (.reg [⟨some 4, none, .mv (.c (.int .i64 0))⟩]) .ret))))))))
theorem k_cmp_Compare_int : codeOf Tryz.prog 71 = some ⟨20, c_cmp_Compare_int, [(.tmp 4)]⟩ := by kernel_rfl
theorem m_cmp_Compare_int : modes 71 = ⟨[], .asis, none, false⟩ := by unfold modes; rfl
def c_cmp_Or_int : SC := (.seq (.reg [⟨some 2, none, .mv (.c (.int .i64 0))⟩]) (.seq (.reg [⟨some 3, none, .mv (.c (.int .i64 0))⟩]) (.seq (.seq (.reg [⟨some 6, none, .mv (.t 0)⟩, ⟨some 7, none, .len false (.t 6)⟩, ⟨some 8, none, .mv (.c (.int .i64 0))⟩]) (.block 0 (.loop [0, 0, 0, 1, 0, 0, 1, 1, 1, 0, 0, 0, 0, 0, 0, 0, 0, 0] (.seq (.reg [⟨some 9, none, .bin .lss false (.t 8) (.t 7)⟩]) (.seq (.cond (.t 9) .skip (.exit 0)) (.seq (.block 1 (.seq (.reg [⟨some 10, none, .iaddr 1 (.t 6) (.t 8)⟩, ⟨some 11, none, .load false 1 (.t 10)⟩, ⟨some 5, none, .mv (.t 11)⟩]) (.seq (.reg [⟨some 12, none, .mv (.t 5)⟩, ⟨some 13, none, .mv (.t 3)⟩, ⟨some 14, none, .bin .neq false (.t 12) (.t 13)⟩]) (.cond (.t 14) (.seq (.reg [⟨some 15, none, .mv (.t 5)⟩, ⟨some 2, none, .mv (.t 15)⟩]) .ret) .skip)))) (.reg [⟨some 16, none, .bin .add false (.t 8) (.c (.int .i64 1))⟩, ⟨some 8, none, .mv (.t 16)⟩]))))))) (.seq (.reg [⟨some 17, none, .mv (.t 3)⟩, ⟨some 2, none, .mv (.t 17)⟩]) .ret))))
theorem k_cmp_Or_int : codeOf Tryz.prog 69 = some ⟨18, c_cmp_Or_int, [(.tmp 2)]⟩ := by kernel_rfl
theorem m_cmp_Or_int : modes 69 = ⟨[], .asis, none, false⟩ := by unfold modes; rfl
theorem isNaNS_E (a : ByteArray) : E 104 [.str a] [] = some (.bool false, []) := by
  refine E_walk k_cmp_isNaN_string m_cmp_isNaN_string (of_decide_eq_true rfl) ?_
  simp (disch := omega) only [c_cmp_isNaN_string, go_sem, go_cond, zA, zB, zC, zD, zE, zF, zG, zH, ↓reduceIte, zI, reduceCtorEq, zJ, zK]
theorem isNaNI_E (a : Int) : E 93 [.int .i64 a] [] = some (.bool false, []) := by
  refine E_walk k_cmp_isNaN_int m_cmp_isNaN_int (of_decide_eq_true rfl) ?_
  simp (disch := omega) only [c_cmp_isNaN_int, go_sem, go_cond, zA, zB, zC, zD, zE, zF, zG, zH, ↓reduceIte, zI, reduceCtorEq, zJ, zK]
theorem compareS_E (a b : ByteArray) : E 91 [.str a, .str b] [] = some (.int .i64 (cmpB a b), []) := by
  have h1 := isNaNS_E a
  have h2 := isNaNS_E b
  unfold cmpB
  cases h3 : strLt a b
  · cases h4 : dec (a = b)
    · refine E_walk k_cmp_Compare_string m_cmp_Compare_string (of_decide_eq_true rfl) ?_
      simp (disch := omega) only [c_cmp_Compare_string, go_sem, go_cond, zA, zB, zC, zD, zE, zF, zG, zH, ↓reduceIte, zI, reduceCtorEq, zJ, zK, h1, h2, h3, h4, m_cmp_isNaN_string]
    · refine E_walk k_cmp_Compare_string m_cmp_Compare_string (of_decide_eq_true rfl) ?_
      simp (disch := omega) only [c_cmp_Compare_string, go_sem, go_cond, zA, zB, zC, zD, zE, zF, zG, zH, ↓reduceIte, zI, reduceCtorEq, zJ, zK, h1, h2, h3, h4, m_cmp_isNaN_string]
  · refine E_walk k_cmp_Compare_string m_cmp_Compare_string (of_decide_eq_true rfl) ?_
    simp (disch := omega) only [c_cmp_Compare_string, go_sem, go_cond, zA, zB, zC, zD, zE, zF, zG, zH, ↓reduceIte, zI, reduceCtorEq, zJ, zK, h1, h2, h3, m_cmp_isNaN_string]
theorem compareI_E (a b : Int) : E 71 [.int .i64 a, .int .i64 b] [] = some (.int .i64 (cmpI a b), []) := by
  have h1 := isNaNI_E a
  have h2 := isNaNI_E b
  unfold cmpI
  cases h3 : dec (a < b)
  · cases h4 : dec (b < a)
    · refine E_walk k_cmp_Compare_int m_cmp_Compare_int (of_decide_eq_true rfl) ?_
      simp (disch := omega) only [c_cmp_Compare_int, go_sem, go_cond, zA, zB, zC, zD, zE, zF, zG, zH, ↓reduceIte, zI, reduceCtorEq, zJ, zK, h1, h2, h3, h4, m_cmp_isNaN_int]
    · refine E_walk k_cmp_Compare_int m_cmp_Compare_int (of_decide_eq_true rfl) ?_
      simp (disch := omega) only [c_cmp_Compare_int, go_sem, go_cond, zA, zB, zC, zD, zE, zF, zG, zH, ↓reduceIte, zI, reduceCtorEq, zJ, zK, h1, h2, h3, h4, m_cmp_isNaN_int]
  · refine E_walk k_cmp_Compare_int m_cmp_Compare_int (of_decide_eq_true rfl) ?_
    simp (disch := omega) only [c_cmp_Compare_int, go_sem, go_cond, zA, zB, zC, zD, zE, zF, zG, zH, ↓reduceIte, zI, reduceCtorEq, zJ, zK, h1, h2, h3, m_cmp_isNaN_int]
def orL : List Int → Int
  | [] => 0
  | x :: xs => if x = 0 then orL xs else x
theorem or_E (xs : List Int) (hl : xs.length ≤ 1099511627776) : E 69 [.arr (xs.map fun n => [D.int n])] [] = some (.int .i64 (orL xs), []) := by
  refine E_walk k_cmp_Or_int m_cmp_Or_int (of_decide_eq_true rfl) ?_
  simp (disch := omega) only [c_cmp_Or_int, go_sem, go_cond, zA, zB, zC, zD, zE, zF, zG, zH, ↓reduceIte, zI, reduceCtorEq, zJ, zK]
  refine go_loop (α := Int) (fun a => ⟨slots 18 0 [(3, .int .i64 0), (6, .arr (xs.map fun n => [D.int n])), (7, .int .i64 xs.length), (8, .int .i64 a)], []⟩) (fun a => ∃ k : Nat, a = k ∧ k ≤ (xs).length ∧ orL (xs.drop k) = orL xs) (fun a => (xs).length - (a).toNat) 0 ⟨0, rfl, Nat.zero_le _, by rw [List.drop_zero]⟩ (by simp (disch := omega) only [go_sem, go_cond, zA, zB, zC, zD, zE, zF, zG, zH, ↓reduceIte, zI, reduceCtorEq, zJ, zK]) ?_
  rintro i ⟨k, hi, hk, hR⟩
  have hni : i.toNat = k := by omega
  have hni1 : (i + 1).toNat = k + 1 := by omega
  rcases Nat.lt_or_ge k (xs).length with hlt | hge
  · have hg := get_at (fun n => [D.int n]) hlt
    rw [List.drop_eq_getElem_cons hlt, orL] at hR
    by_cases h0 : xs[k] = 0
    · rw [if_pos h0] at hR
      simp (disch := omega) only [go_sem, go_cond, zA, zB, zC, zD, zE, zF, zG, zH, ↓reduceIte, zI, reduceCtorEq, zJ, zK, hni, hg, h0]
      exact ⟨i + 1, ⟨k + 1, by omega, hlt, hR⟩, by omega, by first | trivial | rfl⟩
    · rw [if_neg h0] at hR
      simp (disch := omega) only [go_sem, go_cond, zA, zB, zC, zD, zE, zF, zG, zH, ↓reduceIte, zI, reduceCtorEq, zJ, zK, hni, hg, h0]
      exact hR
  · rw [List.drop_eq_nil_of_le hge, orL] at hR
    simp (disch := omega) only [go_sem, go_cond, zA, zB, zC, zD, zE, zF, zG, zH, ↓reduceIte, zI, reduceCtorEq, zJ, zK, hni]
    exact hR
theorem or2_E (a b : Int) : E 69 [.arr [[.int a], [.int b]]] [] = some (.int .i64 (orZ a b), []) := by
  have h := or_E [a, b] (by simp)
  have e : orL [a, b] = orZ a b := by
    simp only [orL, orZ]
    split
    · split <;> omega
    · rfl
  rw [e] at h
  exact h
def c_impl_isUpper : SC := (.seq (.reg [⟨some 2, none, .mv (.c (.bool false))⟩]) (.seq (.reg [⟨some 3, none, .mv (.t 0)⟩, ⟨some 4, none, .bin .geq false (.t 3) (.c (.int .u8 65))⟩, ⟨some 5, none, .mv (.t 4)⟩, ⟨(some 6), (some (5, true)), (.mv (.t 0))⟩, ⟨(some 7), (some (5, true)), (.bin .leq false (.t 6) (.c (.int .u8 90)))⟩, ⟨some 8, none, .pick (.t 5) (.t 7) (.c (.bool false))⟩, ⟨some 2, none, .mv (.t 8)⟩]) .ret))
theorem k_impl_isUpper : codeOf Tryz.prog 62 = some ⟨9, c_impl_isUpper, [(.tmp 2)]⟩ := by kernel_rfl
theorem m_impl_isUpper : modes 62 = ⟨[], .asis, none, false⟩ := by unfold modes; rfl
def c_impl_isVar : SC := (.seq (.reg [⟨some 1, none, .boxv 68 2 (.t 0)⟩, ⟨some 2, none, .mv (.c (.bool false))⟩]) (.seq (.reg [⟨some 3, none, .faddr 0 (.t 1)⟩, ⟨some 4, none, .load false 1 (.t 3)⟩, ⟨some 5, none, .idx (.t 4) (.c (.int .i64 0))⟩, ⟨some 6, none, .call 62 [(.t 5)]⟩, ⟨some 2, none, .mv (.t 6)⟩]) .ret))
theorem k_impl_isVar : codeOf Tryz.prog 90 = some ⟨7, c_impl_isVar, [(.tmp 2)]⟩ := by kernel_rfl
theorem m_impl_isVar : modes 90 = ⟨[], .asis, none, false⟩ := by unfold modes; rfl
theorem isUpper_E (n : Int) : E 62 [.int .u8 n] [] = some (.bool (dec (65 ≤ n) && dec (n ≤ 90)), []) := by
  cases h1 : dec (65 ≤ n)
  · refine E_walk k_impl_isUpper m_impl_isUpper (of_decide_eq_true rfl) ?_
    simp (disch := omega) only [c_impl_isUpper, go_sem, go_cond, zA, zB, zC, zD, zE, zF, zG, zH, ↓reduceIte, zI, reduceCtorEq, zJ, zK, h1]
  · refine E_walk k_impl_isUpper m_impl_isUpper (of_decide_eq_true rfl) ?_
    simp (disch := omega) only [c_impl_isUpper, go_sem, go_cond, zA, zB, zC, zD, zE, zF, zG, zH, ↓reduceIte, zI, reduceCtorEq, zJ, zK, h1]
theorem isVar_E (x : Tm) (h : x.cok = true) : E 90 [x.sv] [] = some (.bool (varB x.name), []) := by
  rw [Tm.cok_eq, Bool.and_eq_true] at h
  obtain ⟨h1, h2⟩ := nameC_upp h.1
  have h3 := isUpper_E (byteAt x.name 0)
  rw [h2] at h3
  refine E_walk k_impl_isVar m_impl_isVar (of_decide_eq_true rfl) ?_
  simp (disch := omega) only [c_impl_isVar, go_sem, go_cond, zA, zB, zC, zD, zE, zF, zG, zH, ↓reduceIte, zI, reduceCtorEq, zJ, zK, h3, m_impl_isUpper]
def c_slices_CompareFunc_impl_Term_impl_Term_impl_Term_impl_Term : SC := (.seq (.reg [⟨some 6, none, .mv (.c (.int .i64 0))⟩]) (.seq (.seq (.reg [⟨some 11, none, .mv (.t 0)⟩, ⟨some 12, none, .len false (.t 11)⟩, ⟨some 13, none, .mv (.c (.int .i64 0))⟩]) (.block 0 (.loop [1, 1, 1, 0, 0, 0, 0, 0, 0, 0, 0, 1, 1, 1, 0, 0, 0, 0, 0, 0, 0, 0, 0, 0, 0, 0, 0, 0, 0, 0, 0, 0, 0, 0, 0, 0, 0, 0, 0] (.seq (.reg [⟨some 14, none, .bin .lss false (.t 13) (.t 12)⟩]) (.seq (.cond (.t 14) .skip (.exit 0)) (.seq (.block 1 (.seq (.reg [⟨some 15, none, .mv (.t 13)⟩, ⟨some 16, none, .iaddr 2 (.t 11) (.t 13)⟩, ⟨some 17, none, .load true 2 (.t 16)⟩, ⟨(some 8), none, (.alloc 68 [(.str ⟨#[]⟩), .nil])⟩, ⟨some 7, none, .mv (.t 15)⟩, ⟨none, none, (.store 2 (.t 8) (.t 17))⟩]) (.seq (.seq (.reg [⟨some 18, none, .mv (.t 7)⟩, ⟨some 19, none, .mv (.t 1)⟩, ⟨some 20, none, .len false (.t 19)⟩, ⟨some 21, none, .bin .geq false (.t 18) (.t 20)⟩]) (.cond (.t 21) (.seq (.reg [⟨some 6, none, .mv (.c (.int .i64 1))⟩]) .ret) .skip)) (.seq (.reg [⟨some 22, none, .mv (.t 1)⟩, ⟨some 23, none, .mv (.t 7)⟩, ⟨some 24, none, .iaddr 2 (.t 22) (.t 23)⟩, ⟨some 25, none, .load true 2 (.t 24)⟩, ⟨(some 9), none, (.alloc 68 [(.str ⟨#[]⟩), .nil])⟩, ⟨none, none, (.store 2 (.t 9) (.t 25))⟩]) (.seq (.reg [⟨some 26, none, .mv (.t 2)⟩, ⟨some 27, none, .load true 2 (.t 8)⟩, ⟨some 28, none, .load true 2 (.t 9)⟩, ⟨some 29, none, .callv (.t 26) [(.t 27), (.t 28)]⟩, ⟨some 10, none, .mv (.t 29)⟩]) (.seq (.reg [⟨some 30, none, .mv (.t 10)⟩, ⟨some 31, none, .bin .neq false (.t 30) (.c (.int .i64 0))⟩]) (.cond (.t 31) (.seq (.reg [⟨some 32, none, .mv (.t 10)⟩, ⟨some 6, none, .mv (.t 32)⟩]) .ret) .skip))))))) (.reg [⟨some 33, none, .bin .add false (.t 13) (.c (.int .i64 1))⟩, ⟨some 13, none, .mv (.t 33)⟩]))))))) (.seq (.seq (.reg [⟨some 34, none, .mv (.t 0)⟩, ⟨some 35, none, .len false (.t 34)⟩, ⟨some 36, none, .mv (.t 1)⟩, ⟨some 37, none, .len false (.t 36)⟩, ⟨some 38, none, .bin .lss false (.t 35) (.t 37)⟩]) (.cond (.t 38) (.seq (.reg [⟨some 6, none, .mv (.c (.int .i64 (-(0 + 1))))⟩]) .ret) .skip)) (.seq (.reg [⟨some 6, none, .mv (.c (.int .i64 0))⟩]) .ret))))
theorem k_slices_CompareFunc_impl_Term_impl_Term_impl_Term_impl_Term : codeOf Tryz.prog 92 = some ⟨39, c_slices_CompareFunc_impl_Term_impl_Term_impl_Term_impl_Term, [(.tmp 6)]⟩ := by kernel_rfl
theorem m_slices_CompareFunc_impl_Term_impl_Term_impl_Term_impl_Term : modes 92 = ⟨[], .asis, none, false⟩ := by unfold modes; rfl
def c_impl_compareTerms : SC := (.seq (.reg [⟨some 2, none, .boxv 68 2 (.t 0)⟩, ⟨some 3, none, .boxv 68 2 (.t 1)⟩, ⟨some 4, none, .mv (.c (.int .i64 0))⟩]) (.seq (.dreg [[], [0], [], [2, 1, 0], [1, 0, 3, 2], [3, 2, 1, 0, 4]] [⟨some 8, none, .load true 2 (.t 2)⟩, ⟨some 9, none, .call 90 [(.t 8)]⟩, ⟨some 10, none, .load true 2 (.t 3)⟩, ⟨some 11, none, .call 90 [(.t 10)]⟩, ⟨some 5, none, .mv (.t 9)⟩, ⟨some 6, none, .mv (.t 11)⟩]) (.seq (.block 0 (.seq (.reg [⟨some 13, none, .mv (.t 5)⟩, ⟨some 14, none, .mv (.t 13)⟩, ⟨(some 15), (some (14, true)), (.mv (.t 6))⟩, ⟨(some 16), (some (14, true)), (.un .not (.t 15))⟩, ⟨some 17, none, .pick (.t 14) (.t 16) (.c (.bool false))⟩, ⟨some 12, none, .mv (.t 17)⟩]) (.cond (.t 12) (.seq (.reg [⟨some 4, none, .mv (.c (.int .i64 (-(0 + 1))))⟩]) .ret) (.seq (.reg [⟨some 19, none, .mv (.t 6)⟩, ⟨some 20, none, .mv (.t 19)⟩, ⟨(some 21), (some (20, true)), (.mv (.t 5))⟩, ⟨(some 22), (some (20, true)), (.un .not (.t 21))⟩, ⟨some 23, none, .pick (.t 20) (.t 22) (.c (.bool false))⟩, ⟨some 18, none, .mv (.t 23)⟩]) (.cond (.t 18) (.seq (.reg [⟨some 4, none, .mv (.c (.int .i64 1))⟩]) .ret) .skip))))) (.seq (.seq (.dreg [[], [0], [], [2], [1, 0, 3, 2], [], [5], [6, 5], [], [8], [9, 8], [7, 6, 5, 10, 9, 8, 4, 1, 0, 3, 2], [4, 1, 0, 3, 2, 11, 7, 6, 5, 10, 9, 8], [12, 4, 1, 0, 3, 2, 11, 7, 6, 5, 10, 9, 8], [13, 12, 4, 1, 0, 3, 2, 11, 7, 6, 5, 10, 9, 8]] [⟨some 24, none, .faddr 0 (.t 2)⟩, ⟨some 25, none, .load false 1 (.t 24)⟩, ⟨some 26, none, .faddr 0 (.t 3)⟩, ⟨some 27, none, .load false 1 (.t 26)⟩, ⟨some 28, none, .call 91 [(.t 25), (.t 27)]⟩, ⟨some 29, none, .faddr 1 (.t 2)⟩, ⟨some 30, none, .load false 1 (.t 29)⟩, ⟨some 31, none, .len false (.t 30)⟩, ⟨some 32, none, .faddr 1 (.t 3)⟩, ⟨some 33, none, .load false 1 (.t 32)⟩, ⟨some 34, none, .len false (.t 33)⟩, ⟨some 35, none, .call 71 [(.t 31), (.t 34)]⟩, ⟨some 36, none, .mkrow 3 1 [(.int .i64 0)] 2 [(0, (.t 28)), (1, (.t 35))]⟩, ⟨some 37, none, .call 69 [(.t 36)]⟩, ⟨some 7, none, .mv (.t 37)⟩]) (.seq (.reg [⟨some 38, none, .mv (.t 7)⟩, ⟨some 39, none, .bin .neq false (.t 38) (.c (.int .i64 0))⟩]) (.cond (.t 39) (.seq (.reg [⟨some 40, none, .mv (.t 7)⟩, ⟨some 4, none, .mv (.t 40)⟩]) .ret) .skip))) (.seq (.reg [⟨some 41, none, .faddr 1 (.t 2)⟩, ⟨some 42, none, .load false 1 (.t 41)⟩, ⟨some 43, none, .faddr 1 (.t 3)⟩, ⟨some 44, none, .load false 1 (.t 43)⟩, ⟨some 45, none, .call 92 [(.t 42), (.t 44), (.c (.fn 70 []))]⟩, ⟨some 4, none, .mv (.t 45)⟩]) .ret)))))
theorem k_impl_compareTerms : codeOf Tryz.prog 70 = some ⟨46, c_impl_compareTerms, [(.tmp 4)]⟩ := by kernel_rfl
theorem m_impl_compareTerms : modes 70 = ⟨[], .asis, none, false⟩ := by unfold modes; rfl
theorem g_impl_compareTerms : goFn Tryz.prog 70 = true := by kernel_rfl
set_option maxHeartbeats 1000000 in
theorem compareFunc_E (fid : Nat) (xs ys : List Tm) (hl : xs.length ≤ 1099511627776) (hl' : ys.length ≤ 1099511627776) (hg : goFn Tryz.prog fid = true) (hm : (modes fid).hand = []) (hE : ∀ x ∈ xs, ∀ y ∈ ys, E fid [x.sv, y.sv] [] = some (.int .i64 (x.cmp y), [])) : E 92 [.arr (xs.map Tm.d), .arr (ys.map Tm.d), .fn fid []] [] = some (.int .i64 (Tm.cmpL xs ys), []) := by
  refine E_walk k_slices_CompareFunc_impl_Term_impl_Term_impl_Term_impl_Term m_slices_CompareFunc_impl_Term_impl_Term_impl_Term_impl_Term (of_decide_eq_true rfl) ?_
  simp (disch := omega) only [c_slices_CompareFunc_impl_Term_impl_Term_impl_Term_impl_Term, go_sem, go_cond, zA, zB, zC, zD, zE, zF, zG, zH, ↓reduceIte, zI, reduceCtorEq, zJ, zK]
  refine go_loop (α := Int) (fun a => ⟨slots 39 0 [(0, .arr (xs.map Tm.d)), (1, .arr (ys.map Tm.d)), (2, .fn fid []), (11, .arr (xs.map Tm.d)), (12, .int .i64 xs.length), (13, .int .i64 a)], []⟩) (fun a => ∃ k : Nat, a = k ∧ k ≤ (xs).length ∧ k ≤ ys.length ∧ Tm.cmpL (xs.drop k) (ys.drop k) = Tm.cmpL xs ys) (fun a => (xs).length - (a).toNat) 0 ⟨0, rfl, Nat.zero_le _, Nat.zero_le _, by rw [List.drop_zero, List.drop_zero]⟩ (by simp (disch := omega) only [go_sem, go_cond, zA, zB, zC, zD, zE, zF, zG, zH, ↓reduceIte, zI, reduceCtorEq, zJ, zK]) ?_
  rintro i ⟨k, hi, hk, hR⟩
  have hni : i.toNat = k := by omega
  have hni1 : (i + 1).toNat = k + 1 := by omega
  rcases Nat.lt_or_ge k (xs).length with hlt | hge
  · obtain ⟨hk', hR⟩ := hR
    have hgx := get_at Tm.d hlt
    rw [Tm.d_eq] at hgx
    rcases Nat.lt_or_ge k ys.length with hlt' | hge'
    · have hgy := get_at Tm.d hlt'
      rw [Tm.d_eq] at hgy
      have hc := hE xs[k] (List.getElem_mem hlt) ys[k] (List.getElem_mem hlt')
      rw [cmpL_drop hlt hlt'] at hR
      by_cases h0 : xs[k].cmp ys[k] = 0
      · rw [orZ, if_pos h0] at hR
        rw [h0] at hc
        simp (disch := omega) only [go_sem, go_cond, zA, zB, zC, zD, zE, zF, zG, zH, ↓reduceIte, zI, reduceCtorEq, zJ, zK, hni, hgx, hgy, hc, hg, hm]
        exact ⟨i + 1, ⟨k + 1, by omega, hlt, hlt', hR⟩, by omega, by first | trivial | rfl⟩
      · rw [orZ, if_neg h0] at hR
        simp (disch := omega) only [go_sem, go_cond, zA, zB, zC, zD, zE, zF, zG, zH, ↓reduceIte, zI, reduceCtorEq, zJ, zK, hni, hgx, hgy, hc, hg, hm, h0]
        exact hR
    · rw [cmpL_short hlt hge'] at hR
      simp (disch := omega) only [go_sem, go_cond, zA, zB, zC, zD, zE, zF, zG, zH, ↓reduceIte, zI, reduceCtorEq, zJ, zK, hni, hgx]
      exact hR
  · obtain ⟨hk', hR⟩ := hR
    obtain rfl : k = xs.length := by omega
    rcases Nat.lt_or_ge xs.length ys.length with hlt' | hge'
    · rw [cmpL_end (Nat.le_refl _) hlt'] at hR
      simp (disch := omega) only [go_sem, go_cond, zA, zB, zC, zD, zE, zF, zG, zH, ↓reduceIte, zI, reduceCtorEq, zJ, zK, hni]
      exact hR
    · rw [cmpL_both (Nat.le_refl _) hge'] at hR
      simp (disch := omega) only [go_sem, go_cond, zA, zB, zC, zD, zE, zF, zG, zH, ↓reduceIte, zI, reduceCtorEq, zJ, zK, hni]
      exact hR
abbrev CmpC (f : FuncId) (x y : Tm) : Prop := x.cok = true → y.cok = true → x.nodes ≤ 1099511627776 → y.nodes ≤ 1099511627776 → E f [x.sv, y.sv] [] = some (.int .i64 (x.cmp y), [])
set_option maxHeartbeats 1000000 in
theorem compareTerms_of (x : Tm) (ih : ∀ x' ∈ x.args, ∀ y, CmpC 70 x' y) (y : Tm) : CmpC 70 x y := by
  intro hx hy hnx hny
  have lx := Tm.length_le x.args
  have ly := Tm.length_le y.args
  have nx := Tm.nodes_eq x
  have ny := Tm.nodes_eq y
  have h1 := isVar_E x hx
  have h2 := isVar_E y hy
  have h3 := compareS_E x.name y.name
  have h4 := compareI_E x.args.length y.args.length
  have h5 := or2_E (cmpB x.name y.name) (cmpI x.args.length y.args.length)
  rw [Tm.cok_eq, Bool.and_eq_true] at hx hy
  have h6 := compareFunc_E 70 x.args y.args (by omega) (by omega) g_impl_compareTerms (by rw [m_impl_compareTerms]) fun x' hx' y' hy' => ih x' hx' y' (Tm.cokS_mem hx.2 hx') (Tm.cokS_mem hy.2 hy') (by have := Tm.nodes_mem hx'; omega) (by have := Tm.nodes_mem hy'; omega)
  rw [Tm.cmp_eq]
  cases vx : varB x.name <;> rw [vx] at h1 <;> cases vy : varB y.name <;> rw [vy] at h2
  all_goals
    simp only [Bool.not_true, Bool.not_false, Bool.and_true, Bool.and_false, Bool.true_and, Bool.false_and, if_true, if_false, Bool.false_eq_true]
    by_cases h0 : orZ (cmpB x.name y.name) (cmpI x.args.length y.args.length) = 0
    · rw [h0] at h5
      try rw [h0]
      refine E_walk k_impl_compareTerms m_impl_compareTerms (of_decide_eq_true rfl) ?_
      simp (disch := omega) only [c_impl_compareTerms, go_sem, go_cond, zA, zB, zC, zD, zE, zF, zG, zH, ↓reduceIte, zI, reduceCtorEq, zJ, zK, h1, h2, h3, h4, h5, h6, m_impl_isVar, m_cmp_Compare_string, m_cmp_Compare_int, m_cmp_Or_int, m_slices_CompareFunc_impl_Term_impl_Term_impl_Term_impl_Term]
      try rfl
    · try rw [orZ.eq_1 (orZ _ _) _, if_neg h0]
      refine E_walk k_impl_compareTerms m_impl_compareTerms (of_decide_eq_true rfl) ?_
      simp (disch := omega) only [c_impl_compareTerms, go_sem, go_cond, zA, zB, zC, zD, zE, zF, zG, zH, ↓reduceIte, zI, reduceCtorEq, zJ, zK, h0, h1, h2, h3, h4, h5, m_impl_isVar, m_cmp_Compare_string, m_cmp_Compare_int, m_cmp_Or_int]
theorem compareTerms_E (x y : Tm) : CmpC 70 x y := compareTerms_of x (fun x' hx' y' => compareTerms_E x' y') y
termination_by SizeOf.sizeOf x
decreasing_by exact Tm.lt_of_mem hx'
def c_spec_l2Text : SC := (.seq (.reg [⟨some 4, none, .mv (.c (.int .i64 0))⟩]) (.seq (.block 0 (.seq (.reg [⟨some 6, none, .mv (.t 0)⟩, ⟨some 7, none, .mv (.t 1)⟩, ⟨some 8, none, .bin .lss false (.t 6) (.t 7)⟩, ⟨some 5, none, .mv (.t 8)⟩]) (.cond (.t 5) (.seq (.reg [⟨some 4, none, .mv (.c (.int .i64 (-(0 + 1))))⟩]) .ret) (.seq (.reg [⟨some 10, none, .mv (.t 0)⟩, ⟨some 11, none, .mv (.t 1)⟩, ⟨some 12, none, .bin .gtr false (.t 10) (.t 11)⟩, ⟨some 9, none, .mv (.t 12)⟩]) (.cond (.t 9) (.seq (.reg [⟨some 4, none, .mv (.c (.int .i64 1))⟩]) .ret) .skip))))) (.seq (.reg [⟨some 4, none, .mv (.c (.int .i64 0))⟩]) .ret)))
theorem k_spec_l2Text : codeOf Tryz.prog 82 = some ⟨13, c_spec_l2Text, [(.tmp 4)]⟩ := by kernel_rfl
theorem m_spec_l2Text : modes 82 = ⟨[], .asis, none, false⟩ := by unfold modes; rfl
def c_spec_l2Compare : SC := (.seq (.reg [⟨some 2, none, .boxv 68 2 (.t 0)⟩, ⟨some 3, none, .boxv 68 2 (.t 1)⟩, ⟨some 4, none, .mv (.c (.int .i64 0))⟩]) (.seq (.dreg [[], [0], [1, 0], [], [3], [4, 3, 2, 1, 0], [2, 1, 0, 5, 4, 3], [5, 4, 3, 2, 1, 0, 6]] [⟨some 9, none, .faddr 0 (.t 2)⟩, ⟨some 10, none, .load false 1 (.t 9)⟩, ⟨some 11, none, .call 32 [(.t 10)]⟩, ⟨some 12, none, .faddr 0 (.t 3)⟩, ⟨some 13, none, .load false 1 (.t 12)⟩, ⟨some 14, none, .call 32 [(.t 13)]⟩, ⟨some 5, none, .mv (.t 11)⟩, ⟨some 6, none, .mv (.t 14)⟩]) (.seq (.block 0 (.seq (.reg [⟨some 16, none, .mv (.t 5)⟩, ⟨some 17, none, .mv (.t 16)⟩, ⟨(some 18), (some (17, true)), (.mv (.t 6))⟩, ⟨(some 19), (some (17, true)), (.un .not (.t 18))⟩, ⟨some 20, none, .pick (.t 17) (.t 19) (.c (.bool false))⟩, ⟨some 15, none, .mv (.t 20)⟩]) (.cond (.t 15) (.seq (.reg [⟨some 4, none, .mv (.c (.int .i64 (-(0 + 1))))⟩]) .ret) (.seq (.reg [⟨some 22, none, .mv (.t 5)⟩, ⟨some 23, none, .un .not (.t 22)⟩, ⟨some 24, none, .mv (.t 23)⟩, ⟨(some 25), (some (24, true)), (.mv (.t 6))⟩, ⟨some 26, none, .pick (.t 24) (.t 25) (.c (.bool false))⟩, ⟨some 21, none, .mv (.t 26)⟩]) (.cond (.t 21) (.seq (.reg [⟨some 4, none, .mv (.c (.int .i64 1))⟩]) .ret) (.seq (.reg [⟨some 28, none, .faddr 0 (.t 2)⟩, ⟨some 29, none, .load false 1 (.t 28)⟩, ⟨some 30, none, .faddr 0 (.t 3)⟩, ⟨some 31, none, .load false 1 (.t 30)⟩, ⟨some 32, none, .bin .neq false (.t 29) (.t 31)⟩, ⟨some 27, none, .mv (.t 32)⟩]) (.cond (.t 27) (.seq (.reg [⟨some 33, none, .faddr 0 (.t 2)⟩, ⟨some 34, none, .load false 1 (.t 33)⟩, ⟨some 35, none, .faddr 0 (.t 3)⟩, ⟨some 36, none, .load false 1 (.t 35)⟩, ⟨some 37, none, .call 82 [(.t 34), (.t 36)]⟩, ⟨some 4, none, .mv (.t 37)⟩]) .ret) (.seq (.reg [⟨some 39, none, .faddr 1 (.t 2)⟩, ⟨some 40, none, .load false 1 (.t 39)⟩, ⟨some 41, none, .len false (.t 40)⟩, ⟨some 42, none, .faddr 1 (.t 3)⟩, ⟨some 43, none, .load false 1 (.t 42)⟩, ⟨some 44, none, .len false (.t 43)⟩, ⟨some 45, none, .bin .lss false (.t 41) (.t 44)⟩, ⟨some 38, none, .mv (.t 45)⟩]) (.cond (.t 38) (.seq (.reg [⟨some 4, none, .mv (.c (.int .i64 (-(0 + 1))))⟩]) .ret) (.seq (.reg [⟨some 47, none, .faddr 1 (.t 2)⟩, ⟨some 48, none, .load false 1 (.t 47)⟩, ⟨some 49, none, .len false (.t 48)⟩, ⟨some 50, none, .faddr 1 (.t 3)⟩, ⟨some 51, none, .load false 1 (.t 50)⟩, ⟨some 52, none, .len false (.t 51)⟩, ⟨some 53, none, .bin .gtr false (.t 49) (.t 52)⟩, ⟨some 46, none, .mv (.t 53)⟩]) (.cond (.t 46) (.seq (.reg [⟨some 4, none, .mv (.c (.int .i64 1))⟩]) .ret) .skip))))))))))) (.seq (.seq (.reg [⟨some 7, none, .mv (.c (.int .i64 0))⟩]) (.block 1 (.loop [0, 0, 1, 1, 0, 0, 0, 1, 0, 0, 0, 0, 0, 0, 0, 0, 0, 0, 0, 0, 0, 0, 0, 0, 0, 0, 0, 0, 0, 0, 0, 0, 0, 0, 0, 0, 0, 0, 0, 0, 0, 0, 0, 0, 0, 0, 0, 0, 0, 0, 0, 0, 0, 0, 0, 0, 0, 0, 0, 0, 0, 0, 0, 0, 0, 0, 0, 0, 0, 0, 0, 0, 0, 0, 0] (.seq (.seq (.reg [⟨some 54, none, .mv (.t 7)⟩, ⟨some 55, none, .faddr 1 (.t 2)⟩, ⟨some 56, none, .load false 1 (.t 55)⟩, ⟨some 57, none, .len false (.t 56)⟩, ⟨some 58, none, .bin .lss false (.t 54) (.t 57)⟩]) (.cond (.t 58) .skip (.exit 1))) (.seq (.block 2 (.seq (.dreg [[], [0], [], [1, 0, 2], [3, 1, 0, 2], [], [5], [], [6, 5, 7], [8, 6, 5, 7], [4, 3, 1, 0, 2, 9, 8, 6, 5, 7], [10, 4, 3, 1, 0, 2, 9, 8, 6, 5, 7]] [⟨some 61, none, .faddr 1 (.t 2)⟩, ⟨some 62, none, .load false 1 (.t 61)⟩, ⟨some 63, none, .mv (.t 7)⟩, ⟨some 64, none, .iaddr 2 (.t 62) (.t 63)⟩, ⟨some 65, none, .load true 2 (.t 64)⟩, ⟨some 66, none, .faddr 1 (.t 3)⟩, ⟨some 67, none, .load false 1 (.t 66)⟩, ⟨some 68, none, .mv (.t 7)⟩, ⟨some 69, none, .iaddr 2 (.t 67) (.t 68)⟩, ⟨some 70, none, .load true 2 (.t 69)⟩, ⟨some 71, none, .call 58 [(.t 65), (.t 70)]⟩, ⟨some 8, none, .mv (.t 71)⟩]) (.seq (.reg [⟨some 72, none, .mv (.t 8)⟩, ⟨some 73, none, .bin .neq false (.t 72) (.c (.int .i64 0))⟩]) (.cond (.t 73) (.seq (.reg [⟨some 74, none, .mv (.t 8)⟩, ⟨some 4, none, .mv (.t 74)⟩]) .ret) .skip)))) (.reg [⟨some 59, none, .mv (.t 7)⟩, ⟨some 60, none, .bin .add false (.t 59) (.c (.int .i64 1))⟩, ⟨some 7, none, .mv (.t 60)⟩])))))) (.seq (.reg [⟨some 4, none, .mv (.c (.int .i64 0))⟩]) .ret)))))
theorem k_spec_l2Compare : codeOf Tryz.prog 58 = some ⟨75, c_spec_l2Compare, [(.tmp 4)]⟩ := by kernel_rfl
theorem m_spec_l2Compare : modes 58 = ⟨[], .asis, none, false⟩ := by unfold modes; rfl
theorem l2Text_E (a b : ByteArray) : E 82 [.str a, .str b] [] = some (.int .i64 (cmpB a b), []) := by
  unfold cmpB
  cases h3 : strLt a b
  · cases h4 : dec (a = b)
    · refine E_walk k_spec_l2Text m_spec_l2Text (of_decide_eq_true rfl) ?_
      simp (disch := omega) only [c_spec_l2Text, go_sem, go_cond, zA, zB, zC, zD, zE, zF, zG, zH, ↓reduceIte, zI, reduceCtorEq, zJ, zK, h3, h4]
    · refine E_walk k_spec_l2Text m_spec_l2Text (of_decide_eq_true rfl) ?_
      simp (disch := omega) only [c_spec_l2Text, go_sem, go_cond, zA, zB, zC, zD, zE, zF, zG, zH, ↓reduceIte, zI, reduceCtorEq, zJ, zK, h3, h4]
  · refine E_walk k_spec_l2Text m_spec_l2Text (of_decide_eq_true rfl) ?_
    simp (disch := omega) only [c_spec_l2Text, go_sem, go_cond, zA, zB, zC, zD, zE, zF, zG, zH, ↓reduceIte, zI, reduceCtorEq, zJ, zK, h3]
theorem cmpB_ne {a b : ByteArray} (h : ¬ a = b) : cmpB a b ≠ 0 := by
  unfold cmpB
  rw [dec_f h]
  cases strLt a b <;> simp
theorem cmpB_eq (a : ByteArray) : cmpB a a = 0 := by
  unfold cmpB
  rw [strLt_self, dec_t rfl]; rfl
set_option maxHeartbeats 2000000 in
theorem l2Compare_of (x : Tm) (ih : ∀ x' ∈ x.args, ∀ y, CmpC 58 x' y) (y : Tm) : CmpC 58 x y := by
  intro hx hy hnx hny
  have lx := Tm.length_le x.args
  have ly := Tm.length_le y.args
  have nx := Tm.nodes_eq x
  have ny := Tm.nodes_eq y
  have h1 := l2Var_E x.name
  have h2 := l2Var_E y.name
  have h3 := l2Text_E x.name y.name
  rw [Tm.cok_eq, Bool.and_eq_true] at hx hy
  rw [Tm.cmp_eq]
  cases vx : varB x.name <;> rw [vx] at h1 <;> cases vy : varB y.name <;> rw [vy] at h2
  case' false.true => refine E_walk k_spec_l2Compare m_spec_l2Compare (of_decide_eq_true rfl) ?_
                      simp (disch := omega) only [c_spec_l2Compare, go_sem, go_cond, zA, zB, zC, zD, zE, zF, zG, zH, ↓reduceIte, zI, reduceCtorEq, zJ, zK, h1, h2, m_spec_l2Var]
  case' true.false => refine E_walk k_spec_l2Compare m_spec_l2Compare (of_decide_eq_true rfl) ?_
                      simp (disch := omega) only [c_spec_l2Compare, go_sem, go_cond, zA, zB, zC, zD, zE, zF, zG, zH, ↓reduceIte, zI, reduceCtorEq, zJ, zK, h1, h2, m_spec_l2Var]
  case' false.false => skip
  case' true.true => skip
  all_goals (try trivial)
  all_goals
    simp only [Bool.not_true, Bool.not_false, Bool.and_true, Bool.and_false, Bool.true_and, Bool.false_and, if_true, if_false, Bool.false_eq_true]
    by_cases h0 : x.name = y.name
    · rw [show cmpB x.name y.name = 0 by rw [h0]; exact cmpB_eq _]
      unfold cmpI
      rcases Nat.lt_or_ge x.args.length y.args.length with h4 | h4
      · rw [dec_t (by omega)]
        refine E_walk k_spec_l2Compare m_spec_l2Compare (of_decide_eq_true rfl) ?_
        simp (disch := omega) only [c_spec_l2Compare, go_sem, go_cond, zA, zB, zC, zD, zE, zF, zG, zH, ↓reduceIte, zI, reduceCtorEq, zJ, zK, h0, h1, h2, m_spec_l2Var]
        rfl
      · rcases Nat.lt_or_ge y.args.length x.args.length with h5 | h5
        · rw [dec_f (by omega), dec_t (by omega)]
          refine E_walk k_spec_l2Compare m_spec_l2Compare (of_decide_eq_true rfl) ?_
          simp (disch := omega) only [c_spec_l2Compare, go_sem, go_cond, zA, zB, zC, zD, zE, zF, zG, zH, ↓reduceIte, zI, reduceCtorEq, zJ, zK, h0, h1, h2, m_spec_l2Var]
          rfl
        · rw [dec_f (by omega), dec_f (by omega)]
          refine E_walk k_spec_l2Compare m_spec_l2Compare (of_decide_eq_true rfl) ?_
          simp (disch := omega) only [c_spec_l2Compare, go_sem, go_cond, zA, zB, zC, zD, zE, zF, zG, zH, ↓reduceIte, zI, reduceCtorEq, zJ, zK, h0, h1, h2, m_spec_l2Var]
          refine go_loop (α := Int) (fun a => ⟨slots 75 0 [(2, .ptr 0 0), (3, .ptr 1 0), (7, .int .i64 a)], [.box 68 [.str x.name, .arr (x.args.map Tm.d)], .box 68 [.str y.name, .arr (y.args.map Tm.d)]]⟩) (fun a => ∃ k : Nat, a = k ∧ k ≤ (x.args).length ∧ Tm.cmpL (x.args.drop k) (y.args.drop k) = Tm.cmpL x.args y.args) (fun a => (x.args).length - (a).toNat) 0 ⟨0, rfl, Nat.zero_le _, by rw [List.drop_zero, List.drop_zero]⟩ (by simp (disch := omega) only [go_sem, go_cond, zA, zB, zC, zD, zE, zF, zG, zH, ↓reduceIte, zI, reduceCtorEq, zJ, zK, h0]) ?_
          rintro i ⟨k, hi, hk, hR⟩
          have hni : i.toNat = k := by omega
          have hni1 : (i + 1).toNat = k + 1 := by omega
          rcases Nat.lt_or_ge k (x.args).length with hlt | hge
          · have hlt' : k < y.args.length := by omega
            have hgx := get_at Tm.d hlt
            rw [Tm.d_eq] at hgx
            have hgy := get_at Tm.d hlt'
            rw [Tm.d_eq] at hgy
            have hc := ih x.args[k] (List.getElem_mem hlt) y.args[k] (Tm.cokS_mem hx.2 (List.getElem_mem hlt)) (Tm.cokS_mem hy.2 (List.getElem_mem hlt')) (by have := Tm.nodes_le x.args k hlt; omega) (by have := Tm.nodes_le y.args k hlt'; omega)
            rw [cmpL_drop hlt hlt'] at hR
            by_cases hz : x.args[k].cmp y.args[k] = 0
            · rw [orZ, if_pos hz] at hR
              rw [hz] at hc
              simp (disch := omega) only [go_sem, go_cond, zA, zB, zC, zD, zE, zF, zG, zH, ↓reduceIte, zI, reduceCtorEq, zJ, zK, hni, hgx, hgy, hc, m_spec_l2Compare]
              exact ⟨i + 1, ⟨k + 1, by omega, hlt, hR⟩, by omega, by first | trivial | rfl | simp only [h0, and_self]⟩
            · rw [orZ, if_neg hz] at hR
              simp (disch := omega) only [go_sem, go_cond, zA, zB, zC, zD, zE, zF, zG, zH, ↓reduceIte, zI, reduceCtorEq, zJ, zK, hni, hgx, hgy, hc, hz, m_spec_l2Compare]
              exact hR
          · rw [cmpL_both hge (by omega)] at hR
            simp (disch := omega) only [go_sem, go_cond, zA, zB, zC, zD, zE, zF, zG, zH, ↓reduceIte, zI, reduceCtorEq, zJ, zK, hni]
            exact hR
    · have h6 := cmpB_ne h0
      rw [show orZ (orZ (cmpB x.name y.name) (cmpI x.args.length y.args.length)) (Tm.cmpL x.args y.args) = cmpB x.name y.name by unfold orZ; rw [if_neg h6, if_neg h6]]
      refine E_walk k_spec_l2Compare m_spec_l2Compare (of_decide_eq_true rfl) ?_
      simp (disch := omega) only [c_spec_l2Compare, go_sem, go_cond, zA, zB, zC, zD, zE, zF, zG, zH, ↓reduceIte, zI, reduceCtorEq, zJ, zK, h0, h1, h2, h3, m_spec_l2Var, m_spec_l2Text]
theorem l2Compare_E (x y : Tm) : CmpC 58 x y := l2Compare_of x (fun x' hx' y' => l2Compare_E x' y') y
termination_by SizeOf.sizeOf x
decreasing_by exact Tm.lt_of_mem hx'
noncomputable def ltAt (xs : List Lt) (k : Nat) : Bool := match xs[k]? with
  | none => true
  | some x => x.atom.atom && (match k with
    | 0 => true
    | j + 1 => match xs[j]? with
      | none => true
      | some y => decide (y.cmp x < 0))
noncomputable def ltTo (xs : List Lt) : Nat → Bool
  | 0 => true
  | k + 1 => ltTo xs k && ltAt xs k
theorem ltTo_mono {xs : List Lt} {k n : Nat} (h : ltTo xs k = false) (hn : k ≤ n) : ltTo xs n = false := by
  induction n with
  | zero => obtain rfl : k = 0 := by omega
            exact h
  | succ n ih =>
    rcases Nat.lt_or_ge n k with h1 | h1
    · obtain rfl : k = n + 1 := by omega
      exact h
    · rw [ltTo, ih h1]; rfl
theorem ltAt_zero {xs : List Lt} (h : 0 < xs.length) : ltAt xs 0 = xs[0].atom.atom := by
  unfold ltAt
  rw [List.getElem?_eq_getElem h]
  simp
theorem ltAt_succ {xs : List Lt} {j : Nat} (h : j + 1 < xs.length) : ltAt xs (j + 1) = (xs[j + 1].atom.atom && decide (xs[j].cmp xs[j + 1] < 0)) := by
  unfold ltAt
  rw [List.getElem?_eq_getElem h]
  simp only [List.getElem?_eq_getElem (show j < xs.length by omega)]
theorem ltTo_atom {xs : List Lt} {k j : Nat} (h : ltTo xs k = true) (hj : j < k) (hl : j < xs.length) : xs[j].atom.atom = true := by
  induction k with
  | zero => omega
  | succ k ih =>
    rw [ltTo, Bool.and_eq_true] at h
    rcases Nat.lt_or_ge j k with h1 | h1
    · exact ih h.1 h1
    · obtain rfl : j = k := by omega
      cases j with
      | zero => rw [← ltAt_zero hl]; exact h.2
      | succ j =>
        have := h.2
        rw [ltAt_succ hl, Bool.and_eq_true] at this
        exact this.1
noncomputable def Cl.ok (x : Cl) : Bool := decide (x.lits.length ≤ 8) && ltTo x.lits x.lits.length
theorem Cl.not_ok {x : Cl} {k : Nat} (h : ltTo x.lits k = true) (h' : ltAt x.lits k = false) (hk : k < x.lits.length) : x.ok = false := by
  have : ltTo x.lits x.lits.length = false := ltTo_mono (k := k + 1) (by rw [ltTo, h, h']; rfl) (by omega)
  unfold Cl.ok
  rw [this, Bool.and_false]
def Cl.tame (x : Cl) : Prop := x.lits.length ≤ 1099511627776 ∧ ∀ y ∈ x.lits, y.atom.nodes ≤ 1099511627776
theorem Cl.tame_at {x : Cl} (h : x.tame) {k : Nat} (hk : k < x.lits.length) : x.lits[k].atom.nodes ≤ 1099511627776 := h.2 _ (List.getElem_mem hk)
def c_impl_flag : SC := (.seq (.reg [⟨some 2, none, .mv (.c (.int .i64 0))⟩]) (.seq (.seq (.reg [⟨some 3, none, .mv (.t 0)⟩]) (.cond (.t 3) (.seq (.reg [⟨some 2, none, .mv (.c (.int .i64 1))⟩]) .ret) .skip)) (.seq (.reg [⟨some 2, none, .mv (.c (.int .i64 0))⟩]) .ret)))
theorem k_impl_flag : codeOf Tryz.prog 72 = some ⟨4, c_impl_flag, [(.tmp 2)]⟩ := by kernel_rfl
theorem m_impl_flag : modes 72 = ⟨[], .asis, none, false⟩ := by unfold modes; rfl
def c_impl_compareLiterals : SC := (.seq (.reg [⟨some 2, none, .boxv 74 3 (.t 0)⟩, ⟨some 3, none, .boxv 74 3 (.t 1)⟩, ⟨some 4, none, .mv (.c (.int .i64 0))⟩]) (.seq (.dreg [[], [0], [], [2], [1, 0, 3, 2], [], [5], [6, 5, 4, 1, 0, 3, 2], [], [8], [9, 8, 7, 6, 5, 4, 1, 0, 3, 2], [7, 6, 5, 4, 1, 0, 3, 2, 10, 9, 8], [4, 1, 0, 3, 2, 11, 7, 6, 5, 10, 9, 8], [12, 4, 1, 0, 3, 2, 11, 7, 6, 5, 10, 9, 8], [13, 12, 4, 1, 0, 3, 2, 11, 7, 6, 5, 10, 9, 8]] [⟨some 5, none, .faddr 1 (.t 2)⟩, ⟨some 6, none, .load true 2 (.t 5)⟩, ⟨some 7, none, .faddr 1 (.t 3)⟩, ⟨some 8, none, .load true 2 (.t 7)⟩, ⟨some 9, none, .call 70 [(.t 6), (.t 8)]⟩, ⟨some 10, none, .faddr 0 (.t 2)⟩, ⟨some 11, none, .load false 1 (.t 10)⟩, ⟨some 12, none, .call 72 [(.t 11)]⟩, ⟨some 13, none, .faddr 0 (.t 3)⟩, ⟨some 14, none, .load false 1 (.t 13)⟩, ⟨some 15, none, .call 72 [(.t 14)]⟩, ⟨some 16, none, .call 71 [(.t 12), (.t 15)]⟩, ⟨some 17, none, .mkrow 3 1 [(.int .i64 0)] 2 [(0, (.t 9)), (1, (.t 16))]⟩, ⟨some 18, none, .call 69 [(.t 17)]⟩, ⟨some 4, none, .mv (.t 18)⟩]) .ret))
theorem k_impl_compareLiterals : codeOf Tryz.prog 43 = some ⟨19, c_impl_compareLiterals, [(.tmp 4)]⟩ := by kernel_rfl
theorem m_impl_compareLiterals : modes 43 = ⟨[], .asis, none, false⟩ := by unfold modes; rfl
def c_spec_l7Literals : SC := (.seq (.reg [⟨some 2, none, .boxv 74 3 (.t 0)⟩, ⟨some 3, none, .boxv 74 3 (.t 1)⟩, ⟨some 4, none, .mv (.c (.int .i64 0))⟩]) (.seq (.reg [⟨some 6, none, .faddr 1 (.t 2)⟩, ⟨some 7, none, .load true 2 (.t 6)⟩, ⟨some 8, none, .faddr 1 (.t 3)⟩, ⟨some 9, none, .load true 2 (.t 8)⟩, ⟨some 10, none, .call 58 [(.t 7), (.t 9)]⟩, ⟨some 5, none, .mv (.t 10)⟩]) (.seq (.block 0 (.seq (.reg [⟨some 12, none, .mv (.t 5)⟩, ⟨some 13, none, .bin .neq false (.t 12) (.c (.int .i64 0))⟩, ⟨some 11, none, .mv (.t 13)⟩]) (.cond (.t 11) (.seq (.reg [⟨some 14, none, .mv (.t 5)⟩, ⟨some 4, none, .mv (.t 14)⟩]) .ret) (.seq (.reg [⟨some 16, none, .faddr 0 (.t 2)⟩, ⟨some 17, none, .load false 1 (.t 16)⟩, ⟨some 18, none, .un .not (.t 17)⟩, ⟨some 19, none, .mv (.t 18)⟩, ⟨(some 20), (some (19, true)), (.faddr 0 (.t 3))⟩, ⟨(some 21), (some (19, true)), (.load false 1 (.t 20))⟩, ⟨some 22, none, .pick (.t 19) (.t 21) (.c (.bool false))⟩, ⟨some 15, none, .mv (.t 22)⟩]) (.cond (.t 15) (.seq (.reg [⟨some 4, none, .mv (.c (.int .i64 (-(0 + 1))))⟩]) .ret) (.seq (.reg [⟨some 24, none, .faddr 0 (.t 2)⟩, ⟨some 25, none, .load false 1 (.t 24)⟩, ⟨some 26, none, .mv (.t 25)⟩, ⟨(some 27), (some (26, true)), (.faddr 0 (.t 3))⟩, ⟨(some 28), (some (26, true)), (.load false 1 (.t 27))⟩, ⟨(some 29), (some (26, true)), (.un .not (.t 28))⟩, ⟨some 30, none, .pick (.t 26) (.t 29) (.c (.bool false))⟩, ⟨some 23, none, .mv (.t 30)⟩]) (.cond (.t 23) (.seq (.reg [⟨some 4, none, .mv (.c (.int .i64 1))⟩]) .ret) .skip))))))) (.seq (.reg [⟨some 4, none, .mv (.c (.int .i64 0))⟩]) .ret))))
theorem k_spec_l7Literals : codeOf Tryz.prog 35 = some ⟨31, c_spec_l7Literals, [(.tmp 4)]⟩ := by kernel_rfl
theorem m_spec_l7Literals : modes 35 = ⟨[], .asis, none, false⟩ := by unfold modes; rfl
def c_impl_IsValidLiteral : SC := (.seq (.reg [⟨some 1, none, .boxv 74 3 (.t 0)⟩, ⟨some 2, none, .mv (.c (.bool false))⟩]) (.seq (.reg [⟨some 3, none, .faddr 1 (.t 1)⟩, ⟨some 4, none, .load true 2 (.t 3)⟩, ⟨some 5, none, .call 68 [(.t 4)]⟩, ⟨some 2, none, .mv (.t 5)⟩]) .ret))
theorem k_impl_IsValidLiteral : codeOf Tryz.prog 42 = some ⟨6, c_impl_IsValidLiteral, [(.tmp 2)]⟩ := by kernel_rfl
theorem m_impl_IsValidLiteral : modes 42 = ⟨[], .asis, none, false⟩ := by unfold modes; rfl
def c_impl_IsValidClause : SC := (.seq (.reg [⟨some 1, none, .boxv 32 1 (.t 0)⟩, ⟨some 2, none, .mv (.c (.bool false))⟩]) (.seq (.seq (.reg [⟨some 5, none, .faddr 0 (.t 1)⟩, ⟨some 6, none, .load false 1 (.t 5)⟩, ⟨some 7, none, .len false (.t 6)⟩, ⟨some 8, none, .mv (.c (.int .i64 0))⟩]) (.block 0 (.loop [0, 1, 0, 0, 0, 0, 1, 1, 1, 0, 0, 0, 0, 0, 0, 0, 0, 0, 0, 0, 0, 0, 0, 0, 0, 0, 0, 0, 0, 0, 0, 0, 0, 0, 0, 0] (.seq (.reg [⟨some 9, none, .bin .lss false (.t 8) (.t 7)⟩]) (.seq (.cond (.t 9) .skip (.exit 0)) (.seq (.block 1 (.seq (.reg [⟨some 10, none, .mv (.t 8)⟩, ⟨some 11, none, .iaddr 3 (.t 6) (.t 8)⟩, ⟨some 12, none, .load true 3 (.t 11)⟩, ⟨(some 4), none, (.alloc 74 [(.bool false), (.str ⟨#[]⟩), .nil])⟩, ⟨some 3, none, .mv (.t 10)⟩, ⟨none, none, (.store 3 (.t 4) (.t 12))⟩]) (.seq (.dreg [[], [0], [1, 0], [2, 1, 0], [3, 2, 1, 0], [4, 3, 2, 1, 0], [5, 4, 3, 2, 1, 0], [6, 5, 4, 3, 2, 1, 0], [7, 6, 5, 4, 3, 2, 1, 0], [6, 5, 4, 3, 2, 1, 0], [9, 6, 5, 4, 3, 2, 1, 0], [8, 7, 6, 5, 4, 3, 2, 1, 0, 10, 9], [11, 8, 7, 6, 5, 4, 3, 2, 1, 0, 10, 9], [6, 5, 4, 3, 2, 1, 0], [12, 11, 8, 7, 6, 5, 4, 3, 2, 1, 0, 10, 9, 13], [14, 12, 11, 8, 7, 6, 5, 4, 3, 2, 1, 0, 10, 9, 13], [6, 5, 4, 3, 2, 1, 0, 15, 14, 12, 11, 8, 7, 10, 9, 13], [3, 2, 1, 0, 16, 6, 5, 4, 15, 14, 12, 11, 8, 7, 10, 9, 13]] [⟨some 13, none, .load true 3 (.t 4)⟩, ⟨some 14, none, .call 42 [(.t 13)]⟩, ⟨some 15, none, .un .not (.t 14)⟩, ⟨some 16, none, .mv (.t 15)⟩, ⟨(some 17), (some (16, false)), (.mv (.t 3))⟩, ⟨(some 18), (some (16, false)), (.bin .gtr false (.t 17) (.c (.int .i64 0)))⟩, ⟨(some 19), (some (16, false)), (.mv (.t 18))⟩, ⟨(some 20), (some (19, true)), (.faddr 0 (.t 1))⟩, ⟨(some 21), (some (19, true)), (.load false 1 (.t 20))⟩, ⟨(some 22), (some (19, true)), (.mv (.t 3))⟩, ⟨(some 23), (some (19, true)), (.bin .sub false (.t 22) (.c (.int .i64 1)))⟩, ⟨(some 24), (some (19, true)), (.iaddr 3 (.t 21) (.t 23))⟩, ⟨(some 25), (some (19, true)), (.load true 3 (.t 24))⟩, ⟨(some 26), (some (19, true)), (.load true 3 (.t 4))⟩, ⟨(some 27), (some (19, true)), (.call 43 [(.t 25), (.t 26)])⟩, ⟨(some 28), (some (19, true)), (.bin .geq false (.t 27) (.c (.int .i64 0)))⟩, ⟨(some 29), (some (16, false)), (.pick (.t 19) (.t 28) (.c (.bool false)))⟩, ⟨some 30, none, .pick (.t 16) (.c (.bool true)) (.t 29)⟩]) (.cond (.t 30) (.seq (.reg [⟨some 2, none, .mv (.c (.bool false))⟩]) .ret) .skip)))) (.reg [⟨some 31, none, .bin .add false (.t 8) (.c (.int .i64 1))⟩, ⟨some 8, none, .mv (.t 31)⟩]))))))) (.seq (.reg [⟨some 32, none, .faddr 0 (.t 1)⟩, ⟨some 33, none, .load false 1 (.t 32)⟩, ⟨some 34, none, .len false (.t 33)⟩, ⟨some 35, none, .bin .leq false (.t 34) (.c (.int .i64 8))⟩, ⟨some 2, none, .mv (.t 35)⟩]) .ret)))
theorem k_impl_IsValidClause : codeOf Tryz.prog 23 = some ⟨36, c_impl_IsValidClause, [(.tmp 2)]⟩ := by kernel_rfl
theorem m_impl_IsValidClause : modes 23 = ⟨[], .asis, none, false⟩ := by unfold modes; rfl
def c_spec_l7Good : SC := (.seq (.reg [⟨some 1, none, .boxv 32 1 (.t 0)⟩, ⟨some 2, none, .mv (.c (.bool false))⟩]) (.seq (.seq (.reg [⟨some 4, none, .faddr 0 (.t 1)⟩, ⟨some 5, none, .load false 1 (.t 4)⟩, ⟨some 6, none, .len false (.t 5)⟩, ⟨some 7, none, .bin .gtr false (.t 6) (.c (.int .i64 8))⟩]) (.cond (.t 7) (.seq (.reg [⟨some 2, none, .mv (.c (.bool false))⟩]) .ret) .skip)) (.seq (.seq (.reg [⟨some 3, none, .mv (.c (.int .i64 0))⟩]) (.block 0 (.loop [0, 1, 0, 1, 0, 0, 0, 0, 0, 0, 0, 0, 0, 0, 0, 0, 0, 0, 0, 0, 0, 0, 0, 0, 0, 0, 0, 0, 0, 0, 0, 0, 0, 0, 0, 0, 0, 0, 0, 0, 0, 0] (.seq (.seq (.reg [⟨some 8, none, .mv (.t 3)⟩, ⟨some 9, none, .faddr 0 (.t 1)⟩, ⟨some 10, none, .load false 1 (.t 9)⟩, ⟨some 11, none, .len false (.t 10)⟩, ⟨some 12, none, .bin .lss false (.t 8) (.t 11)⟩]) (.cond (.t 12) .skip (.exit 0))) (.seq (.block 1 (.seq (.dreg [[], [0], [], [1, 0, 2], [3, 1, 0, 2], [4, 3, 1, 0, 2], [5, 4, 3, 1, 0, 2], [6, 5, 4, 3, 1, 0, 2], [7, 6, 5, 4, 3, 1, 0, 2], [8, 7, 6, 5, 4, 3, 1, 0, 2], [9, 8, 7, 6, 5, 4, 3, 1, 0, 2], [10, 9, 8, 7, 6, 5, 4, 3, 1, 0, 2], [11, 10, 9, 8, 7, 6, 5, 4, 3, 1, 0, 2], [12, 11, 10, 9, 8, 7, 6, 5, 4, 3, 1, 0, 2], [11, 10, 9, 8, 7, 6, 5, 4, 3, 1, 0, 2], [14, 11, 10, 9, 8, 7, 6, 5, 4, 3, 1, 0, 2], [13, 12, 11, 10, 9, 8, 7, 6, 5, 4, 3, 1, 0, 2, 15, 14], [16, 13, 12, 11, 10, 9, 8, 7, 6, 5, 4, 3, 1, 0, 2, 15, 14], [11, 10, 9, 8, 7, 6, 5, 4, 3, 1, 0, 2], [18, 11, 10, 9, 8, 7, 6, 5, 4, 3, 1, 0, 2], [11, 10, 9, 8, 7, 6, 5, 4, 3, 1, 0, 2], [19, 18, 11, 10, 9, 8, 7, 6, 5, 4, 3, 1, 0, 2, 20], [21, 19, 18, 11, 10, 9, 8, 7, 6, 5, 4, 3, 1, 0, 2, 20], [17, 16, 13, 12, 11, 10, 9, 8, 7, 6, 5, 4, 3, 1, 0, 2, 15, 14, 22, 21, 19, 18, 20], [23, 17, 16, 13, 12, 11, 10, 9, 8, 7, 6, 5, 4, 3, 1, 0, 2, 15, 14, 22, 21, 19, 18, 20], [11, 10, 9, 8, 7, 6, 5, 4, 3, 1, 0, 2, 24, 23, 17, 16, 13, 12, 15, 14, 22, 21, 19, 18, 20], [8, 7, 6, 5, 4, 3, 1, 0, 2, 25, 11, 10, 9, 24, 23, 17, 16, 13, 12, 15, 14, 22, 21, 19, 18, 20]] [⟨some 15, none, .faddr 0 (.t 1)⟩, ⟨some 16, none, .load false 1 (.t 15)⟩, ⟨some 17, none, .mv (.t 3)⟩, ⟨some 18, none, .iaddr 3 (.t 16) (.t 17)⟩, ⟨some 19, none, .faddr 1 (.t 18)⟩, ⟨some 20, none, .load true 2 (.t 19)⟩, ⟨some 21, none, .call 34 [(.t 20)]⟩, ⟨some 22, none, .un .not (.t 21)⟩, ⟨some 23, none, .mv (.t 22)⟩, ⟨(some 24), (some (23, false)), (.mv (.t 3))⟩, ⟨(some 25), (some (23, false)), (.bin .gtr false (.t 24) (.c (.int .i64 0)))⟩, ⟨(some 26), (some (23, false)), (.mv (.t 25))⟩, ⟨(some 27), (some (26, true)), (.faddr 0 (.t 1))⟩, ⟨(some 28), (some (26, true)), (.load false 1 (.t 27))⟩, ⟨(some 29), (some (26, true)), (.mv (.t 3))⟩, ⟨(some 30), (some (26, true)), (.bin .sub false (.t 29) (.c (.int .i64 1)))⟩, ⟨(some 31), (some (26, true)), (.iaddr 3 (.t 28) (.t 30))⟩, ⟨(some 32), (some (26, true)), (.load true 3 (.t 31))⟩, ⟨(some 33), (some (26, true)), (.faddr 0 (.t 1))⟩, ⟨(some 34), (some (26, true)), (.load false 1 (.t 33))⟩, ⟨(some 35), (some (26, true)), (.mv (.t 3))⟩, ⟨(some 36), (some (26, true)), (.iaddr 3 (.t 34) (.t 35))⟩, ⟨(some 37), (some (26, true)), (.load true 3 (.t 36))⟩, ⟨(some 38), (some (26, true)), (.call 35 [(.t 32), (.t 37)])⟩, ⟨(some 39), (some (26, true)), (.bin .geq false (.t 38) (.c (.int .i64 0)))⟩, ⟨(some 40), (some (23, false)), (.pick (.t 26) (.t 39) (.c (.bool false)))⟩, ⟨some 41, none, .pick (.t 23) (.c (.bool true)) (.t 40)⟩]) (.cond (.t 41) (.seq (.reg [⟨some 2, none, .mv (.c (.bool false))⟩]) .ret) .skip))) (.reg [⟨some 13, none, .mv (.t 3)⟩, ⟨some 14, none, .bin .add false (.t 13) (.c (.int .i64 1))⟩, ⟨some 3, none, .mv (.t 14)⟩])))))) (.seq (.reg [⟨some 2, none, .mv (.c (.bool true))⟩]) .ret))))
theorem k_spec_l7Good : codeOf Tryz.prog 18 = some ⟨42, c_spec_l7Good, [(.tmp 2)]⟩ := by kernel_rfl
theorem m_spec_l7Good : modes 18 = ⟨[], .asis, none, false⟩ := by unfold modes; rfl
theorem flag_E (b : Bool) : E 72 [.bool b] [] = some (.int .i64 (flagZ b), []) := by
  cases b
  · refine E_walk k_impl_flag m_impl_flag (of_decide_eq_true rfl) ?_
    simp (disch := omega) only [c_impl_flag, go_sem, go_cond, zA, zB, zC, zD, zE, zF, zG, zH, ↓reduceIte, zI, reduceCtorEq, zJ, zK]
    rfl
  · refine E_walk k_impl_flag m_impl_flag (of_decide_eq_true rfl) ?_
    simp (disch := omega) only [c_impl_flag, go_sem, go_cond, zA, zB, zC, zD, zE, zF, zG, zH, ↓reduceIte, zI, reduceCtorEq, zJ, zK]
    rfl
theorem compareLiterals_E (x y : Lt) (hx : x.atom.cok = true) (hy : y.atom.cok = true) (hnx : x.atom.nodes ≤ 1099511627776) (hny : y.atom.nodes ≤ 1099511627776) : E 43 [x.sv, y.sv] [] = some (.int .i64 (x.cmp y), []) := by
  have h1 := compareTerms_E x.atom y.atom hx hy hnx hny
  have h2 := flag_E x.pos
  have h3 := flag_E y.pos
  have h4 := compareI_E (flagZ x.pos) (flagZ y.pos)
  have h5 := or2_E (x.atom.cmp y.atom) (cmpI (flagZ x.pos) (flagZ y.pos))
  unfold Lt.cmp
  refine E_walk k_impl_compareLiterals m_impl_compareLiterals (of_decide_eq_true rfl) ?_
  simp (disch := omega) only [c_impl_compareLiterals, go_sem, go_cond, zA, zB, zC, zD, zE, zF, zG, zH, ↓reduceIte, zI, reduceCtorEq, zJ, zK, h1, h2, h3, h4, h5, m_impl_compareTerms, m_impl_flag, m_cmp_Compare_int, m_cmp_Or_int]
theorem l7Literals_E (x y : Lt) (hx : x.atom.cok = true) (hy : y.atom.cok = true) (hnx : x.atom.nodes ≤ 1099511627776) (hny : y.atom.nodes ≤ 1099511627776) : E 35 [x.sv, y.sv] [] = some (.int .i64 (x.cmp y), []) := by
  have h1 := l2Compare_E x.atom y.atom hx hy hnx hny
  unfold Lt.cmp
  by_cases h0 : x.atom.cmp y.atom = 0
  · rw [h0] at h1 ⊢
    cases hp : x.pos <;> cases hq : y.pos
    all_goals
      simp only [flagZ, cmpI, orZ, if_true, if_false, Bool.false_eq_true]
      refine E_walk k_spec_l7Literals m_spec_l7Literals (of_decide_eq_true rfl) ?_
      simp (disch := omega) only [c_spec_l7Literals, go_sem, go_cond, zA, zB, zC, zD, zE, zF, zG, zH, ↓reduceIte, zI, reduceCtorEq, zJ, zK, h1, hp, hq, m_spec_l2Compare]
  · rw [orZ, if_neg h0]
    refine E_walk k_spec_l7Literals m_spec_l7Literals (of_decide_eq_true rfl) ?_
    simp (disch := omega) only [c_spec_l7Literals, go_sem, go_cond, zA, zB, zC, zD, zE, zF, zG, zH, ↓reduceIte, zI, reduceCtorEq, zJ, zK, h1, h0, m_spec_l2Compare]
theorem isValidLiteral_E (x : Lt) (hn : x.atom.nodes ≤ 1099511627776) : E 42 [x.sv] [] = some (.bool x.atom.atom, []) := by
  have h := isValidAtom_E x.atom hn
  refine E_walk k_impl_IsValidLiteral m_impl_IsValidLiteral (of_decide_eq_true rfl) ?_
  simp (disch := omega) only [c_impl_IsValidLiteral, go_sem, go_cond, zA, zB, zC, zD, zE, zF, zG, zH, ↓reduceIte, zI, reduceCtorEq, zJ, zK, h, m_impl_IsValidAtom]
set_option maxHeartbeats 2000000 in
theorem isValidClause_E (x : Cl) (hn : x.tame) : E 23 [x.sv] [] = some (.bool x.ok, []) := by
  have hl := hn.1
  refine E_walk k_impl_IsValidClause m_impl_IsValidClause (of_decide_eq_true rfl) ?_
  simp (disch := omega) only [c_impl_IsValidClause, go_sem, go_cond, zA, zB, zC, zD, zE, zF, zG, zH, ↓reduceIte, zI, reduceCtorEq, zJ, zK]
  refine go_loop (α := Int) (fun a => ⟨slots 36 0 [(1, .ptr 0 0), (6, .arr (x.lits.map Lt.d)), (7, .int .i64 x.lits.length), (8, .int .i64 a)], [.box 32 [.arr (x.lits.map Lt.d)]]⟩) (fun a => ∃ k : Nat, a = k ∧ k ≤ (x.lits).length ∧ ltTo x.lits k = true) (fun a => (x.lits).length - (a).toNat) 0 ⟨0, rfl, Nat.zero_le _, by rw [ltTo]⟩ (by simp (disch := omega) only [go_sem, go_cond, zA, zB, zC, zD, zE, zF, zG, zH, ↓reduceIte, zI, reduceCtorEq, zJ, zK]) ?_
  rintro i ⟨k, hi, hk, hR⟩
  have hni : i.toNat = k := by omega
  have hni1 : (i + 1).toNat = k + 1 := by omega
  rcases Nat.lt_or_ge k (x.lits).length with hlt | hge
  · have hg := get_at Lt.d hlt
    rw [Lt.d_eq] at hg
    have hv := isValidLiteral_E x.lits[k] (Cl.tame_at hn hlt)
    cases ha : x.lits[k].atom.atom <;> rw [ha] at hv
    · have e : x.ok = false := Cl.not_ok hR (by cases k with | zero => rw [ltAt_zero hlt, ha] | succ j => rw [ltAt_succ hlt, ha, Bool.false_and]) hlt
      rw [e]
      simp (disch := omega) only [go_sem, go_cond, zA, zB, zC, zD, zE, zF, zG, zH, ↓reduceIte, zI, reduceCtorEq, zJ, zK, hni, hg, hv, m_impl_IsValidLiteral, m_impl_compareLiterals]
    · cases k with
      | zero =>
        obtain rfl : i = 0 := hi
        simp (disch := omega) only [go_sem, go_cond, zA, zB, zC, zD, zE, zF, zG, zH, ↓reduceIte, zI, reduceCtorEq, zJ, zK, hni, hg, hv, m_impl_IsValidLiteral, m_impl_compareLiterals]
        exact ⟨1, ⟨1, rfl, hlt, by rw [ltTo, hR, ltAt_zero hlt, ha]; rfl⟩, by omega, by first | trivial | rfl⟩
      | succ j =>
        have hj : j < x.lits.length := by omega
        have hg2 := get_at Lt.d hj
        rw [Lt.d_eq] at hg2
        have hni2 : (i - 1).toNat = j := by omega
        have hc := compareLiterals_E x.lits[j] x.lits[j + 1] (Tm.atom_cok (ltTo_atom hR (by omega) (by omega))) (Tm.atom_cok ha) (Cl.tame_at hn hj) (Cl.tame_at hn hlt)
        rcases Int.lt_or_le (x.lits[j].cmp x.lits[j + 1]) 0 with hq | hq
        · simp (disch := omega) only [go_sem, go_cond, zA, zB, zC, zD, zE, zF, zG, zH, ↓reduceIte, zI, reduceCtorEq, zJ, zK, hni, hg, hv, m_impl_IsValidLiteral, m_impl_compareLiterals, hni2, hg2, hc]
          exact ⟨i + 1, ⟨j + 1 + 1, by omega, hlt, by rw [ltTo, hR, ltAt_succ hlt, ha, decide_eq_true hq]; rfl⟩, by omega, by first | trivial | rfl⟩
        · have e : x.ok = false := Cl.not_ok hR (by rw [ltAt_succ hlt, ha, decide_eq_false (by omega)]; rfl) hlt
          rw [e]
          simp (disch := omega) only [go_sem, go_cond, zA, zB, zC, zD, zE, zF, zG, zH, ↓reduceIte, zI, reduceCtorEq, zJ, zK, hni, hg, hv, m_impl_IsValidLiteral, m_impl_compareLiterals, hni2, hg2, hc]
  · obtain rfl : k = x.lits.length := by omega
    simp (disch := omega) only [go_sem, go_cond, zA, zB, zC, zD, zE, zF, zG, zH, ↓reduceIte, zI, reduceCtorEq, zJ, zK, hni]
    unfold Cl.ok
    rw [hR, Bool.and_true, dec_of]
    exact decide_eq_decide.2 (by omega)
set_option maxHeartbeats 2000000 in
theorem l7Good_E (x : Cl) (hn : x.tame) : E 18 [x.sv] [] = some (.bool x.ok, []) := by
  have hl := hn.1
  rcases Nat.lt_or_ge 8 x.lits.length with h8 | h8
  · have e : x.ok = false := by unfold Cl.ok; rw [decide_eq_false (by omega), Bool.false_and]
    rw [e]
    refine E_walk k_spec_l7Good m_spec_l7Good (of_decide_eq_true rfl) ?_
    simp (disch := omega) only [c_spec_l7Good, go_sem, go_cond, zA, zB, zC, zD, zE, zF, zG, zH, ↓reduceIte, zI, reduceCtorEq, zJ, zK]
  refine E_walk k_spec_l7Good m_spec_l7Good (of_decide_eq_true rfl) ?_
  simp (disch := omega) only [c_spec_l7Good, go_sem, go_cond, zA, zB, zC, zD, zE, zF, zG, zH, ↓reduceIte, zI, reduceCtorEq, zJ, zK]
  refine go_loop (α := Int) (fun a => ⟨slots 42 0 [(1, .ptr 0 0), (3, .int .i64 a)], [.box 32 [.arr (x.lits.map Lt.d)]]⟩) (fun a => ∃ k : Nat, a = k ∧ k ≤ (x.lits).length ∧ ltTo x.lits k = true) (fun a => (x.lits).length - (a).toNat) 0 ⟨0, rfl, Nat.zero_le _, by rw [ltTo]⟩ (by simp (disch := omega) only [go_sem, go_cond, zA, zB, zC, zD, zE, zF, zG, zH, ↓reduceIte, zI, reduceCtorEq, zJ, zK]) ?_
  rintro i ⟨k, hi, hk, hR⟩
  have hni : i.toNat = k := by omega
  have hni1 : (i + 1).toNat = k + 1 := by omega
  rcases Nat.lt_or_ge k (x.lits).length with hlt | hge
  · have hg := get_at Lt.d hlt
    rw [Lt.d_eq] at hg
    have hv := l2Atom_E x.lits[k].atom (Cl.tame_at hn hlt)
    cases ha : x.lits[k].atom.atom <;> rw [ha] at hv
    · have e : x.ok = false := Cl.not_ok hR (by cases k with | zero => rw [ltAt_zero hlt, ha] | succ j => rw [ltAt_succ hlt, ha, Bool.false_and]) hlt
      rw [e]
      simp (disch := omega) only [go_sem, go_cond, zA, zB, zC, zD, zE, zF, zG, zH, ↓reduceIte, zI, reduceCtorEq, zJ, zK, hni, hg, hv, m_spec_l2Atom, m_spec_l7Literals]
    · cases k with
      | zero =>
        obtain rfl : i = 0 := hi
        simp (disch := omega) only [go_sem, go_cond, zA, zB, zC, zD, zE, zF, zG, zH, ↓reduceIte, zI, reduceCtorEq, zJ, zK, hni, hg, hv, m_spec_l2Atom, m_spec_l7Literals]
        exact ⟨1, ⟨1, rfl, hlt, by rw [ltTo, hR, ltAt_zero hlt, ha]; rfl⟩, by omega, by first | trivial | rfl⟩
      | succ j =>
        have hj : j < x.lits.length := by omega
        have hg2 := get_at Lt.d hj
        rw [Lt.d_eq] at hg2
        have hni2 : (i - 1).toNat = j := by omega
        have hc := l7Literals_E x.lits[j] x.lits[j + 1] (Tm.atom_cok (ltTo_atom hR (by omega) (by omega))) (Tm.atom_cok ha) (Cl.tame_at hn hj) (Cl.tame_at hn hlt)
        rcases Int.lt_or_le (x.lits[j].cmp x.lits[j + 1]) 0 with hq | hq
        · simp (disch := omega) only [go_sem, go_cond, zA, zB, zC, zD, zE, zF, zG, zH, ↓reduceIte, zI, reduceCtorEq, zJ, zK, hni, hg, hv, m_spec_l2Atom, m_spec_l7Literals, hni2, hg2, hc]
          exact ⟨i + 1, ⟨j + 1 + 1, by omega, hlt, by rw [ltTo, hR, ltAt_succ hlt, ha, decide_eq_true hq]; rfl⟩, by omega, by first | trivial | rfl⟩
        · have e : x.ok = false := Cl.not_ok hR (by rw [ltAt_succ hlt, ha, decide_eq_false (by omega)]; rfl) hlt
          rw [e]
          simp (disch := omega) only [go_sem, go_cond, zA, zB, zC, zD, zE, zF, zG, zH, ↓reduceIte, zI, reduceCtorEq, zJ, zK, hni, hg, hv, m_spec_l2Atom, m_spec_l7Literals, hni2, hg2, hc]
  · obtain rfl : k = x.lits.length := by omega
    simp (disch := omega) only [go_sem, go_cond, zA, zB, zC, zD, zE, zF, zG, zH, ↓reduceIte, zI, reduceCtorEq, zJ, zK, hni]
    unfold Cl.ok
    rw [hR, decide_eq_true h8]; rfl
namespace Wd
def modes : FuncId → FM := fun _ => ⟨[], .asis, none, false⟩
theorem mode (f : FuncId) : modes f = ⟨[], .asis, none, false⟩ := rfl
theorem modes_told : @ExtTold flagYes Tryz.prog modes := fun _ _ _ _ _ _ hg _ => by cases hg
noncomputable def E : FEnv := ev Tryz.prog modes
noncomputable def calls : CallF := fCall modes E
theorem E_told {f : FuncId} {xs : List SV} {ob : List Ob} {r : SV} {ob' : List Ob} (h : E f xs ob = some (r, ob')) : FunD Tryz.prog f xs ob r ob' := @ev_told flagYes _ _ mixed_ modes_told f xs ob r ob' h
noncomputable def run (n0 : Nat) : SC → St → Option (X × St) := fr Tryz.prog calls (loopWA n0)
def go (n0 : Nat) (sc : SC) (st : St) (K : X → St → Prop) : Prop := ∃ x st', run n0 sc st = some (x, st') ∧ K x st'
def seqk (n0 : Nat) (b : SC) (K : X → St → Prop) : X → St → Prop
  | .normal, st => go n0 b st K
  | .exit i, st => K (.exit i) st
  | .ret, st => K .ret st
def blk (id : Nat) (K : X → St → Prop) : X → St → Prop
  | .normal, st => K .normal st
  | .exit i, st => if i = id then K .normal st else K (.exit i) st
  | .ret, st => K .ret st
def someP (r : Option St) (k : X → St → Prop) : Prop :=
  match r with
  | some st => k .normal st
  | none => False
def drawP (anc : List (List Nat)) (r : Option (List Ent × St)) (k : X → St → Prop) : Prop :=
  match r with
  | some (es, st) => obB anc [] (locs es) 0 = true ∧ k .normal st
  | none => False
def boolP (v : SV) (a b : Unit → Prop) : Prop :=
  match v with
  | .bool true => a ()
  | .bool false => b ()
  | _ => False
noncomputable def regF (ops : List SOper) (st : St) : Option St := fSeq Tryz.prog calls ops st
noncomputable def drgF (ops : List SOper) (acc : List Ent) (st : St) : Option (List Ent × St) := fOps Tryz.prog calls ops acc st
section
variable {n0 : Nat} {st : St} {K : X → St → Prop}
theorem go_skip : go n0 .skip st K = K .normal st := by
  refine propext ⟨fun ⟨x, st', h, k⟩ => ?_, fun k => ⟨_, _, rfl, k⟩⟩
  obtain ⟨rfl, rfl⟩ : X.normal = x ∧ st = st' := by simpa [run, fr] using h
  exact k
theorem go_exit {i : Nat} : go n0 (.exit i) st K = K (.exit i) st := by
  refine propext ⟨fun ⟨x, st', h, k⟩ => ?_, fun k => ⟨_, _, rfl, k⟩⟩
  obtain ⟨rfl, rfl⟩ : X.exit i = x ∧ st = st' := by simpa [run, fr] using h
  exact k
theorem go_ret : go n0 .ret st K = K .ret st := by
  refine propext ⟨fun ⟨x, st', h, k⟩ => ?_, fun k => ⟨_, _, rfl, k⟩⟩
  obtain ⟨rfl, rfl⟩ : X.ret = x ∧ st = st' := by simpa [run, fr] using h
  exact k
theorem go_reg {ops : List SOper} : go n0 (.reg ops) st K = someP (regF ops st) K := by
  unfold someP regF
  refine propext ⟨fun ⟨x, st', h, k⟩ => ?_, fun k => ?_⟩
  · simp only [run, fr] at h
    split at h
    · rename_i s hs
      simp only [Option.some.injEq, Prod.mk.injEq] at h
      obtain ⟨rfl, rfl⟩ := h
      first | exact k | (simp only [hs]; exact k)
    · cases h
  · split at k
    · rename_i s hs
      exact ⟨.normal, s, by simp only [run, fr, hs], k⟩
    · exact k.elim
theorem go_dreg {anc : List (List Nat)} {ops : List SOper} : go n0 (.dreg anc ops) st K = drawP anc (drgF ops [] st) K := by
  unfold drawP drgF
  refine propext ⟨fun ⟨x, st', h, k⟩ => ?_, fun k => ?_⟩
  · simp only [run, fr] at h
    split at h
    · rename_i es s hs
      obtain ⟨h1, h2⟩ := bif_some h
      simp only [Option.some.injEq, Prod.mk.injEq] at h2
      obtain ⟨rfl, rfl⟩ := h2
      first | exact ⟨h1, k⟩ | (simp only [hs]; exact ⟨h1, k⟩)
    · cases h
  · split at k
    · rename_i es s hs
      exact ⟨.normal, s, by simp only [run, fr, hs, k.1, cond_true], k.2⟩
    · exact k.elim
theorem go_seq {a b : SC} : go n0 (.seq a b) st K = go n0 a st (seqk n0 b K) := by
  refine propext ⟨fun ⟨x, st', h, k⟩ => ?_, fun ⟨x, st', h, k⟩ => ?_⟩
  · simp only [run, fr, thenF] at h
    split at h
    · rename_i s hs
      exact ⟨.normal, s, hs, x, st', h, k⟩
    · rename_i i s hs
      simp only [Option.some.injEq, Prod.mk.injEq] at h
      obtain ⟨rfl, rfl⟩ := h
      exact ⟨_, _, hs, k⟩
    · rename_i s hs
      simp only [Option.some.injEq, Prod.mk.injEq] at h
      obtain ⟨rfl, rfl⟩ := h
      exact ⟨_, _, hs, k⟩
    · cases h
  · simp only [run] at h
    cases x with
    | normal =>
      obtain ⟨x2, st2, h2, k2⟩ := k
      exact ⟨x2, st2, by simp only [run, fr, thenF, h]; exact h2, k2⟩
    | exit i => exact ⟨_, st', by simp only [run, fr, thenF, h], k⟩
    | ret => exact ⟨_, st', by simp only [run, fr, thenF, h], k⟩
theorem go_block {id : Nat} {b : SC} : go n0 (.block id b) st K = go n0 b st (blk id K) := by
  refine propext ⟨fun ⟨x, st', h, k⟩ => ?_, fun ⟨x, st', h, k⟩ => ?_⟩
  · simp only [run, fr, blockF] at h
    split at h
    · rename_i s hs
      simp only [Option.some.injEq, Prod.mk.injEq] at h
      obtain ⟨rfl, rfl⟩ := h
      exact ⟨.normal, s, hs, k⟩
    · rename_i i s hs
      refine ⟨.exit i, s, hs, ?_⟩
      simp only [blk]
      by_cases hi : i = id
      · simp only [if_pos hi, Option.some.injEq, Prod.mk.injEq] at h ⊢
        obtain ⟨rfl, rfl⟩ := h
        exact k
      · simp only [if_neg hi, Option.some.injEq, Prod.mk.injEq] at h ⊢
        obtain ⟨rfl, rfl⟩ := h
        exact k
    · rename_i s hs
      simp only [Option.some.injEq, Prod.mk.injEq] at h
      obtain ⟨rfl, rfl⟩ := h
      exact ⟨_, s, hs, k⟩
    · cases h
  · simp only [run] at h
    cases x with
    | normal => exact ⟨_, st', by simp only [run, fr, blockF, h], k⟩
    | exit i =>
      simp only [blk] at k
      by_cases hi : i = id
      · simp only [if_pos hi] at k
        exact ⟨.normal, st', by simp only [run, fr, blockF, h, if_pos hi], k⟩
      · simp only [if_neg hi] at k
        exact ⟨.exit i, st', by simp only [run, fr, blockF, h, if_neg hi], k⟩
    | ret => exact ⟨_, st', by simp only [run, fr, blockF, h], k⟩
theorem go_cond {q : SX} {a b : SC} : go n0 (.cond q a b) st K = boolP (getX (gets st.sl) q) (fun _ => go n0 a st K) (fun _ => go n0 b st K) := by
  unfold boolP
  refine propext ⟨fun ⟨x, st', h, k⟩ => ?_, fun k => ?_⟩
  · simp only [run, fr] at h
    split at h
    · rename_i t ht
      simp only [ht]
      cases t with
      | true => exact ⟨x, st', h, k⟩
      | false => exact ⟨x, st', h, k⟩
    · cases h
  · split at k
    · rename_i ht
      obtain ⟨x, st', h, k⟩ := k
      exact ⟨x, st', by simp only [run, fr, ht, cond_true]; exact h, k⟩
    · rename_i ht
      obtain ⟨x, st', h, k⟩ := k
      exact ⟨x, st', by simp only [run, fr, ht, cond_false]; exact h, k⟩
    · exact k.elim
theorem boolP_t {a b : Unit → Prop} : boolP (.bool true) a b = a () := rfl
theorem boolP_f {a b : Unit → Prop} : boolP (.bool false) a b = b () := rfl
theorem boolP_n {t : Bool} {a b : Unit → Prop} : boolP (.bool (!t)) a b = boolP (.bool t) b a := by cases t <;> rfl
theorem go_condT {q : SX} {a b : SC} (h : getX (gets st.sl) q = .bool true) (k : go n0 a st K) : go n0 (.cond q a b) st K := by rw [go_cond, h]; exact k
theorem go_condF {q : SX} {a b : SC} (h : getX (gets st.sl) q = .bool false) (k : go n0 b st K) : go n0 (.cond q a b) st K := by rw [go_cond, h]; exact k
theorem boolP_split {t : Bool} {a b : Unit → Prop} (h1 : t = true → a ()) (h2 : t = false → b ()) : boolP (.bool t) a b := by
  cases t with
  | true => exact h1 rfl
  | false => exact h2 rfl
theorem seqk_n {b : SC} : seqk n0 b K .normal st = go n0 b st K := rfl
theorem seqk_e {b : SC} {i : Nat} : seqk n0 b K (.exit i) st = K (.exit i) st := rfl
theorem seqk_r {b : SC} : seqk n0 b K .ret st = K .ret st := rfl
theorem blk_n {id : Nat} : blk id K .normal st = K .normal st := rfl
theorem blk_e {id i : Nat} : blk id K (.exit i) st = if i = id then K .normal st else K (.exit i) st := rfl
theorem blk_r {id : Nat} : blk id K .ret st = K .ret st := rfl
theorem someP_s : someP (some st) K = K .normal st := rfl
def quiet : List Ent → Bool
  | [] => true
  | ⟨_, _, [], _⟩ :: r => quiet r
  | ⟨_, _, _ :: _, _⟩ :: _ => false
theorem obBj_quiet {anc : List (List Nat)} {rd : List Nat} {j : Nat} : ∀ {l : List Ent} {i : Nat}, quiet l = true → obBj anc rd [] j (locs l) i = true
  | [], i, _ => rfl
  | ⟨_, _, [], rdi⟩ :: r, i, h => by
    have := obBj_quiet (anc := anc) (rd := rd) (j := j) (l := r) (i := i + 1) h
    simp only [locs, List.map_cons, List.map_nil] at this ⊢
    simp only [obBj, this, Bool.and_true]
    have e1 : meets [] (rd ++ []) = false := rfl
    have e2 : meets rdi [] = false := by cases rdi <;> simp [meets]
    rw [e1, e2]; rfl
theorem quiet_app {l l' : List Ent} (h : quiet l = true) (h' : quiet l' = true) : quiet (l ++ l') = true := by
  induction l with
  | nil => exact h'
  | cons x r ih =>
    obtain ⟨a, b, c, d⟩ := x
    cases c with
    | nil => exact ih h
    | cons _ _ => cases h
theorem obB_quiet {anc : List (List Nat)} : ∀ {l pre : List Ent} {j : Nat}, quiet pre = true → quiet l = true → obB anc (locs pre) (locs l) j = true
  | [], pre, j, _, _ => rfl
  | ⟨a, b, [], rd⟩ :: r, pre, j, hp, h => by
    have e := obB_quiet (anc := anc) (l := r) (pre := pre ++ [⟨a, b, [], rd⟩]) (j := j + 1) (quiet_app hp rfl) h
    have e2 := obBj_quiet (anc := anc) (rd := rd) (j := j) (i := 0) hp
    simp only [locs, List.map_append, List.map_cons, List.map_nil] at e e2 ⊢
    simp only [obB, e2, e, Bool.and_self]
theorem drawP_s {anc : List (List Nat)} {es : List Ent} : drawP anc (some (es, st)) K = match quiet es with
    | true => K .normal st
    | false => obB anc [] (locs es) 0 = true ∧ K .normal st := by
  show (obB anc [] (locs es) 0 = true ∧ K .normal st) = _
  cases h : quiet es with
  | true => exact propext ⟨fun h => h.2, fun h' => ⟨obB_quiet (pre := []) rfl h, h'⟩⟩
  | false => rfl
noncomputable def regN (r : List SOper) (e : Option (Ent × St)) : Option St :=
  match e with
  | some (_, st) => regF r st
  | none => none
noncomputable def drgN (r : List SOper) (acc : List Ent) (e : Option (Ent × St)) : Option (List Ent × St) :=
  match e with
  | some (x, st) => drgF r (acc ++ [x]) st
  | none => none
noncomputable def opF (so : SOp) (sl : List SV) (ob : List Ob) : Option R3 := fOp Tryz.prog calls so sl ob
theorem regF_nil : regF [] st = some st := rfl
theorem regF_cons {d : Option Tmp} {so : SOp} {r : List SOper} {sl : List SV} {ob : List Ob} : regF (⟨d, none, so⟩ :: r) ⟨sl, ob⟩ = regN r (appF d ⟨sl, ob⟩ (opF so sl ob)) := rfl
noncomputable def gdF (d : Option Tmp) (so : SOp) (want : Bool) (sl : List SV) (ob : List Ob) (v : SV) : Option (Ent × St) :=
  match v with
  | .bool b => bif eqBo b want then appF d ⟨sl, ob⟩ (opF so sl ob) else some (⟨false, .tup [], [], []⟩, ⟨putS sl d (.tup []), ob⟩)
  | .tup [] => some (⟨false, .tup [], [], []⟩, ⟨putS sl d (.tup []), ob⟩)
  | _ => none
theorem regF_gd {d : Option Tmp} {k : Nat} {want : Bool} {so : SOp} {r : List SOper} {sl : List SV} {ob : List Ob} : regF (⟨d, some (k, want), so⟩ :: r) ⟨sl, ob⟩ = regN r (gdF d so want sl ob (gets sl k)) := rfl
theorem drgF_nil {acc : List Ent} : drgF [] acc st = some (acc, st) := rfl
theorem drgF_cons {d : Option Tmp} {so : SOp} {r : List SOper} {acc : List Ent} {sl : List SV} {ob : List Ob} : drgF (⟨d, none, so⟩ :: r) acc ⟨sl, ob⟩ = drgN r acc (appF d ⟨sl, ob⟩ (opF so sl ob)) := rfl
theorem drgF_gd {d : Option Tmp} {k : Nat} {want : Bool} {so : SOp} {r : List SOper} {acc : List Ent} {sl : List SV} {ob : List Ob} : drgF (⟨d, some (k, want), so⟩ :: r) acc ⟨sl, ob⟩ = drgN r acc (gdF d so want sl ob (gets sl k)) := rfl
theorem regN_s {r : List SOper} {e : Ent} : regN r (some (e, st)) = regF r st := rfl
theorem drgN_s {r : List SOper} {acc : List Ent} {e : Ent} : drgN r acc (some (e, st)) = drgF r (acc ++ [e]) st := rfl
theorem gdF_t {d : Option Tmp} {so : SOp} {sl : List SV} {ob : List Ob} : gdF d so true sl ob (.bool true) = appF d ⟨sl, ob⟩ (opF so sl ob) := rfl
theorem gdF_ff {d : Option Tmp} {so : SOp} {sl : List SV} {ob : List Ob} : gdF d so false sl ob (.bool false) = appF d ⟨sl, ob⟩ (opF so sl ob) := rfl
theorem gdF_tf {d : Option Tmp} {so : SOp} {sl : List SV} {ob : List Ob} : gdF d so true sl ob (.bool false) = some (⟨false, .tup [], [], []⟩, ⟨putS sl d (.tup []), ob⟩) := rfl
theorem gdF_ft {d : Option Tmp} {so : SOp} {sl : List SV} {ob : List Ob} : gdF d so false sl ob (.bool true) = some (⟨false, .tup [], [], []⟩, ⟨putS sl d (.tup []), ob⟩) := rfl
theorem gdF_u {d : Option Tmp} {so : SOp} {want : Bool} {sl : List SV} {ob : List Ob} : gdF d so want sl ob (.tup []) = some (⟨false, .tup [], [], []⟩, ⟨putS sl d (.tup []), ob⟩) := rfl
theorem appF_n {d : Option Tmp} {x : SV} {rd : List Nat} : appF d st (some (x, [], rd)) = some (⟨true, x, [], rd⟩, ⟨putS st.sl d x, st.ob⟩) := rfl
theorem appF_c {d : Option Tmp} {x : SV} {q : Nat × Ob} {u : List (Nat × Ob)} {rd : List Nat} : appF d st (some (x, q :: u, rd)) = bif okUB (newOb st.ob (q :: u)).length (q :: u) then some (⟨true, x, q :: u, rd⟩, ⟨putS st.sl d x, newOb st.ob (q :: u)⟩) else none := rfl
def callN (ob : List Ob) (xs : List SV) (sel : List Nat) (r : Option (SV × List Ob)) (n : Nat) : Option R3 :=
  match r with
  | some (r, fob') => bif decide (n ≤ fob'.length) then some (callRes sel (lentL sel xs) ob.length r fob') else none
  | none => none
def selN (hd : List Bool) (f : FuncId) (xs : List SV) (ob : List Ob) (sel : List Nat) (e : List SV → List Ob → Option (SV × List Ob)) (b : Option (List Ob)) : Option R3 :=
  match b with
  | some fob => bif nodupB sel && allLtB ob.length sel && allIdsB fob.length fob then callN ob xs sel (e (lendN hd (geto ob) sel xs) fob) fob.length else none
  | none => none
def callS (hd : List Bool) (f : FuncId) (xs : List SV) (ob : List Ob) (sel : List Nat) (e : List SV → List Ob → Option (SV × List Ob)) : Option R3 := selN hd f xs ob sel e (backObs sel ob sel)
theorem calls_eq {f : FuncId} {xs : List SV} {ob : List Ob} : calls f xs ob = lateF (modes f).res (callS (modes f).hand f xs ob (reach ob 64 (handRefs (modes f).hand xs) []) (E f)) := rfl
theorem late_a {r : Option R3} : lateF .asis r = r := rfl
theorem late_f {r : Option R3} : lateF .frz r = r := rfl
theorem late_o {l : List (Option (Nat × Nat))} {r : Option R3} : lateF (.own l) r = r := rfl
theorem late_t {l : List (Option (Nat × Nat))} {r : Option R3} : lateF (.tr l) r = r := rfl
theorem late_l {l : List Nat} {r : Option R3} : lateF (.frl l) r = r := rfl
theorem late_s {r : R3} : lateF .late (some r) = lateC r := rfl
theorem goneIn_nil : ∀ u : List (Nat × Ob), goneIn [] u = u
  | [] => rfl
  | (g, o) :: u => by rw [goneIn, goneIn_nil u]; rfl
theorem late_b {m : RM} {b : Bool} {u : List (Nat × Ob)} {rd : List Nat} : lateF m (some (.bool b, u, rd)) = some (.bool b, u, rd) := by
  cases m <;> first | rfl | (show some (SV.bool b, goneIn [] u, rd) = _; rw [goneIn_nil])
theorem late_i {m : RM} {k : IntKind} {n : Int} {u : List (Nat × Ob)} {rd : List Nat} : lateF m (some (.int k n, u, rd)) = some (.int k n, u, rd) := by
  cases m <;> first | rfl | (show some (SV.int k n, goneIn [] u, rd) = _; rw [goneIn_nil])
theorem callS_nil {hd : List Bool} {f : FuncId} {xs : List SV} {ob : List Ob} {e : List SV → List Ob → Option (SV × List Ob)} : callS hd f xs ob [] e = callN ob xs [] (e (lendN hd (geto ob) [] xs) []) 0 := rfl
theorem callS_cons {hd : List Bool} {f : FuncId} {xs : List SV} {ob : List Ob} {g : Nat} {r : List Nat} {e : List SV → List Ob → Option (SV × List Ob)} : callS hd f xs ob (g :: r) e = selN hd f xs ob (g :: r) e (backObs (g :: r) ob (g :: r)) := rfl
theorem callN_z {ob : List Ob} {xs : List SV} {r : SV} {fob' : List Ob} : callN ob xs [] (some (r, fob')) 0 = some (callRes [] (lentL [] xs) ob.length r fob') := rfl
theorem callN_s {ob : List Ob} {xs : List SV} {sel : List Nat} {r : SV} {fob' : List Ob} {n : Nat} : callN ob xs sel (some (r, fob')) n = bif decide (n ≤ fob'.length) then some (callRes sel (lentL sel xs) ob.length r fob') else none := rfl
theorem selN_s {hd : List Bool} {f : FuncId} {xs : List SV} {ob : List Ob} {sel : List Nat} {fob : List Ob} {e : List SV → List Ob → Option (SV × List Ob)} : selN hd f xs ob sel e (some fob) = bif nodupB sel && allLtB ob.length sel && allIdsB fob.length fob then callN ob xs sel (e (lendN hd (geto ob) sel xs) fob) fob.length else none := rfl
theorem callRes_v {p : Nat} {r : SV} : callRes [] [] p r [] = (r.ren (sgp [] p), [], []) := rfl
def roundK {α : Type} (n0 : Nat) (keep : List Nat) (H : α → St) (R : α → Prop) (μ : α → Nat) (a : α) (K : X → St → Prop) : X → St → Prop
  | .normal, st' => ∃ y, R y ∧ μ y < μ a ∧ canon n0 keep st' = H y
  | .exit i, st' => K (.exit i) st'
  | .ret, st' => K .ret st'
theorem roundK_n {α : Type} {keep : List Nat} {H : α → St} {R : α → Prop} {μ : α → Nat} {a : α} {st' : St} : roundK n0 keep H R μ a K .normal st' = ∃ y, R y ∧ μ y < μ a ∧ canon n0 keep st' = H y := rfl
theorem roundK_e {α : Type} {keep : List Nat} {H : α → St} {R : α → Prop} {μ : α → Nat} {a : α} {i : Nat} {st' : St} : roundK n0 keep H R μ a K (.exit i) st' = K (.exit i) st' := rfl
theorem roundK_r {α : Type} {keep : List Nat} {H : α → St} {R : α → Prop} {μ : α → Nat} {a : α} {st' : St} : roundK n0 keep H R μ a K .ret st' = K .ret st' := rfl
theorem go_loop {α : Type} {keep : List Nat} {b : SC} (H : α → St) (R : α → Prop) (μ : α → Nat) (a0 : α) (hR : R a0) (h0 : canon n0 keep st = H a0) (round : ∀ a, R a → go n0 b (H a) (roundK n0 keep H R μ a K)) : go n0 (.loop keep b) st K := by
  have key : ∀ (n : Nat) (a : α) (st : St), μ a ≤ n → R a → canon n0 keep st = H a → ∃ x st', loopW n0 keep (run n0 b) st = some (x, st') ∧ K x st' := by
    intro n
    induction n with
    | zero =>
      intro a st hn hR hc
      obtain ⟨x, st', h, k⟩ := round a hR
      cases x with
      | normal =>
        obtain ⟨y, _, h2, _⟩ := k
        omega
      | exit i => exact ⟨_, st', by rw [loopW_eq, hc, h]; rfl, k⟩
      | ret => exact ⟨_, st', by rw [loopW_eq, hc, h]; rfl, k⟩
    | succ n ih =>
      intro a st hn hR hc
      obtain ⟨x, st', h, k⟩ := round a hR
      cases x with
      | normal =>
        obtain ⟨y, h1, h2, h3⟩ := k
        obtain ⟨x2, st2, h4, k2⟩ := ih y st' (by omega) h1 h3
        exact ⟨x2, st2, by rw [loopW_eq, hc, h]; exact h4, k2⟩
      | exit i => exact ⟨_, st', by rw [loopW_eq, hc, h]; rfl, k⟩
      | ret => exact ⟨_, st', by rw [loopW_eq, hc, h]; rfl, k⟩
  exact key (μ a0) a0 st (Nat.le_refl _) hR h0
def mroundK (n0 : Nat) (keep keepO : List Nat) (H : EL → St) (F : X × St) (p : EL) : X → St → Prop
  | .normal, st' => canon n0 keep st' = H p
  | .exit i, st' => F = (.exit i, canon n0 keepO st')
  | .ret, st' => F = (.ret, canon n0 keepO st')
def mendK (n0 : Nat) (keepO : List Nat) (F : X × St) : X → St → Prop
  | .normal, _ => False
  | .exit i, st' => F = (.exit i, canon n0 keepO st')
  | .ret, st' => F = (.ret, canon n0 keepO st')
theorem mroundK_n {keep keepO : List Nat} {H : EL → St} {F : X × St} {p : EL} {st' : St} : mroundK n0 keep keepO H F p .normal st' = (canon n0 keep st' = H p) := rfl
theorem mroundK_e {keep keepO : List Nat} {H : EL → St} {F : X × St} {p : EL} {i : Nat} {st' : St} : mroundK n0 keep keepO H F p (.exit i) st' = (F = (.exit i, canon n0 keepO st')) := rfl
theorem mroundK_r {keep keepO : List Nat} {H : EL → St} {F : X × St} {p : EL} {st' : St} : mroundK n0 keep keepO H F p .ret st' = (F = (.ret, canon n0 keepO st')) := rfl
theorem mendK_e {keepO : List Nat} {F : X × St} {i : Nat} {st' : St} : mendK n0 keepO F (.exit i) st' = (F = (.exit i, canon n0 keepO st')) := rfl
theorem mendK_r {keepO : List Nat} {F : X × St} {st' : St} : mendK n0 keepO F .ret st' = (F = (.ret, canon n0 keepO st')) := rfl
end
def slots : Nat → Nat → List (Nat × SV) → List SV
  | 0, _, _ => []
  | n + 1, k, [] => .any :: slots n (k + 1) []
  | n + 1, k, (j, x) :: r => bif j == k then x :: slots n (k + 1) r else .any :: slots n (k + 1) ((j, x) :: r)
def finK (res : RM) (n0 : Nat) (rs : List RX) (out : SV × List Ob) (x : X) (st : St) : Prop := fin res n0 rs x st = some out
def ordF (res : RM) (n0 : Nat) (r : Option (SV × List Ob)) : Option (SV × List Ob) :=
  match r with
  | some (r, ob) => order res n0 r ob
  | none => none
def resF1 (res : RM) (n0 : Nat) (ob : List Ob) (r : Option SV) : Option (SV × List Ob) :=
  match r with
  | some r0 => ordF res n0 (gc n0 r0 ob)
  | none => none
theorem finK_r {res : RM} {n0 : Nat} {rs : List RX} {out : SV × List Ob} {sl : List SV} {ob : List Ob} : finK res n0 rs out .ret ⟨sl, ob⟩ = (resF1 res n0 ob (resV ⟨sl, ob⟩ rs) = some out) := rfl
theorem finK_n {res : RM} {n0 : Nat} {rs : List RX} {out : SV × List Ob} {sl : List SV} {ob : List Ob} : finK res n0 rs out .normal ⟨sl, ob⟩ = (resF1 res n0 ob (resV ⟨sl, ob⟩ rs) = some out) := rfl
theorem resF1_s {res : RM} {n0 : Nat} {ob : List Ob} {r : SV} : resF1 res n0 ob (some r) = ordF res n0 (gc n0 r ob) := rfl
theorem ordF_s {n0 : Nat} {r : SV} {ob : List Ob} {res : RM} : ordF res n0 (some (r, ob)) = order res n0 r ob := rfl
theorem E_walk {f : FuncId} {fc : FC} {hand : List Bool} {res : RM} {tr : Bool} {xs : List SV} {ob : List Ob} {out : SV × List Ob} (hc : codeOf Tryz.prog f = some fc) (hr : modes f = ⟨hand, res, none, tr⟩) (hn : xs.length ≤ fc.nt) (h : go ob.length (markR res fc.sc) ⟨xs ++ anys (fc.nt - xs.length), entry tr ob⟩ (finK res ob.length fc.rs out)) : E f xs ob = some out := by
  obtain ⟨x, st', h1, h2⟩ := h
  unfold E
  rw [ev_eq]
  unfold bodyF
  rw [hc, hr]
  simp only
  rw [decide_eq_true hn, cond_true]
  have h1 : fr Tryz.prog (fCall modes (ev Tryz.prog modes)) (loopWA ob.length) (markR res fc.sc) ⟨xs ++ anys (fc.nt - xs.length), entry tr ob⟩ = some (x, st') := h1
  rw [h1]
  exact h2
end Wd
namespace Wd
def c_cmp_isNaN_string : SC := (.seq (.reg [⟨some 2, none, .mv (.c (.bool false))⟩]) (.seq (.reg [⟨some 3, none, .mv (.t 0)⟩, ⟨some 4, none, .mv (.t 0)⟩, ⟨some 5, none, .bin .neq false (.t 3) (.t 4)⟩, ⟨some 2, none, .mv (.t 5)⟩]) .ret))
theorem k_cmp_isNaN_string : codeOf Tryz.prog 104 = some ⟨6, c_cmp_isNaN_string, [(.tmp 2)]⟩ := by kernel_rfl
theorem m_cmp_isNaN_string : modes 104 = ⟨[], .asis, none, false⟩ := by unfold modes; rfl
def c_cmp_isNaN_int : SC := (.seq (.reg [⟨some 2, none, .mv (.c (.bool false))⟩]) (.seq (.reg [⟨some 3, none, .mv (.t 0)⟩, ⟨some 4, none, .mv (.t 0)⟩, ⟨some 5, none, .bin .neq false (.t 3) (.t 4)⟩, ⟨some 2, none, .mv (.t 5)⟩]) .ret))
theorem k_cmp_isNaN_int : codeOf Tryz.prog 93 = some ⟨6, c_cmp_isNaN_int, [(.tmp 2)]⟩ := by kernel_rfl
theorem m_cmp_isNaN_int : modes 93 = ⟨[], .asis, none, false⟩ := by unfold modes; rfl
def c_cmp_Compare_string : SC := (.seq (.reg [⟨some 4, none, .mv (.c (.int .i64 0))⟩]) (.seq (.reg [⟨some 7, none, .mv (.t 0)⟩, ⟨some 8, none, .call 104 [(.t 7)]⟩, ⟨some 5, none, .mv (.t 8)⟩]) (.seq (.reg [⟨some 9, none, .mv (.t 1)⟩, ⟨some 10, none, .call 104 [(.t 9)]⟩, ⟨some 6, none, .mv (.t 10)⟩]) (.seq (.seq (.reg [⟨some 11, none, .mv (.t 5)⟩]) (.cond (.t 11) (.seq (.seq (.reg [⟨some 12, none, .mv (.t 6)⟩]) (.cond (.t 12) (.seq (.reg [⟨some 4, none, .mv (.c (.int .i64 0))⟩]) .ret) .skip)) (.seq (.reg [⟨some 4, none, .mv (.c (.int .i64 (-(0 + 1))))⟩]) .ret)) .skip)) (.seq (.seq (.reg [⟨some 13, none, .mv (.t 6)⟩]) (.cond (.t 13) (.seq (.reg [⟨some 4, none, .mv (.c (.int .i64 1))⟩]) .ret) .skip)) (.seq (.seq (.reg [⟨some 14, none, .mv (.t 0)⟩, ⟨some 15, none, .mv (.t 1)⟩, ⟨some 16, none, .bin .lss false (.t 14) (.t 15)⟩]) (.cond (.t 16) (.seq (.reg [⟨some 4, none, .mv (.c (.int .i64 (-(0 + 1))))⟩]) .ret) .skip)) (.seq (.seq (.reg [⟨some 17, none, .mv (.t 0)⟩, ⟨some 18, none, .mv (.t 1)⟩, ⟨some 19, none, .bin .gtr false (.t 17) (.t 18)⟩]) (.cond (.t 19) (.seq (.reg [⟨some 4, none, .mv (.c (.int .i64 1))⟩]) .ret) .skip)) (.seq (.reg [⟨some 4, none, .mv (.c (.int .i64 0))⟩]) .ret))))))))
theorem k_cmp_Compare_string : codeOf Tryz.prog 91 = some ⟨20, c_cmp_Compare_string, [(.tmp 4)]⟩ := by kernel_rfl
theorem m_cmp_Compare_string : modes 91 = ⟨[], .asis, none, false⟩ := by unfold modes; rfl
def c_cmp_Compare_int : SC := (.seq (.reg [⟨some 4, none, .mv (.c (.int .i64 0))⟩]) (.seq (.reg [⟨some 7, none, .mv (.t 0)⟩, ⟨some 8, none, .call 93 [(.t 7)]⟩, ⟨some 5, none, .mv (.t 8)⟩]) (.seq (.reg [⟨some 9, none, .mv (.t 1)⟩, ⟨some 10, none, .call 93 [(.t 9)]⟩, ⟨some 6, none, .mv (.t 10)⟩]) (.seq (.seq (.reg [⟨some 11, none, .mv (.t 5)⟩]) (.cond (.t 11) (.seq (.seq (.reg [⟨some 12, none, .mv (.t 6)⟩]) (.cond (.t 12) (.seq (.reg [⟨some 4, none, .mv (.c (.int .i64 0))⟩]) .ret) .skip)) (.seq (.reg [⟨some 4, none, .mv (.c (.int .i64 (-(0 + 1))))⟩]) .ret)) .skip)) (.seq (.seq (.reg [⟨some 13, none, .mv (.t 6)⟩]) (.cond (.t 13) (.seq (.reg [⟨some 4, none, .mv (.c (.int .i64 1))⟩]) .ret) .skip)) (.seq (.seq (.reg [⟨some 14, none, .mv (.t 0)⟩, ⟨some 15, none, .mv (.t 1)⟩, ⟨some 16, none, .bin .lss false (.t 14) (.t 15)⟩]) (.cond (.t 16) (.seq (.reg [⟨some 4, none, .mv (.c (.int .i64 (-(0 + 1))))⟩]) .ret) .skip)) (.seq (.seq (.reg [⟨some 17, none, .mv (.t 0)⟩, ⟨some 18, none, .mv (.t 1)⟩, ⟨some 19, none, .bin .gtr false (.t 17) (.t 18)⟩]) (.cond (.t 19) (.seq (.reg [⟨some 4, none, .mv (.c (.int .i64 1))⟩]) .ret) .skip)) (.seq (.reg [⟨some 4, none, .mv (.c (.int .i64 0))⟩]) .ret))))))))
theorem k_cmp_Compare_int : codeOf Tryz.prog 71 = some ⟨20, c_cmp_Compare_int, [(.tmp 4)]⟩ := by kernel_rfl
theorem m_cmp_Compare_int : modes 71 = ⟨[], .asis, none, false⟩ := by unfold modes; rfl
def c_cmp_Or_int : SC := (.seq (.reg [⟨some 2, none, .mv (.c (.int .i64 0))⟩]) (.seq (.reg [⟨some 3, none, .mv (.c (.int .i64 0))⟩]) (.seq (.seq (.reg [⟨some 6, none, .mv (.t 0)⟩, ⟨some 7, none, .len false (.t 6)⟩, ⟨some 8, none, .mv (.c (.int .i64 0))⟩]) (.block 0 (.loop [0, 0, 0, 1, 0, 0, 1, 1, 1, 0, 0, 0, 0, 0, 0, 0, 0, 0] (.seq (.reg [⟨some 9, none, .bin .lss false (.t 8) (.t 7)⟩]) (.seq (.cond (.t 9) .skip (.exit 0)) (.seq (.block 1 (.seq (.reg [⟨some 10, none, .iaddr 1 (.t 6) (.t 8)⟩, ⟨some 11, none, .load false 1 (.t 10)⟩, ⟨some 5, none, .mv (.t 11)⟩]) (.seq (.reg [⟨some 12, none, .mv (.t 5)⟩, ⟨some 13, none, .mv (.t 3)⟩, ⟨some 14, none, .bin .neq false (.t 12) (.t 13)⟩]) (.cond (.t 14) (.seq (.reg [⟨some 15, none, .mv (.t 5)⟩, ⟨some 2, none, .mv (.t 15)⟩]) .ret) .skip)))) (.reg [⟨some 16, none, .bin .add false (.t 8) (.c (.int .i64 1))⟩, ⟨some 8, none, .mv (.t 16)⟩]))))))) (.seq (.reg [⟨some 17, none, .mv (.t 3)⟩, ⟨some 2, none, .mv (.t 17)⟩]) .ret))))
theorem k_cmp_Or_int : codeOf Tryz.prog 69 = some ⟨18, c_cmp_Or_int, [(.tmp 2)]⟩ := by kernel_rfl
theorem m_cmp_Or_int : modes 69 = ⟨[], .asis, none, false⟩ := by unfold modes; rfl
theorem isNaNS_E (a : ByteArray) : E 104 [.str a] [] = some (.bool false, []) := by
  refine E_walk k_cmp_isNaN_string m_cmp_isNaN_string (of_decide_eq_true rfl) ?_
  simp (disch := omega) only [c_cmp_isNaN_string, lendN, lend1, SV.isNil, Ob.idsB, SV.idsB, SV.idsBL, List.getElem?_cons_zero, List.getElem?_cons_succ, OT.fullss, OT.fulls, OT.full, entry, toTree, plugA, plugG, plugH, setG, holesBack, holeAt, treeF, scalO, canonO, OT.erss, OT.ers, OT.er, OT.noShss, OT.noShs, OT.noSh, quiet, obB, obBj, locs, meets, memAnc, go_skip, go_exit, go_ret, go_reg, go_dreg, go_seq, go_block, boolP_t, boolP_f, boolP_n, seqk_n, seqk_e, seqk_r, blk_n, blk_e, blk_r, someP_s, drawP_s, regF_nil, regF_cons, regF_gd, drgF_nil, drgF_cons, drgF_gd, regN_s, drgN_s, gdF_t, gdF_ff, gdF_tf, gdF_ft, gdF_u, appF_n, appF_c, calls_eq, late_a, late_f, late_o, late_t, late_l, late_s, late_b, late_i, lateC, keysB, goneIn, seen, callS_nil, callS_cons, callN_z, callN_s, selN_s, callRes_v, callRes, roundK_n, roundK_e, roundK_r, finK_r, finK_n, resF1_s, ordF_s, order, opF, fOp, ret1, ret1o, fBin, fBinI, fBinS, fBinB, fArith, eqK, getX, gets, geto, sets, putS, newOb, updL, extL, lookO, okUB, SV.cellsN, SV.one, fillS, splice, toOTs, toOT, refs1, refsC, fsts, gids, gone1, allSome, bndLo, bndHi, intN, eOp.mkEs, eOp.addS, D.sv, OT.sv, D.ot, memB, nodupB, reach, SV.refs, SV.refsS, SV.ptrs, SV.ptrsS, Ob.refs, Ob.liveB, handRefs, backObs, SV.back, SV.backL, Ob.back, posN, lendL, lendV, lentL, lentV, allLtB, allIdsB, SV.ren, SV.renL, Ob.ren, mkU, sgp, gc, gcObs, names, upTo, canon_z, canon_o, canon_m, canonP, frz1, markR_a, markR_f, markR_s, markR_o, markR_t, markR_l, SC.mark, keepS, keepRefs, slots, resV, rxVs, rxV, anys, noShB, SV.noSh, SV.noShL, Ob.noSh, SV.own, SV.ownL, goneAt, cond_true, cond_false, List.length_cons, List.length_nil, List.map_cons, List.map_nil, List.drop_succ_cons, List.drop_zero, List.drop_nil, List.take_succ_cons, List.take_zero, List.take_nil, List.append_nil, List.nil_append, List.cons_append, List.all_cons, List.all_nil, List.getD_cons_zero, List.getD_cons_succ, List.any_cons, List.any_nil, List.contains_cons, List.contains_nil, List.isEmpty_nil, List.isEmpty_cons, List.flatten_cons, List.flatten_nil, List.replicate_succ, List.replicate_zero, List.set_cons_zero, List.set_cons_succ, Nat.add_zero, Nat.zero_add, Nat.le_refl, Nat.zero_le, Bool.and_true, Bool.true_and, Bool.and_self, Bool.or_false, Bool.false_or, Bool.true_or, Bool.or_true, Bool.not_true, Bool.not_false, Bool.false_and, Bool.and_false, decide_true, decide_false, beq_self_eq_true, if_true, if_false, Option.map_some, Option.map_none, Option.some.injEq, Option.getD_some, Option.getD_none, Int.toNat_natCast, true_and, and_true, and_self, eq_self_iff_true, List.length_map, Bool.false_eq_true, Bool.true_eq_false, Prod.mk.injEq, SV.int.injEq, SV.bool.injEq, SV.str.injEq, SV.agg.injEq, SV.tup.injEq, SV.arr.injEq, List.cons.injEq, St.mk.injEq, Int.zero_add, dec_T, dec_F, dec_i64, dec_t, dec_f, fGet, svK, svD, svDs, svM, MV.sv, mapAt, mput_int, mput_str, nomap_eq, nextSt, St.app, itOf, MK.sv, mroundK_n, mroundK_e, mroundK_r, mendK_e, mendK_r, mode, zA, zB, zC, zD, zE, zF, zG, zH, ↓reduceIte, zI, reduceCtorEq, zJ, zK, go_cond]
theorem isNaNI_E (a : Int) : E 93 [.int .i64 a] [] = some (.bool false, []) := by
  refine E_walk k_cmp_isNaN_int m_cmp_isNaN_int (of_decide_eq_true rfl) ?_
  simp (disch := omega) only [c_cmp_isNaN_int, lendN, lend1, SV.isNil, Ob.idsB, SV.idsB, SV.idsBL, List.getElem?_cons_zero, List.getElem?_cons_succ, OT.fullss, OT.fulls, OT.full, entry, toTree, plugA, plugG, plugH, setG, holesBack, holeAt, treeF, scalO, canonO, OT.erss, OT.ers, OT.er, OT.noShss, OT.noShs, OT.noSh, quiet, obB, obBj, locs, meets, memAnc, go_skip, go_exit, go_ret, go_reg, go_dreg, go_seq, go_block, boolP_t, boolP_f, boolP_n, seqk_n, seqk_e, seqk_r, blk_n, blk_e, blk_r, someP_s, drawP_s, regF_nil, regF_cons, regF_gd, drgF_nil, drgF_cons, drgF_gd, regN_s, drgN_s, gdF_t, gdF_ff, gdF_tf, gdF_ft, gdF_u, appF_n, appF_c, calls_eq, late_a, late_f, late_o, late_t, late_l, late_s, late_b, late_i, lateC, keysB, goneIn, seen, callS_nil, callS_cons, callN_z, callN_s, selN_s, callRes_v, callRes, roundK_n, roundK_e, roundK_r, finK_r, finK_n, resF1_s, ordF_s, order, opF, fOp, ret1, ret1o, fBin, fBinI, fBinS, fBinB, fArith, eqK, getX, gets, geto, sets, putS, newOb, updL, extL, lookO, okUB, SV.cellsN, SV.one, fillS, splice, toOTs, toOT, refs1, refsC, fsts, gids, gone1, allSome, bndLo, bndHi, intN, eOp.mkEs, eOp.addS, D.sv, OT.sv, D.ot, memB, nodupB, reach, SV.refs, SV.refsS, SV.ptrs, SV.ptrsS, Ob.refs, Ob.liveB, handRefs, backObs, SV.back, SV.backL, Ob.back, posN, lendL, lendV, lentL, lentV, allLtB, allIdsB, SV.ren, SV.renL, Ob.ren, mkU, sgp, gc, gcObs, names, upTo, canon_z, canon_o, canon_m, canonP, frz1, markR_a, markR_f, markR_s, markR_o, markR_t, markR_l, SC.mark, keepS, keepRefs, slots, resV, rxVs, rxV, anys, noShB, SV.noSh, SV.noShL, Ob.noSh, SV.own, SV.ownL, goneAt, cond_true, cond_false, List.length_cons, List.length_nil, List.map_cons, List.map_nil, List.drop_succ_cons, List.drop_zero, List.drop_nil, List.take_succ_cons, List.take_zero, List.take_nil, List.append_nil, List.nil_append, List.cons_append, List.all_cons, List.all_nil, List.getD_cons_zero, List.getD_cons_succ, List.any_cons, List.any_nil, List.contains_cons, List.contains_nil, List.isEmpty_nil, List.isEmpty_cons, List.flatten_cons, List.flatten_nil, List.replicate_succ, List.replicate_zero, List.set_cons_zero, List.set_cons_succ, Nat.add_zero, Nat.zero_add, Nat.le_refl, Nat.zero_le, Bool.and_true, Bool.true_and, Bool.and_self, Bool.or_false, Bool.false_or, Bool.true_or, Bool.or_true, Bool.not_true, Bool.not_false, Bool.false_and, Bool.and_false, decide_true, decide_false, beq_self_eq_true, if_true, if_false, Option.map_some, Option.map_none, Option.some.injEq, Option.getD_some, Option.getD_none, Int.toNat_natCast, true_and, and_true, and_self, eq_self_iff_true, List.length_map, Bool.false_eq_true, Bool.true_eq_false, Prod.mk.injEq, SV.int.injEq, SV.bool.injEq, SV.str.injEq, SV.agg.injEq, SV.tup.injEq, SV.arr.injEq, List.cons.injEq, St.mk.injEq, Int.zero_add, dec_T, dec_F, dec_i64, dec_t, dec_f, fGet, svK, svD, svDs, svM, MV.sv, mapAt, mput_int, mput_str, nomap_eq, nextSt, St.app, itOf, MK.sv, mroundK_n, mroundK_e, mroundK_r, mendK_e, mendK_r, mode, zA, zB, zC, zD, zE, zF, zG, zH, ↓reduceIte, zI, reduceCtorEq, zJ, zK, go_cond]
theorem compareS_E (a b : ByteArray) : E 91 [.str a, .str b] [] = some (.int .i64 (cmpB a b), []) := by
  have h1 := isNaNS_E a
  have h2 := isNaNS_E b
  unfold cmpB
  cases h3 : strLt a b
  · cases h4 : dec (a = b)
    · refine E_walk k_cmp_Compare_string m_cmp_Compare_string (of_decide_eq_true rfl) ?_
      simp (disch := omega) only [c_cmp_Compare_string, lendN, lend1, SV.isNil, Ob.idsB, SV.idsB, SV.idsBL, List.getElem?_cons_zero, List.getElem?_cons_succ, OT.fullss, OT.fulls, OT.full, entry, toTree, plugA, plugG, plugH, setG, holesBack, holeAt, treeF, scalO, canonO, OT.erss, OT.ers, OT.er, OT.noShss, OT.noShs, OT.noSh, quiet, obB, obBj, locs, meets, memAnc, go_skip, go_exit, go_ret, go_reg, go_dreg, go_seq, go_block, boolP_t, boolP_f, boolP_n, seqk_n, seqk_e, seqk_r, blk_n, blk_e, blk_r, someP_s, drawP_s, regF_nil, regF_cons, regF_gd, drgF_nil, drgF_cons, drgF_gd, regN_s, drgN_s, gdF_t, gdF_ff, gdF_tf, gdF_ft, gdF_u, appF_n, appF_c, calls_eq, late_a, late_f, late_o, late_t, late_l, late_s, late_b, late_i, lateC, keysB, goneIn, seen, callS_nil, callS_cons, callN_z, callN_s, selN_s, callRes_v, callRes, roundK_n, roundK_e, roundK_r, finK_r, finK_n, resF1_s, ordF_s, order, opF, fOp, ret1, ret1o, fBin, fBinI, fBinS, fBinB, fArith, eqK, getX, gets, geto, sets, putS, newOb, updL, extL, lookO, okUB, SV.cellsN, SV.one, fillS, splice, toOTs, toOT, refs1, refsC, fsts, gids, gone1, allSome, bndLo, bndHi, intN, eOp.mkEs, eOp.addS, D.sv, OT.sv, D.ot, memB, nodupB, reach, SV.refs, SV.refsS, SV.ptrs, SV.ptrsS, Ob.refs, Ob.liveB, handRefs, backObs, SV.back, SV.backL, Ob.back, posN, lendL, lendV, lentL, lentV, allLtB, allIdsB, SV.ren, SV.renL, Ob.ren, mkU, sgp, gc, gcObs, names, upTo, canon_z, canon_o, canon_m, canonP, frz1, markR_a, markR_f, markR_s, markR_o, markR_t, markR_l, SC.mark, keepS, keepRefs, slots, resV, rxVs, rxV, anys, noShB, SV.noSh, SV.noShL, Ob.noSh, SV.own, SV.ownL, goneAt, cond_true, cond_false, List.length_cons, List.length_nil, List.map_cons, List.map_nil, List.drop_succ_cons, List.drop_zero, List.drop_nil, List.take_succ_cons, List.take_zero, List.take_nil, List.append_nil, List.nil_append, List.cons_append, List.all_cons, List.all_nil, List.getD_cons_zero, List.getD_cons_succ, List.any_cons, List.any_nil, List.contains_cons, List.contains_nil, List.isEmpty_nil, List.isEmpty_cons, List.flatten_cons, List.flatten_nil, List.replicate_succ, List.replicate_zero, List.set_cons_zero, List.set_cons_succ, Nat.add_zero, Nat.zero_add, Nat.le_refl, Nat.zero_le, Bool.and_true, Bool.true_and, Bool.and_self, Bool.or_false, Bool.false_or, Bool.true_or, Bool.or_true, Bool.not_true, Bool.not_false, Bool.false_and, Bool.and_false, decide_true, decide_false, beq_self_eq_true, if_true, if_false, Option.map_some, Option.map_none, Option.some.injEq, Option.getD_some, Option.getD_none, Int.toNat_natCast, true_and, and_true, and_self, eq_self_iff_true, List.length_map, Bool.false_eq_true, Bool.true_eq_false, Prod.mk.injEq, SV.int.injEq, SV.bool.injEq, SV.str.injEq, SV.agg.injEq, SV.tup.injEq, SV.arr.injEq, List.cons.injEq, St.mk.injEq, Int.zero_add, dec_T, dec_F, dec_i64, dec_t, dec_f, fGet, svK, svD, svDs, svM, MV.sv, mapAt, mput_int, mput_str, nomap_eq, nextSt, St.app, itOf, MK.sv, mroundK_n, mroundK_e, mroundK_r, mendK_e, mendK_r, mode, zA, zB, zC, zD, zE, zF, zG, zH, ↓reduceIte, zI, reduceCtorEq, zJ, zK, go_cond, h1, h2, h3, h4, m_cmp_isNaN_string]
    · refine E_walk k_cmp_Compare_string m_cmp_Compare_string (of_decide_eq_true rfl) ?_
      simp (disch := omega) only [c_cmp_Compare_string, lendN, lend1, SV.isNil, Ob.idsB, SV.idsB, SV.idsBL, List.getElem?_cons_zero, List.getElem?_cons_succ, OT.fullss, OT.fulls, OT.full, entry, toTree, plugA, plugG, plugH, setG, holesBack, holeAt, treeF, scalO, canonO, OT.erss, OT.ers, OT.er, OT.noShss, OT.noShs, OT.noSh, quiet, obB, obBj, locs, meets, memAnc, go_skip, go_exit, go_ret, go_reg, go_dreg, go_seq, go_block, boolP_t, boolP_f, boolP_n, seqk_n, seqk_e, seqk_r, blk_n, blk_e, blk_r, someP_s, drawP_s, regF_nil, regF_cons, regF_gd, drgF_nil, drgF_cons, drgF_gd, regN_s, drgN_s, gdF_t, gdF_ff, gdF_tf, gdF_ft, gdF_u, appF_n, appF_c, calls_eq, late_a, late_f, late_o, late_t, late_l, late_s, late_b, late_i, lateC, keysB, goneIn, seen, callS_nil, callS_cons, callN_z, callN_s, selN_s, callRes_v, callRes, roundK_n, roundK_e, roundK_r, finK_r, finK_n, resF1_s, ordF_s, order, opF, fOp, ret1, ret1o, fBin, fBinI, fBinS, fBinB, fArith, eqK, getX, gets, geto, sets, putS, newOb, updL, extL, lookO, okUB, SV.cellsN, SV.one, fillS, splice, toOTs, toOT, refs1, refsC, fsts, gids, gone1, allSome, bndLo, bndHi, intN, eOp.mkEs, eOp.addS, D.sv, OT.sv, D.ot, memB, nodupB, reach, SV.refs, SV.refsS, SV.ptrs, SV.ptrsS, Ob.refs, Ob.liveB, handRefs, backObs, SV.back, SV.backL, Ob.back, posN, lendL, lendV, lentL, lentV, allLtB, allIdsB, SV.ren, SV.renL, Ob.ren, mkU, sgp, gc, gcObs, names, upTo, canon_z, canon_o, canon_m, canonP, frz1, markR_a, markR_f, markR_s, markR_o, markR_t, markR_l, SC.mark, keepS, keepRefs, slots, resV, rxVs, rxV, anys, noShB, SV.noSh, SV.noShL, Ob.noSh, SV.own, SV.ownL, goneAt, cond_true, cond_false, List.length_cons, List.length_nil, List.map_cons, List.map_nil, List.drop_succ_cons, List.drop_zero, List.drop_nil, List.take_succ_cons, List.take_zero, List.take_nil, List.append_nil, List.nil_append, List.cons_append, List.all_cons, List.all_nil, List.getD_cons_zero, List.getD_cons_succ, List.any_cons, List.any_nil, List.contains_cons, List.contains_nil, List.isEmpty_nil, List.isEmpty_cons, List.flatten_cons, List.flatten_nil, List.replicate_succ, List.replicate_zero, List.set_cons_zero, List.set_cons_succ, Nat.add_zero, Nat.zero_add, Nat.le_refl, Nat.zero_le, Bool.and_true, Bool.true_and, Bool.and_self, Bool.or_false, Bool.false_or, Bool.true_or, Bool.or_true, Bool.not_true, Bool.not_false, Bool.false_and, Bool.and_false, decide_true, decide_false, beq_self_eq_true, if_true, if_false, Option.map_some, Option.map_none, Option.some.injEq, Option.getD_some, Option.getD_none, Int.toNat_natCast, true_and, and_true, and_self, eq_self_iff_true, List.length_map, Bool.false_eq_true, Bool.true_eq_false, Prod.mk.injEq, SV.int.injEq, SV.bool.injEq, SV.str.injEq, SV.agg.injEq, SV.tup.injEq, SV.arr.injEq, List.cons.injEq, St.mk.injEq, Int.zero_add, dec_T, dec_F, dec_i64, dec_t, dec_f, fGet, svK, svD, svDs, svM, MV.sv, mapAt, mput_int, mput_str, nomap_eq, nextSt, St.app, itOf, MK.sv, mroundK_n, mroundK_e, mroundK_r, mendK_e, mendK_r, mode, zA, zB, zC, zD, zE, zF, zG, zH, ↓reduceIte, zI, reduceCtorEq, zJ, zK, go_cond, h1, h2, h3, h4, m_cmp_isNaN_string]
  · refine E_walk k_cmp_Compare_string m_cmp_Compare_string (of_decide_eq_true rfl) ?_
    simp (disch := omega) only [c_cmp_Compare_string, lendN, lend1, SV.isNil, Ob.idsB, SV.idsB, SV.idsBL, List.getElem?_cons_zero, List.getElem?_cons_succ, OT.fullss, OT.fulls, OT.full, entry, toTree, plugA, plugG, plugH, setG, holesBack, holeAt, treeF, scalO, canonO, OT.erss, OT.ers, OT.er, OT.noShss, OT.noShs, OT.noSh, quiet, obB, obBj, locs, meets, memAnc, go_skip, go_exit, go_ret, go_reg, go_dreg, go_seq, go_block, boolP_t, boolP_f, boolP_n, seqk_n, seqk_e, seqk_r, blk_n, blk_e, blk_r, someP_s, drawP_s, regF_nil, regF_cons, regF_gd, drgF_nil, drgF_cons, drgF_gd, regN_s, drgN_s, gdF_t, gdF_ff, gdF_tf, gdF_ft, gdF_u, appF_n, appF_c, calls_eq, late_a, late_f, late_o, late_t, late_l, late_s, late_b, late_i, lateC, keysB, goneIn, seen, callS_nil, callS_cons, callN_z, callN_s, selN_s, callRes_v, callRes, roundK_n, roundK_e, roundK_r, finK_r, finK_n, resF1_s, ordF_s, order, opF, fOp, ret1, ret1o, fBin, fBinI, fBinS, fBinB, fArith, eqK, getX, gets, geto, sets, putS, newOb, updL, extL, lookO, okUB, SV.cellsN, SV.one, fillS, splice, toOTs, toOT, refs1, refsC, fsts, gids, gone1, allSome, bndLo, bndHi, intN, eOp.mkEs, eOp.addS, D.sv, OT.sv, D.ot, memB, nodupB, reach, SV.refs, SV.refsS, SV.ptrs, SV.ptrsS, Ob.refs, Ob.liveB, handRefs, backObs, SV.back, SV.backL, Ob.back, posN, lendL, lendV, lentL, lentV, allLtB, allIdsB, SV.ren, SV.renL, Ob.ren, mkU, sgp, gc, gcObs, names, upTo, canon_z, canon_o, canon_m, canonP, frz1, markR_a, markR_f, markR_s, markR_o, markR_t, markR_l, SC.mark, keepS, keepRefs, slots, resV, rxVs, rxV, anys, noShB, SV.noSh, SV.noShL, Ob.noSh, SV.own, SV.ownL, goneAt, cond_true, cond_false, List.length_cons, List.length_nil, List.map_cons, List.map_nil, List.drop_succ_cons, List.drop_zero, List.drop_nil, List.take_succ_cons, List.take_zero, List.take_nil, List.append_nil, List.nil_append, List.cons_append, List.all_cons, List.all_nil, List.getD_cons_zero, List.getD_cons_succ, List.any_cons, List.any_nil, List.contains_cons, List.contains_nil, List.isEmpty_nil, List.isEmpty_cons, List.flatten_cons, List.flatten_nil, List.replicate_succ, List.replicate_zero, List.set_cons_zero, List.set_cons_succ, Nat.add_zero, Nat.zero_add, Nat.le_refl, Nat.zero_le, Bool.and_true, Bool.true_and, Bool.and_self, Bool.or_false, Bool.false_or, Bool.true_or, Bool.or_true, Bool.not_true, Bool.not_false, Bool.false_and, Bool.and_false, decide_true, decide_false, beq_self_eq_true, if_true, if_false, Option.map_some, Option.map_none, Option.some.injEq, Option.getD_some, Option.getD_none, Int.toNat_natCast, true_and, and_true, and_self, eq_self_iff_true, List.length_map, Bool.false_eq_true, Bool.true_eq_false, Prod.mk.injEq, SV.int.injEq, SV.bool.injEq, SV.str.injEq, SV.agg.injEq, SV.tup.injEq, SV.arr.injEq, List.cons.injEq, St.mk.injEq, Int.zero_add, dec_T, dec_F, dec_i64, dec_t, dec_f, fGet, svK, svD, svDs, svM, MV.sv, mapAt, mput_int, mput_str, nomap_eq, nextSt, St.app, itOf, MK.sv, mroundK_n, mroundK_e, mroundK_r, mendK_e, mendK_r, mode, zA, zB, zC, zD, zE, zF, zG, zH, ↓reduceIte, zI, reduceCtorEq, zJ, zK, go_cond, h1, h2, h3, m_cmp_isNaN_string]
theorem compareI_E (a b : Int) : E 71 [.int .i64 a, .int .i64 b] [] = some (.int .i64 (cmpI a b), []) := by
  have h1 := isNaNI_E a
  have h2 := isNaNI_E b
  unfold cmpI
  cases h3 : dec (a < b)
  · cases h4 : dec (b < a)
    · refine E_walk k_cmp_Compare_int m_cmp_Compare_int (of_decide_eq_true rfl) ?_
      simp (disch := omega) only [c_cmp_Compare_int, lendN, lend1, SV.isNil, Ob.idsB, SV.idsB, SV.idsBL, List.getElem?_cons_zero, List.getElem?_cons_succ, OT.fullss, OT.fulls, OT.full, entry, toTree, plugA, plugG, plugH, setG, holesBack, holeAt, treeF, scalO, canonO, OT.erss, OT.ers, OT.er, OT.noShss, OT.noShs, OT.noSh, quiet, obB, obBj, locs, meets, memAnc, go_skip, go_exit, go_ret, go_reg, go_dreg, go_seq, go_block, boolP_t, boolP_f, boolP_n, seqk_n, seqk_e, seqk_r, blk_n, blk_e, blk_r, someP_s, drawP_s, regF_nil, regF_cons, regF_gd, drgF_nil, drgF_cons, drgF_gd, regN_s, drgN_s, gdF_t, gdF_ff, gdF_tf, gdF_ft, gdF_u, appF_n, appF_c, calls_eq, late_a, late_f, late_o, late_t, late_l, late_s, late_b, late_i, lateC, keysB, goneIn, seen, callS_nil, callS_cons, callN_z, callN_s, selN_s, callRes_v, callRes, roundK_n, roundK_e, roundK_r, finK_r, finK_n, resF1_s, ordF_s, order, opF, fOp, ret1, ret1o, fBin, fBinI, fBinS, fBinB, fArith, eqK, getX, gets, geto, sets, putS, newOb, updL, extL, lookO, okUB, SV.cellsN, SV.one, fillS, splice, toOTs, toOT, refs1, refsC, fsts, gids, gone1, allSome, bndLo, bndHi, intN, eOp.mkEs, eOp.addS, D.sv, OT.sv, D.ot, memB, nodupB, reach, SV.refs, SV.refsS, SV.ptrs, SV.ptrsS, Ob.refs, Ob.liveB, handRefs, backObs, SV.back, SV.backL, Ob.back, posN, lendL, lendV, lentL, lentV, allLtB, allIdsB, SV.ren, SV.renL, Ob.ren, mkU, sgp, gc, gcObs, names, upTo, canon_z, canon_o, canon_m, canonP, frz1, markR_a, markR_f, markR_s, markR_o, markR_t, markR_l, SC.mark, keepS, keepRefs, slots, resV, rxVs, rxV, anys, noShB, SV.noSh, SV.noShL, Ob.noSh, SV.own, SV.ownL, goneAt, cond_true, cond_false, List.length_cons, List.length_nil, List.map_cons, List.map_nil, List.drop_succ_cons, List.drop_zero, List.drop_nil, List.take_succ_cons, List.take_zero, List.take_nil, List.append_nil, List.nil_append, List.cons_append, List.all_cons, List.all_nil, List.getD_cons_zero, List.getD_cons_succ, List.any_cons, List.any_nil, List.contains_cons, List.contains_nil, List.isEmpty_nil, List.isEmpty_cons, List.flatten_cons, List.flatten_nil, List.replicate_succ, List.replicate_zero, List.set_cons_zero, List.set_cons_succ, Nat.add_zero, Nat.zero_add, Nat.le_refl, Nat.zero_le, Bool.and_true, Bool.true_and, Bool.and_self, Bool.or_false, Bool.false_or, Bool.true_or, Bool.or_true, Bool.not_true, Bool.not_false, Bool.false_and, Bool.and_false, decide_true, decide_false, beq_self_eq_true, if_true, if_false, Option.map_some, Option.map_none, Option.some.injEq, Option.getD_some, Option.getD_none, Int.toNat_natCast, true_and, and_true, and_self, eq_self_iff_true, List.length_map, Bool.false_eq_true, Bool.true_eq_false, Prod.mk.injEq, SV.int.injEq, SV.bool.injEq, SV.str.injEq, SV.agg.injEq, SV.tup.injEq, SV.arr.injEq, List.cons.injEq, St.mk.injEq, Int.zero_add, dec_T, dec_F, dec_i64, dec_t, dec_f, fGet, svK, svD, svDs, svM, MV.sv, mapAt, mput_int, mput_str, nomap_eq, nextSt, St.app, itOf, MK.sv, mroundK_n, mroundK_e, mroundK_r, mendK_e, mendK_r, mode, zA, zB, zC, zD, zE, zF, zG, zH, ↓reduceIte, zI, reduceCtorEq, zJ, zK, go_cond, h1, h2, h3, h4, m_cmp_isNaN_int]
    · refine E_walk k_cmp_Compare_int m_cmp_Compare_int (of_decide_eq_true rfl) ?_
      simp (disch := omega) only [c_cmp_Compare_int, lendN, lend1, SV.isNil, Ob.idsB, SV.idsB, SV.idsBL, List.getElem?_cons_zero, List.getElem?_cons_succ, OT.fullss, OT.fulls, OT.full, entry, toTree, plugA, plugG, plugH, setG, holesBack, holeAt, treeF, scalO, canonO, OT.erss, OT.ers, OT.er, OT.noShss, OT.noShs, OT.noSh, quiet, obB, obBj, locs, meets, memAnc, go_skip, go_exit, go_ret, go_reg, go_dreg, go_seq, go_block, boolP_t, boolP_f, boolP_n, seqk_n, seqk_e, seqk_r, blk_n, blk_e, blk_r, someP_s, drawP_s, regF_nil, regF_cons, regF_gd, drgF_nil, drgF_cons, drgF_gd, regN_s, drgN_s, gdF_t, gdF_ff, gdF_tf, gdF_ft, gdF_u, appF_n, appF_c, calls_eq, late_a, late_f, late_o, late_t, late_l, late_s, late_b, late_i, lateC, keysB, goneIn, seen, callS_nil, callS_cons, callN_z, callN_s, selN_s, callRes_v, callRes, roundK_n, roundK_e, roundK_r, finK_r, finK_n, resF1_s, ordF_s, order, opF, fOp, ret1, ret1o, fBin, fBinI, fBinS, fBinB, fArith, eqK, getX, gets, geto, sets, putS, newOb, updL, extL, lookO, okUB, SV.cellsN, SV.one, fillS, splice, toOTs, toOT, refs1, refsC, fsts, gids, gone1, allSome, bndLo, bndHi, intN, eOp.mkEs, eOp.addS, D.sv, OT.sv, D.ot, memB, nodupB, reach, SV.refs, SV.refsS, SV.ptrs, SV.ptrsS, Ob.refs, Ob.liveB, handRefs, backObs, SV.back, SV.backL, Ob.back, posN, lendL, lendV, lentL, lentV, allLtB, allIdsB, SV.ren, SV.renL, Ob.ren, mkU, sgp, gc, gcObs, names, upTo, canon_z, canon_o, canon_m, canonP, frz1, markR_a, markR_f, markR_s, markR_o, markR_t, markR_l, SC.mark, keepS, keepRefs, slots, resV, rxVs, rxV, anys, noShB, SV.noSh, SV.noShL, Ob.noSh, SV.own, SV.ownL, goneAt, cond_true, cond_false, List.length_cons, List.length_nil, List.map_cons, List.map_nil, List.drop_succ_cons, List.drop_zero, List.drop_nil, List.take_succ_cons, List.take_zero, List.take_nil, List.append_nil, List.nil_append, List.cons_append, List.all_cons, List.all_nil, List.getD_cons_zero, List.getD_cons_succ, List.any_cons, List.any_nil, List.contains_cons, List.contains_nil, List.isEmpty_nil, List.isEmpty_cons, List.flatten_cons, List.flatten_nil, List.replicate_succ, List.replicate_zero, List.set_cons_zero, List.set_cons_succ, Nat.add_zero, Nat.zero_add, Nat.le_refl, Nat.zero_le, Bool.and_true, Bool.true_and, Bool.and_self, Bool.or_false, Bool.false_or, Bool.true_or, Bool.or_true, Bool.not_true, Bool.not_false, Bool.false_and, Bool.and_false, decide_true, decide_false, beq_self_eq_true, if_true, if_false, Option.map_some, Option.map_none, Option.some.injEq, Option.getD_some, Option.getD_none, Int.toNat_natCast, true_and, and_true, and_self, eq_self_iff_true, List.length_map, Bool.false_eq_true, Bool.true_eq_false, Prod.mk.injEq, SV.int.injEq, SV.bool.injEq, SV.str.injEq, SV.agg.injEq, SV.tup.injEq, SV.arr.injEq, List.cons.injEq, St.mk.injEq, Int.zero_add, dec_T, dec_F, dec_i64, dec_t, dec_f, fGet, svK, svD, svDs, svM, MV.sv, mapAt, mput_int, mput_str, nomap_eq, nextSt, St.app, itOf, MK.sv, mroundK_n, mroundK_e, mroundK_r, mendK_e, mendK_r, mode, zA, zB, zC, zD, zE, zF, zG, zH, ↓reduceIte, zI, reduceCtorEq, zJ, zK, go_cond, h1, h2, h3, h4, m_cmp_isNaN_int]
  · refine E_walk k_cmp_Compare_int m_cmp_Compare_int (of_decide_eq_true rfl) ?_
    simp (disch := omega) only [c_cmp_Compare_int, lendN, lend1, SV.isNil, Ob.idsB, SV.idsB, SV.idsBL, List.getElem?_cons_zero, List.getElem?_cons_succ, OT.fullss, OT.fulls, OT.full, entry, toTree, plugA, plugG, plugH, setG, holesBack, holeAt, treeF, scalO, canonO, OT.erss, OT.ers, OT.er, OT.noShss, OT.noShs, OT.noSh, quiet, obB, obBj, locs, meets, memAnc, go_skip, go_exit, go_ret, go_reg, go_dreg, go_seq, go_block, boolP_t, boolP_f, boolP_n, seqk_n, seqk_e, seqk_r, blk_n, blk_e, blk_r, someP_s, drawP_s, regF_nil, regF_cons, regF_gd, drgF_nil, drgF_cons, drgF_gd, regN_s, drgN_s, gdF_t, gdF_ff, gdF_tf, gdF_ft, gdF_u, appF_n, appF_c, calls_eq, late_a, late_f, late_o, late_t, late_l, late_s, late_b, late_i, lateC, keysB, goneIn, seen, callS_nil, callS_cons, callN_z, callN_s, selN_s, callRes_v, callRes, roundK_n, roundK_e, roundK_r, finK_r, finK_n, resF1_s, ordF_s, order, opF, fOp, ret1, ret1o, fBin, fBinI, fBinS, fBinB, fArith, eqK, getX, gets, geto, sets, putS, newOb, updL, extL, lookO, okUB, SV.cellsN, SV.one, fillS, splice, toOTs, toOT, refs1, refsC, fsts, gids, gone1, allSome, bndLo, bndHi, intN, eOp.mkEs, eOp.addS, D.sv, OT.sv, D.ot, memB, nodupB, reach, SV.refs, SV.refsS, SV.ptrs, SV.ptrsS, Ob.refs, Ob.liveB, handRefs, backObs, SV.back, SV.backL, Ob.back, posN, lendL, lendV, lentL, lentV, allLtB, allIdsB, SV.ren, SV.renL, Ob.ren, mkU, sgp, gc, gcObs, names, upTo, canon_z, canon_o, canon_m, canonP, frz1, markR_a, markR_f, markR_s, markR_o, markR_t, markR_l, SC.mark, keepS, keepRefs, slots, resV, rxVs, rxV, anys, noShB, SV.noSh, SV.noShL, Ob.noSh, SV.own, SV.ownL, goneAt, cond_true, cond_false, List.length_cons, List.length_nil, List.map_cons, List.map_nil, List.drop_succ_cons, List.drop_zero, List.drop_nil, List.take_succ_cons, List.take_zero, List.take_nil, List.append_nil, List.nil_append, List.cons_append, List.all_cons, List.all_nil, List.getD_cons_zero, List.getD_cons_succ, List.any_cons, List.any_nil, List.contains_cons, List.contains_nil, List.isEmpty_nil, List.isEmpty_cons, List.flatten_cons, List.flatten_nil, List.replicate_succ, List.replicate_zero, List.set_cons_zero, List.set_cons_succ, Nat.add_zero, Nat.zero_add, Nat.le_refl, Nat.zero_le, Bool.and_true, Bool.true_and, Bool.and_self, Bool.or_false, Bool.false_or, Bool.true_or, Bool.or_true, Bool.not_true, Bool.not_false, Bool.false_and, Bool.and_false, decide_true, decide_false, beq_self_eq_true, if_true, if_false, Option.map_some, Option.map_none, Option.some.injEq, Option.getD_some, Option.getD_none, Int.toNat_natCast, true_and, and_true, and_self, eq_self_iff_true, List.length_map, Bool.false_eq_true, Bool.true_eq_false, Prod.mk.injEq, SV.int.injEq, SV.bool.injEq, SV.str.injEq, SV.agg.injEq, SV.tup.injEq, SV.arr.injEq, List.cons.injEq, St.mk.injEq, Int.zero_add, dec_T, dec_F, dec_i64, dec_t, dec_f, fGet, svK, svD, svDs, svM, MV.sv, mapAt, mput_int, mput_str, nomap_eq, nextSt, St.app, itOf, MK.sv, mroundK_n, mroundK_e, mroundK_r, mendK_e, mendK_r, mode, zA, zB, zC, zD, zE, zF, zG, zH, ↓reduceIte, zI, reduceCtorEq, zJ, zK, go_cond, h1, h2, h3, m_cmp_isNaN_int]
def orL : List Int → Int
  | [] => 0
  | x :: xs => if x = 0 then orL xs else x
theorem or_E (xs : List Int) (hl : xs.length ≤ 1099511627776) : E 69 [.arr (xs.map fun n => [D.int n])] [] = some (.int .i64 (orL xs), []) := by
  refine E_walk k_cmp_Or_int m_cmp_Or_int (of_decide_eq_true rfl) ?_
  simp (disch := omega) only [c_cmp_Or_int, lendN, lend1, SV.isNil, Ob.idsB, SV.idsB, SV.idsBL, List.getElem?_cons_zero, List.getElem?_cons_succ, OT.fullss, OT.fulls, OT.full, entry, toTree, plugA, plugG, plugH, setG, holesBack, holeAt, treeF, scalO, canonO, OT.erss, OT.ers, OT.er, OT.noShss, OT.noShs, OT.noSh, quiet, obB, obBj, locs, meets, memAnc, go_skip, go_exit, go_ret, go_reg, go_dreg, go_seq, go_block, boolP_t, boolP_f, boolP_n, seqk_n, seqk_e, seqk_r, blk_n, blk_e, blk_r, someP_s, drawP_s, regF_nil, regF_cons, regF_gd, drgF_nil, drgF_cons, drgF_gd, regN_s, drgN_s, gdF_t, gdF_ff, gdF_tf, gdF_ft, gdF_u, appF_n, appF_c, calls_eq, late_a, late_f, late_o, late_t, late_l, late_s, late_b, late_i, lateC, keysB, goneIn, seen, callS_nil, callS_cons, callN_z, callN_s, selN_s, callRes_v, callRes, roundK_n, roundK_e, roundK_r, finK_r, finK_n, resF1_s, ordF_s, order, opF, fOp, ret1, ret1o, fBin, fBinI, fBinS, fBinB, fArith, eqK, getX, gets, geto, sets, putS, newOb, updL, extL, lookO, okUB, SV.cellsN, SV.one, fillS, splice, toOTs, toOT, refs1, refsC, fsts, gids, gone1, allSome, bndLo, bndHi, intN, eOp.mkEs, eOp.addS, D.sv, OT.sv, D.ot, memB, nodupB, reach, SV.refs, SV.refsS, SV.ptrs, SV.ptrsS, Ob.refs, Ob.liveB, handRefs, backObs, SV.back, SV.backL, Ob.back, posN, lendL, lendV, lentL, lentV, allLtB, allIdsB, SV.ren, SV.renL, Ob.ren, mkU, sgp, gc, gcObs, names, upTo, canon_z, canon_o, canon_m, canonP, frz1, markR_a, markR_f, markR_s, markR_o, markR_t, markR_l, SC.mark, keepS, keepRefs, slots, resV, rxVs, rxV, anys, noShB, SV.noSh, SV.noShL, Ob.noSh, SV.own, SV.ownL, goneAt, cond_true, cond_false, List.length_cons, List.length_nil, List.map_cons, List.map_nil, List.drop_succ_cons, List.drop_zero, List.drop_nil, List.take_succ_cons, List.take_zero, List.take_nil, List.append_nil, List.nil_append, List.cons_append, List.all_cons, List.all_nil, List.getD_cons_zero, List.getD_cons_succ, List.any_cons, List.any_nil, List.contains_cons, List.contains_nil, List.isEmpty_nil, List.isEmpty_cons, List.flatten_cons, List.flatten_nil, List.replicate_succ, List.replicate_zero, List.set_cons_zero, List.set_cons_succ, Nat.add_zero, Nat.zero_add, Nat.le_refl, Nat.zero_le, Bool.and_true, Bool.true_and, Bool.and_self, Bool.or_false, Bool.false_or, Bool.true_or, Bool.or_true, Bool.not_true, Bool.not_false, Bool.false_and, Bool.and_false, decide_true, decide_false, beq_self_eq_true, if_true, if_false, Option.map_some, Option.map_none, Option.some.injEq, Option.getD_some, Option.getD_none, Int.toNat_natCast, true_and, and_true, and_self, eq_self_iff_true, List.length_map, Bool.false_eq_true, Bool.true_eq_false, Prod.mk.injEq, SV.int.injEq, SV.bool.injEq, SV.str.injEq, SV.agg.injEq, SV.tup.injEq, SV.arr.injEq, List.cons.injEq, St.mk.injEq, Int.zero_add, dec_T, dec_F, dec_i64, dec_t, dec_f, fGet, svK, svD, svDs, svM, MV.sv, mapAt, mput_int, mput_str, nomap_eq, nextSt, St.app, itOf, MK.sv, mroundK_n, mroundK_e, mroundK_r, mendK_e, mendK_r, mode, zA, zB, zC, zD, zE, zF, zG, zH, ↓reduceIte, zI, reduceCtorEq, zJ, zK, go_cond]
  refine go_loop (α := Int) (fun a => ⟨slots 18 0 [(3, .int .i64 0), (6, .arr (xs.map fun n => [D.int n])), (7, .int .i64 xs.length), (8, .int .i64 a)], []⟩) (fun a => ∃ k : Nat, a = k ∧ k ≤ (xs).length ∧ orL (xs.drop k) = orL xs) (fun a => (xs).length - (a).toNat) 0 ⟨0, rfl, Nat.zero_le _, by rw [List.drop_zero]⟩ (by simp (disch := omega) only [lendN, lend1, SV.isNil, Ob.idsB, SV.idsB, SV.idsBL, List.getElem?_cons_zero, List.getElem?_cons_succ, OT.fullss, OT.fulls, OT.full, entry, toTree, plugA, plugG, plugH, setG, holesBack, holeAt, treeF, scalO, canonO, OT.erss, OT.ers, OT.er, OT.noShss, OT.noShs, OT.noSh, quiet, obB, obBj, locs, meets, memAnc, go_skip, go_exit, go_ret, go_reg, go_dreg, go_seq, go_block, boolP_t, boolP_f, boolP_n, seqk_n, seqk_e, seqk_r, blk_n, blk_e, blk_r, someP_s, drawP_s, regF_nil, regF_cons, regF_gd, drgF_nil, drgF_cons, drgF_gd, regN_s, drgN_s, gdF_t, gdF_ff, gdF_tf, gdF_ft, gdF_u, appF_n, appF_c, calls_eq, late_a, late_f, late_o, late_t, late_l, late_s, late_b, late_i, lateC, keysB, goneIn, seen, callS_nil, callS_cons, callN_z, callN_s, selN_s, callRes_v, callRes, roundK_n, roundK_e, roundK_r, finK_r, finK_n, resF1_s, ordF_s, order, opF, fOp, ret1, ret1o, fBin, fBinI, fBinS, fBinB, fArith, eqK, getX, gets, geto, sets, putS, newOb, updL, extL, lookO, okUB, SV.cellsN, SV.one, fillS, splice, toOTs, toOT, refs1, refsC, fsts, gids, gone1, allSome, bndLo, bndHi, intN, eOp.mkEs, eOp.addS, D.sv, OT.sv, D.ot, memB, nodupB, reach, SV.refs, SV.refsS, SV.ptrs, SV.ptrsS, Ob.refs, Ob.liveB, handRefs, backObs, SV.back, SV.backL, Ob.back, posN, lendL, lendV, lentL, lentV, allLtB, allIdsB, SV.ren, SV.renL, Ob.ren, mkU, sgp, gc, gcObs, names, upTo, canon_z, canon_o, canon_m, canonP, frz1, markR_a, markR_f, markR_s, markR_o, markR_t, markR_l, SC.mark, keepS, keepRefs, slots, resV, rxVs, rxV, anys, noShB, SV.noSh, SV.noShL, Ob.noSh, SV.own, SV.ownL, goneAt, cond_true, cond_false, List.length_cons, List.length_nil, List.map_cons, List.map_nil, List.drop_succ_cons, List.drop_zero, List.drop_nil, List.take_succ_cons, List.take_zero, List.take_nil, List.append_nil, List.nil_append, List.cons_append, List.all_cons, List.all_nil, List.getD_cons_zero, List.getD_cons_succ, List.any_cons, List.any_nil, List.contains_cons, List.contains_nil, List.isEmpty_nil, List.isEmpty_cons, List.flatten_cons, List.flatten_nil, List.replicate_succ, List.replicate_zero, List.set_cons_zero, List.set_cons_succ, Nat.add_zero, Nat.zero_add, Nat.le_refl, Nat.zero_le, Bool.and_true, Bool.true_and, Bool.and_self, Bool.or_false, Bool.false_or, Bool.true_or, Bool.or_true, Bool.not_true, Bool.not_false, Bool.false_and, Bool.and_false, decide_true, decide_false, beq_self_eq_true, if_true, if_false, Option.map_some, Option.map_none, Option.some.injEq, Option.getD_some, Option.getD_none, Int.toNat_natCast, true_and, and_true, and_self, eq_self_iff_true, List.length_map, Bool.false_eq_true, Bool.true_eq_false, Prod.mk.injEq, SV.int.injEq, SV.bool.injEq, SV.str.injEq, SV.agg.injEq, SV.tup.injEq, SV.arr.injEq, List.cons.injEq, St.mk.injEq, Int.zero_add, dec_T, dec_F, dec_i64, dec_t, dec_f, fGet, svK, svD, svDs, svM, MV.sv, mapAt, mput_int, mput_str, nomap_eq, nextSt, St.app, itOf, MK.sv, mroundK_n, mroundK_e, mroundK_r, mendK_e, mendK_r, mode, zA, zB, zC, zD, zE, zF, zG, zH, ↓reduceIte, zI, reduceCtorEq, zJ, zK, go_cond]) ?_
  rintro i ⟨k, hi, hk, hR⟩
  have hni : i.toNat = k := by omega
  have hni1 : (i + 1).toNat = k + 1 := by omega
  rcases Nat.lt_or_ge k (xs).length with hlt | hge
  · have hg := get_at (fun n => [D.int n]) hlt
    rw [List.drop_eq_getElem_cons hlt, orL] at hR
    by_cases h0 : xs[k] = 0
    · rw [if_pos h0] at hR
      simp (disch := omega) only [lendN, lend1, SV.isNil, Ob.idsB, SV.idsB, SV.idsBL, List.getElem?_cons_zero, List.getElem?_cons_succ, OT.fullss, OT.fulls, OT.full, entry, toTree, plugA, plugG, plugH, setG, holesBack, holeAt, treeF, scalO, canonO, OT.erss, OT.ers, OT.er, OT.noShss, OT.noShs, OT.noSh, quiet, obB, obBj, locs, meets, memAnc, go_skip, go_exit, go_ret, go_reg, go_dreg, go_seq, go_block, boolP_t, boolP_f, boolP_n, seqk_n, seqk_e, seqk_r, blk_n, blk_e, blk_r, someP_s, drawP_s, regF_nil, regF_cons, regF_gd, drgF_nil, drgF_cons, drgF_gd, regN_s, drgN_s, gdF_t, gdF_ff, gdF_tf, gdF_ft, gdF_u, appF_n, appF_c, calls_eq, late_a, late_f, late_o, late_t, late_l, late_s, late_b, late_i, lateC, keysB, goneIn, seen, callS_nil, callS_cons, callN_z, callN_s, selN_s, callRes_v, callRes, roundK_n, roundK_e, roundK_r, finK_r, finK_n, resF1_s, ordF_s, order, opF, fOp, ret1, ret1o, fBin, fBinI, fBinS, fBinB, fArith, eqK, getX, gets, geto, sets, putS, newOb, updL, extL, lookO, okUB, SV.cellsN, SV.one, fillS, splice, toOTs, toOT, refs1, refsC, fsts, gids, gone1, allSome, bndLo, bndHi, intN, eOp.mkEs, eOp.addS, D.sv, OT.sv, D.ot, memB, nodupB, reach, SV.refs, SV.refsS, SV.ptrs, SV.ptrsS, Ob.refs, Ob.liveB, handRefs, backObs, SV.back, SV.backL, Ob.back, posN, lendL, lendV, lentL, lentV, allLtB, allIdsB, SV.ren, SV.renL, Ob.ren, mkU, sgp, gc, gcObs, names, upTo, canon_z, canon_o, canon_m, canonP, frz1, markR_a, markR_f, markR_s, markR_o, markR_t, markR_l, SC.mark, keepS, keepRefs, slots, resV, rxVs, rxV, anys, noShB, SV.noSh, SV.noShL, Ob.noSh, SV.own, SV.ownL, goneAt, cond_true, cond_false, List.length_cons, List.length_nil, List.map_cons, List.map_nil, List.drop_succ_cons, List.drop_zero, List.drop_nil, List.take_succ_cons, List.take_zero, List.take_nil, List.append_nil, List.nil_append, List.cons_append, List.all_cons, List.all_nil, List.getD_cons_zero, List.getD_cons_succ, List.any_cons, List.any_nil, List.contains_cons, List.contains_nil, List.isEmpty_nil, List.isEmpty_cons, List.flatten_cons, List.flatten_nil, List.replicate_succ, List.replicate_zero, List.set_cons_zero, List.set_cons_succ, Nat.add_zero, Nat.zero_add, Nat.le_refl, Nat.zero_le, Bool.and_true, Bool.true_and, Bool.and_self, Bool.or_false, Bool.false_or, Bool.true_or, Bool.or_true, Bool.not_true, Bool.not_false, Bool.false_and, Bool.and_false, decide_true, decide_false, beq_self_eq_true, if_true, if_false, Option.map_some, Option.map_none, Option.some.injEq, Option.getD_some, Option.getD_none, Int.toNat_natCast, true_and, and_true, and_self, eq_self_iff_true, List.length_map, Bool.false_eq_true, Bool.true_eq_false, Prod.mk.injEq, SV.int.injEq, SV.bool.injEq, SV.str.injEq, SV.agg.injEq, SV.tup.injEq, SV.arr.injEq, List.cons.injEq, St.mk.injEq, Int.zero_add, dec_T, dec_F, dec_i64, dec_t, dec_f, fGet, svK, svD, svDs, svM, MV.sv, mapAt, mput_int, mput_str, nomap_eq, nextSt, St.app, itOf, MK.sv, mroundK_n, mroundK_e, mroundK_r, mendK_e, mendK_r, mode, zA, zB, zC, zD, zE, zF, zG, zH, ↓reduceIte, zI, reduceCtorEq, zJ, zK, go_cond, hni, hg, h0]
      exact ⟨i + 1, ⟨k + 1, by omega, hlt, hR⟩, by omega, by first | trivial | rfl⟩
    · rw [if_neg h0] at hR
      simp (disch := omega) only [lendN, lend1, SV.isNil, Ob.idsB, SV.idsB, SV.idsBL, List.getElem?_cons_zero, List.getElem?_cons_succ, OT.fullss, OT.fulls, OT.full, entry, toTree, plugA, plugG, plugH, setG, holesBack, holeAt, treeF, scalO, canonO, OT.erss, OT.ers, OT.er, OT.noShss, OT.noShs, OT.noSh, quiet, obB, obBj, locs, meets, memAnc, go_skip, go_exit, go_ret, go_reg, go_dreg, go_seq, go_block, boolP_t, boolP_f, boolP_n, seqk_n, seqk_e, seqk_r, blk_n, blk_e, blk_r, someP_s, drawP_s, regF_nil, regF_cons, regF_gd, drgF_nil, drgF_cons, drgF_gd, regN_s, drgN_s, gdF_t, gdF_ff, gdF_tf, gdF_ft, gdF_u, appF_n, appF_c, calls_eq, late_a, late_f, late_o, late_t, late_l, late_s, late_b, late_i, lateC, keysB, goneIn, seen, callS_nil, callS_cons, callN_z, callN_s, selN_s, callRes_v, callRes, roundK_n, roundK_e, roundK_r, finK_r, finK_n, resF1_s, ordF_s, order, opF, fOp, ret1, ret1o, fBin, fBinI, fBinS, fBinB, fArith, eqK, getX, gets, geto, sets, putS, newOb, updL, extL, lookO, okUB, SV.cellsN, SV.one, fillS, splice, toOTs, toOT, refs1, refsC, fsts, gids, gone1, allSome, bndLo, bndHi, intN, eOp.mkEs, eOp.addS, D.sv, OT.sv, D.ot, memB, nodupB, reach, SV.refs, SV.refsS, SV.ptrs, SV.ptrsS, Ob.refs, Ob.liveB, handRefs, backObs, SV.back, SV.backL, Ob.back, posN, lendL, lendV, lentL, lentV, allLtB, allIdsB, SV.ren, SV.renL, Ob.ren, mkU, sgp, gc, gcObs, names, upTo, canon_z, canon_o, canon_m, canonP, frz1, markR_a, markR_f, markR_s, markR_o, markR_t, markR_l, SC.mark, keepS, keepRefs, slots, resV, rxVs, rxV, anys, noShB, SV.noSh, SV.noShL, Ob.noSh, SV.own, SV.ownL, goneAt, cond_true, cond_false, List.length_cons, List.length_nil, List.map_cons, List.map_nil, List.drop_succ_cons, List.drop_zero, List.drop_nil, List.take_succ_cons, List.take_zero, List.take_nil, List.append_nil, List.nil_append, List.cons_append, List.all_cons, List.all_nil, List.getD_cons_zero, List.getD_cons_succ, List.any_cons, List.any_nil, List.contains_cons, List.contains_nil, List.isEmpty_nil, List.isEmpty_cons, List.flatten_cons, List.flatten_nil, List.replicate_succ, List.replicate_zero, List.set_cons_zero, List.set_cons_succ, Nat.add_zero, Nat.zero_add, Nat.le_refl, Nat.zero_le, Bool.and_true, Bool.true_and, Bool.and_self, Bool.or_false, Bool.false_or, Bool.true_or, Bool.or_true, Bool.not_true, Bool.not_false, Bool.false_and, Bool.and_false, decide_true, decide_false, beq_self_eq_true, if_true, if_false, Option.map_some, Option.map_none, Option.some.injEq, Option.getD_some, Option.getD_none, Int.toNat_natCast, true_and, and_true, and_self, eq_self_iff_true, List.length_map, Bool.false_eq_true, Bool.true_eq_false, Prod.mk.injEq, SV.int.injEq, SV.bool.injEq, SV.str.injEq, SV.agg.injEq, SV.tup.injEq, SV.arr.injEq, List.cons.injEq, St.mk.injEq, Int.zero_add, dec_T, dec_F, dec_i64, dec_t, dec_f, fGet, svK, svD, svDs, svM, MV.sv, mapAt, mput_int, mput_str, nomap_eq, nextSt, St.app, itOf, MK.sv, mroundK_n, mroundK_e, mroundK_r, mendK_e, mendK_r, mode, zA, zB, zC, zD, zE, zF, zG, zH, ↓reduceIte, zI, reduceCtorEq, zJ, zK, go_cond, hni, hg, h0]
      exact hR
  · rw [List.drop_eq_nil_of_le hge, orL] at hR
    simp (disch := omega) only [lendN, lend1, SV.isNil, Ob.idsB, SV.idsB, SV.idsBL, List.getElem?_cons_zero, List.getElem?_cons_succ, OT.fullss, OT.fulls, OT.full, entry, toTree, plugA, plugG, plugH, setG, holesBack, holeAt, treeF, scalO, canonO, OT.erss, OT.ers, OT.er, OT.noShss, OT.noShs, OT.noSh, quiet, obB, obBj, locs, meets, memAnc, go_skip, go_exit, go_ret, go_reg, go_dreg, go_seq, go_block, boolP_t, boolP_f, boolP_n, seqk_n, seqk_e, seqk_r, blk_n, blk_e, blk_r, someP_s, drawP_s, regF_nil, regF_cons, regF_gd, drgF_nil, drgF_cons, drgF_gd, regN_s, drgN_s, gdF_t, gdF_ff, gdF_tf, gdF_ft, gdF_u, appF_n, appF_c, calls_eq, late_a, late_f, late_o, late_t, late_l, late_s, late_b, late_i, lateC, keysB, goneIn, seen, callS_nil, callS_cons, callN_z, callN_s, selN_s, callRes_v, callRes, roundK_n, roundK_e, roundK_r, finK_r, finK_n, resF1_s, ordF_s, order, opF, fOp, ret1, ret1o, fBin, fBinI, fBinS, fBinB, fArith, eqK, getX, gets, geto, sets, putS, newOb, updL, extL, lookO, okUB, SV.cellsN, SV.one, fillS, splice, toOTs, toOT, refs1, refsC, fsts, gids, gone1, allSome, bndLo, bndHi, intN, eOp.mkEs, eOp.addS, D.sv, OT.sv, D.ot, memB, nodupB, reach, SV.refs, SV.refsS, SV.ptrs, SV.ptrsS, Ob.refs, Ob.liveB, handRefs, backObs, SV.back, SV.backL, Ob.back, posN, lendL, lendV, lentL, lentV, allLtB, allIdsB, SV.ren, SV.renL, Ob.ren, mkU, sgp, gc, gcObs, names, upTo, canon_z, canon_o, canon_m, canonP, frz1, markR_a, markR_f, markR_s, markR_o, markR_t, markR_l, SC.mark, keepS, keepRefs, slots, resV, rxVs, rxV, anys, noShB, SV.noSh, SV.noShL, Ob.noSh, SV.own, SV.ownL, goneAt, cond_true, cond_false, List.length_cons, List.length_nil, List.map_cons, List.map_nil, List.drop_succ_cons, List.drop_zero, List.drop_nil, List.take_succ_cons, List.take_zero, List.take_nil, List.append_nil, List.nil_append, List.cons_append, List.all_cons, List.all_nil, List.getD_cons_zero, List.getD_cons_succ, List.any_cons, List.any_nil, List.contains_cons, List.contains_nil, List.isEmpty_nil, List.isEmpty_cons, List.flatten_cons, List.flatten_nil, List.replicate_succ, List.replicate_zero, List.set_cons_zero, List.set_cons_succ, Nat.add_zero, Nat.zero_add, Nat.le_refl, Nat.zero_le, Bool.and_true, Bool.true_and, Bool.and_self, Bool.or_false, Bool.false_or, Bool.true_or, Bool.or_true, Bool.not_true, Bool.not_false, Bool.false_and, Bool.and_false, decide_true, decide_false, beq_self_eq_true, if_true, if_false, Option.map_some, Option.map_none, Option.some.injEq, Option.getD_some, Option.getD_none, Int.toNat_natCast, true_and, and_true, and_self, eq_self_iff_true, List.length_map, Bool.false_eq_true, Bool.true_eq_false, Prod.mk.injEq, SV.int.injEq, SV.bool.injEq, SV.str.injEq, SV.agg.injEq, SV.tup.injEq, SV.arr.injEq, List.cons.injEq, St.mk.injEq, Int.zero_add, dec_T, dec_F, dec_i64, dec_t, dec_f, fGet, svK, svD, svDs, svM, MV.sv, mapAt, mput_int, mput_str, nomap_eq, nextSt, St.app, itOf, MK.sv, mroundK_n, mroundK_e, mroundK_r, mendK_e, mendK_r, mode, zA, zB, zC, zD, zE, zF, zG, zH, ↓reduceIte, zI, reduceCtorEq, zJ, zK, go_cond, hni]
    exact hR
theorem or2_E (a b : Int) : E 69 [.arr [[.int a], [.int b]]] [] = some (.int .i64 (orZ a b), []) := by
  have h := or_E [a, b] (by simp)
  have e : orL [a, b] = orZ a b := by
    simp only [orL, orZ]
    split
    · split <;> omega
    · rfl
  rw [e] at h
  exact h
def c_impl_isUpper : SC := (.seq (.reg [⟨some 2, none, .mv (.c (.bool false))⟩]) (.seq (.reg [⟨some 3, none, .mv (.t 0)⟩, ⟨some 4, none, .bin .geq false (.t 3) (.c (.int .u8 65))⟩, ⟨some 5, none, .mv (.t 4)⟩, ⟨(some 6), (some (5, true)), (.mv (.t 0))⟩, ⟨(some 7), (some (5, true)), (.bin .leq false (.t 6) (.c (.int .u8 90)))⟩, ⟨some 8, none, .pick (.t 5) (.t 7) (.c (.bool false))⟩, ⟨some 2, none, .mv (.t 8)⟩]) .ret))
theorem k_impl_isUpper : codeOf Tryz.prog 62 = some ⟨9, c_impl_isUpper, [(.tmp 2)]⟩ := by kernel_rfl
theorem m_impl_isUpper : modes 62 = ⟨[], .asis, none, false⟩ := by unfold modes; rfl
def c_impl_isVar : SC := (.seq (.reg [⟨some 1, none, .boxv 68 2 (.t 0)⟩, ⟨some 2, none, .mv (.c (.bool false))⟩]) (.seq (.reg [⟨some 3, none, .faddr 0 (.t 1)⟩, ⟨some 4, none, .load false 1 (.t 3)⟩, ⟨some 5, none, .idx (.t 4) (.c (.int .i64 0))⟩, ⟨some 6, none, .call 62 [(.t 5)]⟩, ⟨some 2, none, .mv (.t 6)⟩]) .ret))
theorem k_impl_isVar : codeOf Tryz.prog 90 = some ⟨7, c_impl_isVar, [(.tmp 2)]⟩ := by kernel_rfl
theorem m_impl_isVar : modes 90 = ⟨[], .asis, none, false⟩ := by unfold modes; rfl
theorem isUpper_E (n : Int) : E 62 [.int .u8 n] [] = some (.bool (dec (65 ≤ n) && dec (n ≤ 90)), []) := by
  cases h1 : dec (65 ≤ n)
  · refine E_walk k_impl_isUpper m_impl_isUpper (of_decide_eq_true rfl) ?_
    simp (disch := omega) only [c_impl_isUpper, lendN, lend1, SV.isNil, Ob.idsB, SV.idsB, SV.idsBL, List.getElem?_cons_zero, List.getElem?_cons_succ, OT.fullss, OT.fulls, OT.full, entry, toTree, plugA, plugG, plugH, setG, holesBack, holeAt, treeF, scalO, canonO, OT.erss, OT.ers, OT.er, OT.noShss, OT.noShs, OT.noSh, quiet, obB, obBj, locs, meets, memAnc, go_skip, go_exit, go_ret, go_reg, go_dreg, go_seq, go_block, boolP_t, boolP_f, boolP_n, seqk_n, seqk_e, seqk_r, blk_n, blk_e, blk_r, someP_s, drawP_s, regF_nil, regF_cons, regF_gd, drgF_nil, drgF_cons, drgF_gd, regN_s, drgN_s, gdF_t, gdF_ff, gdF_tf, gdF_ft, gdF_u, appF_n, appF_c, calls_eq, late_a, late_f, late_o, late_t, late_l, late_s, late_b, late_i, lateC, keysB, goneIn, seen, callS_nil, callS_cons, callN_z, callN_s, selN_s, callRes_v, callRes, roundK_n, roundK_e, roundK_r, finK_r, finK_n, resF1_s, ordF_s, order, opF, fOp, ret1, ret1o, fBin, fBinI, fBinS, fBinB, fArith, eqK, getX, gets, geto, sets, putS, newOb, updL, extL, lookO, okUB, SV.cellsN, SV.one, fillS, splice, toOTs, toOT, refs1, refsC, fsts, gids, gone1, allSome, bndLo, bndHi, intN, eOp.mkEs, eOp.addS, D.sv, OT.sv, D.ot, memB, nodupB, reach, SV.refs, SV.refsS, SV.ptrs, SV.ptrsS, Ob.refs, Ob.liveB, handRefs, backObs, SV.back, SV.backL, Ob.back, posN, lendL, lendV, lentL, lentV, allLtB, allIdsB, SV.ren, SV.renL, Ob.ren, mkU, sgp, gc, gcObs, names, upTo, canon_z, canon_o, canon_m, canonP, frz1, markR_a, markR_f, markR_s, markR_o, markR_t, markR_l, SC.mark, keepS, keepRefs, slots, resV, rxVs, rxV, anys, noShB, SV.noSh, SV.noShL, Ob.noSh, SV.own, SV.ownL, goneAt, cond_true, cond_false, List.length_cons, List.length_nil, List.map_cons, List.map_nil, List.drop_succ_cons, List.drop_zero, List.drop_nil, List.take_succ_cons, List.take_zero, List.take_nil, List.append_nil, List.nil_append, List.cons_append, List.all_cons, List.all_nil, List.getD_cons_zero, List.getD_cons_succ, List.any_cons, List.any_nil, List.contains_cons, List.contains_nil, List.isEmpty_nil, List.isEmpty_cons, List.flatten_cons, List.flatten_nil, List.replicate_succ, List.replicate_zero, List.set_cons_zero, List.set_cons_succ, Nat.add_zero, Nat.zero_add, Nat.le_refl, Nat.zero_le, Bool.and_true, Bool.true_and, Bool.and_self, Bool.or_false, Bool.false_or, Bool.true_or, Bool.or_true, Bool.not_true, Bool.not_false, Bool.false_and, Bool.and_false, decide_true, decide_false, beq_self_eq_true, if_true, if_false, Option.map_some, Option.map_none, Option.some.injEq, Option.getD_some, Option.getD_none, Int.toNat_natCast, true_and, and_true, and_self, eq_self_iff_true, List.length_map, Bool.false_eq_true, Bool.true_eq_false, Prod.mk.injEq, SV.int.injEq, SV.bool.injEq, SV.str.injEq, SV.agg.injEq, SV.tup.injEq, SV.arr.injEq, List.cons.injEq, St.mk.injEq, Int.zero_add, dec_T, dec_F, dec_i64, dec_t, dec_f, fGet, svK, svD, svDs, svM, MV.sv, mapAt, mput_int, mput_str, nomap_eq, nextSt, St.app, itOf, MK.sv, mroundK_n, mroundK_e, mroundK_r, mendK_e, mendK_r, mode, zA, zB, zC, zD, zE, zF, zG, zH, ↓reduceIte, zI, reduceCtorEq, zJ, zK, go_cond, h1]
  · refine E_walk k_impl_isUpper m_impl_isUpper (of_decide_eq_true rfl) ?_
    simp (disch := omega) only [c_impl_isUpper, lendN, lend1, SV.isNil, Ob.idsB, SV.idsB, SV.idsBL, List.getElem?_cons_zero, List.getElem?_cons_succ, OT.fullss, OT.fulls, OT.full, entry, toTree, plugA, plugG, plugH, setG, holesBack, holeAt, treeF, scalO, canonO, OT.erss, OT.ers, OT.er, OT.noShss, OT.noShs, OT.noSh, quiet, obB, obBj, locs, meets, memAnc, go_skip, go_exit, go_ret, go_reg, go_dreg, go_seq, go_block, boolP_t, boolP_f, boolP_n, seqk_n, seqk_e, seqk_r, blk_n, blk_e, blk_r, someP_s, drawP_s, regF_nil, regF_cons, regF_gd, drgF_nil, drgF_cons, drgF_gd, regN_s, drgN_s, gdF_t, gdF_ff, gdF_tf, gdF_ft, gdF_u, appF_n, appF_c, calls_eq, late_a, late_f, late_o, late_t, late_l, late_s, late_b, late_i, lateC, keysB, goneIn, seen, callS_nil, callS_cons, callN_z, callN_s, selN_s, callRes_v, callRes, roundK_n, roundK_e, roundK_r, finK_r, finK_n, resF1_s, ordF_s, order, opF, fOp, ret1, ret1o, fBin, fBinI, fBinS, fBinB, fArith, eqK, getX, gets, geto, sets, putS, newOb, updL, extL, lookO, okUB, SV.cellsN, SV.one, fillS, splice, toOTs, toOT, refs1, refsC, fsts, gids, gone1, allSome, bndLo, bndHi, intN, eOp.mkEs, eOp.addS, D.sv, OT.sv, D.ot, memB, nodupB, reach, SV.refs, SV.refsS, SV.ptrs, SV.ptrsS, Ob.refs, Ob.liveB, handRefs, backObs, SV.back, SV.backL, Ob.back, posN, lendL, lendV, lentL, lentV, allLtB, allIdsB, SV.ren, SV.renL, Ob.ren, mkU, sgp, gc, gcObs, names, upTo, canon_z, canon_o, canon_m, canonP, frz1, markR_a, markR_f, markR_s, markR_o, markR_t, markR_l, SC.mark, keepS, keepRefs, slots, resV, rxVs, rxV, anys, noShB, SV.noSh, SV.noShL, Ob.noSh, SV.own, SV.ownL, goneAt, cond_true, cond_false, List.length_cons, List.length_nil, List.map_cons, List.map_nil, List.drop_succ_cons, List.drop_zero, List.drop_nil, List.take_succ_cons, List.take_zero, List.take_nil, List.append_nil, List.nil_append, List.cons_append, List.all_cons, List.all_nil, List.getD_cons_zero, List.getD_cons_succ, List.any_cons, List.any_nil, List.contains_cons, List.contains_nil, List.isEmpty_nil, List.isEmpty_cons, List.flatten_cons, List.flatten_nil, List.replicate_succ, List.replicate_zero, List.set_cons_zero, List.set_cons_succ, Nat.add_zero, Nat.zero_add, Nat.le_refl, Nat.zero_le, Bool.and_true, Bool.true_and, Bool.and_self, Bool.or_false, Bool.false_or, Bool.true_or, Bool.or_true, Bool.not_true, Bool.not_false, Bool.false_and, Bool.and_false, decide_true, decide_false, beq_self_eq_true, if_true, if_false, Option.map_some, Option.map_none, Option.some.injEq, Option.getD_some, Option.getD_none, Int.toNat_natCast, true_and, and_true, and_self, eq_self_iff_true, List.length_map, Bool.false_eq_true, Bool.true_eq_false, Prod.mk.injEq, SV.int.injEq, SV.bool.injEq, SV.str.injEq, SV.agg.injEq, SV.tup.injEq, SV.arr.injEq, List.cons.injEq, St.mk.injEq, Int.zero_add, dec_T, dec_F, dec_i64, dec_t, dec_f, fGet, svK, svD, svDs, svM, MV.sv, mapAt, mput_int, mput_str, nomap_eq, nextSt, St.app, itOf, MK.sv, mroundK_n, mroundK_e, mroundK_r, mendK_e, mendK_r, mode, zA, zB, zC, zD, zE, zF, zG, zH, ↓reduceIte, zI, reduceCtorEq, zJ, zK, go_cond, h1]
theorem isVar_E (x : Tm) (h : x.cok = true) : E 90 [x.sv] [] = some (.bool (varB x.name), []) := by
  rw [Tm.cok_eq, Bool.and_eq_true] at h
  obtain ⟨h1, h2⟩ := nameC_upp h.1
  have h3 := isUpper_E (byteAt x.name 0)
  rw [h2] at h3
  refine E_walk k_impl_isVar m_impl_isVar (of_decide_eq_true rfl) ?_
  simp (disch := omega) only [c_impl_isVar, lendN, lend1, SV.isNil, Ob.idsB, SV.idsB, SV.idsBL, List.getElem?_cons_zero, List.getElem?_cons_succ, OT.fullss, OT.fulls, OT.full, entry, toTree, plugA, plugG, plugH, setG, holesBack, holeAt, treeF, scalO, canonO, OT.erss, OT.ers, OT.er, OT.noShss, OT.noShs, OT.noSh, quiet, obB, obBj, locs, meets, memAnc, go_skip, go_exit, go_ret, go_reg, go_dreg, go_seq, go_block, boolP_t, boolP_f, boolP_n, seqk_n, seqk_e, seqk_r, blk_n, blk_e, blk_r, someP_s, drawP_s, regF_nil, regF_cons, regF_gd, drgF_nil, drgF_cons, drgF_gd, regN_s, drgN_s, gdF_t, gdF_ff, gdF_tf, gdF_ft, gdF_u, appF_n, appF_c, calls_eq, late_a, late_f, late_o, late_t, late_l, late_s, late_b, late_i, lateC, keysB, goneIn, seen, callS_nil, callS_cons, callN_z, callN_s, selN_s, callRes_v, callRes, roundK_n, roundK_e, roundK_r, finK_r, finK_n, resF1_s, ordF_s, order, opF, fOp, ret1, ret1o, fBin, fBinI, fBinS, fBinB, fArith, eqK, getX, gets, geto, sets, putS, newOb, updL, extL, lookO, okUB, SV.cellsN, SV.one, fillS, splice, toOTs, toOT, refs1, refsC, fsts, gids, gone1, allSome, bndLo, bndHi, intN, eOp.mkEs, eOp.addS, D.sv, OT.sv, D.ot, memB, nodupB, reach, SV.refs, SV.refsS, SV.ptrs, SV.ptrsS, Ob.refs, Ob.liveB, handRefs, backObs, SV.back, SV.backL, Ob.back, posN, lendL, lendV, lentL, lentV, allLtB, allIdsB, SV.ren, SV.renL, Ob.ren, mkU, sgp, gc, gcObs, names, upTo, canon_z, canon_o, canon_m, canonP, frz1, markR_a, markR_f, markR_s, markR_o, markR_t, markR_l, SC.mark, keepS, keepRefs, slots, resV, rxVs, rxV, anys, noShB, SV.noSh, SV.noShL, Ob.noSh, SV.own, SV.ownL, goneAt, cond_true, cond_false, List.length_cons, List.length_nil, List.map_cons, List.map_nil, List.drop_succ_cons, List.drop_zero, List.drop_nil, List.take_succ_cons, List.take_zero, List.take_nil, List.append_nil, List.nil_append, List.cons_append, List.all_cons, List.all_nil, List.getD_cons_zero, List.getD_cons_succ, List.any_cons, List.any_nil, List.contains_cons, List.contains_nil, List.isEmpty_nil, List.isEmpty_cons, List.flatten_cons, List.flatten_nil, List.replicate_succ, List.replicate_zero, List.set_cons_zero, List.set_cons_succ, Nat.add_zero, Nat.zero_add, Nat.le_refl, Nat.zero_le, Bool.and_true, Bool.true_and, Bool.and_self, Bool.or_false, Bool.false_or, Bool.true_or, Bool.or_true, Bool.not_true, Bool.not_false, Bool.false_and, Bool.and_false, decide_true, decide_false, beq_self_eq_true, if_true, if_false, Option.map_some, Option.map_none, Option.some.injEq, Option.getD_some, Option.getD_none, Int.toNat_natCast, true_and, and_true, and_self, eq_self_iff_true, List.length_map, Bool.false_eq_true, Bool.true_eq_false, Prod.mk.injEq, SV.int.injEq, SV.bool.injEq, SV.str.injEq, SV.agg.injEq, SV.tup.injEq, SV.arr.injEq, List.cons.injEq, St.mk.injEq, Int.zero_add, dec_T, dec_F, dec_i64, dec_t, dec_f, fGet, svK, svD, svDs, svM, MV.sv, mapAt, mput_int, mput_str, nomap_eq, nextSt, St.app, itOf, MK.sv, mroundK_n, mroundK_e, mroundK_r, mendK_e, mendK_r, mode, zA, zB, zC, zD, zE, zF, zG, zH, ↓reduceIte, zI, reduceCtorEq, zJ, zK, go_cond, h3, m_impl_isUpper]
def c_slices_CompareFunc_impl_Term_impl_Term_impl_Term_impl_Term : SC := (.seq (.reg [⟨some 6, none, .mv (.c (.int .i64 0))⟩]) (.seq (.seq (.reg [⟨some 11, none, .mv (.t 0)⟩, ⟨some 12, none, .len false (.t 11)⟩, ⟨some 13, none, .mv (.c (.int .i64 0))⟩]) (.block 0 (.loop [1, 1, 1, 0, 0, 0, 0, 0, 0, 0, 0, 1, 1, 1, 0, 0, 0, 0, 0, 0, 0, 0, 0, 0, 0, 0, 0, 0, 0, 0, 0, 0, 0, 0, 0, 0, 0, 0, 0] (.seq (.reg [⟨some 14, none, .bin .lss false (.t 13) (.t 12)⟩]) (.seq (.cond (.t 14) .skip (.exit 0)) (.seq (.block 1 (.seq (.reg [⟨some 15, none, .mv (.t 13)⟩, ⟨some 16, none, .iaddr 2 (.t 11) (.t 13)⟩, ⟨some 17, none, .load true 2 (.t 16)⟩, ⟨(some 8), none, (.alloc 68 [(.str ⟨#[]⟩), .nil])⟩, ⟨some 7, none, .mv (.t 15)⟩, ⟨none, none, (.store 2 (.t 8) (.t 17))⟩]) (.seq (.seq (.reg [⟨some 18, none, .mv (.t 7)⟩, ⟨some 19, none, .mv (.t 1)⟩, ⟨some 20, none, .len false (.t 19)⟩, ⟨some 21, none, .bin .geq false (.t 18) (.t 20)⟩]) (.cond (.t 21) (.seq (.reg [⟨some 6, none, .mv (.c (.int .i64 1))⟩]) .ret) .skip)) (.seq (.reg [⟨some 22, none, .mv (.t 1)⟩, ⟨some 23, none, .mv (.t 7)⟩, ⟨some 24, none, .iaddr 2 (.t 22) (.t 23)⟩, ⟨some 25, none, .load true 2 (.t 24)⟩, ⟨(some 9), none, (.alloc 68 [(.str ⟨#[]⟩), .nil])⟩, ⟨none, none, (.store 2 (.t 9) (.t 25))⟩]) (.seq (.reg [⟨some 26, none, .mv (.t 2)⟩, ⟨some 27, none, .load true 2 (.t 8)⟩, ⟨some 28, none, .load true 2 (.t 9)⟩, ⟨some 29, none, .callv (.t 26) [(.t 27), (.t 28)]⟩, ⟨some 10, none, .mv (.t 29)⟩]) (.seq (.reg [⟨some 30, none, .mv (.t 10)⟩, ⟨some 31, none, .bin .neq false (.t 30) (.c (.int .i64 0))⟩]) (.cond (.t 31) (.seq (.reg [⟨some 32, none, .mv (.t 10)⟩, ⟨some 6, none, .mv (.t 32)⟩]) .ret) .skip))))))) (.reg [⟨some 33, none, .bin .add false (.t 13) (.c (.int .i64 1))⟩, ⟨some 13, none, .mv (.t 33)⟩]))))))) (.seq (.seq (.reg [⟨some 34, none, .mv (.t 0)⟩, ⟨some 35, none, .len false (.t 34)⟩, ⟨some 36, none, .mv (.t 1)⟩, ⟨some 37, none, .len false (.t 36)⟩, ⟨some 38, none, .bin .lss false (.t 35) (.t 37)⟩]) (.cond (.t 38) (.seq (.reg [⟨some 6, none, .mv (.c (.int .i64 (-(0 + 1))))⟩]) .ret) .skip)) (.seq (.reg [⟨some 6, none, .mv (.c (.int .i64 0))⟩]) .ret))))
theorem k_slices_CompareFunc_impl_Term_impl_Term_impl_Term_impl_Term : codeOf Tryz.prog 92 = some ⟨39, c_slices_CompareFunc_impl_Term_impl_Term_impl_Term_impl_Term, [(.tmp 6)]⟩ := by kernel_rfl
theorem m_slices_CompareFunc_impl_Term_impl_Term_impl_Term_impl_Term : modes 92 = ⟨[], .asis, none, false⟩ := by unfold modes; rfl
def c_impl_compareTerms : SC := (.seq (.reg [⟨some 2, none, .boxv 68 2 (.t 0)⟩, ⟨some 3, none, .boxv 68 2 (.t 1)⟩, ⟨some 4, none, .mv (.c (.int .i64 0))⟩]) (.seq (.dreg [[], [0], [], [2, 1, 0], [1, 0, 3, 2], [3, 2, 1, 0, 4]] [⟨some 8, none, .load true 2 (.t 2)⟩, ⟨some 9, none, .call 90 [(.t 8)]⟩, ⟨some 10, none, .load true 2 (.t 3)⟩, ⟨some 11, none, .call 90 [(.t 10)]⟩, ⟨some 5, none, .mv (.t 9)⟩, ⟨some 6, none, .mv (.t 11)⟩]) (.seq (.block 0 (.seq (.reg [⟨some 13, none, .mv (.t 5)⟩, ⟨some 14, none, .mv (.t 13)⟩, ⟨(some 15), (some (14, true)), (.mv (.t 6))⟩, ⟨(some 16), (some (14, true)), (.un .not (.t 15))⟩, ⟨some 17, none, .pick (.t 14) (.t 16) (.c (.bool false))⟩, ⟨some 12, none, .mv (.t 17)⟩]) (.cond (.t 12) (.seq (.reg [⟨some 4, none, .mv (.c (.int .i64 (-(0 + 1))))⟩]) .ret) (.seq (.reg [⟨some 19, none, .mv (.t 6)⟩, ⟨some 20, none, .mv (.t 19)⟩, ⟨(some 21), (some (20, true)), (.mv (.t 5))⟩, ⟨(some 22), (some (20, true)), (.un .not (.t 21))⟩, ⟨some 23, none, .pick (.t 20) (.t 22) (.c (.bool false))⟩, ⟨some 18, none, .mv (.t 23)⟩]) (.cond (.t 18) (.seq (.reg [⟨some 4, none, .mv (.c (.int .i64 1))⟩]) .ret) .skip))))) (.seq (.seq (.dreg [[], [0], [], [2], [1, 0, 3, 2], [], [5], [6, 5], [], [8], [9, 8], [7, 6, 5, 10, 9, 8, 4, 1, 0, 3, 2], [4, 1, 0, 3, 2, 11, 7, 6, 5, 10, 9, 8], [12, 4, 1, 0, 3, 2, 11, 7, 6, 5, 10, 9, 8], [13, 12, 4, 1, 0, 3, 2, 11, 7, 6, 5, 10, 9, 8]] [⟨some 24, none, .faddr 0 (.t 2)⟩, ⟨some 25, none, .load false 1 (.t 24)⟩, ⟨some 26, none, .faddr 0 (.t 3)⟩, ⟨some 27, none, .load false 1 (.t 26)⟩, ⟨some 28, none, .call 91 [(.t 25), (.t 27)]⟩, ⟨some 29, none, .faddr 1 (.t 2)⟩, ⟨some 30, none, .load false 1 (.t 29)⟩, ⟨some 31, none, .len false (.t 30)⟩, ⟨some 32, none, .faddr 1 (.t 3)⟩, ⟨some 33, none, .load false 1 (.t 32)⟩, ⟨some 34, none, .len false (.t 33)⟩, ⟨some 35, none, .call 71 [(.t 31), (.t 34)]⟩, ⟨some 36, none, .mkrow 3 1 [(.int .i64 0)] 2 [(0, (.t 28)), (1, (.t 35))]⟩, ⟨some 37, none, .call 69 [(.t 36)]⟩, ⟨some 7, none, .mv (.t 37)⟩]) (.seq (.reg [⟨some 38, none, .mv (.t 7)⟩, ⟨some 39, none, .bin .neq false (.t 38) (.c (.int .i64 0))⟩]) (.cond (.t 39) (.seq (.reg [⟨some 40, none, .mv (.t 7)⟩, ⟨some 4, none, .mv (.t 40)⟩]) .ret) .skip))) (.seq (.reg [⟨some 41, none, .faddr 1 (.t 2)⟩, ⟨some 42, none, .load false 1 (.t 41)⟩, ⟨some 43, none, .faddr 1 (.t 3)⟩, ⟨some 44, none, .load false 1 (.t 43)⟩, ⟨some 45, none, .call 92 [(.t 42), (.t 44), (.c (.fn 70 []))]⟩, ⟨some 4, none, .mv (.t 45)⟩]) .ret)))))
theorem k_impl_compareTerms : codeOf Tryz.prog 70 = some ⟨46, c_impl_compareTerms, [(.tmp 4)]⟩ := by kernel_rfl
theorem m_impl_compareTerms : modes 70 = ⟨[], .asis, none, false⟩ := by unfold modes; rfl
theorem g_impl_compareTerms : goFn Tryz.prog 70 = true := by kernel_rfl
set_option maxHeartbeats 1000000 in
theorem compareFunc_E (fid : Nat) (xs ys : List Tm) (hl : xs.length ≤ 1099511627776) (hl' : ys.length ≤ 1099511627776) (hg : goFn Tryz.prog fid = true) (hm : (modes fid).hand = []) (hE : ∀ x ∈ xs, ∀ y ∈ ys, E fid [x.sv, y.sv] [] = some (.int .i64 (x.cmp y), [])) : E 92 [.arr (xs.map Tm.d), .arr (ys.map Tm.d), .fn fid []] [] = some (.int .i64 (Tm.cmpL xs ys), []) := by
  refine E_walk k_slices_CompareFunc_impl_Term_impl_Term_impl_Term_impl_Term m_slices_CompareFunc_impl_Term_impl_Term_impl_Term_impl_Term (of_decide_eq_true rfl) ?_
  simp (disch := omega) only [c_slices_CompareFunc_impl_Term_impl_Term_impl_Term_impl_Term, lendN, lend1, SV.isNil, Ob.idsB, SV.idsB, SV.idsBL, List.getElem?_cons_zero, List.getElem?_cons_succ, OT.fullss, OT.fulls, OT.full, entry, toTree, plugA, plugG, plugH, setG, holesBack, holeAt, treeF, scalO, canonO, OT.erss, OT.ers, OT.er, OT.noShss, OT.noShs, OT.noSh, quiet, obB, obBj, locs, meets, memAnc, go_skip, go_exit, go_ret, go_reg, go_dreg, go_seq, go_block, boolP_t, boolP_f, boolP_n, seqk_n, seqk_e, seqk_r, blk_n, blk_e, blk_r, someP_s, drawP_s, regF_nil, regF_cons, regF_gd, drgF_nil, drgF_cons, drgF_gd, regN_s, drgN_s, gdF_t, gdF_ff, gdF_tf, gdF_ft, gdF_u, appF_n, appF_c, calls_eq, late_a, late_f, late_o, late_t, late_l, late_s, late_b, late_i, lateC, keysB, goneIn, seen, callS_nil, callS_cons, callN_z, callN_s, selN_s, callRes_v, callRes, roundK_n, roundK_e, roundK_r, finK_r, finK_n, resF1_s, ordF_s, order, opF, fOp, ret1, ret1o, fBin, fBinI, fBinS, fBinB, fArith, eqK, getX, gets, geto, sets, putS, newOb, updL, extL, lookO, okUB, SV.cellsN, SV.one, fillS, splice, toOTs, toOT, refs1, refsC, fsts, gids, gone1, allSome, bndLo, bndHi, intN, eOp.mkEs, eOp.addS, D.sv, OT.sv, D.ot, memB, nodupB, reach, SV.refs, SV.refsS, SV.ptrs, SV.ptrsS, Ob.refs, Ob.liveB, handRefs, backObs, SV.back, SV.backL, Ob.back, posN, lendL, lendV, lentL, lentV, allLtB, allIdsB, SV.ren, SV.renL, Ob.ren, mkU, sgp, gc, gcObs, names, upTo, canon_z, canon_o, canon_m, canonP, frz1, markR_a, markR_f, markR_s, markR_o, markR_t, markR_l, SC.mark, keepS, keepRefs, slots, resV, rxVs, rxV, anys, noShB, SV.noSh, SV.noShL, Ob.noSh, SV.own, SV.ownL, goneAt, cond_true, cond_false, List.length_cons, List.length_nil, List.map_cons, List.map_nil, List.drop_succ_cons, List.drop_zero, List.drop_nil, List.take_succ_cons, List.take_zero, List.take_nil, List.append_nil, List.nil_append, List.cons_append, List.all_cons, List.all_nil, List.getD_cons_zero, List.getD_cons_succ, List.any_cons, List.any_nil, List.contains_cons, List.contains_nil, List.isEmpty_nil, List.isEmpty_cons, List.flatten_cons, List.flatten_nil, List.replicate_succ, List.replicate_zero, List.set_cons_zero, List.set_cons_succ, Nat.add_zero, Nat.zero_add, Nat.le_refl, Nat.zero_le, Bool.and_true, Bool.true_and, Bool.and_self, Bool.or_false, Bool.false_or, Bool.true_or, Bool.or_true, Bool.not_true, Bool.not_false, Bool.false_and, Bool.and_false, decide_true, decide_false, beq_self_eq_true, if_true, if_false, Option.map_some, Option.map_none, Option.some.injEq, Option.getD_some, Option.getD_none, Int.toNat_natCast, true_and, and_true, and_self, eq_self_iff_true, List.length_map, Bool.false_eq_true, Bool.true_eq_false, Prod.mk.injEq, SV.int.injEq, SV.bool.injEq, SV.str.injEq, SV.agg.injEq, SV.tup.injEq, SV.arr.injEq, List.cons.injEq, St.mk.injEq, Int.zero_add, dec_T, dec_F, dec_i64, dec_t, dec_f, fGet, svK, svD, svDs, svM, MV.sv, mapAt, mput_int, mput_str, nomap_eq, nextSt, St.app, itOf, MK.sv, mroundK_n, mroundK_e, mroundK_r, mendK_e, mendK_r, mode, zA, zB, zC, zD, zE, zF, zG, zH, ↓reduceIte, zI, reduceCtorEq, zJ, zK, go_cond]
  refine go_loop (α := Int) (fun a => ⟨slots 39 0 [(0, .arr (xs.map Tm.d)), (1, .arr (ys.map Tm.d)), (2, .fn fid []), (11, .arr (xs.map Tm.d)), (12, .int .i64 xs.length), (13, .int .i64 a)], []⟩) (fun a => ∃ k : Nat, a = k ∧ k ≤ (xs).length ∧ k ≤ ys.length ∧ Tm.cmpL (xs.drop k) (ys.drop k) = Tm.cmpL xs ys) (fun a => (xs).length - (a).toNat) 0 ⟨0, rfl, Nat.zero_le _, Nat.zero_le _, by rw [List.drop_zero, List.drop_zero]⟩ (by simp (disch := omega) only [lendN, lend1, SV.isNil, Ob.idsB, SV.idsB, SV.idsBL, List.getElem?_cons_zero, List.getElem?_cons_succ, OT.fullss, OT.fulls, OT.full, entry, toTree, plugA, plugG, plugH, setG, holesBack, holeAt, treeF, scalO, canonO, OT.erss, OT.ers, OT.er, OT.noShss, OT.noShs, OT.noSh, quiet, obB, obBj, locs, meets, memAnc, go_skip, go_exit, go_ret, go_reg, go_dreg, go_seq, go_block, boolP_t, boolP_f, boolP_n, seqk_n, seqk_e, seqk_r, blk_n, blk_e, blk_r, someP_s, drawP_s, regF_nil, regF_cons, regF_gd, drgF_nil, drgF_cons, drgF_gd, regN_s, drgN_s, gdF_t, gdF_ff, gdF_tf, gdF_ft, gdF_u, appF_n, appF_c, calls_eq, late_a, late_f, late_o, late_t, late_l, late_s, late_b, late_i, lateC, keysB, goneIn, seen, callS_nil, callS_cons, callN_z, callN_s, selN_s, callRes_v, callRes, roundK_n, roundK_e, roundK_r, finK_r, finK_n, resF1_s, ordF_s, order, opF, fOp, ret1, ret1o, fBin, fBinI, fBinS, fBinB, fArith, eqK, getX, gets, geto, sets, putS, newOb, updL, extL, lookO, okUB, SV.cellsN, SV.one, fillS, splice, toOTs, toOT, refs1, refsC, fsts, gids, gone1, allSome, bndLo, bndHi, intN, eOp.mkEs, eOp.addS, D.sv, OT.sv, D.ot, memB, nodupB, reach, SV.refs, SV.refsS, SV.ptrs, SV.ptrsS, Ob.refs, Ob.liveB, handRefs, backObs, SV.back, SV.backL, Ob.back, posN, lendL, lendV, lentL, lentV, allLtB, allIdsB, SV.ren, SV.renL, Ob.ren, mkU, sgp, gc, gcObs, names, upTo, canon_z, canon_o, canon_m, canonP, frz1, markR_a, markR_f, markR_s, markR_o, markR_t, markR_l, SC.mark, keepS, keepRefs, slots, resV, rxVs, rxV, anys, noShB, SV.noSh, SV.noShL, Ob.noSh, SV.own, SV.ownL, goneAt, cond_true, cond_false, List.length_cons, List.length_nil, List.map_cons, List.map_nil, List.drop_succ_cons, List.drop_zero, List.drop_nil, List.take_succ_cons, List.take_zero, List.take_nil, List.append_nil, List.nil_append, List.cons_append, List.all_cons, List.all_nil, List.getD_cons_zero, List.getD_cons_succ, List.any_cons, List.any_nil, List.contains_cons, List.contains_nil, List.isEmpty_nil, List.isEmpty_cons, List.flatten_cons, List.flatten_nil, List.replicate_succ, List.replicate_zero, List.set_cons_zero, List.set_cons_succ, Nat.add_zero, Nat.zero_add, Nat.le_refl, Nat.zero_le, Bool.and_true, Bool.true_and, Bool.and_self, Bool.or_false, Bool.false_or, Bool.true_or, Bool.or_true, Bool.not_true, Bool.not_false, Bool.false_and, Bool.and_false, decide_true, decide_false, beq_self_eq_true, if_true, if_false, Option.map_some, Option.map_none, Option.some.injEq, Option.getD_some, Option.getD_none, Int.toNat_natCast, true_and, and_true, and_self, eq_self_iff_true, List.length_map, Bool.false_eq_true, Bool.true_eq_false, Prod.mk.injEq, SV.int.injEq, SV.bool.injEq, SV.str.injEq, SV.agg.injEq, SV.tup.injEq, SV.arr.injEq, List.cons.injEq, St.mk.injEq, Int.zero_add, dec_T, dec_F, dec_i64, dec_t, dec_f, fGet, svK, svD, svDs, svM, MV.sv, mapAt, mput_int, mput_str, nomap_eq, nextSt, St.app, itOf, MK.sv, mroundK_n, mroundK_e, mroundK_r, mendK_e, mendK_r, mode, zA, zB, zC, zD, zE, zF, zG, zH, ↓reduceIte, zI, reduceCtorEq, zJ, zK, go_cond]) ?_
  rintro i ⟨k, hi, hk, hR⟩
  have hni : i.toNat = k := by omega
  have hni1 : (i + 1).toNat = k + 1 := by omega
  rcases Nat.lt_or_ge k (xs).length with hlt | hge
  · obtain ⟨hk', hR⟩ := hR
    have hgx := get_at Tm.d hlt
    rw [Tm.d_eq] at hgx
    rcases Nat.lt_or_ge k ys.length with hlt' | hge'
    · have hgy := get_at Tm.d hlt'
      rw [Tm.d_eq] at hgy
      have hc := hE xs[k] (List.getElem_mem hlt) ys[k] (List.getElem_mem hlt')
      rw [cmpL_drop hlt hlt'] at hR
      by_cases h0 : xs[k].cmp ys[k] = 0
      · rw [orZ, if_pos h0] at hR
        rw [h0] at hc
        simp (disch := omega) only [lendN, lend1, SV.isNil, Ob.idsB, SV.idsB, SV.idsBL, List.getElem?_cons_zero, List.getElem?_cons_succ, OT.fullss, OT.fulls, OT.full, entry, toTree, plugA, plugG, plugH, setG, holesBack, holeAt, treeF, scalO, canonO, OT.erss, OT.ers, OT.er, OT.noShss, OT.noShs, OT.noSh, quiet, obB, obBj, locs, meets, memAnc, go_skip, go_exit, go_ret, go_reg, go_dreg, go_seq, go_block, boolP_t, boolP_f, boolP_n, seqk_n, seqk_e, seqk_r, blk_n, blk_e, blk_r, someP_s, drawP_s, regF_nil, regF_cons, regF_gd, drgF_nil, drgF_cons, drgF_gd, regN_s, drgN_s, gdF_t, gdF_ff, gdF_tf, gdF_ft, gdF_u, appF_n, appF_c, calls_eq, late_a, late_f, late_o, late_t, late_l, late_s, late_b, late_i, lateC, keysB, goneIn, seen, callS_nil, callS_cons, callN_z, callN_s, selN_s, callRes_v, callRes, roundK_n, roundK_e, roundK_r, finK_r, finK_n, resF1_s, ordF_s, order, opF, fOp, ret1, ret1o, fBin, fBinI, fBinS, fBinB, fArith, eqK, getX, gets, geto, sets, putS, newOb, updL, extL, lookO, okUB, SV.cellsN, SV.one, fillS, splice, toOTs, toOT, refs1, refsC, fsts, gids, gone1, allSome, bndLo, bndHi, intN, eOp.mkEs, eOp.addS, D.sv, OT.sv, D.ot, memB, nodupB, reach, SV.refs, SV.refsS, SV.ptrs, SV.ptrsS, Ob.refs, Ob.liveB, handRefs, backObs, SV.back, SV.backL, Ob.back, posN, lendL, lendV, lentL, lentV, allLtB, allIdsB, SV.ren, SV.renL, Ob.ren, mkU, sgp, gc, gcObs, names, upTo, canon_z, canon_o, canon_m, canonP, frz1, markR_a, markR_f, markR_s, markR_o, markR_t, markR_l, SC.mark, keepS, keepRefs, slots, resV, rxVs, rxV, anys, noShB, SV.noSh, SV.noShL, Ob.noSh, SV.own, SV.ownL, goneAt, cond_true, cond_false, List.length_cons, List.length_nil, List.map_cons, List.map_nil, List.drop_succ_cons, List.drop_zero, List.drop_nil, List.take_succ_cons, List.take_zero, List.take_nil, List.append_nil, List.nil_append, List.cons_append, List.all_cons, List.all_nil, List.getD_cons_zero, List.getD_cons_succ, List.any_cons, List.any_nil, List.contains_cons, List.contains_nil, List.isEmpty_nil, List.isEmpty_cons, List.flatten_cons, List.flatten_nil, List.replicate_succ, List.replicate_zero, List.set_cons_zero, List.set_cons_succ, Nat.add_zero, Nat.zero_add, Nat.le_refl, Nat.zero_le, Bool.and_true, Bool.true_and, Bool.and_self, Bool.or_false, Bool.false_or, Bool.true_or, Bool.or_true, Bool.not_true, Bool.not_false, Bool.false_and, Bool.and_false, decide_true, decide_false, beq_self_eq_true, if_true, if_false, Option.map_some, Option.map_none, Option.some.injEq, Option.getD_some, Option.getD_none, Int.toNat_natCast, true_and, and_true, and_self, eq_self_iff_true, List.length_map, Bool.false_eq_true, Bool.true_eq_false, Prod.mk.injEq, SV.int.injEq, SV.bool.injEq, SV.str.injEq, SV.agg.injEq, SV.tup.injEq, SV.arr.injEq, List.cons.injEq, St.mk.injEq, Int.zero_add, dec_T, dec_F, dec_i64, dec_t, dec_f, fGet, svK, svD, svDs, svM, MV.sv, mapAt, mput_int, mput_str, nomap_eq, nextSt, St.app, itOf, MK.sv, mroundK_n, mroundK_e, mroundK_r, mendK_e, mendK_r, mode, zA, zB, zC, zD, zE, zF, zG, zH, ↓reduceIte, zI, reduceCtorEq, zJ, zK, go_cond, hni, hgx, hgy, hc, hg, hm]
        exact ⟨i + 1, ⟨k + 1, by omega, hlt, hlt', hR⟩, by omega, by first | trivial | rfl⟩
      · rw [orZ, if_neg h0] at hR
        simp (disch := omega) only [lendN, lend1, SV.isNil, Ob.idsB, SV.idsB, SV.idsBL, List.getElem?_cons_zero, List.getElem?_cons_succ, OT.fullss, OT.fulls, OT.full, entry, toTree, plugA, plugG, plugH, setG, holesBack, holeAt, treeF, scalO, canonO, OT.erss, OT.ers, OT.er, OT.noShss, OT.noShs, OT.noSh, quiet, obB, obBj, locs, meets, memAnc, go_skip, go_exit, go_ret, go_reg, go_dreg, go_seq, go_block, boolP_t, boolP_f, boolP_n, seqk_n, seqk_e, seqk_r, blk_n, blk_e, blk_r, someP_s, drawP_s, regF_nil, regF_cons, regF_gd, drgF_nil, drgF_cons, drgF_gd, regN_s, drgN_s, gdF_t, gdF_ff, gdF_tf, gdF_ft, gdF_u, appF_n, appF_c, calls_eq, late_a, late_f, late_o, late_t, late_l, late_s, late_b, late_i, lateC, keysB, goneIn, seen, callS_nil, callS_cons, callN_z, callN_s, selN_s, callRes_v, callRes, roundK_n, roundK_e, roundK_r, finK_r, finK_n, resF1_s, ordF_s, order, opF, fOp, ret1, ret1o, fBin, fBinI, fBinS, fBinB, fArith, eqK, getX, gets, geto, sets, putS, newOb, updL, extL, lookO, okUB, SV.cellsN, SV.one, fillS, splice, toOTs, toOT, refs1, refsC, fsts, gids, gone1, allSome, bndLo, bndHi, intN, eOp.mkEs, eOp.addS, D.sv, OT.sv, D.ot, memB, nodupB, reach, SV.refs, SV.refsS, SV.ptrs, SV.ptrsS, Ob.refs, Ob.liveB, handRefs, backObs, SV.back, SV.backL, Ob.back, posN, lendL, lendV, lentL, lentV, allLtB, allIdsB, SV.ren, SV.renL, Ob.ren, mkU, sgp, gc, gcObs, names, upTo, canon_z, canon_o, canon_m, canonP, frz1, markR_a, markR_f, markR_s, markR_o, markR_t, markR_l, SC.mark, keepS, keepRefs, slots, resV, rxVs, rxV, anys, noShB, SV.noSh, SV.noShL, Ob.noSh, SV.own, SV.ownL, goneAt, cond_true, cond_false, List.length_cons, List.length_nil, List.map_cons, List.map_nil, List.drop_succ_cons, List.drop_zero, List.drop_nil, List.take_succ_cons, List.take_zero, List.take_nil, List.append_nil, List.nil_append, List.cons_append, List.all_cons, List.all_nil, List.getD_cons_zero, List.getD_cons_succ, List.any_cons, List.any_nil, List.contains_cons, List.contains_nil, List.isEmpty_nil, List.isEmpty_cons, List.flatten_cons, List.flatten_nil, List.replicate_succ, List.replicate_zero, List.set_cons_zero, List.set_cons_succ, Nat.add_zero, Nat.zero_add, Nat.le_refl, Nat.zero_le, Bool.and_true, Bool.true_and, Bool.and_self, Bool.or_false, Bool.false_or, Bool.true_or, Bool.or_true, Bool.not_true, Bool.not_false, Bool.false_and, Bool.and_false, decide_true, decide_false, beq_self_eq_true, if_true, if_false, Option.map_some, Option.map_none, Option.some.injEq, Option.getD_some, Option.getD_none, Int.toNat_natCast, true_and, and_true, and_self, eq_self_iff_true, List.length_map, Bool.false_eq_true, Bool.true_eq_false, Prod.mk.injEq, SV.int.injEq, SV.bool.injEq, SV.str.injEq, SV.agg.injEq, SV.tup.injEq, SV.arr.injEq, List.cons.injEq, St.mk.injEq, Int.zero_add, dec_T, dec_F, dec_i64, dec_t, dec_f, fGet, svK, svD, svDs, svM, MV.sv, mapAt, mput_int, mput_str, nomap_eq, nextSt, St.app, itOf, MK.sv, mroundK_n, mroundK_e, mroundK_r, mendK_e, mendK_r, mode, zA, zB, zC, zD, zE, zF, zG, zH, ↓reduceIte, zI, reduceCtorEq, zJ, zK, go_cond, hni, hgx, hgy, hc, hg, hm, h0]
        exact hR
    · rw [cmpL_short hlt hge'] at hR
      simp (disch := omega) only [lendN, lend1, SV.isNil, Ob.idsB, SV.idsB, SV.idsBL, List.getElem?_cons_zero, List.getElem?_cons_succ, OT.fullss, OT.fulls, OT.full, entry, toTree, plugA, plugG, plugH, setG, holesBack, holeAt, treeF, scalO, canonO, OT.erss, OT.ers, OT.er, OT.noShss, OT.noShs, OT.noSh, quiet, obB, obBj, locs, meets, memAnc, go_skip, go_exit, go_ret, go_reg, go_dreg, go_seq, go_block, boolP_t, boolP_f, boolP_n, seqk_n, seqk_e, seqk_r, blk_n, blk_e, blk_r, someP_s, drawP_s, regF_nil, regF_cons, regF_gd, drgF_nil, drgF_cons, drgF_gd, regN_s, drgN_s, gdF_t, gdF_ff, gdF_tf, gdF_ft, gdF_u, appF_n, appF_c, calls_eq, late_a, late_f, late_o, late_t, late_l, late_s, late_b, late_i, lateC, keysB, goneIn, seen, callS_nil, callS_cons, callN_z, callN_s, selN_s, callRes_v, callRes, roundK_n, roundK_e, roundK_r, finK_r, finK_n, resF1_s, ordF_s, order, opF, fOp, ret1, ret1o, fBin, fBinI, fBinS, fBinB, fArith, eqK, getX, gets, geto, sets, putS, newOb, updL, extL, lookO, okUB, SV.cellsN, SV.one, fillS, splice, toOTs, toOT, refs1, refsC, fsts, gids, gone1, allSome, bndLo, bndHi, intN, eOp.mkEs, eOp.addS, D.sv, OT.sv, D.ot, memB, nodupB, reach, SV.refs, SV.refsS, SV.ptrs, SV.ptrsS, Ob.refs, Ob.liveB, handRefs, backObs, SV.back, SV.backL, Ob.back, posN, lendL, lendV, lentL, lentV, allLtB, allIdsB, SV.ren, SV.renL, Ob.ren, mkU, sgp, gc, gcObs, names, upTo, canon_z, canon_o, canon_m, canonP, frz1, markR_a, markR_f, markR_s, markR_o, markR_t, markR_l, SC.mark, keepS, keepRefs, slots, resV, rxVs, rxV, anys, noShB, SV.noSh, SV.noShL, Ob.noSh, SV.own, SV.ownL, goneAt, cond_true, cond_false, List.length_cons, List.length_nil, List.map_cons, List.map_nil, List.drop_succ_cons, List.drop_zero, List.drop_nil, List.take_succ_cons, List.take_zero, List.take_nil, List.append_nil, List.nil_append, List.cons_append, List.all_cons, List.all_nil, List.getD_cons_zero, List.getD_cons_succ, List.any_cons, List.any_nil, List.contains_cons, List.contains_nil, List.isEmpty_nil, List.isEmpty_cons, List.flatten_cons, List.flatten_nil, List.replicate_succ, List.replicate_zero, List.set_cons_zero, List.set_cons_succ, Nat.add_zero, Nat.zero_add, Nat.le_refl, Nat.zero_le, Bool.and_true, Bool.true_and, Bool.and_self, Bool.or_false, Bool.false_or, Bool.true_or, Bool.or_true, Bool.not_true, Bool.not_false, Bool.false_and, Bool.and_false, decide_true, decide_false, beq_self_eq_true, if_true, if_false, Option.map_some, Option.map_none, Option.some.injEq, Option.getD_some, Option.getD_none, Int.toNat_natCast, true_and, and_true, and_self, eq_self_iff_true, List.length_map, Bool.false_eq_true, Bool.true_eq_false, Prod.mk.injEq, SV.int.injEq, SV.bool.injEq, SV.str.injEq, SV.agg.injEq, SV.tup.injEq, SV.arr.injEq, List.cons.injEq, St.mk.injEq, Int.zero_add, dec_T, dec_F, dec_i64, dec_t, dec_f, fGet, svK, svD, svDs, svM, MV.sv, mapAt, mput_int, mput_str, nomap_eq, nextSt, St.app, itOf, MK.sv, mroundK_n, mroundK_e, mroundK_r, mendK_e, mendK_r, mode, zA, zB, zC, zD, zE, zF, zG, zH, ↓reduceIte, zI, reduceCtorEq, zJ, zK, go_cond, hni, hgx]
      exact hR
  · obtain ⟨hk', hR⟩ := hR
    obtain rfl : k = xs.length := by omega
    rcases Nat.lt_or_ge xs.length ys.length with hlt' | hge'
    · rw [cmpL_end (Nat.le_refl _) hlt'] at hR
      simp (disch := omega) only [lendN, lend1, SV.isNil, Ob.idsB, SV.idsB, SV.idsBL, List.getElem?_cons_zero, List.getElem?_cons_succ, OT.fullss, OT.fulls, OT.full, entry, toTree, plugA, plugG, plugH, setG, holesBack, holeAt, treeF, scalO, canonO, OT.erss, OT.ers, OT.er, OT.noShss, OT.noShs, OT.noSh, quiet, obB, obBj, locs, meets, memAnc, go_skip, go_exit, go_ret, go_reg, go_dreg, go_seq, go_block, boolP_t, boolP_f, boolP_n, seqk_n, seqk_e, seqk_r, blk_n, blk_e, blk_r, someP_s, drawP_s, regF_nil, regF_cons, regF_gd, drgF_nil, drgF_cons, drgF_gd, regN_s, drgN_s, gdF_t, gdF_ff, gdF_tf, gdF_ft, gdF_u, appF_n, appF_c, calls_eq, late_a, late_f, late_o, late_t, late_l, late_s, late_b, late_i, lateC, keysB, goneIn, seen, callS_nil, callS_cons, callN_z, callN_s, selN_s, callRes_v, callRes, roundK_n, roundK_e, roundK_r, finK_r, finK_n, resF1_s, ordF_s, order, opF, fOp, ret1, ret1o, fBin, fBinI, fBinS, fBinB, fArith, eqK, getX, gets, geto, sets, putS, newOb, updL, extL, lookO, okUB, SV.cellsN, SV.one, fillS, splice, toOTs, toOT, refs1, refsC, fsts, gids, gone1, allSome, bndLo, bndHi, intN, eOp.mkEs, eOp.addS, D.sv, OT.sv, D.ot, memB, nodupB, reach, SV.refs, SV.refsS, SV.ptrs, SV.ptrsS, Ob.refs, Ob.liveB, handRefs, backObs, SV.back, SV.backL, Ob.back, posN, lendL, lendV, lentL, lentV, allLtB, allIdsB, SV.ren, SV.renL, Ob.ren, mkU, sgp, gc, gcObs, names, upTo, canon_z, canon_o, canon_m, canonP, frz1, markR_a, markR_f, markR_s, markR_o, markR_t, markR_l, SC.mark, keepS, keepRefs, slots, resV, rxVs, rxV, anys, noShB, SV.noSh, SV.noShL, Ob.noSh, SV.own, SV.ownL, goneAt, cond_true, cond_false, List.length_cons, List.length_nil, List.map_cons, List.map_nil, List.drop_succ_cons, List.drop_zero, List.drop_nil, List.take_succ_cons, List.take_zero, List.take_nil, List.append_nil, List.nil_append, List.cons_append, List.all_cons, List.all_nil, List.getD_cons_zero, List.getD_cons_succ, List.any_cons, List.any_nil, List.contains_cons, List.contains_nil, List.isEmpty_nil, List.isEmpty_cons, List.flatten_cons, List.flatten_nil, List.replicate_succ, List.replicate_zero, List.set_cons_zero, List.set_cons_succ, Nat.add_zero, Nat.zero_add, Nat.le_refl, Nat.zero_le, Bool.and_true, Bool.true_and, Bool.and_self, Bool.or_false, Bool.false_or, Bool.true_or, Bool.or_true, Bool.not_true, Bool.not_false, Bool.false_and, Bool.and_false, decide_true, decide_false, beq_self_eq_true, if_true, if_false, Option.map_some, Option.map_none, Option.some.injEq, Option.getD_some, Option.getD_none, Int.toNat_natCast, true_and, and_true, and_self, eq_self_iff_true, List.length_map, Bool.false_eq_true, Bool.true_eq_false, Prod.mk.injEq, SV.int.injEq, SV.bool.injEq, SV.str.injEq, SV.agg.injEq, SV.tup.injEq, SV.arr.injEq, List.cons.injEq, St.mk.injEq, Int.zero_add, dec_T, dec_F, dec_i64, dec_t, dec_f, fGet, svK, svD, svDs, svM, MV.sv, mapAt, mput_int, mput_str, nomap_eq, nextSt, St.app, itOf, MK.sv, mroundK_n, mroundK_e, mroundK_r, mendK_e, mendK_r, mode, zA, zB, zC, zD, zE, zF, zG, zH, ↓reduceIte, zI, reduceCtorEq, zJ, zK, go_cond, hni]
      exact hR
    · rw [cmpL_both (Nat.le_refl _) hge'] at hR
      simp (disch := omega) only [lendN, lend1, SV.isNil, Ob.idsB, SV.idsB, SV.idsBL, List.getElem?_cons_zero, List.getElem?_cons_succ, OT.fullss, OT.fulls, OT.full, entry, toTree, plugA, plugG, plugH, setG, holesBack, holeAt, treeF, scalO, canonO, OT.erss, OT.ers, OT.er, OT.noShss, OT.noShs, OT.noSh, quiet, obB, obBj, locs, meets, memAnc, go_skip, go_exit, go_ret, go_reg, go_dreg, go_seq, go_block, boolP_t, boolP_f, boolP_n, seqk_n, seqk_e, seqk_r, blk_n, blk_e, blk_r, someP_s, drawP_s, regF_nil, regF_cons, regF_gd, drgF_nil, drgF_cons, drgF_gd, regN_s, drgN_s, gdF_t, gdF_ff, gdF_tf, gdF_ft, gdF_u, appF_n, appF_c, calls_eq, late_a, late_f, late_o, late_t, late_l, late_s, late_b, late_i, lateC, keysB, goneIn, seen, callS_nil, callS_cons, callN_z, callN_s, selN_s, callRes_v, callRes, roundK_n, roundK_e, roundK_r, finK_r, finK_n, resF1_s, ordF_s, order, opF, fOp, ret1, ret1o, fBin, fBinI, fBinS, fBinB, fArith, eqK, getX, gets, geto, sets, putS, newOb, updL, extL, lookO, okUB, SV.cellsN, SV.one, fillS, splice, toOTs, toOT, refs1, refsC, fsts, gids, gone1, allSome, bndLo, bndHi, intN, eOp.mkEs, eOp.addS, D.sv, OT.sv, D.ot, memB, nodupB, reach, SV.refs, SV.refsS, SV.ptrs, SV.ptrsS, Ob.refs, Ob.liveB, handRefs, backObs, SV.back, SV.backL, Ob.back, posN, lendL, lendV, lentL, lentV, allLtB, allIdsB, SV.ren, SV.renL, Ob.ren, mkU, sgp, gc, gcObs, names, upTo, canon_z, canon_o, canon_m, canonP, frz1, markR_a, markR_f, markR_s, markR_o, markR_t, markR_l, SC.mark, keepS, keepRefs, slots, resV, rxVs, rxV, anys, noShB, SV.noSh, SV.noShL, Ob.noSh, SV.own, SV.ownL, goneAt, cond_true, cond_false, List.length_cons, List.length_nil, List.map_cons, List.map_nil, List.drop_succ_cons, List.drop_zero, List.drop_nil, List.take_succ_cons, List.take_zero, List.take_nil, List.append_nil, List.nil_append, List.cons_append, List.all_cons, List.all_nil, List.getD_cons_zero, List.getD_cons_succ, List.any_cons, List.any_nil, List.contains_cons, List.contains_nil, List.isEmpty_nil, List.isEmpty_cons, List.flatten_cons, List.flatten_nil, List.replicate_succ, List.replicate_zero, List.set_cons_zero, List.set_cons_succ, Nat.add_zero, Nat.zero_add, Nat.le_refl, Nat.zero_le, Bool.and_true, Bool.true_and, Bool.and_self, Bool.or_false, Bool.false_or, Bool.true_or, Bool.or_true, Bool.not_true, Bool.not_false, Bool.false_and, Bool.and_false, decide_true, decide_false, beq_self_eq_true, if_true, if_false, Option.map_some, Option.map_none, Option.some.injEq, Option.getD_some, Option.getD_none, Int.toNat_natCast, true_and, and_true, and_self, eq_self_iff_true, List.length_map, Bool.false_eq_true, Bool.true_eq_false, Prod.mk.injEq, SV.int.injEq, SV.bool.injEq, SV.str.injEq, SV.agg.injEq, SV.tup.injEq, SV.arr.injEq, List.cons.injEq, St.mk.injEq, Int.zero_add, dec_T, dec_F, dec_i64, dec_t, dec_f, fGet, svK, svD, svDs, svM, MV.sv, mapAt, mput_int, mput_str, nomap_eq, nextSt, St.app, itOf, MK.sv, mroundK_n, mroundK_e, mroundK_r, mendK_e, mendK_r, mode, zA, zB, zC, zD, zE, zF, zG, zH, ↓reduceIte, zI, reduceCtorEq, zJ, zK, go_cond, hni]
      exact hR
abbrev CmpC (f : FuncId) (x y : Tm) : Prop := x.cok = true → y.cok = true → x.nodes ≤ 1099511627776 → y.nodes ≤ 1099511627776 → E f [x.sv, y.sv] [] = some (.int .i64 (x.cmp y), [])
set_option maxHeartbeats 1000000 in
theorem compareTerms_of (x : Tm) (ih : ∀ x' ∈ x.args, ∀ y, CmpC 70 x' y) (y : Tm) : CmpC 70 x y := by
  intro hx hy hnx hny
  have lx := Tm.length_le x.args
  have ly := Tm.length_le y.args
  have nx := Tm.nodes_eq x
  have ny := Tm.nodes_eq y
  have h1 := isVar_E x hx
  have h2 := isVar_E y hy
  have h3 := compareS_E x.name y.name
  have h4 := compareI_E x.args.length y.args.length
  have h5 := or2_E (cmpB x.name y.name) (cmpI x.args.length y.args.length)
  rw [Tm.cok_eq, Bool.and_eq_true] at hx hy
  have h6 := compareFunc_E 70 x.args y.args (by omega) (by omega) g_impl_compareTerms (by rw [m_impl_compareTerms]) fun x' hx' y' hy' => ih x' hx' y' (Tm.cokS_mem hx.2 hx') (Tm.cokS_mem hy.2 hy') (by have := Tm.nodes_mem hx'; omega) (by have := Tm.nodes_mem hy'; omega)
  rw [Tm.cmp_eq]
  cases vx : varB x.name <;> rw [vx] at h1 <;> cases vy : varB y.name <;> rw [vy] at h2
  all_goals
    simp only [Bool.not_true, Bool.not_false, Bool.and_true, Bool.and_false, Bool.true_and, Bool.false_and, if_true, if_false, Bool.false_eq_true]
    by_cases h0 : orZ (cmpB x.name y.name) (cmpI x.args.length y.args.length) = 0
    · rw [h0] at h5
      try rw [h0]
      refine E_walk k_impl_compareTerms m_impl_compareTerms (of_decide_eq_true rfl) ?_
      simp (disch := omega) only [c_impl_compareTerms, lendN, lend1, SV.isNil, Ob.idsB, SV.idsB, SV.idsBL, List.getElem?_cons_zero, List.getElem?_cons_succ, OT.fullss, OT.fulls, OT.full, entry, toTree, plugA, plugG, plugH, setG, holesBack, holeAt, treeF, scalO, canonO, OT.erss, OT.ers, OT.er, OT.noShss, OT.noShs, OT.noSh, quiet, obB, obBj, locs, meets, memAnc, go_skip, go_exit, go_ret, go_reg, go_dreg, go_seq, go_block, boolP_t, boolP_f, boolP_n, seqk_n, seqk_e, seqk_r, blk_n, blk_e, blk_r, someP_s, drawP_s, regF_nil, regF_cons, regF_gd, drgF_nil, drgF_cons, drgF_gd, regN_s, drgN_s, gdF_t, gdF_ff, gdF_tf, gdF_ft, gdF_u, appF_n, appF_c, calls_eq, late_a, late_f, late_o, late_t, late_l, late_s, late_b, late_i, lateC, keysB, goneIn, seen, callS_nil, callS_cons, callN_z, callN_s, selN_s, callRes_v, callRes, roundK_n, roundK_e, roundK_r, finK_r, finK_n, resF1_s, ordF_s, order, opF, fOp, ret1, ret1o, fBin, fBinI, fBinS, fBinB, fArith, eqK, getX, gets, geto, sets, putS, newOb, updL, extL, lookO, okUB, SV.cellsN, SV.one, fillS, splice, toOTs, toOT, refs1, refsC, fsts, gids, gone1, allSome, bndLo, bndHi, intN, eOp.mkEs, eOp.addS, D.sv, OT.sv, D.ot, memB, nodupB, reach, SV.refs, SV.refsS, SV.ptrs, SV.ptrsS, Ob.refs, Ob.liveB, handRefs, backObs, SV.back, SV.backL, Ob.back, posN, lendL, lendV, lentL, lentV, allLtB, allIdsB, SV.ren, SV.renL, Ob.ren, mkU, sgp, gc, gcObs, names, upTo, canon_z, canon_o, canon_m, canonP, frz1, markR_a, markR_f, markR_s, markR_o, markR_t, markR_l, SC.mark, keepS, keepRefs, slots, resV, rxVs, rxV, anys, noShB, SV.noSh, SV.noShL, Ob.noSh, SV.own, SV.ownL, goneAt, cond_true, cond_false, List.length_cons, List.length_nil, List.map_cons, List.map_nil, List.drop_succ_cons, List.drop_zero, List.drop_nil, List.take_succ_cons, List.take_zero, List.take_nil, List.append_nil, List.nil_append, List.cons_append, List.all_cons, List.all_nil, List.getD_cons_zero, List.getD_cons_succ, List.any_cons, List.any_nil, List.contains_cons, List.contains_nil, List.isEmpty_nil, List.isEmpty_cons, List.flatten_cons, List.flatten_nil, List.replicate_succ, List.replicate_zero, List.set_cons_zero, List.set_cons_succ, Nat.add_zero, Nat.zero_add, Nat.le_refl, Nat.zero_le, Bool.and_true, Bool.true_and, Bool.and_self, Bool.or_false, Bool.false_or, Bool.true_or, Bool.or_true, Bool.not_true, Bool.not_false, Bool.false_and, Bool.and_false, decide_true, decide_false, beq_self_eq_true, if_true, if_false, Option.map_some, Option.map_none, Option.some.injEq, Option.getD_some, Option.getD_none, Int.toNat_natCast, true_and, and_true, and_self, eq_self_iff_true, List.length_map, Bool.false_eq_true, Bool.true_eq_false, Prod.mk.injEq, SV.int.injEq, SV.bool.injEq, SV.str.injEq, SV.agg.injEq, SV.tup.injEq, SV.arr.injEq, List.cons.injEq, St.mk.injEq, Int.zero_add, dec_T, dec_F, dec_i64, dec_t, dec_f, fGet, svK, svD, svDs, svM, MV.sv, mapAt, mput_int, mput_str, nomap_eq, nextSt, St.app, itOf, MK.sv, mroundK_n, mroundK_e, mroundK_r, mendK_e, mendK_r, mode, zA, zB, zC, zD, zE, zF, zG, zH, ↓reduceIte, zI, reduceCtorEq, zJ, zK, go_cond, h1, h2, h3, h4, h5, h6, m_impl_isVar, m_cmp_Compare_string, m_cmp_Compare_int, m_cmp_Or_int, m_slices_CompareFunc_impl_Term_impl_Term_impl_Term_impl_Term]
      try rfl
    · try rw [orZ.eq_1 (orZ _ _) _, if_neg h0]
      refine E_walk k_impl_compareTerms m_impl_compareTerms (of_decide_eq_true rfl) ?_
      simp (disch := omega) only [c_impl_compareTerms, lendN, lend1, SV.isNil, Ob.idsB, SV.idsB, SV.idsBL, List.getElem?_cons_zero, List.getElem?_cons_succ, OT.fullss, OT.fulls, OT.full, entry, toTree, plugA, plugG, plugH, setG, holesBack, holeAt, treeF, scalO, canonO, OT.erss, OT.ers, OT.er, OT.noShss, OT.noShs, OT.noSh, quiet, obB, obBj, locs, meets, memAnc, go_skip, go_exit, go_ret, go_reg, go_dreg, go_seq, go_block, boolP_t, boolP_f, boolP_n, seqk_n, seqk_e, seqk_r, blk_n, blk_e, blk_r, someP_s, drawP_s, regF_nil, regF_cons, regF_gd, drgF_nil, drgF_cons, drgF_gd, regN_s, drgN_s, gdF_t, gdF_ff, gdF_tf, gdF_ft, gdF_u, appF_n, appF_c, calls_eq, late_a, late_f, late_o, late_t, late_l, late_s, late_b, late_i, lateC, keysB, goneIn, seen, callS_nil, callS_cons, callN_z, callN_s, selN_s, callRes_v, callRes, roundK_n, roundK_e, roundK_r, finK_r, finK_n, resF1_s, ordF_s, order, opF, fOp, ret1, ret1o, fBin, fBinI, fBinS, fBinB, fArith, eqK, getX, gets, geto, sets, putS, newOb, updL, extL, lookO, okUB, SV.cellsN, SV.one, fillS, splice, toOTs, toOT, refs1, refsC, fsts, gids, gone1, allSome, bndLo, bndHi, intN, eOp.mkEs, eOp.addS, D.sv, OT.sv, D.ot, memB, nodupB, reach, SV.refs, SV.refsS, SV.ptrs, SV.ptrsS, Ob.refs, Ob.liveB, handRefs, backObs, SV.back, SV.backL, Ob.back, posN, lendL, lendV, lentL, lentV, allLtB, allIdsB, SV.ren, SV.renL, Ob.ren, mkU, sgp, gc, gcObs, names, upTo, canon_z, canon_o, canon_m, canonP, frz1, markR_a, markR_f, markR_s, markR_o, markR_t, markR_l, SC.mark, keepS, keepRefs, slots, resV, rxVs, rxV, anys, noShB, SV.noSh, SV.noShL, Ob.noSh, SV.own, SV.ownL, goneAt, cond_true, cond_false, List.length_cons, List.length_nil, List.map_cons, List.map_nil, List.drop_succ_cons, List.drop_zero, List.drop_nil, List.take_succ_cons, List.take_zero, List.take_nil, List.append_nil, List.nil_append, List.cons_append, List.all_cons, List.all_nil, List.getD_cons_zero, List.getD_cons_succ, List.any_cons, List.any_nil, List.contains_cons, List.contains_nil, List.isEmpty_nil, List.isEmpty_cons, List.flatten_cons, List.flatten_nil, List.replicate_succ, List.replicate_zero, List.set_cons_zero, List.set_cons_succ, Nat.add_zero, Nat.zero_add, Nat.le_refl, Nat.zero_le, Bool.and_true, Bool.true_and, Bool.and_self, Bool.or_false, Bool.false_or, Bool.true_or, Bool.or_true, Bool.not_true, Bool.not_false, Bool.false_and, Bool.and_false, decide_true, decide_false, beq_self_eq_true, if_true, if_false, Option.map_some, Option.map_none, Option.some.injEq, Option.getD_some, Option.getD_none, Int.toNat_natCast, true_and, and_true, and_self, eq_self_iff_true, List.length_map, Bool.false_eq_true, Bool.true_eq_false, Prod.mk.injEq, SV.int.injEq, SV.bool.injEq, SV.str.injEq, SV.agg.injEq, SV.tup.injEq, SV.arr.injEq, List.cons.injEq, St.mk.injEq, Int.zero_add, dec_T, dec_F, dec_i64, dec_t, dec_f, fGet, svK, svD, svDs, svM, MV.sv, mapAt, mput_int, mput_str, nomap_eq, nextSt, St.app, itOf, MK.sv, mroundK_n, mroundK_e, mroundK_r, mendK_e, mendK_r, mode, zA, zB, zC, zD, zE, zF, zG, zH, ↓reduceIte, zI, reduceCtorEq, zJ, zK, go_cond, h0, h1, h2, h3, h4, h5, m_impl_isVar, m_cmp_Compare_string, m_cmp_Compare_int, m_cmp_Or_int]
theorem compareTerms_E (x y : Tm) : CmpC 70 x y := compareTerms_of x (fun x' hx' y' => compareTerms_E x' y') y
termination_by SizeOf.sizeOf x
decreasing_by exact Tm.lt_of_mem hx'
def c_impl_flag : SC := (.seq (.reg [⟨some 2, none, .mv (.c (.int .i64 0))⟩]) (.seq (.seq (.reg [⟨some 3, none, .mv (.t 0)⟩]) (.cond (.t 3) (.seq (.reg [⟨some 2, none, .mv (.c (.int .i64 1))⟩]) .ret) .skip)) (.seq (.reg [⟨some 2, none, .mv (.c (.int .i64 0))⟩]) .ret)))
theorem k_impl_flag : codeOf Tryz.prog 72 = some ⟨4, c_impl_flag, [(.tmp 2)]⟩ := by kernel_rfl
theorem m_impl_flag : modes 72 = ⟨[], .asis, none, false⟩ := by unfold modes; rfl
def c_impl_compareLiterals : SC := (.seq (.reg [⟨some 2, none, .boxv 74 3 (.t 0)⟩, ⟨some 3, none, .boxv 74 3 (.t 1)⟩, ⟨some 4, none, .mv (.c (.int .i64 0))⟩]) (.seq (.dreg [[], [0], [], [2], [1, 0, 3, 2], [], [5], [6, 5, 4, 1, 0, 3, 2], [], [8], [9, 8, 7, 6, 5, 4, 1, 0, 3, 2], [7, 6, 5, 4, 1, 0, 3, 2, 10, 9, 8], [4, 1, 0, 3, 2, 11, 7, 6, 5, 10, 9, 8], [12, 4, 1, 0, 3, 2, 11, 7, 6, 5, 10, 9, 8], [13, 12, 4, 1, 0, 3, 2, 11, 7, 6, 5, 10, 9, 8]] [⟨some 5, none, .faddr 1 (.t 2)⟩, ⟨some 6, none, .load true 2 (.t 5)⟩, ⟨some 7, none, .faddr 1 (.t 3)⟩, ⟨some 8, none, .load true 2 (.t 7)⟩, ⟨some 9, none, .call 70 [(.t 6), (.t 8)]⟩, ⟨some 10, none, .faddr 0 (.t 2)⟩, ⟨some 11, none, .load false 1 (.t 10)⟩, ⟨some 12, none, .call 72 [(.t 11)]⟩, ⟨some 13, none, .faddr 0 (.t 3)⟩, ⟨some 14, none, .load false 1 (.t 13)⟩, ⟨some 15, none, .call 72 [(.t 14)]⟩, ⟨some 16, none, .call 71 [(.t 12), (.t 15)]⟩, ⟨some 17, none, .mkrow 3 1 [(.int .i64 0)] 2 [(0, (.t 9)), (1, (.t 16))]⟩, ⟨some 18, none, .call 69 [(.t 17)]⟩, ⟨some 4, none, .mv (.t 18)⟩]) .ret))
theorem k_impl_compareLiterals : codeOf Tryz.prog 43 = some ⟨19, c_impl_compareLiterals, [(.tmp 4)]⟩ := by kernel_rfl
theorem m_impl_compareLiterals : modes 43 = ⟨[], .asis, none, false⟩ := by unfold modes; rfl
theorem flag_E (b : Bool) : E 72 [.bool b] [] = some (.int .i64 (flagZ b), []) := by
  cases b
  · refine E_walk k_impl_flag m_impl_flag (of_decide_eq_true rfl) ?_
    simp (disch := omega) only [c_impl_flag, lendN, lend1, SV.isNil, Ob.idsB, SV.idsB, SV.idsBL, List.getElem?_cons_zero, List.getElem?_cons_succ, OT.fullss, OT.fulls, OT.full, entry, toTree, plugA, plugG, plugH, setG, holesBack, holeAt, treeF, scalO, canonO, OT.erss, OT.ers, OT.er, OT.noShss, OT.noShs, OT.noSh, quiet, obB, obBj, locs, meets, memAnc, go_skip, go_exit, go_ret, go_reg, go_dreg, go_seq, go_block, boolP_t, boolP_f, boolP_n, seqk_n, seqk_e, seqk_r, blk_n, blk_e, blk_r, someP_s, drawP_s, regF_nil, regF_cons, regF_gd, drgF_nil, drgF_cons, drgF_gd, regN_s, drgN_s, gdF_t, gdF_ff, gdF_tf, gdF_ft, gdF_u, appF_n, appF_c, calls_eq, late_a, late_f, late_o, late_t, late_l, late_s, late_b, late_i, lateC, keysB, goneIn, seen, callS_nil, callS_cons, callN_z, callN_s, selN_s, callRes_v, callRes, roundK_n, roundK_e, roundK_r, finK_r, finK_n, resF1_s, ordF_s, order, opF, fOp, ret1, ret1o, fBin, fBinI, fBinS, fBinB, fArith, eqK, getX, gets, geto, sets, putS, newOb, updL, extL, lookO, okUB, SV.cellsN, SV.one, fillS, splice, toOTs, toOT, refs1, refsC, fsts, gids, gone1, allSome, bndLo, bndHi, intN, eOp.mkEs, eOp.addS, D.sv, OT.sv, D.ot, memB, nodupB, reach, SV.refs, SV.refsS, SV.ptrs, SV.ptrsS, Ob.refs, Ob.liveB, handRefs, backObs, SV.back, SV.backL, Ob.back, posN, lendL, lendV, lentL, lentV, allLtB, allIdsB, SV.ren, SV.renL, Ob.ren, mkU, sgp, gc, gcObs, names, upTo, canon_z, canon_o, canon_m, canonP, frz1, markR_a, markR_f, markR_s, markR_o, markR_t, markR_l, SC.mark, keepS, keepRefs, slots, resV, rxVs, rxV, anys, noShB, SV.noSh, SV.noShL, Ob.noSh, SV.own, SV.ownL, goneAt, cond_true, cond_false, List.length_cons, List.length_nil, List.map_cons, List.map_nil, List.drop_succ_cons, List.drop_zero, List.drop_nil, List.take_succ_cons, List.take_zero, List.take_nil, List.append_nil, List.nil_append, List.cons_append, List.all_cons, List.all_nil, List.getD_cons_zero, List.getD_cons_succ, List.any_cons, List.any_nil, List.contains_cons, List.contains_nil, List.isEmpty_nil, List.isEmpty_cons, List.flatten_cons, List.flatten_nil, List.replicate_succ, List.replicate_zero, List.set_cons_zero, List.set_cons_succ, Nat.add_zero, Nat.zero_add, Nat.le_refl, Nat.zero_le, Bool.and_true, Bool.true_and, Bool.and_self, Bool.or_false, Bool.false_or, Bool.true_or, Bool.or_true, Bool.not_true, Bool.not_false, Bool.false_and, Bool.and_false, decide_true, decide_false, beq_self_eq_true, if_true, if_false, Option.map_some, Option.map_none, Option.some.injEq, Option.getD_some, Option.getD_none, Int.toNat_natCast, true_and, and_true, and_self, eq_self_iff_true, List.length_map, Bool.false_eq_true, Bool.true_eq_false, Prod.mk.injEq, SV.int.injEq, SV.bool.injEq, SV.str.injEq, SV.agg.injEq, SV.tup.injEq, SV.arr.injEq, List.cons.injEq, St.mk.injEq, Int.zero_add, dec_T, dec_F, dec_i64, dec_t, dec_f, fGet, svK, svD, svDs, svM, MV.sv, mapAt, mput_int, mput_str, nomap_eq, nextSt, St.app, itOf, MK.sv, mroundK_n, mroundK_e, mroundK_r, mendK_e, mendK_r, mode, zA, zB, zC, zD, zE, zF, zG, zH, ↓reduceIte, zI, reduceCtorEq, zJ, zK, go_cond]
    rfl
  · refine E_walk k_impl_flag m_impl_flag (of_decide_eq_true rfl) ?_
    simp (disch := omega) only [c_impl_flag, lendN, lend1, SV.isNil, Ob.idsB, SV.idsB, SV.idsBL, List.getElem?_cons_zero, List.getElem?_cons_succ, OT.fullss, OT.fulls, OT.full, entry, toTree, plugA, plugG, plugH, setG, holesBack, holeAt, treeF, scalO, canonO, OT.erss, OT.ers, OT.er, OT.noShss, OT.noShs, OT.noSh, quiet, obB, obBj, locs, meets, memAnc, go_skip, go_exit, go_ret, go_reg, go_dreg, go_seq, go_block, boolP_t, boolP_f, boolP_n, seqk_n, seqk_e, seqk_r, blk_n, blk_e, blk_r, someP_s, drawP_s, regF_nil, regF_cons, regF_gd, drgF_nil, drgF_cons, drgF_gd, regN_s, drgN_s, gdF_t, gdF_ff, gdF_tf, gdF_ft, gdF_u, appF_n, appF_c, calls_eq, late_a, late_f, late_o, late_t, late_l, late_s, late_b, late_i, lateC, keysB, goneIn, seen, callS_nil, callS_cons, callN_z, callN_s, selN_s, callRes_v, callRes, roundK_n, roundK_e, roundK_r, finK_r, finK_n, resF1_s, ordF_s, order, opF, fOp, ret1, ret1o, fBin, fBinI, fBinS, fBinB, fArith, eqK, getX, gets, geto, sets, putS, newOb, updL, extL, lookO, okUB, SV.cellsN, SV.one, fillS, splice, toOTs, toOT, refs1, refsC, fsts, gids, gone1, allSome, bndLo, bndHi, intN, eOp.mkEs, eOp.addS, D.sv, OT.sv, D.ot, memB, nodupB, reach, SV.refs, SV.refsS, SV.ptrs, SV.ptrsS, Ob.refs, Ob.liveB, handRefs, backObs, SV.back, SV.backL, Ob.back, posN, lendL, lendV, lentL, lentV, allLtB, allIdsB, SV.ren, SV.renL, Ob.ren, mkU, sgp, gc, gcObs, names, upTo, canon_z, canon_o, canon_m, canonP, frz1, markR_a, markR_f, markR_s, markR_o, markR_t, markR_l, SC.mark, keepS, keepRefs, slots, resV, rxVs, rxV, anys, noShB, SV.noSh, SV.noShL, Ob.noSh, SV.own, SV.ownL, goneAt, cond_true, cond_false, List.length_cons, List.length_nil, List.map_cons, List.map_nil, List.drop_succ_cons, List.drop_zero, List.drop_nil, List.take_succ_cons, List.take_zero, List.take_nil, List.append_nil, List.nil_append, List.cons_append, List.all_cons, List.all_nil, List.getD_cons_zero, List.getD_cons_succ, List.any_cons, List.any_nil, List.contains_cons, List.contains_nil, List.isEmpty_nil, List.isEmpty_cons, List.flatten_cons, List.flatten_nil, List.replicate_succ, List.replicate_zero, List.set_cons_zero, List.set_cons_succ, Nat.add_zero, Nat.zero_add, Nat.le_refl, Nat.zero_le, Bool.and_true, Bool.true_and, Bool.and_self, Bool.or_false, Bool.false_or, Bool.true_or, Bool.or_true, Bool.not_true, Bool.not_false, Bool.false_and, Bool.and_false, decide_true, decide_false, beq_self_eq_true, if_true, if_false, Option.map_some, Option.map_none, Option.some.injEq, Option.getD_some, Option.getD_none, Int.toNat_natCast, true_and, and_true, and_self, eq_self_iff_true, List.length_map, Bool.false_eq_true, Bool.true_eq_false, Prod.mk.injEq, SV.int.injEq, SV.bool.injEq, SV.str.injEq, SV.agg.injEq, SV.tup.injEq, SV.arr.injEq, List.cons.injEq, St.mk.injEq, Int.zero_add, dec_T, dec_F, dec_i64, dec_t, dec_f, fGet, svK, svD, svDs, svM, MV.sv, mapAt, mput_int, mput_str, nomap_eq, nextSt, St.app, itOf, MK.sv, mroundK_n, mroundK_e, mroundK_r, mendK_e, mendK_r, mode, zA, zB, zC, zD, zE, zF, zG, zH, ↓reduceIte, zI, reduceCtorEq, zJ, zK, go_cond]
    rfl
theorem compareLiterals_E (x y : Lt) (hx : x.atom.cok = true) (hy : y.atom.cok = true) (hnx : x.atom.nodes ≤ 1099511627776) (hny : y.atom.nodes ≤ 1099511627776) : E 43 [x.sv, y.sv] [] = some (.int .i64 (x.cmp y), []) := by
  have h1 := compareTerms_E x.atom y.atom hx hy hnx hny
  have h2 := flag_E x.pos
  have h3 := flag_E y.pos
  have h4 := compareI_E (flagZ x.pos) (flagZ y.pos)
  have h5 := or2_E (x.atom.cmp y.atom) (cmpI (flagZ x.pos) (flagZ y.pos))
  unfold Lt.cmp
  refine E_walk k_impl_compareLiterals m_impl_compareLiterals (of_decide_eq_true rfl) ?_
  simp (disch := omega) only [c_impl_compareLiterals, lendN, lend1, SV.isNil, Ob.idsB, SV.idsB, SV.idsBL, List.getElem?_cons_zero, List.getElem?_cons_succ, OT.fullss, OT.fulls, OT.full, entry, toTree, plugA, plugG, plugH, setG, holesBack, holeAt, treeF, scalO, canonO, OT.erss, OT.ers, OT.er, OT.noShss, OT.noShs, OT.noSh, quiet, obB, obBj, locs, meets, memAnc, go_skip, go_exit, go_ret, go_reg, go_dreg, go_seq, go_block, boolP_t, boolP_f, boolP_n, seqk_n, seqk_e, seqk_r, blk_n, blk_e, blk_r, someP_s, drawP_s, regF_nil, regF_cons, regF_gd, drgF_nil, drgF_cons, drgF_gd, regN_s, drgN_s, gdF_t, gdF_ff, gdF_tf, gdF_ft, gdF_u, appF_n, appF_c, calls_eq, late_a, late_f, late_o, late_t, late_l, late_s, late_b, late_i, lateC, keysB, goneIn, seen, callS_nil, callS_cons, callN_z, callN_s, selN_s, callRes_v, callRes, roundK_n, roundK_e, roundK_r, finK_r, finK_n, resF1_s, ordF_s, order, opF, fOp, ret1, ret1o, fBin, fBinI, fBinS, fBinB, fArith, eqK, getX, gets, geto, sets, putS, newOb, updL, extL, lookO, okUB, SV.cellsN, SV.one, fillS, splice, toOTs, toOT, refs1, refsC, fsts, gids, gone1, allSome, bndLo, bndHi, intN, eOp.mkEs, eOp.addS, D.sv, OT.sv, D.ot, memB, nodupB, reach, SV.refs, SV.refsS, SV.ptrs, SV.ptrsS, Ob.refs, Ob.liveB, handRefs, backObs, SV.back, SV.backL, Ob.back, posN, lendL, lendV, lentL, lentV, allLtB, allIdsB, SV.ren, SV.renL, Ob.ren, mkU, sgp, gc, gcObs, names, upTo, canon_z, canon_o, canon_m, canonP, frz1, markR_a, markR_f, markR_s, markR_o, markR_t, markR_l, SC.mark, keepS, keepRefs, slots, resV, rxVs, rxV, anys, noShB, SV.noSh, SV.noShL, Ob.noSh, SV.own, SV.ownL, goneAt, cond_true, cond_false, List.length_cons, List.length_nil, List.map_cons, List.map_nil, List.drop_succ_cons, List.drop_zero, List.drop_nil, List.take_succ_cons, List.take_zero, List.take_nil, List.append_nil, List.nil_append, List.cons_append, List.all_cons, List.all_nil, List.getD_cons_zero, List.getD_cons_succ, List.any_cons, List.any_nil, List.contains_cons, List.contains_nil, List.isEmpty_nil, List.isEmpty_cons, List.flatten_cons, List.flatten_nil, List.replicate_succ, List.replicate_zero, List.set_cons_zero, List.set_cons_succ, Nat.add_zero, Nat.zero_add, Nat.le_refl, Nat.zero_le, Bool.and_true, Bool.true_and, Bool.and_self, Bool.or_false, Bool.false_or, Bool.true_or, Bool.or_true, Bool.not_true, Bool.not_false, Bool.false_and, Bool.and_false, decide_true, decide_false, beq_self_eq_true, if_true, if_false, Option.map_some, Option.map_none, Option.some.injEq, Option.getD_some, Option.getD_none, Int.toNat_natCast, true_and, and_true, and_self, eq_self_iff_true, List.length_map, Bool.false_eq_true, Bool.true_eq_false, Prod.mk.injEq, SV.int.injEq, SV.bool.injEq, SV.str.injEq, SV.agg.injEq, SV.tup.injEq, SV.arr.injEq, List.cons.injEq, St.mk.injEq, Int.zero_add, dec_T, dec_F, dec_i64, dec_t, dec_f, fGet, svK, svD, svDs, svM, MV.sv, mapAt, mput_int, mput_str, nomap_eq, nextSt, St.app, itOf, MK.sv, mroundK_n, mroundK_e, mroundK_r, mendK_e, mendK_r, mode, zA, zB, zC, zD, zE, zF, zG, zH, ↓reduceIte, zI, reduceCtorEq, zJ, zK, go_cond, h1, h2, h3, h4, h5, m_impl_compareTerms, m_impl_flag, m_cmp_Compare_int, m_cmp_Or_int]
end Wd
theorem compareLiterals_D (x y : Lt) (hx : x.atom.cok = true) (hy : y.atom.cok = true) (hnx : x.atom.nodes ≤ 1099511627776) (hny : y.atom.nodes ≤ 1099511627776) : FunD Tryz.prog 43 [x.sv, y.sv] [] (.int .i64 (x.cmp y)) [] := Wd.E_told (Wd.compareLiterals_E x y hx hy hnx hny)
def c_slices_EqualFunc_impl_Term_impl_Term_impl_Term_impl_Term : SC := (.seq (.reg [⟨some 6, none, .mv (.c (.bool false))⟩]) (.seq (.seq (.reg [⟨some 10, none, .mv (.t 0)⟩, ⟨some 11, none, .len false (.t 10)⟩, ⟨some 12, none, .mv (.t 1)⟩, ⟨some 13, none, .len false (.t 12)⟩, ⟨some 14, none, .bin .neq false (.t 11) (.t 13)⟩]) (.cond (.t 14) (.seq (.reg [⟨some 6, none, .mv (.c (.bool false))⟩]) .ret) .skip)) (.seq (.seq (.reg [⟨some 15, none, .mv (.t 0)⟩, ⟨some 16, none, .len false (.t 15)⟩, ⟨some 17, none, .mv (.c (.int .i64 0))⟩]) (.block 0 (.loop [0, 1, 1, 0, 0, 0, 0, 0, 0, 0, 0, 0, 0, 0, 0, 1, 1, 1, 0, 0, 0, 0, 0, 0, 0, 0, 0, 0, 0, 0, 0, 0] (.seq (.reg [⟨some 18, none, .bin .lss false (.t 17) (.t 16)⟩]) (.seq (.cond (.t 18) .skip (.exit 0)) (.seq (.block 1 (.seq (.reg [⟨some 19, none, .mv (.t 17)⟩, ⟨some 20, none, .iaddr 2 (.t 15) (.t 17)⟩, ⟨some 21, none, .load true 2 (.t 20)⟩, ⟨(some 8), none, (.alloc 68 [(.str ⟨#[]⟩), .nil])⟩, ⟨some 7, none, .mv (.t 19)⟩, ⟨none, none, (.store 2 (.t 8) (.t 21))⟩]) (.seq (.reg [⟨some 22, none, .mv (.t 1)⟩, ⟨some 23, none, .mv (.t 7)⟩, ⟨some 24, none, .iaddr 2 (.t 22) (.t 23)⟩, ⟨some 25, none, .load true 2 (.t 24)⟩, ⟨(some 9), none, (.alloc 68 [(.str ⟨#[]⟩), .nil])⟩, ⟨none, none, (.store 2 (.t 9) (.t 25))⟩]) (.seq (.reg [⟨some 26, none, .mv (.t 2)⟩, ⟨some 27, none, .load true 2 (.t 8)⟩, ⟨some 28, none, .load true 2 (.t 9)⟩, ⟨some 29, none, .callv (.t 26) [(.t 27), (.t 28)]⟩, ⟨some 30, none, .un .not (.t 29)⟩]) (.cond (.t 30) (.seq (.reg [⟨some 6, none, .mv (.c (.bool false))⟩]) .ret) .skip))))) (.reg [⟨some 31, none, .bin .add false (.t 17) (.c (.int .i64 1))⟩, ⟨some 17, none, .mv (.t 31)⟩]))))))) (.seq (.reg [⟨some 6, none, .mv (.c (.bool true))⟩]) .ret))))
theorem k_slices_EqualFunc_impl_Term_impl_Term_impl_Term_impl_Term : codeOf Tryz.prog 118 = some ⟨32, c_slices_EqualFunc_impl_Term_impl_Term_impl_Term_impl_Term, [(.tmp 6)]⟩ := by kernel_rfl
theorem m_slices_EqualFunc_impl_Term_impl_Term_impl_Term_impl_Term : modes 118 = ⟨[], .asis, none, false⟩ := by unfold modes; rfl
def c_impl_EqualTerms : SC := (.seq (.reg [⟨some 2, none, .boxv 68 2 (.t 0)⟩, ⟨some 3, none, .boxv 68 2 (.t 1)⟩, ⟨some 4, none, .mv (.c (.bool false))⟩]) (.seq (.reg [⟨some 5, none, .faddr 0 (.t 2)⟩, ⟨some 6, none, .load false 1 (.t 5)⟩, ⟨some 7, none, .faddr 0 (.t 3)⟩, ⟨some 8, none, .load false 1 (.t 7)⟩, ⟨some 9, none, .bin .eql false (.t 6) (.t 8)⟩, ⟨some 10, none, .mv (.t 9)⟩, ⟨(some 11), (some (10, true)), (.faddr 1 (.t 2))⟩, ⟨(some 12), (some (10, true)), (.load false 1 (.t 11))⟩, ⟨(some 13), (some (10, true)), (.faddr 1 (.t 3))⟩, ⟨(some 14), (some (10, true)), (.load false 1 (.t 13))⟩, ⟨(some 15), (some (10, true)), (.call 118 [(.t 12), (.t 14), (.c (.fn 98 []))])⟩, ⟨some 16, none, .pick (.t 10) (.t 15) (.c (.bool false))⟩, ⟨some 4, none, .mv (.t 16)⟩]) .ret))
theorem k_impl_EqualTerms : codeOf Tryz.prog 98 = some ⟨17, c_impl_EqualTerms, [(.tmp 4)]⟩ := by kernel_rfl
theorem m_impl_EqualTerms : modes 98 = ⟨[], .asis, none, false⟩ := by unfold modes; rfl
theorem g_impl_EqualTerms : goFn Tryz.prog 98 = true := by kernel_rfl
theorem drop_eq_iff {α : Type} {xs ys : List α} {k : Nat} (hx : k < xs.length) (hy : k < ys.length) : xs.drop k = ys.drop k ↔ xs[k] = ys[k] ∧ xs.drop (k + 1) = ys.drop (k + 1) := by
  rw [List.drop_eq_getElem_cons hx, List.drop_eq_getElem_cons hy, List.cons.injEq]
set_option maxHeartbeats 1000000 in
theorem equalFunc_E (fid : Nat) (xs ys : List Tm) (hl : xs.length ≤ 1099511627776) (hl' : ys.length ≤ 1099511627776) (hg : goFn Tryz.prog fid = true) (hm : (modes fid).hand = []) (hE : ∀ x ∈ xs, ∀ y ∈ ys, E fid [x.sv, y.sv] [] = some (.bool (dec (x = y)), [])) : E 118 [.arr (xs.map Tm.d), .arr (ys.map Tm.d), .fn fid []] [] = some (.bool (dec (xs = ys)), []) := by
  by_cases hlen : xs.length = ys.length
  · have hq : ((xs.length : Int) = (ys.length : Int)) = True := by first | exact eq_true (by omega) | exact eq_false (by omega)
    refine E_walk k_slices_EqualFunc_impl_Term_impl_Term_impl_Term_impl_Term m_slices_EqualFunc_impl_Term_impl_Term_impl_Term_impl_Term (of_decide_eq_true rfl) ?_
    simp (disch := omega) only [c_slices_EqualFunc_impl_Term_impl_Term_impl_Term_impl_Term, go_sem, go_cond, zA, zB, zC, zD, zE, zF, zG, zH, ↓reduceIte, zI, reduceCtorEq, zJ, zK, hq]
    refine go_loop (α := Int) (fun a => ⟨slots 32 0 [(1, .arr (ys.map Tm.d)), (2, .fn fid []), (15, .arr (xs.map Tm.d)), (16, .int .i64 xs.length), (17, .int .i64 a)], []⟩) (fun a => ∃ k : Nat, a = k ∧ k ≤ (xs).length ∧ dec (xs.drop k = ys.drop k) = dec (xs = ys)) (fun a => (xs).length - (a).toNat) 0 ⟨0, rfl, Nat.zero_le _, by rw [List.drop_zero, List.drop_zero]⟩ (by simp (disch := omega) only [go_sem, go_cond, zA, zB, zC, zD, zE, zF, zG, zH, ↓reduceIte, zI, reduceCtorEq, zJ, zK]) ?_
    rintro i ⟨k, hi, hk, hR⟩
    have hni : i.toNat = k := by omega
    have hni1 : (i + 1).toNat = k + 1 := by omega
    rcases Nat.lt_or_ge k (xs).length with hlt | hge
    · have hgx := get_at Tm.d hlt
      rw [Tm.d_eq] at hgx
      have hlt' : k < ys.length := by omega
      have hgy := get_at Tm.d hlt'
      rw [Tm.d_eq] at hgy
      have hc := hE xs[k] (List.getElem_mem hlt) ys[k] (List.getElem_mem hlt')
      rw [dec_ii (drop_eq_iff hlt hlt')] at hR
      by_cases h0 : xs[k] = ys[k]
      · rw [dec_t h0] at hc
        rw [dec_ii (and_iff_right h0)] at hR
        simp (disch := omega) only [go_sem, go_cond, zA, zB, zC, zD, zE, zF, zG, zH, ↓reduceIte, zI, reduceCtorEq, zJ, zK, hni, hgx, hgy, hc, hg, hm]
        exact ⟨i + 1, ⟨k + 1, by omega, hlt, hR⟩, by omega, by first | trivial | rfl⟩
      · rw [dec_f h0] at hc
        rw [dec_f (fun h => h0 h.1)] at hR
        simp (disch := omega) only [go_sem, go_cond, zA, zB, zC, zD, zE, zF, zG, zH, ↓reduceIte, zI, reduceCtorEq, zJ, zK, hni, hgx, hgy, hc, hg, hm]
        exact hR
    · rw [List.drop_eq_nil_of_le hge, List.drop_eq_nil_of_le (by omega), dec_refl] at hR
      simp (disch := omega) only [go_sem, go_cond, zA, zB, zC, zD, zE, zF, zG, zH, ↓reduceIte, zI, reduceCtorEq, zJ, zK, hni]
      exact hR
  · have hq : ((xs.length : Int) = (ys.length : Int)) = False := by first | exact eq_true (by omega) | exact eq_false (by omega)
    have he : dec (xs = ys) = false := dec_f fun h => hlen (by rw [h])
    rw [he]
    refine E_walk k_slices_EqualFunc_impl_Term_impl_Term_impl_Term_impl_Term m_slices_EqualFunc_impl_Term_impl_Term_impl_Term_impl_Term (of_decide_eq_true rfl) ?_
    simp (disch := omega) only [c_slices_EqualFunc_impl_Term_impl_Term_impl_Term_impl_Term, go_sem, go_cond, zA, zB, zC, zD, zE, zF, zG, zH, ↓reduceIte, zI, reduceCtorEq, zJ, zK, hq]
theorem Tm.eq_iff (x y : Tm) : x = y ↔ x.name = y.name ∧ x.args = y.args := by
  obtain ⟨n, a⟩ := x
  obtain ⟨m, b⟩ := y
  rw [Tm.mk.injEq]; rfl
theorem equalTerms_of (x : Tm) (y : Tm) (hnx : x.nodes ≤ 1099511627776) (hny : y.nodes ≤ 1099511627776) (ih : ∀ x' ∈ x.args, ∀ y' : Tm, x'.nodes ≤ 1099511627776 → y'.nodes ≤ 1099511627776 → E 98 [x'.sv, y'.sv] [] = some (.bool (dec (x' = y')), [])) : E 98 [x.sv, y.sv] [] = some (.bool (dec (x = y)), []) := by
  have lx := Tm.length_le x.args
  have ly := Tm.length_le y.args
  have nx := Tm.nodes_eq x
  have ny := Tm.nodes_eq y
  have h6 := equalFunc_E 98 x.args y.args (by omega) (by omega) g_impl_EqualTerms (by rw [m_impl_EqualTerms]) fun x' hx' y' hy' => ih x' hx' y' (by have := Tm.nodes_mem hx'; omega) (by have := Tm.nodes_mem hy'; omega)
  rw [dec_ii (Tm.eq_iff x y)]
  by_cases h0 : x.name = y.name
  · rw [dec_ii (and_iff_right h0)]
    have hq : (x.name = y.name) = True := by simp [h0]
    refine E_walk k_impl_EqualTerms m_impl_EqualTerms (of_decide_eq_true rfl) ?_
    simp (disch := omega) only [c_impl_EqualTerms, go_sem, go_cond, zA, zB, zC, zD, zE, zF, zG, zH, ↓reduceIte, zI, reduceCtorEq, zJ, zK, hq, h6, m_slices_EqualFunc_impl_Term_impl_Term_impl_Term_impl_Term]
  · have hq : (x.name = y.name) = False := by simp [h0]
    rw [dec_f (fun h => h0 h.1)]
    refine E_walk k_impl_EqualTerms m_impl_EqualTerms (of_decide_eq_true rfl) ?_
    simp (disch := omega) only [c_impl_EqualTerms, go_sem, go_cond, zA, zB, zC, zD, zE, zF, zG, zH, ↓reduceIte, zI, reduceCtorEq, zJ, zK, hq]
theorem equalTerms_E (x y : Tm) (hnx : x.nodes ≤ 1099511627776) (hny : y.nodes ≤ 1099511627776) : E 98 [x.sv, y.sv] [] = some (.bool (dec (x = y)), []) :=
  equalTerms_of x y hnx hny fun x' hx' y' h h' => equalTerms_E x' y' h h'
termination_by SizeOf.sizeOf x
decreasing_by exact Tm.lt_of_mem hx'
def c_impl_copyTerms : SC := (.seq (.reg [⟨some 2, none, .mv (.c .nil)⟩]) (.seq (.seq (.reg [⟨some 6, none, .mv (.t 0)⟩, ⟨some 7, none, .len false (.t 6)⟩, ⟨some 8, none, .bin .eql false (.t 7) (.c (.int .i64 0))⟩]) (.cond (.t 8) (.seq (.reg [⟨some 2, none, .mv (.c .nil)⟩]) .ret) .skip)) (.seq (.reg [⟨some 9, none, .mv (.t 0)⟩, ⟨some 10, none, .len false (.t 9)⟩, ⟨(some 11), none, (.mkslice 68 2 40 [(.str ⟨#[]⟩), .nil] (.t 10))⟩, ⟨some 3, none, .mv (.t 11)⟩]) (.seq (.seq (.reg [⟨some 12, none, .mv (.t 0)⟩, ⟨some 13, none, .len false (.t 12)⟩, ⟨some 14, none, .mv (.c (.int .i64 0))⟩]) (.block 0 (.loop [0, 0, 0, 1, 0, 0, 0, 0, 0, 0, 0, 0, 1, 1, 1, 0, 0, 0, 0, 0, 0, 0, 0, 0, 0, 0] (.seq (.reg [⟨some 15, none, .bin .lss false (.t 14) (.t 13)⟩]) (.seq (.cond (.t 15) .skip (.exit 0)) (.seq (.block 1 (.seq (.reg [⟨some 16, none, .mv (.t 14)⟩, ⟨some 17, none, .iaddr 2 (.t 12) (.t 14)⟩, ⟨some 18, none, .load true 2 (.t 17)⟩, ⟨(some 5), none, (.alloc 68 [(.str ⟨#[]⟩), .nil])⟩, ⟨some 4, none, .mv (.t 16)⟩, ⟨none, none, (.store 2 (.t 5) (.t 18))⟩]) (.reg [⟨some 19, none, .mv (.t 3)⟩, ⟨some 20, none, .mv (.t 4)⟩, ⟨some 21, none, .load true 2 (.t 5)⟩, ⟨some 22, none, .call 95 [(.t 21)]⟩, ⟨some 23, none, .iaddr 2 (.t 19) (.t 20)⟩, ⟨none, none, (.store 2 (.t 23) (.t 22))⟩]))) (.reg [⟨some 24, none, .bin .add false (.t 14) (.c (.int .i64 1))⟩, ⟨some 14, none, .mv (.t 24)⟩]))))))) (.seq (.reg [⟨some 25, none, .mv (.t 3)⟩, ⟨some 2, none, .mv (.t 25)⟩]) .ret)))))
theorem k_impl_copyTerms : codeOf Tryz.prog 107 = some ⟨26, c_impl_copyTerms, [(.tmp 2)]⟩ := by kernel_rfl
theorem m_impl_copyTerms : modes 107 = ⟨[], .own [some (68, 2)], none, false⟩ := by unfold modes; rfl
def c_impl_copyTerm : SC := (.seq (.reg [⟨some 1, none, .boxv 68 2 (.t 0)⟩, ⟨(some 2), none, (.alloc 68 [(.str ⟨#[]⟩), .nil])⟩]) (.seq (.dreg [[], [0], [], [2], [3, 2], [1, 0, 4, 3, 2], [5, 1, 0, 4, 3, 2]] [⟨some 3, none, .faddr 0 (.t 1)⟩, ⟨some 4, none, .load false 1 (.t 3)⟩, ⟨some 5, none, .faddr 1 (.t 1)⟩, ⟨some 6, none, .load false 1 (.t 5)⟩, ⟨some 7, none, .call 107 [(.t 6)]⟩, ⟨(some 8), none, (.build [(.str ⟨#[]⟩), .nil] [(0, (1, (.t 4))), (1, (1, (.t 7)))])⟩, ⟨none, none, (.store 2 (.t 2) (.t 8))⟩]) .ret))
theorem k_impl_copyTerm : codeOf Tryz.prog 95 = some ⟨9, c_impl_copyTerm, [(.cell 2 true 2)]⟩ := by kernel_rfl
theorem m_impl_copyTerm : modes 95 = ⟨[], .asis, none, false⟩ := by unfold modes; rfl
def c_spec_l2Own : SC := (.seq (.reg [⟨some 1, none, .boxv 68 2 (.t 0)⟩, ⟨(some 2), none, (.alloc 68 [(.str ⟨#[]⟩), .nil])⟩]) (.seq (.reg [⟨some 5, none, .faddr 0 (.t 1)⟩, ⟨some 6, none, .load false 1 (.t 5)⟩, ⟨(some 7), none, (.build [(.str ⟨#[]⟩), .nil] [(0, (1, (.t 6)))])⟩, ⟨(some 3), none, (.alloc 68 [(.str ⟨#[]⟩), .nil])⟩, ⟨none, none, (.store 2 (.t 3) (.t 7))⟩]) (.seq (.seq (.reg [⟨some 4, none, .mv (.c (.int .i64 0))⟩]) (.block 0 (.loop [0, 1, 1, 1, 1, 0, 0, 0, 0, 0, 0, 0, 0, 0, 0, 0, 0, 0, 0, 0, 0, 0, 0, 0, 0, 0, 0] (.seq (.seq (.reg [⟨some 8, none, .mv (.t 4)⟩, ⟨some 9, none, .faddr 1 (.t 1)⟩, ⟨some 10, none, .load false 1 (.t 9)⟩, ⟨some 11, none, .len false (.t 10)⟩, ⟨some 12, none, .bin .lss false (.t 8) (.t 11)⟩]) (.cond (.t 12) .skip (.exit 0))) (.seq (.block 1 (.dreg [[], [0], [], [2], [], [3, 2, 4], [5, 3, 2, 4], [6, 5, 3, 2, 4], [7, 6, 5, 3, 2, 4], [1, 0, 8, 7, 6, 5, 3, 2, 4], [0, 1, 2, 3, 4, 5, 6, 7, 8, 9], [10, 0, 1, 2, 3, 4, 5, 6, 7, 8, 9]] [⟨some 15, none, .faddr 1 (.t 3)⟩, ⟨some 16, none, .load false 1 (.t 15)⟩, ⟨some 17, none, .faddr 1 (.t 1)⟩, ⟨some 18, none, .load false 1 (.t 17)⟩, ⟨some 19, none, .mv (.t 4)⟩, ⟨some 20, none, .iaddr 2 (.t 18) (.t 19)⟩, ⟨some 21, none, .load true 2 (.t 20)⟩, ⟨some 22, none, .call 60 [(.t 21)]⟩, ⟨(some 23), none, (.mkrow 68 2 [(.str ⟨#[]⟩), .nil] 1 [(0, (.t 22))])⟩, ⟨(some 24), none, (.append 68 2 40 [(.str ⟨#[]⟩), .nil] (.t 16) (.t 23))⟩, ⟨some 25, none, .faddr 1 (.t 3)⟩, ⟨none, none, (.store 1 (.t 25) (.t 24))⟩])) (.reg [⟨some 13, none, .mv (.t 4)⟩, ⟨some 14, none, .bin .add false (.t 13) (.c (.int .i64 1))⟩, ⟨some 4, none, .mv (.t 14)⟩])))))) (.seq (.reg [⟨some 26, none, .load true 2 (.t 3)⟩, ⟨none, none, (.store 2 (.t 2) (.t 26))⟩]) .ret))))
theorem k_spec_l2Own : codeOf Tryz.prog 60 = some ⟨27, c_spec_l2Own, [(.cell 2 true 2)]⟩ := by kernel_rfl
theorem m_spec_l2Own : modes 60 = ⟨[], .frz, none, false⟩ := by unfold modes; rfl
set_option maxHeartbeats 1000000 in
theorem copyTerms_of (xs : List Tm) (hl : xs.length ≤ 1099511627776) (h : ∀ x ∈ xs, E 95 [x.sv] [] = some (x.osv, x.obs)) : E 107 [.arr (xs.map Tm.d)] [] = some (.ref 0, [.row 68 2 (xs.map Tm.o)]) := by
  cases xs with
  | nil =>
    refine E_walk k_impl_copyTerms m_impl_copyTerms (of_decide_eq_true rfl) ?_
    simp (disch := omega) only [c_impl_copyTerms, go_sem, go_cond, zA, zB, zC, zD, zE, zF, zG, zH, ↓reduceIte, zI, reduceCtorEq, zJ, zK]
  | cons x0 xs0 =>
  generalize hxs : x0 :: xs0 = xs at *
  have hpos : 0 < xs.length := by rw [← hxs]; simp
  refine E_walk k_impl_copyTerms m_impl_copyTerms (of_decide_eq_true rfl) ?_
  simp (disch := omega) only [c_impl_copyTerms, go_sem, go_cond, zA, zB, zC, zD, zE, zF, zG, zH, ↓reduceIte, zI, reduceCtorEq, zJ, zK]
  refine go_loop (α := Int) (fun a => ⟨slots 26 0 [(3, .ref 0), (12, .arr (xs.map Tm.d)), (13, .int .i64 xs.length), (14, .int .i64 a)], [.row 68 2 (fillR Tm.o [.str ⟨#[]⟩, .ow []] xs a.toNat)]⟩) (fun a => ∃ k : Nat, a = k ∧ k ≤ (xs).length) (fun a => (xs).length - (a).toNat) 0 ⟨0, rfl, Nat.zero_le _⟩ (by simp (disch := omega) only [go_sem, go_cond, zA, zB, zC, zD, zE, zF, zG, zH, ↓reduceIte, zI, reduceCtorEq, zJ, zK, fillR_zero, Int.toNat_zero]) ?_
  rintro i ⟨k, hi, hk⟩
  have hni : i.toNat = k := by omega
  have hni1 : (i + 1).toNat = k + 1 := by omega
  rcases Nat.lt_or_ge k (xs).length with hlt | hge
  · have hg := get_at Tm.d hlt
    rw [Tm.d_eq] at hg
    have hz := fillR_get Tm.o [.str ⟨#[]⟩, .ow []] hlt
    have hc := h xs[k] (List.getElem_mem hlt)
    have hs := fillR_set Tm.o [.str ⟨#[]⟩, .ow []] hlt
    rw [Tm.o_eq] at hs
    simp (disch := omega) only [go_sem, go_cond, zA, zB, zC, zD, zE, zF, zG, zH, ↓reduceIte, zI, reduceCtorEq, zJ, zK, hni, hg, hc, hz, fillR_len, m_impl_copyTerm, Tm.osv, Tm.obs]
    refine ⟨i + 1, ⟨k + 1, by omega, hlt⟩, by omega, ?_⟩
    simp (disch := omega) only [go_sem, go_cond, zA, zB, zC, zD, zE, zF, zG, zH, ↓reduceIte, zI, reduceCtorEq, zJ, zK, hni1, hs]
  · obtain rfl : k = xs.length := by omega
    simp (disch := omega) only [go_sem, go_cond, zA, zB, zC, zD, zE, zF, zG, zH, ↓reduceIte, zI, reduceCtorEq, zJ, zK, hni, fillR_end]
set_option maxHeartbeats 1000000 in
theorem copyTerm_of (x : Tm) (h : E 107 [.arr (x.args.map Tm.d)] [] = some (.ref 0, [.row 68 2 (x.args.map Tm.o)])) : E 95 [x.sv] [] = some (x.osv, x.obs) := by
  refine E_walk k_impl_copyTerm m_impl_copyTerm (of_decide_eq_true rfl) ?_
  simp (disch := omega) only [c_impl_copyTerm, go_sem, go_cond, zA, zB, zC, zD, zE, zF, zG, zH, ↓reduceIte, zI, reduceCtorEq, zJ, zK, h, m_impl_copyTerms]
theorem copyTerm_E (x : Tm) (hn : x.nodes ≤ 1099511627776) : E 95 [x.sv] [] = some (x.osv, x.obs) :=
  copyTerm_of x (copyTerms_of x.args (by have := Tm.nodes_eq x; have := Tm.length_le x.args; omega) fun y hy => copyTerm_E y (by have := Tm.nodes_mem hy; have := Tm.nodes_eq x; omega))
termination_by SizeOf.sizeOf x
decreasing_by exact Tm.lt_of_mem hy
def finQ (res : RM) (n0 : Nat) (rs : List RX) (Q : SV × List Ob → Prop) (x : X) (st : St) : Prop := ∃ out, finK res n0 rs out x st ∧ Q out
theorem exq {α : Type} {a : α} {Q : α → Prop} : (∃ out, some a = some out ∧ Q out) = Q a := propext ⟨fun ⟨o, h, q⟩ => by obtain rfl := Option.some.inj h; exact q, fun q => ⟨a, rfl, q⟩⟩
theorem finQ_r {res : RM} {n0 : Nat} {rs : List RX} {Q : SV × List Ob → Prop} {sl : List SV} {ob : List Ob} : finQ res n0 rs Q .ret ⟨sl, ob⟩ = ∃ out, resF1 res n0 ob (resV ⟨sl, ob⟩ rs) = some out ∧ Q out := rfl
theorem finQ_n {res : RM} {n0 : Nat} {rs : List RX} {Q : SV × List Ob → Prop} {sl : List SV} {ob : List Ob} : finQ res n0 rs Q .normal ⟨sl, ob⟩ = ∃ out, resF1 res n0 ob (resV ⟨sl, ob⟩ rs) = some out ∧ Q out := rfl
attribute [go_sem] finQ_r finQ_n exq
def Tm.osh (x : Tm) : List OT := [.str x.name, .sh (x.args.map Tm.d)]
theorem Tm.osh_eq (x : Tm) : x.osh = [.str x.name, .sh (x.args.map Tm.d)] := rfl
theorem Tm.osh_full : ∀ xs : List Tm, OT.fullss (xs.map Tm.osh) = true
  | [] => rfl
  | x :: xs => by rw [List.map_cons, Tm.osh_eq]; simp [OT.fullss, OT.fulls, OT.full, Tm.osh_full xs]
theorem Tm.osh_er : ∀ xs : List Tm, OT.erss (xs.map Tm.osh) = xs.map Tm.d
  | [] => rfl
  | x :: xs => by rw [List.map_cons, List.map_cons, Tm.osh_eq, Tm.d_eq]; simp [OT.erss, OT.ers, OT.er, Tm.osh_er xs]
theorem map_snoc {α β : Type} (f : α → β) {xs : List α} {k : Nat} (h : k < xs.length) : (xs.take k).map f ++ [f xs[k]] = (xs.take (k + 1)).map f := by
  rw [List.take_succ_eq_append_getElem h, List.map_append]; rfl
end Go.Proofs.YtibdknkacmimgaaGreat
