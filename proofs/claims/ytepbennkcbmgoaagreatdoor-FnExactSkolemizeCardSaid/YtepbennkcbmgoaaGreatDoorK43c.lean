/-
  This text holds, one behind the other: This text turns contracts of the kit's form into contracts by shadows, and holds small laws of lists. No condition.
  This text proves what the laws' text of a mark is. Condition: the number is from 1 to 2^40.
  This text proves what the functions on names compute: variables, symbols, bytes. Condition: a name has at most the greatest length.
  This text proves what the functions on symbols compute, the program's and the reference's. Condition: a name has at most the greatest length.
  This text proves what the reference's functions on names compute. Condition: a name has at most the greatest length.
  This text holds what the sorts of rows have in common: a row whose elements are put in another order; the order of bytes. No condition.
  This text lays a contract of the library at the seat: which functions and types of the program are those that it speaks of. No condition.
  This text tells what sorting a row of the call's own does: the library's sort by a comparison of keys. No condition.
  This text holds the order of terms and of literals, in plain Lean: it is total. No condition.
  This text says how the records lie in memory of the call's own. No condition.
  This text lays a contract of the library at the seat: which functions and types of the program are those that it speaks of. No condition.
  This text tells what sorting a row of literals of the call's own does: the library's sort by a comparison. No condition.
  This text walks the library's CompactFunc at rows of three cells. No condition.
  This text tells what putting equal neighbours of a row of literals together does, and that behind a sort it gives the one list without repeats. No condition.
  This text tells what the library's slices.Clone and slices.Grow do at literals: a row of the call's own. No condition.
  This text walks the library's slices.Delete at literals, one element taken out. No condition.
  This text lays a contract of the library at the seat: which functions and types of the program are those that it speaks of. No condition.
  This text tells what the library's slices.Clone answers, at names and at numbers: a row of the call's own. No condition.
  This text holds how a name is put at its place in an ascending list. No condition.
  This text tells what a function does to a row that it is handed and gives up for a new one; so putting a name at its place in a list of the call's own, told by its answers of two kinds. No condition.
  This text lays a contract of the library at the seat: which functions and types of the program are those that it speaks of. No condition.
  This text tells what sorting a row of strings of the call's own does. No condition.
  This text lays a contract of the library at the seat: which functions and types of the program are those that it speaks of. No condition.
  This text tells what putting equal neighbours of a row of strings together does. No condition.
  This text tells what the library's slices.Grow does at names and at clauses: a row of the call's own. No condition.
  This text lays a contract of the library at the seat: which functions and types of the program are those that it speaks of. No condition.
  This text tells the engine what strconv.Itoa answers: the decimal numeral. No condition.
  This text gives, for the seat's program, the steps by which code is run as a function, and the rule for loops. No condition.
  This text holds small laws for runs of code as functions. No condition.
  This text holds plain laws of maps: filling them entry by entry, their entries in some order. No condition.
  This text holds plain laws of terms: sizes, depths, names, validity. No condition.
  This text holds the plain laws of applying a substitution to a term. No condition.
  This text holds plain laws of numerals: no two numbers have the same; numbered names, the next one that is not taken. No condition.
  This text tells what the functions of terms answer in both packages: sizes, depths. No condition.
  This text tells what the functions of terms answer in both packages: depths, names. No condition.
  This text tells what the functions of terms answer in both packages: names, validity. No condition.
-/
import Derived.Test.YtepbennkcbmgoaaGreatDoorK43a
import Derived.Test.YtepbennkcbmgoaaGreatDoorK43b
import Derived.Laws.IdiomStrings
import Derived.Shelf.GgSortFunc.InsertionK
import Derived.Shelf.Sort.Plain
import Derived.Sort.EncStr
import Derived.Shelf.SlLaysF0
import Derived.Test.YtepbennkcbmgoaaGreatDoorChecked
import Derived.Shelf.SlSortCmp.NoneTotal
import Derived.Lib.QuietBelow
import Derived.Deep.LoopGhost
import Derived.Lib.SliceRun
import Derived.Shelf.Abstract
import Derived.Shelf.Spec.SlicesGrow
import Derived.Shelf.RegionOpenPlain
import Derived.Deep.RegionLaw
import Derived.Shelf.Lays2
import Derived.Shelf.Slices.Clone
import Derived.Shelf.Lays
import Derived.Shelf.Slices.In.SortNone
import Derived.Shelf.Slices.CompactS
import Derived.Shelf.LaysM
import Derived.Shelf.Strconv.Itoa3
set_option maxHeartbeats 16000000
open List renaming mem_cons → zA, map_cons → zD, length_map → zF, eq_nil_of_length_eq_zero → zK, getElem_mem → zL, getElem_map → zM, getElem?_eq_getElem → zN, getElem_cons_zero → zV, drop_eq_getElem_cons → zW, length_cons → zY, getD_eq_getElem?_getD → zZ, drop_eq_nil_of_le → z7, getElem_toArray → yA, drop_zero → yB, size_toArray → yE, toArray → yG, finRange → yH, range → yI, mem_map → yK, pairwise_cons → yO, length_append → yP, getElem_cons_succ → yQ, mem_range → yR, length_filter_le → yT, getElem_inj → yU, length_nil → yX, map_append → yZ, mergeSort_perm → y4, take_succ_cons → y5, drop_succ_cons → y6, getElem_of_mem → y7, getElem?_map → y9, getElem_append_left → xA, take_zero → xC, replicate → xD, drop_nil → xE, any_cons → xF
open Prod.mk renaming inj → zB, injEq → zJ
open Option.some renaming inj → zC, injEq → zE
open Bool renaming and_self → zG, and_true → zR, and_eq_true → zS, or_eq_false_iff → yV, or_eq_true → yY
open Array renaming getD_eq_getD_getElem? → zH, getElem?_eq_getElem → zI, getElem?_eq_some_iff → zQ, getElem?_setIfInBounds → yC, getElem?_modify → yD, getElem?_mapIdx → yS, size_push → xB
open Nat renaming lt_of_lt_of_le → zO, le_refl → zP, zero_le → zT, zero_add → zU, eq_zero_or_pos → zX, add_zero → z6, lt_or_ge → yF, mul_le_mul_right → yM, mul_one → yW
open Option renaming getD_some → z8, isSome_none → yJ, map_some → yN
open List.cons renaming injEq → yL
open Int renaming toNat_natCast → y8
set_option maxRecDepth 100000
set_option linter.unusedSimpArgs false
set_option linter.unusedVariables false
set_option linter.unusedSectionVars false
namespace Go.Proofs.YtepbennkcbmgoaaGreatDoor
open Go.RowKit
instance flagNo:Flag:=⟨False⟩
abbrev Oe:Flag:=⟨True⟩
abbrev FunD (P:Program) (f:FuncId) (xs:List SV) (ob:List Ob) (r:SV) (ob':List Ob):Prop:=@Fun Oe P f xs ob r ob'
theorem Fun.Vy {f:FuncId} {args:List SV} {r:SV} {rv:Value} (hr:∀ (w:World) (I:Nat→Prop) (V:Nat→Option Value),RepV w I V r rv)
  (h:∀ (w:World) (I:Nat→Prop) (V:Nat→Option Value) (vs:List Value),RepVs w I V args vs→Calls Tryz.prog f vs.toArray w (Ret w rv)):Fun Tryz.prog f args [] r []:=by
 intro w I V B vs hwf hvs
 refine (h w I V vs hvs).mono ?_
 rintro e w' ⟨rfl,hb⟩
 refine ⟨rv,I,V,B,rfl,hr _ _ _,⟨⟨hb.os,⟨hb.tape,fun h=>False.elim h⟩,hb.output,hb.size,fun b hlt _=>hb.block b hlt⟩,fun _ h=>h,fun _ h=>.inl h,VLe.refl _,?_,fun g b hl=>by simp [Aq,Ob.live] at hl⟩⟩
 exact ⟨fun b hb'=>zO (hwf.ilt b hb') hb.size,fun g hl=>by simp [Aq,Ob.live] at hl,fun g b hl=>by simp [Aq,Ob.live] at hl,fun g b hl=>by simp [Aq,Ob.live] at hl,fun g g' b hl=>by simp [Aq,Ob.live] at hl,fun g hf=>hwf.fr g rfl,hwf.gl.keep ⟨hb.size,fun b _ hlt=>hb.block b hlt⟩ fun _ h=>h⟩
theorem Fun.of_same {f:FuncId} {args:List SV} {r:SV} {rv:Value} (hr:∀ (w:World) (I:Nat→Prop) (V:Nat→Option Value),RepV w I V r rv)
  (h:∀ (w:World) (I:Nat→Prop) (V:Nat→Option Value) (vs:List Value),RepVs w I V args vs→Calls Tryz.prog f vs.toArray w (Same w rv)):Fun Tryz.prog f args [] r [] :=
 Fun.Vy hr fun w I V vs hvs=>Same.ret (h w I V vs hvs)
section
variable {w:World} {I:Nat→Prop} {V:Nat→Option Value} {vs:List Value}
theorem DF (h:RepVs w I V [] vs):vs=[]:=by simpa [RepVs] using h
theorem A4 {x:SV} {xs:List SV} (h:RepVs w I V (x :: xs) vs):∃ v r,vs=v :: r∧RepV w I V x v∧RepVs w I V xs r:=by simpa only [RepVs] using h
theorem Of {s:ByteArray} {v:Value} (h:RepV w I V (.str s) v):v=.string s∧s.size≤9223372036854775807:=by simpa only [RepV] using h
theorem Xu {k:IntKind} {n:Int} {v:Value} (h:RepV w I V (.int k n) v):v=.int k n:=by simpa only [RepV] using h
end
section
variable {w:World} {I:Nat→Prop} {V:Nat→Option Value}
end
theorem Cp (xs:List ByteArray):OT.erss (xs.map fun s=>[OT.str s])=xs.map fun s=>[D.str s]:=by
 induction xs with
 | nil=>rfl
 | cons x r ih=>simp only [zD,OT.erss,OT.ers,OT.er,ih]
theorem QaI (xs:List Int):OT.erss (xs.map fun s=>[OT.int s])=xs.map fun s=>[D.int s]:=by
 induction xs with
 | nil=>rfl
 | cons x r ih=>simp only [zD,OT.erss,OT.ers,OT.er,ih]
theorem Xv (xs:List ByteArray):OT.B0 (xs.map fun s=>[OT.str s])=true:=by
 induction xs with
 | nil=>rfl
 | cons x r ih=>simp only [zD,OT.B0,OT.CP,OT.noSh,ih,zG]
theorem QaJ (xs:List Int):OT.B0 (xs.map fun s=>[OT.int s])=true:=by
 induction xs with
 | nil=>rfl
 | cons x r ih=>simp only [zD,OT.B0,OT.CP,OT.noSh,ih,zG]
def szR (left:Int) (n:Nat):Int:=if (n:Int)≤left then left-n else -1
def mkT (k:Nat) (acc:List UInt8):List UInt8:=if h:k=0 then acc else mkT (k / 10) (UInt8.ofNat (48+k % 10) :: acc)
termination_by k
decreasing_by omega
def DG (k:Int):ByteArray:=⟨(109 :: mkT k.toNat []).toArray⟩
theorem QU (a b:Array UInt8):(⟨a⟩++⟨b⟩:ByteArray)=⟨a++b⟩:=by apply ByteArray.ext; simp
theorem QaK (k:Nat) (acc:List UInt8):(mkT k acc).length≤acc.length+k:=by
  induction k using Nat.strongRecOn generalizing acc with
  | _ k ih =>
    unfold mkT
    split
    · omega
    · have:=ih (k / 10) (by omega) (UInt8.ofNat (48+k % 10) :: acc)
      simp only [zY] at this
      omega
theorem Vz {k:Int} (h:0≤k) (h1:k≤1099511627776):(DG k).size≤9223372036854775807:=by
 have:=QaK k.toNat []
 show (109 :: mkT k.toNat []).toArray.size≤_
 simp only [yE,zY,yX] at *
 omega
theorem RQ (K:Nat) (w:World) (h1:1≤K) (h2:(K:Int)≤1099511627776):Calls Tryz.prog 63 #[.int .i64 (K:Int)] w (Ret w (.string (DG K))):=by
  go_enter Tryz.func63,Tryz.ntmps63
  go_wp2
  go_loopw [0,3] (fun n s wr=>∃ (k:Nat) (acc:List UInt8),n=.int .i64 k∧s=.string ⟨acc.toArray⟩∧acc.length+k≤K∧mkT k acc=mkT K []∧Below w.heap.size w wr) (fun n _ _=>(intOf n).toNat)
  case atStart=>exact ⟨K,[],rfl,rfl,by simp,rfl,Below.refl _ _⟩
  case round =>
    obtain ⟨k,acc,rfl,rfl,hle,hok,hbw⟩:=hrel
    have hzw:=hbw.size
    have Hok:=Lib.hid hok
    clear hok
    by_cases hlt:k=0
    · subst hlt
      go_wp2_with fail
      go_ret
      refine Ret.bel ?_ hbw
      have h0:=Hok.out
      rw [mkT,dif_pos rfl] at h0
      unfold DG
      rw [y8,← h0]
      show Value.string (⟨#[109]⟩++⟨acc.toArray⟩)=_
      rw [QU]
      simp
    · have hk0:(0:Int)<k:=by omega
      have hr:(wr.alloc (.cells #[.int .u8 (48+(k:Int) % 10)] 5)).cell? ⟨wr.heap.size,0,none⟩=some (.int .u8 (48+(k:Int) % 10)):=by rw [World.cell?_alloc_at _ _ _ _ rfl]; rfl
      have hcv:=run_convert_bytes_back (P:=Tryz.prog) (wr.alloc (.cells #[.int .u8 (48+(k:Int) % 10)] 5)) 159 9 5 ⟨wr.heap.size,0,none⟩ 1 [UInt8.ofNat (48+k % 10)] Tryz.underlying159 Tryz.underlying5 Tryz.underlying9 (fun j hj=>by
        obtain rfl:j=0:=by simpa using hj
        rw [show (⟨wr.heap.size,0,none⟩:Addr).add 0=⟨wr.heap.size,0,none⟩ from rfl,hr]
        have:(UInt8.ofNat (48+k % 10)).toNat=48+k % 10:=by rw [UInt8.toNat_ofNat']; omega
        simp only [zV,this]
        push_cast
        rfl)
      simp only [zY,yX,zU] at hcv
      clear hr
      go_wp2_with fail
      refine ⟨⟨k / 10,UInt8.ofNat (48+k % 10) :: acc,by go_num,?_,?_,?_,(by (repeat' first | (with_reducible exact Below.refl _ _) | (with_reducible refine Below.setCell ?_ ?_ _) | (with_reducible refine Below.alloc ?_ ?_ _) | (with_reducible refine Below.Qbv ?_ _) | (with_reducible refine Below.via ?_ (by assumption) ?_) | (with_reducible exact zP _) | (simp; done) | (simp; omega) | omega))⟩,?_⟩
      · rw [QU]; simp
      · simp only [zY]; omega
      · rw [←Hok.out,mkT.eq_def k acc,dif_neg hlt]
      · simp only [intOf]; omega
def Qb (b:Int):Bool:=decide (97≤b)&&decide (b≤122)
def QaL (b:Int):Bool:=decide (48≤b)&&decide (b≤57)
def NH (b:Int):Bool:=decide (65≤b)&&decide (b≤90)
def inB (n lo hi:Int):Bool:=decide (lo≤n)&&decide (n≤hi)
theorem KJ (n lo hi:Int) (w:World) :
  Calls Tryz.prog 205 #[.int .i64 n,.int .i64 lo,.int .i64 hi] w (Same w (.bool (inB n lo hi))):=by
 by_cases h1:lo≤n <;> by_cases h2:n≤hi
 all_goals
  go_enter Tryz.func205,Tryz.ntmps205
  go_wp2
  go_ret
  exact Same.mk' _ (by simp [inB,h1,h2])
theorem IY (n lo hi:Int) (w:World) :
  Calls Tryz.prog 198 #[.int .i64 n,.int .i64 lo,.int .i64 hi] w (Same w (.bool (inB n lo hi))):=by
 by_cases h1:lo≤n <;> by_cases h2:n≤hi
 all_goals
  go_enter Tryz.func198,Tryz.ntmps198
  go_wp2
  go_ret
  exact Same.mk' _ (by simp [inB,h1,h2])
theorem Nt (n:Int) (w:World):Calls Tryz.prog 241 #[.int .u8 n] w (Same w (.bool (Qb n))):=by
 by_cases h1:97≤n <;> by_cases h2:n≤122
 all_goals
  go_enter Tryz.func241,Tryz.ntmps241
  go_wp2
  go_ret
  exact Same.mk' _ (by simp [Qb,h1,h2])
theorem Nu (n:Int) (w:World):Calls Tryz.prog 242 #[.int .u8 n] w (Same w (.bool (QaL n))):=by
 by_cases h1:48≤n <;> by_cases h2:n≤57
 all_goals
  go_enter Tryz.func242,Tryz.ntmps242
  go_wp2
  go_ret
  exact Same.mk' _ (by simp [QaL,h1,h2])
theorem TI (n:Int) (w:World):Calls Tryz.prog 240 #[.int .u8 n] w (Same w (.bool (NH n))):=by
 by_cases h1:65≤n <;> by_cases h2:n≤90
 all_goals
  go_enter Tryz.func240,Tryz.ntmps240
  go_wp2
  go_ret
  exact Same.mk' _ (by simp [NH,h1,h2])
def Ig (n:Int):Bool:=Qb n || QaL n
theorem Nv (n:Int) (w:World):Calls Tryz.prog 262 #[.int .u8 n] w (Same w (.bool (Ig n))):=by
 by_cases h1:97≤n <;> by_cases h2:n≤122 <;> by_cases h3:48≤n <;> by_cases h4:n≤57 <;> first | (exfalso; omega) | skip
 all_goals
  go_enter Tryz.func262,Tryz.ntmps262
  go_wp2
  go_ret
  exact Same.mk' _ (by simp [Ig,Qb,QaL,h1,h2,h3,h4])
def FT (s:ByteArray) (k:Nat):Int:=((s.toList.getD k 0).toNat:Int)
theorem EF {s:ByteArray} {k:Nat} (h:k<s.size):(s[k].toNat:Int)=FT s k:=by
 have h':k<s.data.toList.length:=h
 unfold FT
 rw [ByteArray.toList_eq,zZ,zN h']
 rfl
def Ei (p:Nat→Int→Bool) (s:ByteArray) (k:Nat):Bool:=(yI k).all fun j=>p j (FT s j)
theorem FU {p:Nat→Int→Bool} {s:ByteArray} {k:Nat}:Ei p s (k+1)=(Ei p s k&&p k (FT s k)):=by
 unfold Ei
 rw [List.range_succ,List.all_append]
 simp
theorem Ih {p:Nat→Int→Bool} {s:ByteArray} {k:Nat} (h:Ei p s k=true) (hk:p k (FT s k)=true):Ei p s (k+1)=true:=by
 rw [FU,h,hk]; rfl
theorem V3 {p:Nat→Int→Bool} {s:ByteArray} {k n:Nat} (h:Ei p s k=false) (hn:k≤n):Ei p s n=false:=by
  induction n with
  | zero =>
            have:k=0:=by omega
            subst this; exact h
  | succ n ih =>
    by_cases hk:k=n+1
    · subst hk; exact h
    · rw [FU,ih (by omega)]; rfl
theorem DX {p:Nat→Int→Bool} {s:ByteArray} {k:Nat} (hk:k<s.size) (h:p k (FT s k)=false):Ei p s s.size=false :=
 V3 (k:=k+1) (by rw [FU,h]; simp) (by omega)
def Iz (k:Nat) (b:Int):Bool:=(k != 0 || Qb b)&&(Ig b || b == 95)
def H3 (k:Nat) (b:Int):Bool:=(k != 0 || NH b)&&(k == 0 || Ig b)
def words:List (List UInt8):=[[116,114,117,101],[102,97,108,115,101],[116,114,117,116,104],[98,111,116,104],[101,105,116,104,101,114],[105,102],[97,108,108],[115,111,109,101]]
def Zn (s:ByteArray):Bool:=YG (fun k=>s.toList == words.getD k []) 8
def Dd (s:ByteArray):Bool:=Ei Iz s s.size&&inB s.size 1 6&&!Zn s
def AO (s:ByteArray):Bool:=Ei H3 s s.size&&inB s.size 1 4
theorem OU (s:ByteArray) (w:World) (hs:s.size≤9223372036854775807):Calls Tryz.prog 177 #[.string s] w (Same w (.bool (AO s))):=by
  go_enter Tryz.func177,Tryz.ntmps177
  go_wp2
  go_loopw [6] (fun i wr=>Cnt w s.size (fun k=>Ei H3 s k=true) i wr) (fun i _=>s.size-(intOf i).toNat)
  case atStart=>exact ⟨0,zT _,rfl,rfl,rfl⟩
  case round =>
    obtain ⟨k,hk,rfl,hok,rfl⟩:=hrel
    have Hok:=Lib.hid hok
    clear hok
    by_cases hlt:k<s.size
    · have Hb:=Lib.hid (EF hlt)
      rcases zX k with rfl | hpos
      all_goals
        go_wp2_with (first
          | (go_at_call 241; refine (Nt _ _).mono ?_; rintro e w' ⟨rfl,rfl⟩)
          | (go_at_call 240; refine (TI _ _).mono ?_; rintro e w' ⟨rfl,rfl⟩)
          | (go_at_call 242; refine (Nu _ _).mono ?_; rintro e w' ⟨rfl,rfl⟩))
        all_goals first
          | (go_ret
             refine Same.mk' _ ?_
             unfold AO
             rw [DX hlt (by rw [←Hb.out]; simp_all [H3,Ig] <;> omega)]
             rfl)
          | (go_roundw
             case rel=>exact ⟨_,hlt,by go_num,Ih Hok.out (by rw [←Hb.out]; simp_all [H3,Ig] <;> omega),rfl⟩
             case measure=>first | exact II hlt | (simp [intOf]; omega))
    · obtain rfl:k=s.size:=by omega
      go_wp2_with (first
        | (go_at_call 205; refine (KJ _ _ _ _).mono ?_; rintro e w' ⟨rfl,rfl⟩))
      go_ret
      exact Same.mk' _ (by unfold AO; rw [Hok.out]; rfl)
theorem V4 (b n c:Nat) (f:Nat→ByteArray) (x:ByteArray) (w:World) (hn:n≤9223372036854775807)
   (hc:∀ k,k<n→w.cell? ⟨b,k,none⟩=some (.string (f k))):Calls Tryz.prog 259 #[.slice (some ⟨b,0,none⟩) n c,.string x] w (Same w (.int .i64 (ST (fun k=>x.toList == (f k).toList) n))):=by
  go_enter Tryz.func259,Tryz.ntmps259
  go_wp2
  go_loopw [8] (fun i wr=>Cnt w n (fun k=>∀ j,j<k→(x.toList == (f j).toList)=false) i wr) (fun i _=>n-(intOf i).toNat)
  case atStart=>exact ⟨0,zT _,rfl,fun j hj=>absurd hj (by omega),rfl⟩
  case round =>
    obtain ⟨k,hk,rfl,hok,rfl⟩:=hrel
    have Hok:=Lib.hid hok
    clear hok
    by_cases hlt:k<n
    · have hck:=hc k (by omega)
      go_wp2_with fail
      · go_ret
        exact Same.mk' _ (by rw [SU hlt Hok.out (by assumption)]; rfl)
      · go_roundw
        case rel=>exact ⟨_,hlt,by go_num,SW Hok.out (by assumption),rfl⟩
        case measure=>exact II hlt
    · obtain rfl:k=n:=by omega
      go_wp2_with fail
      go_ret
      exact Same.mk' _ (by rw [Q0 Hok.out]; rfl)
theorem Qc (b n c:Nat) (f:Nat→ByteArray) (x:ByteArray) (w:World) (hn:n≤9223372036854775807)
  (hc:∀ k,k<n→w.cell? ⟨b,k,none⟩=some (.string (f k))):Calls Tryz.prog 185 #[.slice (some ⟨b,0,none⟩) n c,.string x] w (Same w (.bool (YG (fun k=>x.toList == (f k).toList) n))):=by
 have Hc:=Lib.hid hc
 clear hc
 go_enter Tryz.func185,Tryz.ntmps185
 go_wp2_with (first
  |(go_at_call 259; refine (V4 _ _ _ f _ _ hn Hc.out).mono ?_; rintro e w' ⟨rfl,rfl⟩))
 go_ret
 exact Same.mk' _ (by rw [←Qas]; rfl)
theorem RR (w:World):Calls Tryz.prog 258 #[] w fun e w'=>e=.returned (.slice (some ⟨w.heap.size,0,none⟩) 8 8)∧w'=w.alloc (.cells ((words.map fun l=>Value.string ⟨l.toArray⟩).toArray) 9):=by
 go_enter Tryz.func258,Tryz.ntmps258
 go_wp2
 go_ret
 exact ⟨rfl,rfl⟩
theorem TJ (w:World):∀ k,k<8→(w.alloc (.cells ((words.map fun l=>Value.string ⟨l.toArray⟩).toArray) 9)).cell? ⟨w.heap.size,k,none⟩=some (.string ⟨(words.getD k []).toArray⟩):=by
 intro k hk
 have hh:(w.alloc (.cells ((words.map fun l=>Value.string ⟨l.toArray⟩).toArray) 9)).heap[w.heap.size]?=some (.cells ((words.map fun l=>Value.string ⟨l.toArray⟩).toArray) 9):=heap_alloc_new w _
 unfold World.cell?
 rw [hh]
 match k,hk with
 | 0,_=>rfl
 | 1,_=>rfl
 | 2,_=>rfl
 | 3,_=>rfl
 | 4,_=>rfl
 | 5,_=>rfl
 | 6,_=>rfl
 | 7,_=>rfl
theorem RS (s:ByteArray) (w:World) (hs:s.size≤9223372036854775807):Calls Tryz.prog 184 #[.string s] w (Ret w (.bool (Dd s))):=by
  go_enter Tryz.func184,Tryz.ntmps184
  go_wp2
  go_loopw [6] (fun i wr=>Cnt w s.size (fun k=>Ei Iz s k=true) i wr) (fun i _=>s.size-(intOf i).toNat)
  case atStart=>exact ⟨0,zT _,rfl,rfl,rfl⟩
  case round =>
    obtain ⟨k,hk,rfl,hok,rfl⟩:=hrel
    have Hok:=Lib.hid hok
    clear hok
    by_cases hlt:k<s.size
    · have Hb:=Lib.hid (EF hlt)
      rcases zX k with rfl | hpos
      all_goals
        go_wp2_with (first
          | (go_at_call 241; refine (Nt _ _).mono ?_; rintro e w' ⟨rfl,rfl⟩)
          | (go_at_call 242; refine (Nu _ _).mono ?_; rintro e w' ⟨rfl,rfl⟩))
        all_goals first
          | (go_ret
             refine Ret.same _ ?_
             unfold Dd
             rw [DX hlt (by rw [←Hb.out]; simp_all [Iz,Ig] <;> omega)]
             rfl)
          | (go_roundw
             case rel=>exact ⟨_,hlt,by go_num,Ih Hok.out (by rw [←Hb.out]; simp_all [Iz,Ig] <;> omega),rfl⟩
             case measure=>first | exact II hlt | (simp [intOf]; omega))
    · obtain rfl:k=s.size:=by omega
      cases hin:inB s.size 1 6
      · go_wp2_with (first
          | (go_at_call 205; refine (KJ _ _ _ _).mono ?_; rintro e w' ⟨rfl,rfl⟩))
        go_ret
        exact Ret.same _ (by unfold Dd; rw [hin]; simp)
      · go_wp2_with (first
          | (go_at_call 205; refine (KJ _ _ _ _).mono ?_; rintro e w' ⟨rfl,rfl⟩)
          | (go_at_call 258; refine (RR _).mono ?_; rintro e w' ⟨rfl,rfl⟩)
          | (go_at_call 185; refine (Qc _ _ _ (fun k=>⟨(words.getD k []).toArray⟩) _ _ (by omega) (TJ w)).mono ?_; rintro e w' ⟨rfl,rfl⟩))
        go_ret
        refine Ret.bel ?_ ((Below.refl _ _).alloc (zP _) _)
        unfold Dd Zn
        rw [hin,Hok.out]
        simp
theorem Yf (s:ByteArray) (w:World) (hs:s.size≤9223372036854775807):Calls Tryz.prog 191 #[.string s] w (Same w (.bool (AO s))):=by
  cases hin:inB s.size 1 4
  · go_enter Tryz.func191,Tryz.ntmps191
    go_wp2_with (first
      | (go_at_call 198; refine (IY _ _ _ _).mono ?_; rintro e w' ⟨rfl,rfl⟩))
    go_ret
    exact Same.mk' _ (by unfold AO; rw [hin]; simp)
  · have hpos:0<s.size:=by simp [inB] at hin; omega
    have Hb:=Lib.hid (EF hpos)
    go_enter Tryz.func191,Tryz.ntmps191
    go_wp2_with (first
      | (go_at_call 198; refine (IY _ _ _ _).mono ?_; rintro e w' ⟨rfl,rfl⟩))
    all_goals first
      | (go_ret
         refine Same.mk' _ ?_
         unfold AO
         rw [DX hpos (by rw [←Hb.out]; simp [H3,NH]; omega)]
         rfl)
      | skip
    · go_loopw [3] (fun i wr=>Cnt w s.size (fun k=>1≤k∧Ei H3 s k=true) i wr) (fun i _=>s.size-(intOf i).toNat)
      case atStart=>exact ⟨1,hpos,rfl,⟨zP _,by rw [FU,← Hb.out]; simp [Ei,H3,NH]; omega⟩,rfl⟩
      case round =>
        obtain ⟨k,hk,rfl,⟨hk1,hok⟩,rfl⟩:=hrel
        have Hok:=Lib.hid hok
        clear hok
        by_cases hlt:k<s.size
        · have Hbk:=Lib.hid (EF hlt)
          have hk0:k≠0:=by omega
          go_wp2_with (first
            | (go_at_call 262; refine (Nv _ _).mono ?_; rintro e w' ⟨rfl,rfl⟩))
          all_goals first
            | (go_ret
               refine Same.mk' _ ?_
               unfold AO
               rw [DX hlt (by rw [←Hbk.out]; simp_all [H3] <;> omega)]
               rfl)
            | (go_roundw
               case rel=>exact ⟨_,hlt,by go_num,⟨by omega,Ih Hok.out (by rw [←Hbk.out]; simp_all [H3] <;> omega)⟩,rfl⟩
               case measure=>first | exact II hlt | (simp [intOf]; omega))
        · obtain rfl:k=s.size:=by omega
          go_wp2_with fail
          go_ret
          exact Same.mk' _ (by unfold AO; rw [Hok.out,hin]; rfl)
theorem Xw (s:ByteArray):Zn s=(s.toList == [116,114,117,101] || s.toList == [102,97,108,115,101] || s.toList == [116,114,117,116,104] || s.toList == [98,111,116,104] || s.toList == [101,105,116,104,101,114] || s.toList == [105,102] || s.toList == [97,108,108] || s.toList == [115,111,109,101]):=by
 unfold Zn YG words
 simp [yI,List.range.loop,Bool.or_assoc]
theorem RT (s:ByteArray) (w:World) (hs:s.size≤9223372036854775807):Calls Tryz.prog 265 #[.string s] w (Same w (.bool (Dd s))):=by
  cases hin:inB s.size 1 6
  · go_enter Tryz.func265,Tryz.ntmps265
    go_wp2_with (first
      | (go_at_call 198; refine (IY _ _ _ _).mono ?_; rintro e w' ⟨rfl,rfl⟩))
    go_ret
    exact Same.mk' _ (by unfold Dd; rw [hin]; simp)
  · have hpos:0<s.size:=by simp [inB] at hin; omega
    have Hb:=Lib.hid (EF hpos)
    cases hres:Zn s
    case true =>
      have Hres:=Lib.hid hres
      rw [Xw] at hres
      go_enter Tryz.func265,Tryz.ntmps265
      go_wp2_with (first
        | (go_at_call 198; refine (IY _ _ _ _).mono ?_; rintro e w' ⟨rfl,rfl⟩))
      all_goals first
        | (go_ret
           refine Same.mk' _ ?_
           unfold Dd
           rw [Hres.out]; simp)
        | (exfalso; simp_all; done)
    have Hres:=Lib.hid hres
    rw [Xw] at hres
    simp only [yV] at hres
    obtain ⟨⟨⟨⟨⟨⟨⟨e1,e2⟩,e3⟩,e4⟩,e5⟩,e6⟩,e7⟩,e8⟩:=hres
    go_enter Tryz.func265,Tryz.ntmps265
    go_wp2_with (first
      | (go_at_call 198; refine (IY _ _ _ _).mono ?_; rintro e w' ⟨rfl,rfl⟩))
    all_goals first
      | (go_ret
         refine Same.mk' _ ?_
         unfold Dd
         rw [DX hpos (by rw [←Hb.out]; simp [Iz,Qb]; omega)]; rfl)
      | skip
    go_loopw [3] (fun i wr=>Cnt w s.size (fun k=>1≤k∧Ei Iz s k=true) i wr) (fun i _=>s.size-(intOf i).toNat)
    case atStart=>exact ⟨1,hpos,rfl,⟨zP _,by rw [FU,← Hb.out]; simp [Ei,Iz,Ig,Qb]; omega⟩,rfl⟩
    case round =>
      obtain ⟨k,hk,rfl,⟨hk1,hok⟩,rfl⟩:=hrel
      have Hok:=Lib.hid hok
      clear hok
      by_cases hlt:k<s.size
      · have Hbk:=Lib.hid (EF hlt)
        have hk0:k≠0:=by omega
        go_wp2_with (first
          | (go_at_call 262; refine (Nv _ _).mono ?_; rintro e w' ⟨rfl,rfl⟩))
        all_goals first
          | (go_ret
             refine Same.mk' _ ?_
             unfold Dd
             rw [DX hlt (by rw [←Hbk.out]; simp_all [Iz] <;> omega)]
             rfl)
          | (go_roundw
             case rel=>exact ⟨_,hlt,by go_num,⟨by omega,Ih Hok.out (by rw [←Hbk.out]; simp_all [Iz] <;> omega)⟩,rfl⟩
             case measure=>first | exact II hlt | (simp [intOf]; omega))
      · obtain rfl:k=s.size:=by omega
        go_wp2_with fail
        go_ret
        exact Same.mk' _ (by unfold Dd; rw [Hok.out,hin,Hres.out]; rfl)
end Go.Proofs.YtepbennkcbmgoaaGreatDoor
set_option maxRecDepth 100000
set_option linter.unusedSimpArgs false
set_option linter.unusedVariables false
set_option linter.unusedSectionVars false
namespace Go.Proofs.YtepbennkcbmgoaaGreatDoor
open Go.RowKit Go.Shelf Go.Lib Go.Sort
theorem RU {w w':World} {I:Nat→Prop} {V:Nat→Option Value} {B:Nat→Nat→Prop} {t:TypeId} {sz:Nat} {es es':List (List OT)} {b cap:Nat} {cur cur':Array Value} (Sub:Nat→Nat→Nat→Prop)
  (hwf:Wf w I V B (Aq [.row t sz es])) (hv:V 0=some (.slice (some ⟨b,0,none⟩) es.length cap)) (hn:es'.length=es.length) (hs:B 0 b) (hb:w.heap[b]?=some (.cells cur t (0,0)))
  (h1:es.length≤cap) (h2:cap≤9223372036854775807) (h3:cur.size=cap*sz) (h4:∀ i (h:i<es'.length),es'[i].length=sz) (h5:∀ i j x,Sub i j x→B 0 x∧x≠b)
  (h6:∀ i j i' j' x,Sub i j x→Sub i' j' x→i=i'∧j=j')
  (hos:w'.os=w.os) (htape:TapeOk w w') (hout:w'.output=w.output) (hsz:w.heap.size≤w'.heap.size) (hblk:∀ x,x<w.heap.size→x≠b→w'.heap[x]?=w.heap[x]?)
  (hb':w'.heap[b]?=some (.cells cur' t (0,0))) (hcs:cur'.size=cur.size)
  (h7:∀ i j (h:i<es'.length) (h':j<es'[i].length),ORep w' I (Sub i j) (es'[i][j]) (cur'.getD (i*sz+j) undef)) :
  FunPost w I V B [.row t sz es] [.row t sz es'] w' I V B:=by
 have g0:∀ (e:List (List OT)),Aq [Ob.row t sz e] 0=.row t sz e:=fun _=>rfl
 have gS:∀ (e:List (List OT)) (g:Nat),Aq [Ob.row t sz e] (g+1)=.free:=fun _ _=>rfl
 have lv:∀ (e e':List (List OT)) (g:Nat),(Aq [Ob.row t sz e] g).live→(Aq [Ob.row t sz e'] g).live:=fun e e' g h=>by
  cases g with
  | zero=>trivial
  | succ g=>rw [gS] at h; exact h.elim
 have hbS:∀ x,B 0 x→HB B [Ob.row t sz es] x:=fun x hx=>⟨0,trivial,hx⟩
 refine ⟨⟨hos,htape,hout,hsz,fun x hx hn=>hblk x hx fun e=>hn (hbS x (e▸hs))⟩,fun _ h=>h,fun _ h=>.inl h,VLe.refl _,?_,fun g x hl hx=>.inl ⟨g,lv _ _ g hl,hx⟩⟩
 refine ⟨fun x hx=>zO (hwf.ilt x hx) hsz,fun g hl=>?_,fun g x hl hx=>zO (hwf.lt g x (lv _ _ g hl) hx) hsz,fun g x hl hx=>hwf.dI g x (lv _ _ g hl) hx,fun g g' x hl hl' hx hx'=>hwf.dO g g' x (lv _ _ g hl) (lv _ _ g' hl') hx hx',fun g hf=>?_,hwf.gl.keep ⟨hsz,fun x hx hlt=>hblk x hlt fun e=>hwf.dI 0 x trivial (e▸hs) hx⟩ fun _ h=>h⟩
 ·cases g with
  | zero =>
   refine ⟨_,hv,.inr ⟨b,cap,cur',Sub,by rw [hn],hs,hb',by rw [hn]; exact h1,h2,by rw [hcs]; exact h3,h4,h5,h6,h7⟩⟩
  | succ g=>rw [gS] at hl; exact hl.elim
 ·cases g with
  | zero=>cases hf
  | succ g=>exact hwf.fr (g+1) rfl
theorem H4 {w:World} {I:Nat→Prop} {V:Nat→Option Value} {B:Nat→Nat→Prop} {ob:List Ob} (hwf:Wf w I V B (Aq ob)):FunPost w I V B ob ob w I V B :=
 ⟨⟨rfl,TapeOk.mk' rfl rfl,rfl,zP _,fun _ _ _=>rfl⟩,fun _ h=>h,fun _ h=>.inl h,VLe.refl _,hwf,fun g b hl hb=>.inl ⟨g,hl,hb⟩⟩
theorem QV:∀ x:List UInt8,Op.bytesLess x x=false
 | []=>rfl
 | a :: x=>by simp [Op.bytesLess,QV x]
theorem OV:∀ x y z:List UInt8,Op.bytesLess x y=true→Op.bytesLess y z=true→Op.bytesLess x z=true
  | [],_,[],_,h=>by cases ‹List UInt8› <;> simp [Op.bytesLess] at *
  | [],_,_ :: _,_,_=>rfl
  | _ :: _,[],_,h,_=>by simp [Op.bytesLess] at h
  | _ :: _,_ :: _,[],_,h=>by simp [Op.bytesLess] at h
  | a :: x,b :: y,c :: z,h,k=>by
    simp only [Op.bytesLess,yY,decide_eq_true_eq,zS,beq_iff_eq] at h k ⊢
    rcases h with h | ⟨rfl,h⟩
    · rcases k with k | ⟨rfl,k⟩
      · exact .inl (UInt8.lt_trans h k)
      · exact .inl h
    · rcases k with k | ⟨rfl,k⟩
      · exact .inl k
      · exact .inr ⟨rfl,OV x y z h k⟩
theorem V5:∀ x y:List UInt8,Op.bytesLess x y=false→Op.bytesLess y x=false→x=y
  | [],[],_,_=>rfl
  | [],_ :: _,h,_=>by simp [Op.bytesLess] at h
  | _ :: _,[],_,h=>by simp [Op.bytesLess] at h
  | a :: x,b :: y,h,k=>by
    simp only [Op.bytesLess,yV,decide_eq_false_iff_not] at h k
    have hab:a=b:=by
      have h1:=h.1; have h2:=k.1
      rw [UInt8.lt_iff_toNat_lt] at h1 h2
      exact UInt8.toNat_inj.1 (by omega)
    subst hab
    have h1:Op.bytesLess x y=false:=by simpa using h.2
    have h2:Op.bytesLess y x=false:=by simpa using k.2
    rw [V5 x y h1 h2]
theorem Yg (x y z:List UInt8) (h:Op.bytesLess x y=false) (k:Op.bytesLess y z=false):Op.bytesLess x z=false:=by
 cases hz:Op.bytesLess x z with
 | false=>rfl
 | true =>
  cases hyx:Op.bytesLess y x with
  | true=>rw [OV y x z hyx hz] at k; cases k
  | false=>rw [V5 x y h hyx] at hz; rw [hz] at k; cases k
def cmpL (x y:List UInt8):Int:=if Op.bytesLess x y then -1 else if x == y then 0 else 1
def GY:List OT→ByteArray
 | .str s :: _=>s
 | _=>⟨#[]⟩
def Zo (x y:List OT):Bool:=!Op.bytesLess (GY y).toList (GY x).toList
theorem ORep.oneCell {w:World} {I S:Nat→Prop} {o:OT} {v:Value} (h:ORep w I S o v):v.oneCell'=true:=by
 cases h with
 | int S n=>rfl
 | bool S b=>rfl
 | str S s h=>rfl
 | sh S es v h=>obtain ⟨a,c,rfl,_⟩:=h.slice_form; rfl
 | nil S=>rfl
 | hole S v h=>exact h
 | row S t sz es b cap cur Sub hS hb h1 h2 h3 h4 h5 h6 h7=>rfl
theorem ORep.strV {w:World} {I S:Nat→Prop} {s:ByteArray} {v:Value} (h:ORep w I S (.str s) v):v=.string s:=by cases h; rfl
theorem ORep.owV {w:World} {I S:Nat→Prop} {es:List (List OT)} {v:Value} (h:ORep w I S (.ow es) v):∃ a n c,v=.slice a n c:=by
 cases h with
 | nil=>exact ⟨_,_,_,rfl⟩
 | row=>exact ⟨_,_,_,rfl⟩
theorem Ii {α:Type} [Inhabited α] (enc:α→List Value) (k:Nat) (w:World) (b m:Nat) (dk:Array α) (os:Array Obj) (x:Nat) (hx:x<w.heap.size) :
  (sortWorldK enc k w b 0 m dk os).heap[x]?=if b=x then (w.heap[x]?).map (onCells (putCells id 0 (flatK enc k dk))) else w.heap[x]?:=by
 unfold sortWorldK grow putRowK putRow mapBlock Sort.ahead
 have hx':x<(w.heap.modify b (onCells (putCells id 0 (flatK enc k dk)))).size:=by simpa using hx
 simp only [Array.getElem?_append,Array.size_modify,hx,if_true,yD]
theorem Nw {α:Type} [Inhabited α] (enc:α→List Value) (k:Nat) (w:World) (b m:Nat) (dk:Array α) (os:Array Obj) {cur:Array Value} {t:TypeId} {fr:Nat × Nat} (hb:w.heap[b]?=some (.cells cur t fr)) :
  (sortWorldK enc k w b 0 m dk os).heap[b]?=some (.cells (putCells id 0 (flatK enc k dk) cur) t fr):=by
 rw [Ii enc k w b m dk os b (zQ.1 hb).1,if_pos rfl,hb]
 rfl
theorem Nx {α:Type} [Inhabited α] (enc:α→List Value) (k:Nat) (dk:Array α) (cur:Array Value) {i j:Nat} (hi:i<dk.size) (hj:j<k) (hc:dk.size*k≤cur.size) :
  (putCells id 0 (flatK enc k dk) cur).getD (i*k+j) undef=(enc dk[i]!)[j]!:=by
 have hlt:i*k+j<dk.size*k:=mul_lt hi hj
 have e1:(i*k+j) / k=i:=by rw [Nat.mul_comm,Nat.mul_add_div (by omega),Nat.div_eq_of_lt hj,z6]
 have e2:(i*k+j) % k=j:=by rw [Nat.mul_comm,Nat.mul_add_mod,Nat.mod_eq_of_lt hj]
 have h:=get_flatK enc k dk (i*k+j) hlt
 rw [e1,e2] at h
 have hlt2:i*k+j<cur.size:=zO hlt hc
 simp only [putCells,zH,yS,zI hlt2,yN,z8,zT,true_and,size_flatK,zU,hlt,if_true,Nat.sub_zero,id]
 exact h
end Go.Proofs.YtepbennkcbmgoaaGreatDoor
set_option maxRecDepth 100000
namespace Go.Proofs.YtepbennkcbmgoaaGreatDoor
open Go.Shelf
def so_SortB_ren:Go.Shelf.Ren:=⟨fun | 6=>281 | 15=>182 | 14=>318 | 28=>256 | 29=>257 | 20=>329 | 21=>330 | 22=>331 | 23=>332 | 24=>333 | 25=>334 | 26=>335 | 27=>336 | 46=>349 | 47=>301 | 48=>302 | 49=>350 | 50=>351 | 57=>357 | n=>n,fun | 22=>140 | 24=>227 | 25=>261 | 3=>3 | 39=>184 | 0=>0 | 53=>239 | 55=>241 | 4=>4 | 46=>231 | 45=>230 | 50=>236 | 5=>5 | 9=>9 | 66=>271 | 70=>275 | 76=>286 | 77=>287 | n=>n,fun | n=>n⟩
theorem OW:Go.Proofs.SlLaysF0.n6 Tryz.prog so_SortB_ren:={
 mixed:=by kernel_rfl,
 f6:=⟨Tryz.f281.name,by decide,Tryz.func281.trans (congrArg some (by kernel_rfl))⟩,
 f14:=⟨Tryz.f318.name,by decide,Tryz.func318.trans (congrArg some (by kernel_rfl))⟩,
 f15:=Tryz.func182.trans (congrArg some (by kernel_rfl)),
 f20:=⟨Tryz.f329.name,by decide,Tryz.func329.trans (congrArg some (by kernel_rfl))⟩,
 f21:=⟨Tryz.f330.name,by decide,Tryz.func330.trans (congrArg some (by kernel_rfl))⟩,
 f22:=⟨Tryz.f331.name,by decide,Tryz.func331.trans (congrArg some (by kernel_rfl))⟩,
 f23:=⟨Tryz.f332.name,by decide,Tryz.func332.trans (congrArg some (by kernel_rfl))⟩,
 f24:=⟨Tryz.f333.name,by decide,Tryz.func333.trans (congrArg some (by kernel_rfl))⟩,
 f25:=⟨Tryz.f334.name,by decide,Tryz.func334.trans (congrArg some (by kernel_rfl))⟩,
 f26:=⟨Tryz.f335.name,by decide,Tryz.func335.trans (congrArg some (by kernel_rfl))⟩,
 f27:=⟨Tryz.f336.name,by decide,Tryz.func336.trans (congrArg some (by kernel_rfl))⟩,
 f28:=Tryz.func256.trans (congrArg some (by kernel_rfl)),
 f29:=Tryz.func257.trans (congrArg some (by kernel_rfl)),
 f46:=⟨Tryz.f349.name,by decide,Tryz.func349.trans (congrArg some (by kernel_rfl))⟩,
 f47:=Tryz.func301.trans (congrArg some (by kernel_rfl)),
 f48:=Tryz.func302.trans (congrArg some (by kernel_rfl)),
 f49:=⟨Tryz.f350.name,by decide,Tryz.func350.trans (congrArg some (by kernel_rfl))⟩,
 f50:=⟨Tryz.f351.name,by decide,Tryz.func351.trans (congrArg some (by kernel_rfl))⟩,
 f57:=⟨Tryz.f357.name,by decide,Tryz.func357.trans (congrArg some (by kernel_rfl))⟩,
 t0:=Tryz.underlying0,
 a0:=Tryz.isAgg0,
 z0:=Tryz.sizeOf0,
 v0:=Tryz.zeroValue0,
 t3:=Tryz.underlying3,
 a3:=Tryz.isAgg3,
 z3:=Tryz.sizeOf3,
 v3:=Tryz.zeroValue3,
 t4:=Tryz.underlying4,
 a4:=Tryz.isAgg4,
 z4:=Tryz.sizeOf4,
 v4:=Tryz.zeroValue4,
 t5:=Tryz.underlying5,
 a5:=Tryz.isAgg5,
 z5:=Tryz.sizeOf5,
 v5:=Tryz.zeroValue5,
 t9:=Tryz.underlying9,
 a9:=Tryz.isAgg9,
 z9:=Tryz.sizeOf9,
 v9:=Tryz.zeroValue9,
 t22:=Tryz.underlying140,
 a22:=Tryz.isAgg140,
 z22:=Tryz.sizeOf140,
 v22:=Tryz.zeroValue140,
 t25:=Tryz.underlying261,
 a25:=Tryz.isAgg261,
 z25:=Tryz.sizeOf261,
 v25:=Tryz.zeroValue261,
 t39:=Tryz.underlying184,
 a39:=Tryz.isAgg184,
 z39:=Tryz.sizeOf184,
 v39:=Tryz.zeroValue184,
 t45:=Tryz.underlying230,
 a45:=Tryz.isAgg230,
 z45:=Tryz.sizeOf230,
 v45:=Tryz.zeroValue230,
 t46:=Tryz.underlying231,
 a46:=Tryz.isAgg231,
 z46:=Tryz.sizeOf231,
 v46:=Tryz.zeroValue231,
 t50:=Tryz.underlying236,
 a50:=Tryz.isAgg236,
 z50:=Tryz.sizeOf236,
 v50:=Tryz.zeroValue236,
 t53:=Tryz.underlying239,
 a53:=Tryz.isAgg239,
 z53:=Tryz.sizeOf239,
 v53:=Tryz.zeroValue239,
 t55:=Tryz.underlying241,
 a55:=Tryz.isAgg241,
 z55:=Tryz.sizeOf241,
 v55:=Tryz.zeroValue241,
 t66:=Tryz.underlying271,
 a66:=Tryz.isAgg271,
 z66:=Tryz.sizeOf271,
 v66:=Tryz.zeroValue271,
 t70:=Tryz.underlying275,
 a70:=Tryz.isAgg275,
 z70:=Tryz.sizeOf275,
 v70:=Tryz.zeroValue275,
 t76:=Tryz.underlying286,
 a76:=Tryz.isAgg286,
 z76:=Tryz.sizeOf286,
 v76:=Tryz.zeroValue286,
 t77:=Tryz.underlying287,
 a77:=Tryz.isAgg287,
 z77:=Tryz.sizeOf287,
 v77:=Tryz.zeroValue287 }
end Go.Proofs.YtepbennkcbmgoaaGreatDoor
set_option maxRecDepth 100000
set_option linter.unusedSimpArgs false
set_option linter.unusedVariables false
set_option linter.unusedSectionVars false
namespace Go.Proofs.YtepbennkcbmgoaaGreatDoor
open Go.RowKit Go.Shelf Go.Lib Go.Sort
theorem TK (x:ByteArray) (w:World):Calls Tryz.prog 305 #[.string x] w (Same w (.bool false)):=by
 go_enter Tryz.func305,Tryz.ntmps305
 go_wp2
 go_ret
 exact Same.mk' _ (by simp)
theorem V6 (x y:ByteArray) (w:World):Calls Tryz.prog 283 #[.string x,.string y] w (Same w (.int .i64 (cmpL x.toList y.toList))):=by
  cases h1:Op.bytesLess x.toList y.toList
  · cases h2:(x.toList == y.toList)
    all_goals
      go_enter Tryz.func283,Tryz.ntmps283
      go_wp2_with (first
        | (go_at_call 305; refine (TK _ _).mono ?_; rintro e w' ⟨rfl,rfl⟩))
      go_ret
      exact Same.mk' _ (by unfold cmpL; rw [h1,h2]; rfl)
  · go_enter Tryz.func283,Tryz.ntmps283
    go_wp2_with (first
      | (go_at_call 305; refine (TK _ _).mono ?_; rintro e w' ⟨rfl,rfl⟩))
    go_ret
    exact Same.mk' _ (by unfold cmpL; rw [h1]; rfl)
theorem Qd (s n s' n':ByteArray) (a a':Option Addr) (l c l' c':Nat) (W:World):Calls Tryz.prog 282 #[.agg #[.string s,.string n,.slice a l c],.agg #[.string s',.string n',.slice a' l' c']] W
  fun e w'=>e=.returned (.int .i64 (cmpL s.toList s'.toList))∧∃ q os',w'=Sort.grow (W.drewN q) os':=by
 generalize hr:cmpL s.toList s'.toList=r
 have hcon:∀ W',Calls Tryz.prog 283 #[.string s,.string s'] W' fun e w'=>e=.returned (.int .i64 r)∧w'=W':=fun W'=>(V6 s s' W').mono fun e w' h=>⟨by rw [←hr]; exact h.1,h.2.symm⟩
 clear hr
 go_enter Tryz.func282,Tryz.ntmps282
 go_wp2_with (go_at_call 283; refine (hcon _).mono ?_; rintro e w' ⟨rfl,rfl⟩)
 go_ret
 exact ⟨rfl,0,_,by rw [alloc_eq_grow,alloc_eq_grow,grow_grow]; rfl⟩
def keyed (es:List (List OT)):Prop:=(∀ e∈es,∃ s n us,e=[.str s,.str n,.ow us])∧(es.map GY).Nodup∧es.length≤1099511627776
noncomputable def IZ (xs:List SV) (ob:List Ob):Option (SV × List Ob) :=
 match xs,ob with
 | [.ref 0,.fn f []],[.row t sz es]=>bif dec (f=282∧sz=3∧keyed es) then some (.tup [],[.row t sz (es.mergeSort Zo)]) else none
 | [.nil,.fn f []],[]=>bif dec (f=282) then some (.tup [],[]) else none
 | _,_=>none
theorem Zp (a b:List UInt8):decide (cmpL a b<0)=Op.bytesLess a b:=by
 unfold cmpL
 cases h:Op.bytesLess a b with
 | true=>rfl
 | false =>
  simp only [Bool.false_eq_true,if_false]
  split <;> rfl
theorem L1 (n:Nat) (key:_root_.Fin n→List UInt8) (x y:_root_.Fin n):ltOf (fun x y=>cmpL (key x) (key y)) x y=Op.bytesLess (key x) (key y):=Zp _ _
theorem Qcy (n:Nat) (key:_root_.Fin n→List UInt8):SWO (ltOf fun x y=>cmpL (key x) (key y)):=by
 refine ⟨fun x=>by rw [L1]; exact QV _,fun x y z h k=>?_,fun x y z h k=>?_⟩
 ·rw [L1] at *; exact OV _ _ _ h k
 ·rw [L1] at *; exact Yg _ _ _ h k
theorem Mz {xs:List SV} {ob:List Ob} {r:SV} {ob':List Ob} (h:IZ xs ob=some (r,ob')):Fun Tryz.prog 281 xs ob r ob':=by
  unfold IZ at h
  split at h
  · rename_i f t sz es
    obtain ⟨h1,h2⟩:=Ap h
    obtain ⟨rfl,rfl,hk1,hk2,hk3⟩:=Ao.1 h1
    simp only [zE,zJ] at h2
    obtain ⟨rfl,rfl⟩:=h2
    intro w I V B vs hwf hvs
    obtain ⟨v,q,rfl,hv,hvs⟩:=A4 hvs
    obtain ⟨v2,q,rfl,hv2,hvs⟩:=A4 hvs
    obtain rfl:=DF hvs
    simp only [RepV] at hv hv2
    obtain ⟨vs2,rfl,hv2⟩:=hv2
    simp only [RepVs] at hv2
    subst hv2
    obtain ⟨val,hval,hrow⟩:=hwf.obj 0 trivial
    rw [hv.1] at hval
    obtain rfl:=zC hval
    have hv0:=hv.1
    have hrow:RowR w I (B 0) t 3 es v:=hrow
    rcases zX es.length with h0 | h0
    · have he:es=[]:=zK h0
      subst he
      obtain ⟨a,c,rfl,_⟩:=hrow.form
      have hcon:=AnyF.slices_SortFunc_none OW a c (.func (.func 282) #[] #[]) w
      change Calls Tryz.prog 281 _ _ _ at hcon
      refine hcon.mono ?_
      rintro e w' ⟨rfl,rfl⟩
      rw [List.mergeSort_nil]
      exact ⟨_,I,V,B,rfl,by simp only [RepV,RepVs]; exact ⟨[],rfl,rfl⟩,H4 hwf⟩
    · rcases hrow with ⟨he,_⟩ | ⟨b,cap,cur,Sub,rfl,hs,hb,g1,g2,g3,g4,g5,g6,g7⟩
      · subst he; simp at h0
      have hblt:=(zQ.1 hb).1
      haveI:Inhabited (_root_.Fin es.length):=⟨⟨0,h0⟩⟩
      let cell:Nat→Nat→Value:=fun i j=>cur.getD (i*3+j) undef
      let enc:_root_.Fin es.length→List Value:=fun i=>[cell i 0,cell i 1,cell i 2]
      let key:_root_.Fin es.length→List UInt8:=fun i=>(GY es[i]).toList
      let d:Array (_root_.Fin es.length):=(yH es.length).toArray
      have hdsz:d.size=es.length:=by simp [d]
      have hdget:∀ i (hi:i<es.length),d[i]! = ⟨i,hi⟩:=fun i hi=>by
        rw [getElem!_pos d i (by rw [hdsz]; exact hi)]
        simp [d]
      have lp:∀ i (hi:i<es.length) j (hj:j<3),ORep w I (Sub i j) (es[i][j]'(by rw [g4 i hi]; exact hj)) (cell i j):=fun i hi j hj=>g7 i j hi (by rw [g4 i hi]; exact hj)
      have forms:∀ i:_root_.Fin es.length,∃ (n:ByteArray) (a:Option Addr) (l c:Nat),enc i=[.string (GY es[i]),.string n,.slice a l c]:=fun i=>by
        obtain ⟨s,n,us,he⟩:=hk1 es[i] (zL _)
        have l0:=lp i i.2 0 (by omega)
        have l1:=lp i i.2 1 (by omega)
        have l2:=lp i i.2 2 (by omega)
        have he':es[i.val]'i.2=[.str s,.str n,.ow us]:=he
        simp only [he',zV,yQ] at l0 l1 l2
        obtain ⟨a,l,c,e2⟩:=l2.owV
        refine ⟨n,a,l,c,?_⟩
        show [cell i 0,cell i 1,cell i 2]=_
        rw [l0.strV,l1.strV,e2,he]
        rfl
      have hlen:∀ x,(enc x).length=3:=fun _=>rfl
      have hone:∀ x,∀ v∈enc x,v.oneCell'=true:=fun x v hv=>by
        obtain ⟨n,a,l,c,e⟩:=forms x
        rw [e] at hv
        simp only [zA,List.not_mem_nil,or_false] at hv
        rcases hv with rfl | rfl | rfl <;> rfl
      have hH:HoldsK enc 3 w b 0 d:=by
        intro j hj
        rw [size_flatK] at hj
        have hq:j / 3<d.size:=by omega
        have hq':j / 3<es.length:=by rw [←hdsz]; exact hq
        have hlt:j<cur.size:=by rw [g3]; have:=yM 3 g1; omega
        refine ⟨?_,?_⟩
        · rw [zU,cell_of_row w b _ _ _ _ hb,get_flatK enc 3 d j hj,hdget _ hq']
          show cur[j]?=some ([cell (j / 3) 0,cell (j / 3) 1,cell (j / 3) 2][j % 3]!)
          have hm:j % 3=0∨j % 3=1∨j % 3=2:=by omega
          have e:cur[j]?=some (cell (j / 3) (j % 3)):=by
            show cur[j]?=some (cur.getD (j / 3*3+j % 3) undef)
            rw [show j / 3*3+j % 3=j by omega,zI hlt]
            simp [zH,hlt]
          rw [e]
          rcases hm with hm | hm | hm <;> rw [hm] <;> rfl
        · unfold World.frozen?
          rw [hb]
          simp
      have hcmp:CmpLays Tryz.prog 282 #[] enc 3 (fun x y=>cmpL (key x) (key y)) b 0 d.size w:=by
        intro m os dk _ x y
        obtain ⟨n,a,l,c,e⟩:=forms x
        obtain ⟨n',a',l',c',e'⟩:=forms y
        rw [e,e']
        exact Qd _ n _ n' a a' l c l' c' _
      have eg:∀ args w,(callFunc 282 args).run Tryz.prog w=.ok (.enter 282 args) w:=enters_of Tryz.func282 (by kernel_rfl) rfl
      have hT:∀ x y,ltOf (fun x y=>cmpL (key x) (key y)) x y=false→ltOf (fun x y=>cmpL (key x) (key y)) y x=false→x=y:=fun x y h h'=>by
        rw [L1] at h h'
        have e:=JH (V5 _ _ h h')
        have hi:x.val<(es.map GY).length:=by simp
        have hi':y.val<(es.map GY).length:=by simp
        have:=(yU (h₀:=hi) (h₁:=hi') hk2).1 (by simpa using e)
        exact _root_.Fin.ext this
      have hcon:=AnyQ.slices_SortFunc_total OW 3 Tryz.isAgg227 Tryz.sizeOf227 enc hlen hone (fun x y=>cmpL (key x) (key y)) (Qcy _ key) 282 #[] b 0 cap d w eg hcmp hH hblt (by rw [hdsz]; omega) hT
      change Calls Tryz.prog 281 _ _ _ at hcon
      rw [hdsz] at hcon
      refine hcon.mono ?_
      rintro e w' ⟨rfl,m,os,rfl⟩
      refine ⟨_,I,V,B,rfl,by simp only [RepV,RepVs]; exact ⟨[],rfl,rfl⟩,?_⟩
      let L:List (_root_.Fin es.length):=d.toList.mergeSort fun x y=>!(ltOf fun x y=>cmpL (key x) (key y)) y x
      have hdl:d.toList=yH es.length:=rfl
      have hLp:L.Perm (yH es.length):=by rw [←hdl]; exact y4 _ _
      have hLl:L.length=es.length:=by rw [hLp.length_eq]; simp
      have hLn:L.Nodup:=hLp.nodup_iff.2 (List.nodup_finRange _)
      have hes:es.mergeSort Zo=L.map fun i=>es[i]:=by
        have e:es=(yH es.length).map fun i=>es[i]:=by
          apply List.ext_getElem
          · simp
          · intro i h1 h2; simp
        have k:=List.map_mergeSort (r:=fun x y=>!(ltOf fun x y=>cmpL (key x) (key y)) y x) (s:=Zo) (f:=fun i:_root_.Fin es.length=>es[i]) (l:=yH es.length) (fun a _ b _=>by
          rw [L1]; rfl)
        rw [←e] at k
        exact k.symm
      rw [hes]
      have hg:∀ i (hi:i<L.length) (j:Nat),j<3→(putCells id 0 (flatK enc 3 L.toArray) cur).getD (i*3+j) undef=cell L[i] j:=fun i hi j hj=>by
        have:=Nx enc 3 L.toArray cur (i:=i) (j:=j) (by simpa using hi) hj (by rw [g3]; simp only [yE,hLl]; exact yM 3 g1)
        rw [this,getElem!_pos L.toArray i (by simpa using hi)]
        simp only [yA]
        show [cell L[i] 0,cell L[i] 1,cell L[i] 2][j]! = _
        have hm:j=0∨j=1∨j=2:=by omega
        rcases hm with rfl | rfl | rfl <;> rfl
      have hgrow:∀ x,x<w.heap.size→x≠b→(sortWorldK enc 3 w b 0 m L.toArray os).heap[x]?=w.heap[x]?:=fun x hx hne=>by
        rw [Ii enc 3 w b m _ os x hx,if_neg (fun e=>hne e.symm)]
      refine RU (fun i j x=>∃ h:i<L.length,Sub (L[i]).val j x) hwf hv0 (by rw [zF,hLl]) hs hb g1 g2 g3 (fun i hi=>by rw [zM]; exact g4 _ _) (fun i j x h=>g5 _ _ _ h.2) (fun i j i' j' x h h'=>?_) rfl ⟨rfl,fun h=>False.elim h⟩ rfl (size_sortWorldK_c enc 3 w b 0 m _ os) hgrow (Nw enc 3 w b m _ os hb) (by simp [putCells]) (fun i j hi hj=>?_)
      · obtain ⟨a1,a2⟩:=h
        obtain ⟨b1,b2⟩:=h'
        obtain ⟨c1,c2⟩:=g6 _ _ _ _ _ a2 b2
        exact ⟨(yU hLn).1 (_root_.Fin.ext c1),c2⟩
      · have hi':i<L.length:=by simpa using hi
        have hj':j<3:=by simpa [g4] using hj
        rw [hg i hi' j hj']
        have:=lp L[i] (L[i]).2 j hj'
        have hk:KeepS I w (sortWorldK enc 3 w b 0 m L.toArray os):=⟨size_sortWorldK_c enc 3 w b 0 m _ os,fun x hx hlt=>hgrow x hlt fun e=>hwf.dI 0 x trivial (e▸hs) hx⟩
        have h2:=(this.keep hk (fun _ h=>h) (fun x hx hlt=>hgrow x hlt (g5 _ _ _ hx).2)).up (S':=fun x=>∃ h:i<L.length,Sub (L[i]).val j x) (fun x hx=>⟨hi',hx⟩)
        simp only [zM]
        exact h2
  · rename_i f
    obtain ⟨h1,h2⟩:=Ap h
    obtain rfl:=Ao.1 h1
    simp only [zE,zJ] at h2
    obtain ⟨rfl,rfl⟩:=h2
    intro w I V B vs hwf hvs
    obtain ⟨v,q,rfl,hv,hvs⟩:=A4 hvs
    obtain ⟨v2,q,rfl,hv2,hvs⟩:=A4 hvs
    obtain rfl:=DF hvs
    simp only [RepV] at hv hv2
    obtain ⟨vs2,rfl,hv2⟩:=hv2
    simp only [RepVs] at hv2
    subst hv2
    subst hv
    have hcon:=AnyF.slices_SortFunc_none OW none 0 (.func (.func 282) #[] #[]) w
    change Calls Tryz.prog 281 _ _ _ at hcon
    refine hcon.mono ?_
    rintro e w' ⟨rfl,rfl⟩
    exact ⟨_,I,V,B,rfl,by simp only [RepV,RepVs]; exact ⟨[],rfl,rfl⟩,H4 hwf⟩
  · cases h
end Go.Proofs.YtepbennkcbmgoaaGreatDoor
set_option maxRecDepth 100000
set_option linter.unusedSimpArgs false
set_option linter.unusedVariables false
set_option linter.unusedSectionVars false
namespace Go.Proofs.YtepbennkcbmgoaaGreatDoor
open Go.RowKit
noncomputable def JY (a b:ByteArray):Int:=bif strLt a b then -1 else bif dec (a=b) then 0 else 1
noncomputable def Qe (a b:Int):Int:=bif dec (a<b) then -1 else bif dec (b<a) then 1 else 0
def orZ (x y:Int):Int:=if x=0 then y else x
mutual
noncomputable def Tm.cmp:Tm→Tm→Int
 | .mk n xs,y=>if AO n&&!AO y.name then -1 else if AO y.name&&!AO n then 1 else orZ (orZ (JY n y.name) (Qe xs.length y.args.length)) (Tm.cmpL xs y.args)
noncomputable def Tm.cmpL:List Tm→List Tm→Int
 | [],[]=>0
 | [],_ :: _=>-1
 | _ :: _,[]=>1
 | x :: xs,y :: ys=>orZ (Tm.cmp x y) (Tm.cmpL xs ys)
end
theorem Tm.QbB (x y:Tm):x.cmp y=if AO x.name&&!AO y.name then -1 else if AO y.name&&!AO x.name then 1 else orZ (orZ (JY x.name y.name) (Qe x.args.length y.args.length)) (Tm.cmpL x.args y.args):=by
 obtain ⟨n,xs⟩:=x
 rw [Tm.cmp]; rfl
def Kj (s:ByteArray):Bool:=decide (0<s.size)&&(NH (FT s 0) == AO s)
mutual
def Tm.cok:Tm→Bool
 | .mk n xs=>Kj n&&Tm.V7 xs
def Tm.V7:List Tm→Bool
 | []=>true
 | x :: xs=>Tm.cok x&&Tm.V7 xs
end
theorem Tm.V8 (x:Tm):x.cok=(Kj x.name&&Tm.V7 x.args):=by
 obtain ⟨n,xs⟩:=x
 rw [Tm.cok]; rfl
theorem Tm.Zq {xs:List Tm} (h:Tm.V7 xs=true) {y:Tm} (hy:y∈xs):y.cok=true:=by
 induction xs with
 | nil=>cases hy
 | cons x xs ih =>
  rw [Tm.V7,zS] at h
  rcases zA.1 hy with rfl | hy
  ·exact h.1
  ·exact ih h.2 hy
def Xx (b:Bool):Int:=if b then 1 else 0
noncomputable def Lt.cmp (x y:Lt):Int:=orZ (x.atom.cmp y.atom) (Qe (Xx x.pos) (Xx y.pos))
theorem M0:∀ x:List UInt8,Op.bytesLess x x=false
 | []=>rfl
 | a :: x=>by simp [Op.bytesLess,M0 x]
theorem OX:∀ x y z:List UInt8,Op.bytesLess x y=true→Op.bytesLess y z=true→Op.bytesLess x z=true
  | [],_,[],_,h=>by cases ‹List UInt8› <;> simp [Op.bytesLess] at *
  | [],_,_ :: _,_,_=>rfl
  | _ :: _,[],_,h,_=>by simp [Op.bytesLess] at h
  | _ :: _,_ :: _,[],_,h=>by simp [Op.bytesLess] at h
  | a :: x,b :: y,c :: z,h,k=>by
    simp only [Op.bytesLess,yY,decide_eq_true_eq,zS,beq_iff_eq] at h k ⊢
    rcases h with h | ⟨rfl,h⟩
    · rcases k with k | ⟨rfl,k⟩
      · exact .inl (UInt8.lt_trans h k)
      · exact .inl h
    · rcases k with k | ⟨rfl,k⟩
      · exact .inl k
      · exact .inr ⟨rfl,OX x y z h k⟩
theorem Zr:∀ x y:List UInt8,Op.bytesLess x y=false→Op.bytesLess y x=false→x=y
  | [],[],_,_=>rfl
  | [],_ :: _,h,_=>by simp [Op.bytesLess] at h
  | _ :: _,[],_,h=>by simp [Op.bytesLess] at h
  | a :: x,b :: y,h,k=>by
    simp only [Op.bytesLess,yV,decide_eq_false_iff_not] at h k
    have hab:a=b:=by
      have h1:=h.1; have h2:=k.1
      rw [UInt8.lt_iff_toNat_lt] at h1 h2
      exact UInt8.toNat_inj.1 (by omega)
    subst hab
    have h1:Op.bytesLess x y=false:=by simpa using h.2
    have h2:Op.bytesLess y x=false:=by simpa using k.2
    rw [Zr x y h1 h2]
theorem Zs {a b:ByteArray} (h:a.toList=b.toList):a=b:=by
 rw [ByteArray.toList_eq,ByteArray.toList_eq] at h
 obtain ⟨⟨x⟩⟩:=a
 obtain ⟨⟨y⟩⟩:=b
 simp at h
 rw [h]
structure Ord3 {α:Type} (c:α→α→Int) (a b d:α):Prop where
 anti:c b a=- c a b
 zero:c a b=0 ↔ a=b
 trans:c a b<0→c b d<0→c a d<0
theorem OY (a b d:ByteArray):Ord3 JY a b d:=by
  have key:∀ x y:ByteArray,(JY x y=-1∧strLt x y=true∧x≠y)∨(JY x y=0∧x=y)∨(JY x y=1∧strLt y x=true∧strLt x y=false∧x≠y):=by
    intro x y
    unfold JY
    cases h:strLt x y with
    | true =>
      refine .inl ⟨rfl,rfl,?_⟩
      rintro rfl
      unfold strLt at h
      rw [M0] at h; cases h
    | false =>
      by_cases e:x=y
      · refine .inr (.inl ⟨?_,e⟩)
        rw [An e]; rfl
      · refine .inr (.inr ⟨?_,?_,rfl,e⟩)
        · rw [Aj e]; rfl
        · cases h2:strLt y x with
          | true=>rfl
          | false=>exact absurd (Zs (Zr _ _ h h2)) e
  have asy:∀ x y:ByteArray,strLt x y=true→strLt y x=true→False:=fun x y h k=>by
    have:=OX _ _ _ h k
    rw [M0] at this; cases this
  refine ⟨?_,?_,?_⟩
  · rcases key a b with ⟨h,h1,h2⟩ | ⟨h,rfl⟩ | ⟨h,h1,h2,h3⟩
    · rcases key b a with ⟨k,k1,k2⟩ | ⟨k,rfl⟩ | ⟨k,k1,k2,k3⟩
      · exact (asy _ _ h1 k1).elim
      · exact absurd rfl h2
      · rw [h,k]; rfl
    · rw [h]; rfl
    · rcases key b a with ⟨k,k1,k2⟩ | ⟨k,rfl⟩ | ⟨k,k1,k2,k3⟩
      · rw [h,k]
      · exact absurd rfl h3
      · exact (asy _ _ h1 k1).elim
  · rcases key a b with ⟨h,h1,h2⟩ | ⟨h,rfl⟩ | ⟨h,h1,h2,h3⟩
    · rw [h]; constructor
      · intro e; cases e
      · intro e; exact absurd e h2
    · rw [h]; simp
    · rw [h]; constructor
      · intro e; cases e
      · intro e; exact absurd e h3
  · intro h k
    rcases key a b with ⟨_,h1,h2⟩ | ⟨e,_⟩ | ⟨e,_⟩
    · rcases key b d with ⟨_,k1,k2⟩ | ⟨e,_⟩ | ⟨e,_⟩
      · have:=OX _ _ _ h1 k1
        have e:strLt a d=true:=this
        unfold JY
        rw [e]; exact (by decide:(-1:Int)<0)
      · omega
      · omega
    · omega
    · omega
theorem Ej (a b d:Int):Ord3 Qe a b d:=by
 have key:∀ x y:Int,Qe x y=if x<y then -1 else if y<x then 1 else 0:=fun x y=>by
  unfold Qe
  by_cases h:x<y
  ·rw [An h,if_pos h]; rfl
  ·rw [Aj h,if_neg h]
   by_cases h2:y<x
   ·rw [An h2,if_pos h2]; rfl
   ·rw [Aj h2,if_neg h2]; rfl
 refine ⟨?_,?_,?_⟩ <;> simp only [key]
 ·split <;> split <;> omega
 ·split
  ·constructor <;> omega
  ·split <;> constructor <;> omega
 ·split <;> split <;> split <;> omega
theorem Ja {a b a' b':Int} (h:a'=-a) (k:b'=-b):orZ a' b'=- orZ a b:=by
 unfold orZ
 subst h k
 split <;> split <;> omega
theorem Jb {a b:Int}:orZ a b=0 ↔ a=0∧b=0:=by
 unfold orZ
 split
 ·rename_i h; simp [h]
 ·rename_i h; simp [h]
theorem Og {a b:Int}:orZ a b<0 ↔ a<0∨(a=0∧b<0):=by
 unfold orZ
 split <;> omega
theorem L2 {α:Type} {c:α→α→Int} (hc:∀ a b d,Ord3 c a b d) {a b d:α} {p q r:Int} (hk:p<0→q<0→r<0) (h1:orZ (c a b) p<0) (h2:orZ (c b d) q<0):orZ (c a d) r<0:=by
 rw [Og] at h1 h2 ⊢
 rcases h1 with h1 | ⟨h1,h3⟩
 ·rcases h2 with h2 | ⟨h2,h4⟩
  ·exact .inl ((hc a b d).trans h1 h2)
  ·have e:=(hc b d d).zero.1 h2
   subst e
   exact .inl h1
 ·have e:=(hc a b d).zero.1 h1
  subst e
  rcases h2 with h2 | ⟨h2,h4⟩
  ·exact .inl h2
  ·exact .inr ⟨h2,hk h3 h4⟩
def kvZ (n:ByteArray):Int:=if AO n then 0 else 1
theorem Tm.M1 (x y:Tm):x.cmp y=orZ (Qe (kvZ x.name) (kvZ y.name)) (orZ (JY x.name y.name) (orZ (Qe x.args.length y.args.length) (Tm.cmpL x.args y.args))):=by
 rw [Tm.QbB]
 have hI:∀ p q:Int,Qe p q=if p<q then -1 else if q<p then 1 else 0:=fun x y=>by
  unfold Qe
  by_cases h:x<y
  ·rw [An h,if_pos h]; rfl
  ·rw [Aj h,if_neg h]
   by_cases h2:y<x
   ·rw [An h2,if_pos h2]; rfl
   ·rw [Aj h2,if_neg h2]; rfl
 rw [hI (kvZ _) (kvZ _)]
 have e:∀ p q r:Int,orZ (orZ p q) r=orZ p (orZ q r):=fun p q r=>by
  unfold orZ
  by_cases h:p=0
  ·simp [h]
  ·simp [h]
 unfold kvZ
 cases AO x.name <;> cases AO y.name <;> simp [e] <;> rfl
mutual
theorem Tm.OZ:∀ x y:Tm,y.cmp x=- x.cmp y
 | .mk n xs,.mk m ys=>by
  rw [Tm.M1,Tm.M1 (.mk n xs)]
  exact Ja (Ej _ _ 0).anti (Ja (OY _ _ m).anti (Ja (Ej _ _ 0).anti (Tm.QW xs ys)))
theorem Tm.QW:∀ xs ys:List Tm,Tm.cmpL ys xs=- Tm.cmpL xs ys
 | [],[]=>rfl
 | [],y :: ys=>by rw [Tm.cmpL,Tm.cmpL]; rfl
 | x :: xs,[]=>by rw [Tm.cmpL,Tm.cmpL]
 | x :: xs,y :: ys=>by
  rw [Tm.cmpL,Tm.cmpL]
  exact Ja (Tm.OZ x y) (Tm.QW xs ys)
end
mutual
theorem Tm.L3:∀ x y:Tm,x.cmp y=0 ↔ x=y
 | .mk n xs,.mk m ys=>by
  rw [Tm.M1,Jb,Jb,Jb,(Ej _ _ 0).zero,(OY _ _ m).zero,(Ej _ _ 0).zero,show Tm.cmpL (Tm.mk n xs).args (Tm.mk m ys).args=0 ↔ xs=ys from Tm.QX xs ys]
  constructor
  ·rintro ⟨_,h1,_,h2⟩
   have h1:n=m:=h1
   rw [h1,h2]
  ·intro h
   injection h with h1 h2
   subst h1 h2
   exact ⟨rfl,rfl,rfl,rfl⟩
theorem Tm.QX:∀ xs ys:List Tm,Tm.cmpL xs ys=0 ↔ xs=ys
 | [],[]=>by rw [Tm.cmpL]; simp
 | [],y :: ys=>by rw [Tm.cmpL]; simp
 | x :: xs,[]=>by rw [Tm.cmpL]; simp
 | x :: xs,y :: ys=>by rw [Tm.cmpL,Jb,Tm.L3 x y,Tm.QX xs ys,yL]
end
mutual
theorem Tm.QY:∀ x y z:Tm,x.cmp y<0→y.cmp z<0→x.cmp z<0
  | .mk n xs,.mk m ys,.mk k zs=>by
    rw [Tm.M1,Tm.M1 (.mk m ys),Tm.M1 (.mk n xs)]
    exact L2 Ej (L2 OY (L2 Ej (Tm.Pa xs ys zs)))
theorem Tm.Pa:∀ xs ys zs:List Tm,Tm.cmpL xs ys<0→Tm.cmpL ys zs<0→Tm.cmpL xs zs<0
  | [],[],zs=>by rw [Tm.cmpL]; intro h; omega
  | [],y :: ys,[]=>by intro _ h; rw [Tm.cmpL] at h; omega
  | [],y :: ys,z :: zs=>by intro _ _; rw [Tm.cmpL]; omega
  | x :: xs,[],zs=>by intro h; rw [Tm.cmpL] at h; omega
  | x :: xs,y :: ys,[]=>by intro _ h; rw [Tm.cmpL] at h; omega
  | x :: xs,y :: ys,z :: zs=>by
    rw [Tm.cmpL,Tm.cmpL,Tm.cmpL,Og,Og,Og]
    intro h1 h2
    rcases h1 with h1 | ⟨h1,h3⟩
    · rcases h2 with h2 | ⟨h2,h4⟩
      · exact .inl (Tm.QY x y z h1 h2)
      · obtain rfl:=(Tm.L3 y z).1 h2
        exact .inl h1
    · obtain rfl:=(Tm.L3 x y).1 h1
      rcases h2 with h2 | ⟨h2,h4⟩
      · exact .inl h2
      · exact .inr ⟨h2,Tm.Pa xs ys zs h3 h4⟩
end
theorem Tm.cmp_ord (x y z:Tm):Ord3 Tm.cmp x y z:=⟨Tm.OZ x y,Tm.L3 x y,Tm.QY x y z⟩
theorem Yh {a b:Bool}:Xx a=Xx b ↔ a=b:=by cases a <;> cases b <;> decide
theorem Lt.cmp_ord (x y z:Lt):Ord3 Lt.cmp x y z:=by
 refine ⟨Ja (Tm.OZ _ _) (Ej _ _ 0).anti,?_,?_⟩
 ·unfold Lt.cmp
  rw [Jb,(Tm.cmp_ord _ _ x.atom).zero,(Ej _ _ 0).zero,Yh]
  cases x; cases y
  simp [and_comm]
 ·exact L2 Tm.cmp_ord fun h k=>(Ej _ _ _).trans h k
abbrev Tm.sv (x:Tm):SV:=.agg [.str x.name,.arr (x.args.map Tm.d)]
mutual
def Tm.o:Tm→List OT
 | .mk name args=>[.str name,.ow (Tm.os args)]
def Tm.os:List Tm→List (List OT)
 | []=>[]
 | x :: xs=>Tm.o x :: Tm.os xs
end
theorem Tm.os_eq:∀ xs:List Tm,Tm.os xs=xs.map Tm.o
 | []=>rfl
 | x :: xs=>by rw [Tm.os,Tm.os_eq xs]; rfl
theorem Tm.o_eq (x:Tm):Tm.o x=[.str x.name,.ow (x.args.map Tm.o)]:=by
 obtain ⟨name,args⟩:=x
 rw [Tm.o,Tm.os_eq]; rfl
theorem Tm.ers_of:∀ xs:List Tm,(∀ x∈xs,OT.ers (Tm.o x)=Tm.d x)→OT.erss (xs.map Tm.o)=xs.map Tm.d
 | [],_=>rfl
 | x :: xs,h=>by
  simp only [zD,OT.erss]
  rw [h x (by simp),Tm.ers_of xs fun y hy=>h y (by simp [hy])]
theorem Tm.er (x:Tm):OT.ers (Tm.o x)=Tm.d x:=by
 have h:=Tm.ers_of x.args fun y hy=>Tm.er y
 rw [Tm.o_eq,Tm.d_eq]
 simp only [OT.ers,OT.er,h]
termination_by SizeOf.sizeOf x
decreasing_by exact Tm.lt_of_mem hy
theorem Tm.erss (xs:List Tm):OT.erss (xs.map Tm.o)=xs.map Tm.d:=Tm.ers_of xs fun x _=>Tm.er x
theorem Tm.nos_of:∀ xs:List Tm,(∀ x∈xs,OT.CP (Tm.o x)=true)→OT.B0 (xs.map Tm.o)=true
 | [],_=>rfl
 | x :: xs,h=>by
  simp only [zD,OT.B0]
  rw [h x (by simp),Tm.nos_of xs fun y hy=>h y (by simp [hy])]; rfl
theorem Tm.no (x:Tm):OT.CP (Tm.o x)=true:=by
 have h:=Tm.nos_of x.args fun y hy=>Tm.no y
 rw [Tm.o_eq]
 simp only [OT.CP,OT.noSh,h,zG,zR]
termination_by SizeOf.sizeOf x
decreasing_by exact Tm.lt_of_mem hy
theorem Tm.noss (xs:List Tm):OT.B0 (xs.map Tm.o)=true:=Tm.nos_of xs fun x _=>Tm.no x
abbrev Tm.osv (x:Tm):SV:=.agg [.str x.name,.ref 0]
abbrev Tm.obs (x:Tm):List Ob:=[.row 33 2 (x.args.map Tm.o)]
abbrev Fm.sv (x:Fm):SV:=.agg [.int .i64 x.op,.str x.atom.name,.arr (x.atom.args.map Tm.d),.str x.var,.arr (x.parts.map Fm.d)]
mutual
def Fm.o:Fm→List OT
 | .mk op atom var parts=>[.int op,.str atom.name,.ow (atom.args.map Tm.o),.str var,.ow (Fm.os parts)]
def Fm.os:List Fm→List (List OT)
 | []=>[]
 | x :: xs=>Fm.o x :: Fm.os xs
end
theorem Fm.os_eq:∀ xs:List Fm,Fm.os xs=xs.map Fm.o
 | []=>rfl
 | x :: xs=>by rw [Fm.os,Fm.os_eq xs]; rfl
theorem Fm.o_eq (x:Fm):Fm.o x=[.int x.op,.str x.atom.name,.ow (x.atom.args.map Tm.o),.str x.var,.ow (x.parts.map Fm.o)]:=by
 obtain ⟨op,atom,var,parts⟩:=x
 rw [Fm.o,Fm.os_eq]; rfl
theorem Fm.ers_of:∀ xs:List Fm,(∀ x∈xs,OT.ers (Fm.o x)=Fm.d x)→OT.erss (xs.map Fm.o)=xs.map Fm.d
 | [],_=>rfl
 | x :: xs,h=>by
  simp only [zD,OT.erss]
  rw [h x (by simp),Fm.ers_of xs fun y hy=>h y (by simp [hy])]
theorem Fm.er (x:Fm):OT.ers (Fm.o x)=Fm.d x:=by
 have h:=Fm.ers_of x.parts fun y hy=>Fm.er y
 rw [Fm.o_eq,Fm.d_eq]
 simp only [OT.ers,OT.er,h,Tm.erss]
termination_by SizeOf.sizeOf x
decreasing_by exact Fm.lt_of_mem hy
theorem Fm.erss (xs:List Fm):OT.erss (xs.map Fm.o)=xs.map Fm.d:=Fm.ers_of xs fun x _=>Fm.er x
theorem Fm.nos_of:∀ xs:List Fm,(∀ x∈xs,OT.CP (Fm.o x)=true)→OT.B0 (xs.map Fm.o)=true
 | [],_=>rfl
 | x :: xs,h=>by
  simp only [zD,OT.B0]
  rw [h x (by simp),Fm.nos_of xs fun y hy=>h y (by simp [hy])]; rfl
theorem Fm.no (x:Fm):OT.CP (Fm.o x)=true:=by
 have h:=Fm.nos_of x.parts fun y hy=>Fm.no y
 rw [Fm.o_eq]
 simp only [OT.CP,OT.noSh,h,Tm.noss,zG,zR]
termination_by SizeOf.sizeOf x
decreasing_by exact Fm.lt_of_mem hy
theorem Fm.noss (xs:List Fm):OT.B0 (xs.map Fm.o)=true:=Fm.nos_of xs fun x _=>Fm.no x
abbrev Fm.osv (x:Fm):SV:=.agg [.int .i64 x.op,.str x.atom.name,.ref 0,.str x.var,.ref 1]
abbrev Fm.obs (x:Fm):List Ob:=[.row 33 2 (x.atom.args.map Tm.o),.row 36 5 (x.parts.map Fm.o)]
abbrev Lt.sv (x:Lt):SV:=.agg [.bool x.pos,.str x.atom.name,.arr (x.atom.args.map Tm.d)]
def Lt.o (x:Lt):List OT:=[.bool x.pos,.str x.atom.name,.ow (x.atom.args.map Tm.o)]
theorem Lt.o_eq (x:Lt):Lt.o x=[.bool x.pos,.str x.atom.name,.ow (x.atom.args.map Tm.o)]:=rfl
theorem Lt.er (x:Lt):OT.ers (Lt.o x)=Lt.d x:=by
 simp only [Lt.o,Lt.d,OT.ers,OT.er,Tm.erss]
theorem Lt.erss:∀ xs:List Lt,OT.erss (xs.map Lt.o)=xs.map Lt.d
 | []=>rfl
 | x :: xs=>by simp only [zD,OT.erss,Lt.er,Lt.erss xs]
theorem Lt.no (x:Lt):OT.CP (Lt.o x)=true:=by
 simp only [Lt.o,OT.CP,OT.noSh,Tm.noss,zG,zR]
theorem Lt.noss:∀ xs:List Lt,OT.B0 (xs.map Lt.o)=true
 | []=>rfl
 | x :: xs=>by simp only [zD,OT.B0,Lt.no,Lt.noss xs,zG]
def Cl.o (x:Cl):List OT:=[.ow (x.lits.map Lt.o)]
theorem Cl.er (x:Cl):OT.ers (Cl.o x)=Cl.d x:=by
 simp only [Cl.o,Cl.d,OT.ers,OT.er,Lt.erss]
theorem Cl.erss:∀ xs:List Cl,OT.erss (xs.map Cl.o)=xs.map Cl.d
 | []=>rfl
 | x :: xs=>by simp only [zD,OT.erss,Cl.er,Cl.erss xs]
theorem Cl.no (x:Cl):OT.CP (Cl.o x)=true:=by
 simp only [Cl.o,OT.CP,OT.noSh,Lt.noss,zG,zR]
theorem Cl.noss:∀ xs:List Cl,OT.B0 (xs.map Cl.o)=true
 | []=>rfl
 | x :: xs=>by simp only [zD,OT.B0,Cl.no,Cl.noss xs,zG]
abbrev Bd.sv (x:Bd):SV:=.agg [.str x.var,.str x.term.name,.arr (x.term.args.map Tm.d)]
def Bd.o (x:Bd):List OT:=[.str x.var,.str x.term.name,.ow (x.term.args.map Tm.o)]
theorem Bd.er (x:Bd):OT.ers (Bd.o x)=Bd.d x:=by
 simp only [Bd.o,Bd.d,OT.ers,OT.er,Tm.erss]
theorem Bd.erss:∀ xs:List Bd,OT.erss (xs.map Bd.o)=xs.map Bd.d
 | []=>rfl
 | x :: xs=>by simp only [zD,OT.erss,Bd.er,Bd.erss xs]
theorem Bd.no (x:Bd):OT.CP (Bd.o x)=true:=by
 simp only [Bd.o,OT.CP,OT.noSh,Tm.noss,zG,zR]
theorem Bd.noss:∀ xs:List Bd,OT.B0 (xs.map Bd.o)=true
 | []=>rfl
 | x :: xs=>by simp only [zD,OT.B0,Bd.no,Bd.noss xs,zG]
abbrev Sb.sv (x:Sb):SV:=.agg [.arr (x.binds.map Bd.d)]
def Sb.o (x:Sb):List OT:=[.ow (x.binds.map Bd.o)]
theorem Sb.er (x:Sb):OT.ers (Sb.o x)=Sb.d x:=by
 simp only [Sb.o,Sb.d,OT.ers,OT.er,Bd.erss]
theorem Sb.erss:∀ xs:List Sb,OT.erss (xs.map Sb.o)=xs.map Sb.d
 | []=>rfl
 | x :: xs=>by simp only [zD,OT.erss,Sb.er,Sb.erss xs]
theorem Sb.no (x:Sb):OT.CP (Sb.o x)=true:=by
 simp only [Sb.o,OT.CP,OT.noSh,Bd.noss,zG,zR]
theorem Sb.noss:∀ xs:List Sb,OT.B0 (xs.map Sb.o)=true
 | []=>rfl
 | x :: xs=>by simp only [zD,OT.B0,Sb.no,Sb.noss xs,zG]
def Df.o (x:Df):List OT:=[.str x.name,.ow (x.vars.map fun s=>[OT.str s]),.int x.form.op,.str x.form.atom.name,.ow (x.form.atom.args.map Tm.o),.str x.form.var,.ow (x.form.parts.map Fm.o)]
theorem Df.er (x:Df):OT.ers (Df.o x)=Df.d x:=by
 simp only [Df.o,Df.d,OT.ers,OT.er,Cp,Tm.erss,Fm.erss]
theorem Df.erss:∀ xs:List Df,OT.erss (xs.map Df.o)=xs.map Df.d
 | []=>rfl
 | x :: xs=>by simp only [zD,OT.erss,Df.er,Df.erss xs]
theorem Df.no (x:Df):OT.CP (Df.o x)=true:=by
 simp only [Df.o,OT.CP,OT.noSh,Xv,Tm.noss,Fm.noss,zG,zR]
theorem Df.noss:∀ xs:List Df,OT.B0 (xs.map Df.o)=true
 | []=>rfl
 | x :: xs=>by simp only [zD,OT.B0,Df.no,Df.noss xs,zG]
end Go.Proofs.YtepbennkcbmgoaaGreatDoor
set_option maxRecDepth 100000
namespace Go.Proofs.YtepbennkcbmgoaaGreatDoor
open Go.Shelf
def so_SortL_ren:Go.Shelf.Ren:=⟨fun | 6=>287 | 15=>182 | 14=>319 | 28=>256 | 29=>257 | 20=>337 | 21=>338 | 22=>339 | 23=>340 | 24=>341 | 25=>342 | 26=>343 | 27=>344 | 46=>352 | 47=>301 | 48=>302 | 49=>353 | 50=>354 | 57=>358 | n=>n,fun | 22=>58 | 24=>122 | 25=>191 | 3=>3 | 39=>184 | 0=>0 | 53=>239 | 55=>241 | 4=>4 | 46=>231 | 45=>230 | 50=>236 | 5=>5 | 9=>9 | 66=>271 | 70=>275 | 76=>286 | 77=>287 | n=>n,fun | n=>n⟩
theorem Pb:Go.Proofs.SlLaysF0.n6 Tryz.prog so_SortL_ren:={
 mixed:=by kernel_rfl,
 f6:=⟨Tryz.f287.name,by decide,Tryz.func287.trans (congrArg some (by kernel_rfl))⟩,
 f14:=⟨Tryz.f319.name,by decide,Tryz.func319.trans (congrArg some (by kernel_rfl))⟩,
 f15:=Tryz.func182.trans (congrArg some (by kernel_rfl)),
 f20:=⟨Tryz.f337.name,by decide,Tryz.func337.trans (congrArg some (by kernel_rfl))⟩,
 f21:=⟨Tryz.f338.name,by decide,Tryz.func338.trans (congrArg some (by kernel_rfl))⟩,
 f22:=⟨Tryz.f339.name,by decide,Tryz.func339.trans (congrArg some (by kernel_rfl))⟩,
 f23:=⟨Tryz.f340.name,by decide,Tryz.func340.trans (congrArg some (by kernel_rfl))⟩,
 f24:=⟨Tryz.f341.name,by decide,Tryz.func341.trans (congrArg some (by kernel_rfl))⟩,
 f25:=⟨Tryz.f342.name,by decide,Tryz.func342.trans (congrArg some (by kernel_rfl))⟩,
 f26:=⟨Tryz.f343.name,by decide,Tryz.func343.trans (congrArg some (by kernel_rfl))⟩,
 f27:=⟨Tryz.f344.name,by decide,Tryz.func344.trans (congrArg some (by kernel_rfl))⟩,
 f28:=Tryz.func256.trans (congrArg some (by kernel_rfl)),
 f29:=Tryz.func257.trans (congrArg some (by kernel_rfl)),
 f46:=⟨Tryz.f352.name,by decide,Tryz.func352.trans (congrArg some (by kernel_rfl))⟩,
 f47:=Tryz.func301.trans (congrArg some (by kernel_rfl)),
 f48:=Tryz.func302.trans (congrArg some (by kernel_rfl)),
 f49:=⟨Tryz.f353.name,by decide,Tryz.func353.trans (congrArg some (by kernel_rfl))⟩,
 f50:=⟨Tryz.f354.name,by decide,Tryz.func354.trans (congrArg some (by kernel_rfl))⟩,
 f57:=⟨Tryz.f358.name,by decide,Tryz.func358.trans (congrArg some (by kernel_rfl))⟩,
 t0:=Tryz.underlying0,
 a0:=Tryz.isAgg0,
 z0:=Tryz.sizeOf0,
 v0:=Tryz.zeroValue0,
 t3:=Tryz.underlying3,
 a3:=Tryz.isAgg3,
 z3:=Tryz.sizeOf3,
 v3:=Tryz.zeroValue3,
 t4:=Tryz.underlying4,
 a4:=Tryz.isAgg4,
 z4:=Tryz.sizeOf4,
 v4:=Tryz.zeroValue4,
 t5:=Tryz.underlying5,
 a5:=Tryz.isAgg5,
 z5:=Tryz.sizeOf5,
 v5:=Tryz.zeroValue5,
 t9:=Tryz.underlying9,
 a9:=Tryz.isAgg9,
 z9:=Tryz.sizeOf9,
 v9:=Tryz.zeroValue9,
 t22:=Tryz.underlying58,
 a22:=Tryz.isAgg58,
 z22:=Tryz.sizeOf58,
 v22:=Tryz.zeroValue58,
 t25:=Tryz.underlying191,
 a25:=Tryz.isAgg191,
 z25:=Tryz.sizeOf191,
 v25:=Tryz.zeroValue191,
 t39:=Tryz.underlying184,
 a39:=Tryz.isAgg184,
 z39:=Tryz.sizeOf184,
 v39:=Tryz.zeroValue184,
 t45:=Tryz.underlying230,
 a45:=Tryz.isAgg230,
 z45:=Tryz.sizeOf230,
 v45:=Tryz.zeroValue230,
 t46:=Tryz.underlying231,
 a46:=Tryz.isAgg231,
 z46:=Tryz.sizeOf231,
 v46:=Tryz.zeroValue231,
 t50:=Tryz.underlying236,
 a50:=Tryz.isAgg236,
 z50:=Tryz.sizeOf236,
 v50:=Tryz.zeroValue236,
 t53:=Tryz.underlying239,
 a53:=Tryz.isAgg239,
 z53:=Tryz.sizeOf239,
 v53:=Tryz.zeroValue239,
 t55:=Tryz.underlying241,
 a55:=Tryz.isAgg241,
 z55:=Tryz.sizeOf241,
 v55:=Tryz.zeroValue241,
 t66:=Tryz.underlying271,
 a66:=Tryz.isAgg271,
 z66:=Tryz.sizeOf271,
 v66:=Tryz.zeroValue271,
 t70:=Tryz.underlying275,
 a70:=Tryz.isAgg275,
 z70:=Tryz.sizeOf275,
 v70:=Tryz.zeroValue275,
 t76:=Tryz.underlying286,
 a76:=Tryz.isAgg286,
 z76:=Tryz.sizeOf286,
 v76:=Tryz.zeroValue286,
 t77:=Tryz.underlying287,
 a77:=Tryz.isAgg287,
 z77:=Tryz.sizeOf287,
 v77:=Tryz.zeroValue287 }
end Go.Proofs.YtepbennkcbmgoaaGreatDoor
set_option maxRecDepth 100000
set_option linter.unusedSimpArgs false
set_option linter.unusedVariables false
set_option linter.unusedSectionVars false
namespace Go.Proofs.YtepbennkcbmgoaaGreatDoor
open Go.RowKit Go.Shelf Go.Lib Go.Sort
mutual
theorem Tm.o_inj:∀ x y:Tm,Tm.o x=Tm.o y→x=y
 | .mk n xs,.mk m ys,h=>by
  rw [Tm.o_eq,Tm.o_eq] at h
  simp only [yL,OT.str.injEq,OT.ow.injEq,and_true] at h
  have h1:n=m:=h.1
  rw [h1,Tm.os_inj xs ys h.2]
theorem Tm.os_inj:∀ xs ys:List Tm,xs.map Tm.o=ys.map Tm.o→xs=ys
 | [],[],_=>rfl
 | [],y :: ys,h=>by simp at h
 | x :: xs,[],h=>by simp at h
 | x :: xs,y :: ys,h=>by
  simp only [zD,yL] at h
  rw [Tm.o_inj x y h.1,Tm.os_inj xs ys h.2]
end
theorem Lt.o_inj (x y:Lt) (h:Lt.o x=Lt.o y):x=y:=by
 rw [Lt.o_eq,Lt.o_eq] at h
 simp only [yL,OT.bool.injEq,OT.str.injEq,OT.ow.injEq,and_true] at h
 obtain ⟨p,⟨n,xs⟩⟩:=x
 obtain ⟨q,⟨m,ys⟩⟩:=y
 obtain ⟨h1,h2,h3⟩:=h
 have h1:p=q:=h1
 have h2:n=m:=h2
 rw [h1,h2,Tm.os_inj xs ys h3]
theorem Lt.os_inj:∀ {xs ys:List Lt},xs.map Lt.o=ys.map Lt.o→xs=ys
 | [],[],_=>rfl
 | [],y :: ys,h=>by simp at h
 | x :: xs,[],h=>by simp at h
 | x :: xs,y :: ys,h=>by
  simp only [zD,yL] at h
  rw [Lt.o_inj x y h.1,Lt.os_inj h.2]
theorem V9:∀ xs:List Tm,(∀ x∈xs,OT.BU (Tm.o x)=true)→OT.AA (xs.map Tm.o)=true
 | [],_=>rfl
 | x :: xs,h=>by
  simp only [zD,OT.AA]
  rw [h x (by simp),V9 xs fun y hy=>h y (by simp [hy])]; rfl
theorem lfu (x:Tm):OT.BU (Tm.o x)=true:=by
 have h:=V9 x.args fun y hy=>lfu y
 rw [Tm.o_eq]
 simp only [OT.BU,OT.full,h,zG,zR]
termination_by SizeOf.sizeOf x
decreasing_by exact Tm.lt_of_mem hy
noncomputable def unL (es:List (List OT)):List Lt:=match Classical.propDecidable (∃ xs:List Lt,es=xs.map Lt.o) with
 | .isTrue h=>Classical.choose h
 | .isFalse _=>[]
theorem Xy (xs:List Lt):unL (xs.map Lt.o)=xs:=by
 unfold unL
 split
 ·rename_i h _
  exact (Lt.os_inj (Classical.choose_spec h)).symm
 ·rename_i h _
  exact absurd ⟨xs,rfl⟩ h
theorem Lt.L4 {x y z:Lt} (h:x.cmp y≤0) (k:y.cmp z≤0):x.cmp z≤0:=by
 by_cases h0:x.cmp y=0
 ·rw [(Lt.cmp_ord x y z).zero.1 h0]; exact k
 ·by_cases k0:y.cmp z=0
  ·rw [←(Lt.cmp_ord y z z).zero.1 k0]; exact h
  ·have:=(Lt.cmp_ord x y z).trans (by omega) (by omega)
   omega
noncomputable def Zt (xs:List Lt):List Lt:=xs.mergeSort fun x y=>decide (x.cmp y≤0)
def Oh (xs:List Lt):Prop:=xs.Pairwise fun x y=>x.cmp y≤0
theorem L5:∀ {xs ys:List Lt},xs.Perm ys→Oh xs→Oh ys→xs=ys
  | [],ys,h,_,_=>(List.nil_perm.1 h).symm
  | x :: xs,[],h,_,_=>by simp at h
  | x :: xs,y :: ys,h,h1,h2=>by
    have hx:x.cmp y≤0:=by
      have hm:y∈x :: xs:=h.mem_iff.2 (by simp)
      rcases zA.1 hm with e | hm
      · subst e
        have:=(Lt.cmp_ord y y y).zero.2 rfl
        omega
      · exact (yO.1 h1).1 y hm
    have hy:y.cmp x≤0:=by
      have hm:x∈y :: ys:=h.mem_iff.1 (by simp)
      rcases zA.1 hm with e | hm
      · subst e
        have:=(Lt.cmp_ord x x x).zero.2 rfl
        omega
      · exact (yO.1 h2).1 x hm
    have ha:=(Lt.cmp_ord x y y).anti
    have e:x=y:=(Lt.cmp_ord x y y).zero.1 (by omega)
    subst e
    rw [L5 ((List.perm_cons x).1 h) (yO.1 h1).2 (yO.1 h2).2]
theorem Yi (xs:List Lt):(Zt xs).Perm xs:=y4 _ _
theorem TL (xs:List Lt):Oh (Zt xs):=by
 have h:=List.pairwise_mergeSort (le:=fun x y:Lt=>decide (x.cmp y≤0)) (fun a b c h k=>by
  simp only [decide_eq_true_eq] at h k ⊢
  exact Lt.L4 h k) (fun a b=>by
  have:=(Lt.cmp_ord a b b).anti
  simp only [yY,decide_eq_true_eq]
  omega) xs
 exact h.imp fun h=>by simpa using h
theorem TM (g:Nat):¬ (Aq ([]:List Ob) g).live:=fun h=>by
 have e:Aq ([]:List Ob) g=.free:=rfl
 rw [e] at h
 exact h
theorem QaM {W:World} {J:Nat→Prop} (h:∀ b,J b→b<W.heap.size) (hg:GL W J):Wf W J (fun _=>none) (fun _ _=>False) (Aq []) :=
 ⟨h,fun g hl=>(TM g hl).elim,fun g b hl=>(TM g hl).elim,fun g b hl=>(TM g hl).elim,fun g g' b hl=>(TM g hl).elim,fun g _=>rfl,hg⟩
theorem grown_of {W w':World} (h:Below W.heap.size W w') (hd:W.drawn≤w'.drawn):∃ q os',w'=Sort.grow (W.drewN q) os':=by
 obtain ⟨⟨d,os⟩,e⟩:=regrown_of_below h
 refine ⟨d-W.drawn,os,?_⟩
 have hd':w'.drawn=d:=by rw [e]; rfl
 have e2:redrawn W d=W.drewN (d-W.drawn):=by
  unfold redrawn World.drewN
  rw [show W.drawn+(d-W.drawn)=d by omega]
 rw [e]
 show Sort.grow (redrawn W d) os=_
 rw [e2]
theorem QZ [Flag] {f:FuncId} {x y z:SV} (hF:Fun Tryz.prog f [x,y] [] z []) {W:World} {J:Nat→Prop} (hJ:∀ b,J b→b<W.heap.size) (hg:GL W J) {vx vy:Value} (hx:RepV W J (fun _=>none) x vx) (hy:RepV W J (fun _=>none) y vy) :
  Calls Tryz.prog f #[vx,vy] W fun e w'=>(∃ v I' V',e=.returned v∧RepV w' I' V' z v)∧Below W.heap.size W w'∧(Flag.d→W.drawn≤w'.drawn):=by
 have h:=hF W J (fun _=>none) (fun _ _=>False) [vx,vy] (QaM hJ hg) (by simp only [RepVs]; exact ⟨vx,_,rfl,hx,vy,_,rfl,hy,rfl⟩)
 refine h.mono ?_
 rintro e w' ⟨v,I',V',B',rfl,hr,hp⟩
 exact ⟨⟨v,I',V',rfl,hr⟩,⟨hp.fr.os,hp.fr.tape.1,hp.fr.output,hp.fr.size,fun b hb=>hp.fr.block b hb fun ⟨g,hl,_⟩=>TM g hl⟩,hp.fr.tape.2⟩
theorem QaN {f:FuncId} {x y:SV} {z:Int} (hF:FunD Tryz.prog f [x,y] [] (.int .i64 z) []) {W:World} {J:Nat→Prop} (hJ:∀ b,J b→b<W.heap.size) (hg:GL W J) {vx vy:Value} (hx:RepV W J (fun _=>none) x vx) (hy:RepV W J (fun _=>none) y vy) :
  Calls Tryz.prog f #[vx,vy] W fun e w'=>e=.returned (.int .i64 z)∧∃ q os',w'=Sort.grow (W.drewN q) os':=by
 refine (@QZ Oe f x y _ hF W J hJ hg vx vy hx hy).mono ?_
 rintro e w' ⟨⟨v,I',V',rfl,hr⟩,hb,hd⟩
 simp only [RepV] at hr
 subst hr
 exact ⟨rfl,grown_of hb (hd trivial)⟩
theorem QbD {f:FuncId} {x y:SV} {z:Bool} (hF:Fun Tryz.prog f [x,y] [] (.bool z) []) {W:World} {J:Nat→Prop} (hJ:∀ b,J b→b<W.heap.size) (hg:GL W J) {vx vy:Value} (hx:RepV W J (fun _=>none) x vx) (hy:RepV W J (fun _=>none) y vy) :
  Calls Tryz.prog f #[vx,vy] W (Ret W (.bool z)):=by
 refine (QZ hF hJ hg hx hy).mono ?_
 rintro e w' ⟨⟨v,I',V',rfl,hr⟩,hb,_⟩
 simp only [RepV] at hr
 subst hr
 exact ⟨rfl,hb⟩
theorem Xz {α:Type} (d:Array α) (n:Nat) (h:d.size=n):d.extract 0 n=d:=by
 subst h
 exact Array.extract_size
theorem Zu {w:World} {I S:Nat→Prop} {b:Nat} {cur:Array Value} {Sub:Nat→Nat→Nat→Prop} {xs:List Lt}
    (h5:∀ i j x,Sub i j x→S x∧x≠b) (h7:∀ i j (h:i<(xs.map Lt.o).length) (h':j<(xs.map Lt.o)[i].length),ORep w I (Sub i j) ((xs.map Lt.o)[i][j]) (cur.getD (i*3+j) undef)) (i:Nat) (hi:i<xs.length) :
    ∃ (a:Option Addr) (l c:Nat),cur.getD (i*3+0) undef=.bool xs[i].pos∧cur.getD (i*3+1) undef=.string xs[i].atom.name∧cur.getD (i*3+2) undef=.slice a l c ∧
      RepV w (fun x=>I x∨(S x∧x≠b)) (fun _=>none) xs[i].sv (.agg #[.bool xs[i].pos,.string xs[i].atom.name,.slice a l c]):=by
  have hi':i<(xs.map Lt.o).length:=by simpa using hi
  have he:(xs.map Lt.o)[i]=[.bool xs[i].pos,.str xs[i].atom.name,.ow (xs[i].atom.args.map Tm.o)]:=by rw [zM,Lt.o_eq]
  have l0:=h7 i 0 hi' (by rw [he]; simp)
  have l1:=h7 i 1 hi' (by rw [he]; simp)
  have l2:=h7 i 2 hi' (by rw [he]; simp)
  simp only [he,zV,yQ] at l0 l1 l2
  obtain ⟨a,l,c,e2⟩:=l2.owV
  have e0:cur.getD (i*3+0) undef=.bool xs[i].pos:=by cases h:cur.getD (i*3+0) undef <;> rw [h] at l0 <;> cases l0 <;> rfl
  have e1:cur.getD (i*3+1) undef=.string xs[i].atom.name∧xs[i].atom.name.size≤9223372036854775807:=by
    cases h:cur.getD (i*3+1) undef <;> rw [h] at l1 <;> cases l1
    exact ⟨rfl,by assumption⟩
  refine ⟨a,l,c,e0,e1.1,e2,?_⟩
  rw [e2] at l2
  have hd:=l2.er (T:=fun x=>I x∨(S x∧x≠b)) (fun x hx=>.inr (h5 _ _ _ hx)) (fun x hx=>.inl hx) (by
    simp only [OT.full]
    exact V9 _ fun y _=>lfu y)
  simp only [OT.er,Tm.erss] at hd
  simp only [RepV,RepVs]
  exact ⟨_,rfl,_,_,rfl,rfl,_,_,rfl,⟨rfl,e1.2⟩,_,_,rfl,hd,rfl⟩
noncomputable def RV (xs:List SV) (ob:List Ob):Option (SV × List Ob) :=
 match xs,ob with
 | [.ref 0,.fn f []],[.row t sz es]=>bif dec (f=203∧sz=3∧es.length≤1099511627776∧∃ xs:List Lt,es=xs.map Lt.o∧∀ x∈xs,∀ y∈xs,FunD Tryz.prog f [x.sv,y.sv] [] (.int .i64 (x.cmp y)) []) then some (.tup [],[.row t sz ((Zt (unL es)).map Lt.o)]) else none
 | [.nil,.fn f []],[]=>bif dec (f=203) then some (.tup [],[]) else none
 | _,_=>none
theorem Qcz (n:Nat) (key:_root_.Fin n→Lt):SWO (ltOf fun x y=>(key x).cmp (key y)):=by
 refine ⟨fun x=>?_,fun x y z h k=>?_,fun x y z h k=>?_⟩
 ·show decide ((key x).cmp (key x)<0)=false
  rw [(Lt.cmp_ord (key x) (key x) (key x)).zero.2 rfl]; rfl
 ·unfold ltOf at *
  simp only [decide_eq_true_eq] at *
  exact (Lt.cmp_ord _ _ _).trans h k
 ·unfold ltOf at *
  simp only [decide_eq_false_iff_not] at *
  have a1:=(Lt.cmp_ord (key x) (key y) (key y)).anti
  have a2:=(Lt.cmp_ord (key y) (key z) (key z)).anti
  have a3:=(Lt.cmp_ord (key x) (key z) (key z)).anti
  have:=Lt.L4 (x:=key z) (y:=key y) (z:=key x) (by omega) (by omega)
  omega
theorem RW {xs:List SV} {ob:List Ob} {r:SV} {ob':List Ob} (h:RV xs ob=some (r,ob')):Fun Tryz.prog 287 xs ob r ob':=by
  unfold RV at h
  split at h
  · rename_i f t sz es
    obtain ⟨h1,h2⟩:=Ap h
    obtain ⟨rfl,rfl,hk3,xs,rfl,hF⟩:=Ao.1 h1
    simp only [zE,zJ] at h2
    obtain ⟨rfl,rfl⟩:=h2
    rw [Xy]
    rw [zF] at hk3
    intro w I V B vs hwf hvs
    obtain ⟨v,q,rfl,hv,hvs⟩:=A4 hvs
    obtain ⟨v2,q,rfl,hv2,hvs⟩:=A4 hvs
    obtain rfl:=DF hvs
    simp only [RepV] at hv hv2
    obtain ⟨vs2,rfl,hv2⟩:=hv2
    simp only [RepVs] at hv2
    subst hv2
    obtain ⟨val,hval,hrow⟩:=hwf.obj 0 trivial
    rw [hv.1] at hval
    obtain rfl:=zC hval
    have hv0:=hv.1
    have hrow:RowR w I (B 0) t 3 (xs.map Lt.o) v:=hrow
    rcases zX xs.length with h0 | h0
    · have he:xs=[]:=zK h0
      subst he
      obtain ⟨a,c,rfl,_⟩:=hrow.form
      have hcon:=AnyF.slices_SortFunc_none Pb a c (.func (.func 203) #[] #[]) w
      change Calls Tryz.prog 287 _ _ _ at hcon
      refine hcon.mono ?_
      rintro e w' ⟨rfl,rfl⟩
      have e0:Zt []=[]:=List.mergeSort_nil
      rw [e0]
      exact ⟨_,I,V,B,rfl,by simp only [RepV,RepVs]; exact ⟨[],rfl,rfl⟩,H4 hwf⟩
    · rcases hrow with ⟨he,_⟩ | ⟨b,cap,cur,Sub,rfl,hs,hb,g1,g2,g3,g4,g5,g6,g7⟩
      · simp only [List.map_eq_nil_iff] at he
        subst he; simp at h0
      have hblt:=(zQ.1 hb).1
      have view:=fun i hi=>Zu (xs:=xs) (S:=B 0) g5 g7 i hi
      rw [zF] at g1
      haveI:Inhabited (_root_.Fin xs.length):=⟨⟨0,h0⟩⟩
      let cell:Nat→Nat→Value:=fun i j=>cur.getD (i*3+j) undef
      let enc:_root_.Fin xs.length→List Value:=fun i=>[cell i 0,cell i 1,cell i 2]
      let d:Array (_root_.Fin xs.length):=(yH xs.length).toArray
      have hdsz:d.size=xs.length:=by simp [d]
      have hdget:∀ i (hi:i<xs.length),d[i]! = ⟨i,hi⟩:=fun i hi=>by
        rw [getElem!_pos d i (by rw [hdsz]; exact hi)]
        simp [d]
      have hJb:∀ x,(I x∨(B 0 x∧x≠b))→x≠b:=fun x hx=>by
        rcases hx with hx | hx
        · intro e; subst e; exact hwf.dI 0 x trivial hs hx
        · exact hx.2
      have hJl:∀ x,(I x∨(B 0 x∧x≠b))→x<w.heap.size:=fun x hx=>by
        rcases hx with hx | hx
        · exact hwf.ilt x hx
        · exact hwf.lt 0 x trivial hx.1
      have forms:∀ i:_root_.Fin xs.length,∃ (a:Option Addr) (l c:Nat),enc i=[.bool xs[i].pos,.string xs[i].atom.name,.slice a l c]∧RepV w (fun x=>I x∨(B 0 x∧x≠b)) (fun _=>none) xs[i].sv (.agg #[.bool xs[i].pos,.string xs[i].atom.name,.slice a l c]):=fun i=>by
        obtain ⟨a,l,c,e0,e1,e2,hr⟩:=view i i.2
        refine ⟨a,l,c,?_,hr⟩
        show [cell i 0,cell i 1,cell i 2]=_
        rw [show cell i 0=_ from e0,show cell i 1=_ from e1,show cell i 2=_ from e2]
        rfl
      have hlen:∀ x,(enc x).length=3:=fun _=>rfl
      have hone:∀ x,∀ v∈enc x,v.oneCell'=true:=fun x v hv=>by
        obtain ⟨a,l,c,e,_⟩:=forms x
        rw [e] at hv
        simp only [zA,List.not_mem_nil,or_false] at hv
        rcases hv with rfl | rfl | rfl <;> rfl
      have hH:HoldsK enc 3 w b 0 d:=by
        intro j hj
        rw [size_flatK] at hj
        have hq:j / 3<d.size:=by omega
        have hq':j / 3<xs.length:=by rw [←hdsz]; exact hq
        have hlt:j<cur.size:=by rw [g3]; have:=yM 3 g1; omega
        refine ⟨?_,?_⟩
        · rw [zU,cell_of_row w b _ _ _ _ hb,get_flatK enc 3 d j hj,hdget _ hq']
          show cur[j]?=some ([cell (j / 3) 0,cell (j / 3) 1,cell (j / 3) 2][j % 3]!)
          have hm:j % 3=0∨j % 3=1∨j % 3=2:=by omega
          have e:cur[j]?=some (cell (j / 3) (j % 3)):=by
            show cur[j]?=some (cur.getD (j / 3*3+j % 3) undef)
            rw [show j / 3*3+j % 3=j by omega,zI hlt]
            simp [zH,hlt]
          rw [e]
          rcases hm with hm | hm | hm <;> rw [hm] <;> rfl
        · unfold World.frozen?
          rw [hb]
          simp
      have hcmp:CmpLays Tryz.prog 203 #[] enc 3 (fun x y=>xs[x].cmp xs[y]) b 0 d.size w:=by
        intro m os dk _ x y
        obtain ⟨a,l,c,e,hrx⟩:=forms x
        obtain ⟨a',l',c',e',hry⟩:=forms y
        have hsz:=size_sortWorldK_c enc 3 w b 0 m dk os
        have hk:KeepS (fun x=>I x∨(B 0 x∧x≠b)) w (sortWorldK enc 3 w b 0 m dk os):=⟨hsz,fun x hx hlt=>by rw [Ii enc 3 w b m _ os x hlt,if_neg (fun e=>hJb x hx e.symm)]⟩
        have hc:=QaN (hF xs[x] (zL _) xs[y] (zL _)) (W:=sortWorldK enc 3 w b 0 m dk os) (J:=fun x=>I x∨(B 0 x∧x≠b)) (fun x hx=>zO (hJl x hx) hsz) (hwf.gl.keep ⟨hsz,fun x hx hlt=>hk.block x (.inl hx) hlt⟩ fun x hx=>.inl hx) (RepV.mono hk (fun _ h=>h) (VLe.refl _) _ _ hrx) (RepV.mono hk (fun _ h=>h) (VLe.refl _) _ _ hry)
        rw [e,e']
        exact hc
      have eg:∀ args w,(callFunc 203 args).run Tryz.prog w=.ok (.enter 203 args) w:=enters_of Tryz.func203 (by kernel_rfl) rfl
      have hcon:=AnyQ.slices_SortFunc Pb 3 Tryz.isAgg122 Tryz.sizeOf122 enc hlen hone (fun x y=>xs[x].cmp xs[y]) (Qcz _ fun i=>xs[i]) 203 #[] b 0 cap d w eg hcmp hH hblt (by rw [hdsz]; omega)
      change Calls Tryz.prog 287 _ _ _ at hcon
      rw [hdsz] at hcon
      rw [zF]
      refine hcon.mono ?_
      rintro e w' ⟨rfl,d',m,os,hp,hsd,rfl⟩
      refine ⟨_,I,V,B,rfl,by simp only [RepV,RepVs]; exact ⟨[],rfl,rfl⟩,?_⟩
      obtain ⟨hp1,_,hp3⟩:=hp
      rw [hdsz] at hp1
      obtain ⟨L,rfl⟩:∃ L:List (_root_.Fin xs.length),d'=L.toArray:=⟨d'.toList,by simp⟩
      have hLp:L.Perm (yH xs.length):=by
        rw [Xz _ _ hp1,Xz d _ hdsz] at hp3
        exact hp3
      have hLl:L.length=xs.length:=by rw [hLp.length_eq]; simp
      have hLn:L.Nodup:=hLp.nodup_iff.2 (List.nodup_finRange _)
      have hes:Zt xs=L.map fun i=>xs[i]:=by
        have e:(yH xs.length).map (fun i=>xs[i])=xs:=by
          apply List.ext_getElem
          · simp
          · intro i h1 h2; simp
        refine (L5 ?_ ?_ (TL xs)).symm
        · refine List.Perm.trans (hLp.map _) ?_
          rw [e]
          exact (Yi xs).symm
        · unfold Oh
          rw [List.pairwise_map,List.pairwise_iff_getElem]
          intro i j hi hj hij
          have:=hsd i j (zT _) hij (by omega)
          rw [getElem!_pos L.toArray i (by simpa using hi),getElem!_pos L.toArray j (by simpa using hj)] at this
          simp only [yA,ltOf,decide_eq_false_iff_not] at this
          have a1:=(Lt.cmp_ord xs[L[i]] xs[L[j]] xs[L[j]]).anti
          omega
      rw [hes]
      have hg:∀ i (hi:i<L.length) (j:Nat),j<3→(putCells id 0 (flatK enc 3 L.toArray) cur).getD (i*3+j) undef=cell L[i] j:=fun i hi j hj=>by
        have:=Nx enc 3 L.toArray cur (i:=i) (j:=j) (by simpa using hi) hj (by rw [g3]; simp only [yE,hLl]; exact yM 3 g1)
        rw [this,getElem!_pos L.toArray i (by simpa using hi)]
        simp only [yA]
        show [cell L[i] 0,cell L[i] 1,cell L[i] 2][j]! = _
        have hm:j=0∨j=1∨j=2:=by omega
        rcases hm with rfl | rfl | rfl <;> rfl
      have hgrow:∀ x,x<w.heap.size→x≠b→(sortWorldK enc 3 w b 0 m L.toArray os).heap[x]?=w.heap[x]?:=fun x hx hne=>by
        rw [Ii enc 3 w b m _ os x hx,if_neg (fun e=>hne e.symm)]
      have hlx:∀ i:_root_.Fin xs.length,(Lt.o xs[i]).length=3:=fun i=>by rw [Lt.o_eq]; rfl
      refine RU (es':=(L.map fun i=>xs[i]).map Lt.o) (fun i j x=>∃ h:i<L.length,Sub (L[i]).val j x) hwf hv0 (by rw [zF,zF,zF,hLl]) hs hb (by rw [zF]; exact g1) g2 g3 (fun i hi=>by rw [zM,zM]; exact hlx _) (fun i j x h=>g5 _ _ _ h.2) (fun i j i' j' x h h'=>?_) rfl ⟨rfl,fun h=>False.elim h⟩ rfl (size_sortWorldK_c enc 3 w b 0 m L.toArray os) hgrow (Nw enc 3 w b m L.toArray os hb) (by simp [putCells]) (fun i j hi hj=>?_)
      · obtain ⟨a1,a2⟩:=h
        obtain ⟨b1,b2⟩:=h'
        obtain ⟨c1,c2⟩:=g6 _ _ _ _ _ a2 b2
        exact ⟨(yU hLn).1 (_root_.Fin.ext c1),c2⟩
      · have hi':i<L.length:=by simpa using hi
        have e1:((L.map fun i=>xs[i]).map Lt.o)[i]=(xs.map Lt.o)[(L[i]).val]'(by rw [zF]; exact (L[i]).2):=by simp only [zM]; rfl
        have hj':j<3:=by rw [e1] at hj; have:=g4 (L[i]).val (by rw [zF]; exact (L[i]).2); omega
        rw [hg i hi' j hj']
        have:=g7 (L[i]).val j (by rw [zF]; exact (L[i]).2) (by rw [g4]; exact hj')
        have hk:KeepS I w (sortWorldK enc 3 w b 0 m L.toArray os):=⟨size_sortWorldK_c enc 3 w b 0 m _ os,fun x hx hlt=>hgrow x hlt fun e=>hwf.dI 0 x trivial (e▸hs) hx⟩
        have h2:=(this.keep hk (fun _ h=>h) (fun x hx hlt=>hgrow x hlt (g5 _ _ _ hx).2)).up (S':=fun x=>∃ h:i<L.length,Sub (L[i]).val j x) (fun x hx=>⟨hi',hx⟩)
        simp only [e1]
        exact h2
  · rename_i f
    obtain ⟨h1,h2⟩:=Ap h
    obtain rfl:=Ao.1 h1
    simp only [zE,zJ] at h2
    obtain ⟨rfl,rfl⟩:=h2
    intro w I V B vs hwf hvs
    obtain ⟨v,q,rfl,hv,hvs⟩:=A4 hvs
    obtain ⟨v2,q,rfl,hv2,hvs⟩:=A4 hvs
    obtain rfl:=DF hvs
    simp only [RepV] at hv hv2
    obtain ⟨vs2,rfl,hv2⟩:=hv2
    simp only [RepVs] at hv2
    subst hv2 hv
    have hcon:=AnyF.slices_SortFunc_none Pb none 0 (.func (.func 203) #[] #[]) w
    change Calls Tryz.prog 287 _ _ _ at hcon
    refine hcon.mono ?_
    rintro e w' ⟨rfl,rfl⟩
    exact ⟨_,I,V,B,rfl,by simp only [RepV,RepVs]; exact ⟨[],rfl,rfl⟩,H4 hwf⟩
  · cases h
end Go.Proofs.YtepbennkcbmgoaaGreatDoor
set_option maxRecDepth 100000
set_option linter.unusedSimpArgs false
set_option linter.unusedVariables false
set_option linter.unusedSectionVars false
namespace Go.Proofs.YtepbennkcbmgoaaGreatDoor
open Go.RowKit Go.Shelf
def EG (eq:Nat→Nat→Bool) (i:Nat):Bool:=i == 0 || !eq i (i-1)
def kept (eq:Nat→Nat→Bool) (m:Nat):List Nat:=(yI m).filter (EG eq)
theorem M2 (eq:Nat→Nat→Bool) (m:Nat):kept eq (m+1)=if EG eq m then kept eq m++[m] else kept eq m:=by
 unfold kept
 rw [List.range_succ,List.filter_append]
 cases h:EG eq m <;> simp [h]
theorem QaO (eq:Nat→Nat→Bool) (m:Nat):(kept eq m).length≤m:=by
 have:=yT (EG eq) (yI m)
 simpa [kept] using this
theorem Pc {eq:Nat→Nat→Bool} {m:Nat} (h:∀ i,i<m→EG eq i=true):kept eq m=yI m:=by
 unfold kept
 exact List.filter_eq_self.2 fun i hi=>h i (yR.1 hi)
structure RowOnly (w:World) (b:Nat) (t:TypeId) (cur:Array Value) (w':World):Prop where
 os:w'.os=w.os
 tape:w'.tape=w.tape
 output:w'.output=w.output
 size:w.heap.size≤w'.heap.size
 block:∀ x,x<w.heap.size→x≠b→w'.heap[x]?=w.heap[x]?
 row:w'.heap[b]?=some (.cells cur t (0,0))
structure CompI (eq:Nat→Nat→Bool) (cur:Array Value) (m kk:Nat) (cur2:Array Value):Prop where
 len:kk=(kept eq m).length
 lt:kk<m
 size:cur2.size=cur.size
 low:∀ p (hp:p<(kept eq m).length) j,j<3→cur2.getD (p*3+j) undef=cur.getD ((kept eq m)[p]*3+j) undef
 high:∀ {q},kk*3≤q→cur2.getD q undef=cur.getD q undef
theorem CompI.start {eq:Nat→Nat→Bool} {cur:Array Value} {k:Nat} (h:kept eq (k+1)=yI k):CompI eq cur (k+1) k cur :=
 ⟨by rw [h]; simp,by omega,rfl,fun p hp j hj=>by simp only [h,List.getElem_range],fun _=>rfl⟩
theorem CompI.skip {eq:Nat→Nat→Bool} {cur cur2:Array Value} {m kk:Nat} (h:CompI eq cur m kk cur2) (hk:EG eq m=false):CompI eq cur (m+1) kk cur2:=by
 have e:kept eq (m+1)=kept eq m:=by rw [M2,if_neg (by rw [hk]; simp)]
 exact ⟨by rw [e]; exact h.len,by have:=h.lt; omega,h.size,fun p hp j hj=>by simp only [e] at hp ⊢; exact h.low p hp j hj,h.high⟩
theorem RowOnly.below {w w1 w2:World} {b:Nat} {t:TypeId} {cur:Array Value} (h:RowOnly w b t cur w1) (k:Below w1.heap.size w1 w2) (hb:b<w1.heap.size):RowOnly w b t cur w2 :=
 ⟨k.os.trans h.os,k.tape.trans h.tape,k.output.trans h.output,Nat.le_trans h.size k.size,fun x hx hne=>by rw [k.block x (zO hx h.size),h.block x hx hne],by rw [k.block b hb]; exact h.row⟩
theorem RY {w:World} {b:Nat} {cur:Array Value} {t:TypeId} (hb:w.heap[b]?=some (.cells cur t (0,0))) (o:Nat):w.frozen? ⟨b,o,none⟩=false:=by
 unfold World.frozen?
 rw [hb]
 simp
theorem Zv {w:World} {b:Nat} {cur:Array Value} {t:TypeId} (hb:w.heap[b]?=some (.cells cur t (0,0))) {i j:Nat} (hlt:i*3+j<cur.size):w.cell? ⟨b,i*3+j,none⟩=some cur[i*3+j]:=by
 unfold World.cell?
 simp only [hb,yJ,if_false]
 rw [zI hlt]
 rfl
theorem CompI.keep {eq:Nat→Nat→Bool} {cur cur2:Array Value} {m kk:Nat} (h:CompI eq cur m kk cur2) (hk:EG eq m=true) (hs:kk*3+2<cur2.size) {v0 v1 v2:Value} (e0:cur.getD (m*3+0) undef=v0) (e1:cur.getD (m*3+1) undef=v1) (e2:cur.getD (m*3+2) undef=v2) :
    CompI eq cur (m+1) (kk+1) (((cur2.setIfInBounds (kk*3) v0).setIfInBounds (kk*3+1) v1).setIfInBounds (kk*3+2) v2):=by
  have e:kept eq (m+1)=kept eq m++[m]:=by rw [M2,if_pos hk]
  have hl:=h.len
  have hget:∀ q,(((cur2.setIfInBounds (kk*3) v0).setIfInBounds (kk*3+1) v1).setIfInBounds (kk*3+2) v2).getD q undef=if q=kk*3+2 then v2 else if q=kk*3+1 then v1 else if q=kk*3 then v0 else cur2.getD q undef:=fun q=>by
    simp only [zH,yC,Array.size_setIfInBounds]
    by_cases h2:kk*3+2=q
    · subst h2; simp [hs]
    · rw [if_neg h2,if_neg (show ¬ q=kk*3+2 from fun e=>h2 e.symm)]
      by_cases h1:kk*3+1=q
      · subst h1; simp [show kk*3+1<cur2.size by omega]
      · rw [if_neg h1,if_neg (show ¬ q=kk*3+1 from fun e=>h1 e.symm)]
        by_cases h0:kk*3=q
        · subst h0; simp [show kk*3<cur2.size by omega]
        · rw [if_neg h0,if_neg (show ¬ q=kk*3 from fun e=>h0 e.symm)]
  refine ⟨by rw [e]; simp [hl],by have:=h.lt; omega,by simp [h.size],fun p hp j hj=>?_,fun {q} hq=>?_⟩
  · simp only [e,yP,List.length_singleton] at hp
    rw [hget]
    rcases yF p (kept eq m).length with hlt | hge
    · rw [if_neg (by omega),if_neg (by omega),if_neg (by omega)]
      simp only [e,xA hlt]
      exact h.low p hlt j hj
    · have hp2:p=kk:=by omega
      subst hp2
      have eg:(kept eq (m+1))[p]'(by rw [e]; simpa using hp)=m:=by
        simp only [e]
        rw [List.getElem_append_right (by omega)]
        simp [hl]
      rw [eg]
      have hj3:j=0∨j=1∨j=2:=by omega
      rcases hj3 with rfl | rfl | rfl
      · rw [if_neg (by omega),if_neg (by omega),if_pos (by omega),e0]
      · rw [if_neg (by omega),if_pos (by omega),e1]
      · rw [if_pos (by omega),e2]
  · rw [hget,if_neg (by omega),if_neg (by omega),if_neg (by omega)]
    exact h.high (by omega)
theorem RowOnly.set {w V:World} {b:Nat} {t:TypeId} {cur:Array Value} (h:RowOnly w b t cur V) (o:Nat) (v:Value):RowOnly w b t (cur.setIfInBounds o v) (V.setCell ⟨b,o,none⟩ v):=by
 refine ⟨h.os,h.tape,h.output,by simpa [World.setCell] using h.size,fun x hx hne=>?_,?_⟩
 ·simp only [World.setCell,yD]
  rw [if_neg (fun e=>hne e.symm)]
  exact h.block x hx hne
 ·simp only [World.setCell,yD,if_true,h.row,yN,yJ,if_false]
  rfl
theorem RowOnly.setCells {w:World} {b:Nat} {t:TypeId}:∀ (vs:List Value) (o:Nat) {V:World} {cur:Array Value},RowOnly w b t cur V→∃ cur',RowOnly w b t cur' (V.setCells b o vs)∧cur'.size=cur.size∧∀ q,q<o→cur'.getD q undef=cur.getD q undef
 | [],o,V,cur,h=>⟨cur,h,rfl,fun _ _=>rfl⟩
 | v :: r,o,V,cur,h=>by
  obtain ⟨cur',h1,h2,h3⟩:=RowOnly.setCells r (o+1) (h.set o v)
  refine ⟨cur',h1,by simpa using h2,fun q hq=>?_⟩
  rw [h3 q (by omega)]
  simp only [zH,yC]
  rw [if_neg (by omega)]
def Fx (n:Nat):List Value:=(Builtin.zeroCells #[.bool false,.string ⟨#[]⟩,.slice none 0 0] n).toList
theorem VA {n:Nat} {v:Value} (h:v∈Fx n):v.oneCell'=true:=by
 unfold Fx Builtin.zeroCells at h
 simp only [Array.toList_map,yK,Array.toList_range,yR] at h
 obtain ⟨i,_,rfl⟩:=h
 have hm:i % 3=0∨i % 3=1∨i % 3=2:=by omega
 show (#[Value.bool false,.string ⟨#[]⟩,.slice none 0 0][i % 3]!).oneCell'=true
 rcases hm with e | e | e <;> rw [e] <;> rfl
theorem Pd (n:Nat):(Fx n).length=n*3:=by
 unfold Fx Builtin.zeroCells
 simp
theorem Pe (ty:TypeId) {w:World} {b:Nat} {cur:Array Value} {t:TypeId} {o n c:Nat} (hb:w.heap[b]?=some (.cells cur t (0,0))) (hn:0<n) (hl:o+n*3≤cur.size) :
  (Builtin.clear_ #[58] ty #[.slice (some ⟨b,o,none⟩) n c]).run Tryz.prog w=.ok (.tuple #[]) (w.setCells b o (Fx n)):=by
 have hv:=fun w=>Tryz.zeroValue122 w
 have hst:=run_storeCells_cells (P:=Tryz.prog) b o (Fx n) 0 w (fun j hj=>by
  rw [Pd] at hj
  have:o+j<cur.size:=by omega
  unfold World.cell?
  simp only [hb,yJ,if_false,z6]
  rw [zI this]
  rfl) (fun j hj=>RY hb _) (fun v hv=>VA hv)
 simp only [z6] at hst
 obtain ⟨m,rfl⟩:∃ m,n=m+1:=⟨n-1,by omega⟩
 unfold Fx at hst ⊢
 simp [Builtin.clear_,Tryz.underlying58,hv,Value.cells,hst]
theorem I1 {w:World} {b:Nat} {cur:Array Value} {t:TypeId} (hb:w.heap[b]?=some (.cells cur t (0,0))) {i j:Nat} {v:Value} (hlt:i*3+j<cur.size) (hv:True) (h:cur.getD (i*3+j) undef=v):w.cell? ⟨b,i*3+j,none⟩=some v:=by
 unfold World.cell?
 simp only [hb,yJ,if_false]
 rw [zH,zI hlt,z8] at h
 rw [zI hlt,h]
 rfl
theorem NI (n : Nat) (eq:Nat→Nat→Bool) (w:World) (b cap:Nat) (cur:Array Value) (t:TypeId) (hb:w.heap[b]?=some (.cells cur t (0,0))) (hsz:cur.size=cap*3) (hn:n≤cap) (hcap:cap≤9223372036854775807)
    (pB:Nat→Bool) (pS:Nat→ByteArray) (pA:Nat→Option Addr) (pL pC:Nat→Nat)
    (hc:∀ i,i<n→cur.getD (i*3+0) undef=.bool (pB i)∧cur.getD (i*3+1) undef=.string (pS i)∧cur.getD (i*3+2) undef=.slice (pA i) (pL i) (pC i))
    (hcall:∀ i j,i<n→j<n→∀ W,w.heap.size≤W.heap.size→(∀ x,x<w.heap.size→x≠b→W.heap[x]?=w.heap[x]?)→Calls Tryz.prog 217 #[.agg #[.bool (pB i),.string (pS i),.slice (pA i) (pL i) (pC i)],.agg #[.bool (pB j),.string (pS j),.slice (pA j) (pL j) (pC j)]] W (Ret W (.bool (eq i j)))) :
    Calls Tryz.prog 288 #[.slice (some ⟨b,0,none⟩) n cap,.func (.func 217) #[] #[]] w fun e w'=>e=.returned (.slice (some ⟨b,0,none⟩) (kept eq n).length cap)∧∃ cur',RowOnly w b t cur' w'∧cur'.size=cur.size∧∀ p (hp:p<(kept eq n).length) j,j<3→cur'.getD (p*3+j) undef=cur.getD ((kept eq n)[p]*3+j) undef:=by
  have hF:∀ (args:Array Value) (W:World),(callFunc 217 args).run Tryz.prog W=.ok (.enter 217 args) W:=enters_of Tryz.func217 (by kernel_rfl) rfl
  have hblt:=(zQ.1 hb).1
  have HC:=Lib.hid hcall
  clear hcall
  have HE:=Lib.hid hc
  clear hc
  by_cases h2:n<2
  · have hk:kept eq n=yI n:=Pc fun i hi=>by
      have:i=0:=by omega
      subst this; rfl
    rw [hk]
    go_enter Tryz.func288,Tryz.ntmps288
    go_wp2
    go_ret
    refine ⟨by simp,cur,⟨rfl,rfl,rfl,zP _,fun _ _ _=>rfl,hb⟩,rfl,fun p hp j hj=>?_⟩
    simp
  · go_enter Tryz.func288,Tryz.ntmps288
    go_wp2
    go_loopg [5] n (fun g s5 wr=>∃ k:Nat,1≤k∧k≤n∧n-k≤g∧s5=.int .i64 k∧Below w.heap.size w wr∧∀ j,j<k→EG eq j=true)
    case atStart =>
      refine ⟨1,zP _,by omega,by omega,rfl,Below.refl _ _,fun j hj=>?_⟩
      obtain rfl:j=0:=by omega
      rfl
    case round =>
      have HB0:=Lib.hid hb
      obtain ⟨k,hk1,hk,hg,rfl,hbw,hall⟩:=hrel
      have HA:=Lib.hid hall
      clear hall
      have hzw:=hbw.size
      by_cases hlt:k<n
      · obtain ⟨e0,e1,e2⟩:=HE.out k hlt
        obtain ⟨d0,d1,d2⟩:=HE.out (k-1) (by omega)
        have hbr:wr.heap[b]?=some (.cells cur t (0,0)):=by rw [hbw.block b hblt]; exact hb
        have q0:=I1 hbr (i:=k) (j:=0) (by omega) trivial e0
        have q1:=I1 hbr (i:=k) (j:=1) (by omega) trivial e1
        have q2:=I1 hbr (i:=k) (j:=2) (by omega) trivial e2
        have r0:=I1 hbr (i:=k-1) (j:=0) (by omega) trivial d0
        have r1:=I1 hbr (i:=k-1) (j:=1) (by omega) trivial d1
        have r2:=I1 hbr (i:=k-1) (j:=2) (by omega) trivial d2
        have hbrz:b<wr.heap.size:=by omega
        simp only [z6] at q0 r0
        have z1:IntKind.i64.wrap ((k:Int)-1)=(k:Int)-1:=IntWalk.i64_in _ (by omega)
        have z2:(0:Int)≤(k:Int)-1:=by omega
        have z3:(1:Int)≤(k:Int):=by omega
        have z4:(k:Int)-1<(n:Int):=by omega
        have z5:((k:Int)-1).toNat=k-1:=by omega
        have HB:=Lib.hid hb
        clear hb hbr e0 e1 e2 d0 d1 d2
        go_wp2
        refine Flow.wp_region_flow 11 [(10,.fixed (.bool (eq k (k-1))))] [] (by kernel_rfl) (by kernel_rfl) (Lg rfl) ?_
        intro hgrow
        simp only [y5,xC]
        repeat (first | ((with_reducible refine Flow.flow_quiet ?_ ?_ ?_); (focus (exact rfl)); (focus (exact rfl)); intro K hK; go_simp; refine hK _ ?_; clear hK K) | ((with_reducible refine Flow.flow_pass ?_); intro K hK; go_simp; (first | refine hK _ ?_ | (refine ⟨?_,hK _ ?_⟩; (focus (simp [undef]; done)))); clear hK K))
        refine Flow.flow_exact _ rfl (by go_simp) (fun W hW=>SS (by go_simp) (HC.out k (k-1) hlt (by omega) _ (by have:=hW.size; omega) (fun x hx _=>by rw [hW.block x (by omega),hbw.block x hx]))) ?_
        repeat (first | ((with_reducible refine Flow.flow_quiet ?_ ?_ ?_); (focus (exact rfl)); (focus (exact rfl)); intro K hK; go_simp; refine hK _ ?_; clear hK K) | ((with_reducible refine Flow.flow_pass ?_); intro K hK; go_simp; (first | refine hK _ ?_ | (refine ⟨?_,hK _ ?_⟩; (focus (simp [undef]; done)))); clear hK K))
        with_reducible refine Flow.flow_nil ?_
        clear hgrow
        intro W hW _
        have hzW:=hW.size
        try simp at hzW
        obtain ⟨hcW,hfW⟩:=Qbl hW
        simp only [y6,yB,xE]
        have hWb:Below w.heap.size w W:=hbw.trans (hW.mono hzw)
        cases heq:eq k (k-1) with
        | false =>
          go_wp2
          go_roundg (n-(k+1))
          case measure=>omega
          case rel =>
            refine ⟨k+1,by omega,by omega,zP _,by go_num,hWb,fun j hj=>?_⟩
            by_cases e:j=k
            · subst e; unfold EG; rw [heq]; simp
            · exact HA.out j (by omega)
        | true =>
          have hkk:kept eq (k+1)=yI k:=by
            rw [M2,Pc HA.out]
            unfold EG
            rw [heq]
            simp; omega
          have hb2:W.heap[b]?=some (.cells cur t (0,0)):=by rw [hWb.block b hblt]; exact HB.out
          clear q0 q1 q2 r0 r1 r2 z1 z2 z3 z4 z5 hcW hfW hzW hW
          go_wp2
          go_loopg [5,7] n (fun g s5 s7 wr2=>∃ (kk k2:Nat) (cur2:Array Value),s5=.int .i64 kk∧s7=.int .i64 k2∧1≤k2∧k+k2≤n∧n-(k+k2)≤g∧RowOnly w b t cur2 wr2∧CompI eq cur (k+k2) kk cur2)
          case atStart=>exact ⟨k,1,cur,rfl,rfl,zP _,by omega,by omega,⟨hWb.os,hWb.tape,hWb.output,hWb.size,fun x hx _=>hWb.block x hx,hb2⟩,CompI.start hkk⟩
          case round =>
            obtain ⟨kk,k2,cur2,rfl,rfl,hk2,hle,hg2,hro,hI⟩:=hrel
            have HI:=Lib.hid hI
            have HR:=Lib.hid hro
            have hkl:=hI.lt
            have hs2:=hI.size
            have hzr:=hro.size
            by_cases hlt2:k+k2<n
            · have hrow:=hro.row
              obtain ⟨e0,e1,e2⟩:=HE.out (k+k2) hlt2
              obtain ⟨d0,d1,d2⟩:=HE.out (k+k2-1) (by omega)
              rw [←hI.high (by omega)] at e0 e1 e2 d0 d1 d2
              have q0:=I1 hrow (i:=k+k2) (j:=0) (by omega) trivial e0
              have q1:=I1 hrow (i:=k+k2) (j:=1) (by omega) trivial e1
              have q2:=I1 hrow (i:=k+k2) (j:=2) (by omega) trivial e2
              have r0:=I1 hrow (i:=k+k2-1) (j:=0) (by omega) trivial d0
              have r1:=I1 hrow (i:=k+k2-1) (j:=1) (by omega) trivial d1
              have r2:=I1 hrow (i:=k+k2-1) (j:=2) (by omega) trivial d2
              rw [show (k+k2)*3=k*3+k2*3 by omega] at q0 q1 q2
              rw [show (k+k2-1)*3=k*3+(k2-1)*3 by omega] at r0 r1 r2
              simp only [z6] at q0 r0
              have hbz:b<wr.heap.size:=by omega
              have z1:IntKind.i64.wrap ((k2:Int)-1)=(k2:Int)-1:=IntWalk.i64_in _ (by omega)
              have z2:(0:Int)≤(k2:Int)-1:=by omega
              have z3:(1:Int)≤(k2:Int):=by omega
              have z4:(k2:Int)-1<((n-k:Nat):Int):=by omega
              have z5:((k2:Int)-1).toNat=k2-1:=by omega
              clear hI hro hrow e0 e1 e2 d0 d1 d2 hb2
              go_wp2
              refine Flow.wp_region_flow 12 [(10,.fixed (.bool (eq (k+k2) (k+k2-1))))] [] (by kernel_rfl) (by kernel_rfl) (Lg rfl) ?_
              intro hgrow
              simp only [y5,xC]
              repeat (first | ((with_reducible refine Flow.flow_quiet ?_ ?_ ?_); (focus (exact rfl)); (focus (exact rfl)); intro K hK; go_simp; refine hK _ ?_; clear hK K) | ((with_reducible refine Flow.flow_pass ?_); intro K hK; go_simp; (first | refine hK _ ?_ | (refine ⟨?_,hK _ ?_⟩; (focus (simp [undef]; done)))); clear hK K))
              refine Flow.flow_exact _ rfl (by go_simp) (fun W hW=>SS (by go_simp) (HC.out (k+k2) (k+k2-1) hlt2 (by omega) _ (by have:=hW.size; omega) (fun x hx hxb=>by rw [hW.block x (by omega),HR.out.block x hx hxb]))) ?_
              repeat (first | ((with_reducible refine Flow.flow_quiet ?_ ?_ ?_); (focus (exact rfl)); (focus (exact rfl)); intro K hK; go_simp; refine hK _ ?_; clear hK K) | ((with_reducible refine Flow.flow_pass ?_); intro K hK; go_simp; (first | refine hK _ ?_ | (refine ⟨?_,hK _ ?_⟩; (focus (simp [undef]; done)))); clear hK K))
              with_reducible refine Flow.flow_nil ?_
              clear hgrow
              intro V hV _
              have hzV:=hV.size
              try simp at hzV
              obtain ⟨hcV,hfV⟩:=Qbl hV
              simp only [y6,yB,xE]
              have hVR:RowOnly w b t cur2 V:=HR.out.below hV (by omega)
              have f0:∀ o,wr.frozen? ⟨b,o,none⟩=false:=fun o=>RY HR.out.row o
              cases heq2:eq (k+k2) (k+k2-1) with
              | true =>
                go_wp2
                go_roundg (n-(k+(k2+1)))
                case measure=>omega
                case rel=>exact ⟨kk,k2+1,cur2,rfl,by go_num,by omega,by omega,zP _,hVR,HI.out.skip (by unfold EG; rw [heq2]; simp; omega)⟩
              | false =>
                have w0:=Zv HR.out.row (i:=kk) (j:=0) (by omega)
                have w1:=Zv HR.out.row (i:=kk) (j:=1) (by omega)
                have w2:=Zv HR.out.row (i:=kk) (j:=2) (by omega)
                simp only [z6] at w0
                have g0:=f0 (kk*3)
                have g1:=f0 (kk*3+1)
                have g2:=f0 (kk*3+2)
                have zz:kk<n:=by omega
                have HVR:=Lib.hid hVR
                clear hVR f0
                go_wp2
                go_roundg (n-(k+(k2+1)))
                case measure=>omega
                case rel =>
                  refine ⟨kk+1,k2+1,_,by go_num,by go_num,by omega,by omega,zP _,((HVR.out.set _ _).set _ _).set _ _,?_⟩
                  obtain ⟨e0,e1,e2⟩:=HE.out (k+k2) hlt2
                  exact HI.out.keep (by unfold EG; rw [heq2]; simp) (by omega) e0 e1 e2
            · have hend:k+k2=n:=by omega
              have hcl:∀ ty,(Builtin.clear_ #[58] ty #[.slice (some ⟨b,kk*3,none⟩) (n-kk) (cap-kk)]).run Tryz.prog wr=.ok (.tuple #[]) (wr.setCells b (kk*3) (Fx (n-kk))):=fun ty=>Pe ty hro.row (by omega) (by omega)
              clear hI hro
              go_wp2
              go_ret
              have hI:=HI.out
              rw [hend] at hI
              obtain ⟨cur3,h1,h2,h3⟩:=HR.out.setCells (Fx (n-kk)) (kk*3)
              refine ⟨by rw [hI.len]; rfl,cur3,h1,by rw [h2,hI.size],fun p hp j hj=>?_⟩
              have:=hI.len
              rw [h3 _ (by omega)]
              exact hI.low p hp j hj
      · obtain rfl:k=n:=by omega
        have hk:kept eq k=yI k:=Pc HA.out
        clear hb
        go_wp2
        go_ret
        rw [hk]
        refine ⟨by simp,cur,⟨hbw.os,hbw.tape,hbw.output,hbw.size,fun x hx _=>hbw.block x hx,by rw [hbw.block b hblt]; exact HB0.out⟩,rfl,fun p hp j hj=>?_⟩
        simp
end Go.Proofs.YtepbennkcbmgoaaGreatDoor
set_option maxRecDepth 100000
set_option linter.unusedSimpArgs false
set_option linter.unusedVariables false
set_option linter.unusedSectionVars false
namespace Go.Proofs.YtepbennkcbmgoaaGreatDoor
open Go.RowKit Go.Shelf
noncomputable def KL (xs:List Lt) (i j:Nat):Bool:=dec (xs[i]?=xs[j]?)
noncomputable def Pf (xs:List Lt):List Lt:=(kept (KL xs) xs.length).filterMap fun i=>xs[i]?
theorem Oi {eq:Nat→Nat→Bool} {m i:Nat} (h:i∈kept eq m):i<m∧EG eq i=true:=by
 unfold kept at h
 rw [List.mem_filter,yR] at h
 exact h
theorem TN (eq:Nat→Nat→Bool) (m:Nat):(kept eq m).Pairwise (· < ·):=(List.pairwise_lt_range (n:=m)).filter _
theorem VB (eq:Nat→Nat→Bool) (m:Nat):(kept eq m).Nodup:=(TN eq m).imp fun h e=>absurd e (Nat.ne_of_lt h)
theorem GZ (xs:List Lt):∀ l:List Nat,(∀ i∈l,i<xs.length)→(l.filterMap fun i=>xs[i]?).length=l.length∧∀ p i:Nat,l[p]?=some i→(l.filterMap fun i=>xs[i]?)[p]?=xs[i]?
  | [],_=>⟨rfl,fun p i h=>by simp at h⟩
  | i :: l,hl=>by
    have hi:=hl i (by simp)
    obtain ⟨h1,h2⟩:=GZ xs l fun j hj=>hl j (by simp [hj])
    have e:((i :: l).filterMap fun i=>xs[i]?)=xs[i] :: l.filterMap fun i=>xs[i]?:=by
      rw [List.filterMap_cons,zN hi]
    refine ⟨by rw [e]; simp [h1],fun p j hp=>?_⟩
    rw [e]
    cases p with
    | zero =>
      simp only [List.getElem?_cons_zero,zE] at hp ⊢
      subst hp
      exact (zN hi).symm
    | succ p =>
      simp only [List.getElem?_cons_succ] at hp ⊢
      exact h2 p j hp
theorem Yj (xs:List Lt):(Pf xs).length=(kept (KL xs) xs.length).length:=(GZ xs _ fun i hi=>(Oi hi).1).1
theorem Yk (xs:List Lt) {p i:Nat} (h:(kept (KL xs) xs.length)[p]?=some i) (hp:p<(Pf xs).length):∃ hi:i<xs.length,(Pf xs)[p]=xs[i]:=by
 have hi:=(Oi (List.mem_of_getElem? h)).1
 have:=(GZ xs _ fun i hi=>(Oi hi).1).2 p i h
 refine ⟨hi,?_⟩
 have e:(Pf xs)[p]?=xs[i]?:=this
 rw [zN hp,zN hi] at e
 exact zC e
noncomputable def KM (xs:List SV) (ob:List Ob):Option (SV × List Ob) :=
 match xs,ob with
 | [.ref 0,.fn f []],[.row t sz es]=>bif dec (f=217∧sz=3∧es.length≤1099511627776∧∃ xs:List Lt,es=xs.map Lt.o∧∀ x∈xs,∀ y∈xs,Fun Tryz.prog f [x.sv,y.sv] [] (.bool (dec (x=y))) []) then some (.ref 1,[.gone,.row t sz ((Pf (unL es)).map Lt.o)]) else none
 | [.nil,.fn f []],[]=>bif dec (f=217) then some (.nil,[]) else none
 | _,_=>none
def vB:Value→Bool
 | .bool b=>b
 | _=>false
def vS:Value→ByteArray
 | .string s=>s
 | _=>⟨#[]⟩
def vA:Value→Option Addr × Nat × Nat
 | .slice a n c=>(a,n,c)
 | _=>(none,0,0)
theorem I3 (w:World):Calls Tryz.prog 288 #[.slice none 0 0,.func (.func 217) #[] #[]] w fun e w'=>e=.returned (.slice none 0 0)∧w'=w:=by
 go_enter Tryz.func288,Tryz.ntmps288
 go_wp2
 go_ret
 exact ⟨rfl,rfl⟩
theorem Pg {w w':World} {I:Nat→Prop} {V:Nat→Option Value} {B:Nat→Nat→Prop} {t:TypeId} {es es':List (List OT)} {v':Value} (hwf:Wf w I V B (Aq [.row t 3 es]))
    (hos:w'.os=w.os) (htape:TapeOk w w') (hout:w'.output=w.output) (hsz:w.heap.size≤w'.heap.size) (hblk:∀ x,x<w.heap.size→¬ B 0 x→w'.heap[x]?=w.heap[x]?) (hrow:RowR w' I (B 0) t 3 es' v') :
    FunPost w I V B [.row t 3 es] [.gone,.row t 3 es'] w' I (fun g=>if g=1 then some v' else V g) (fun g=>if g=1 then B 0 else B g):=by
  have hB0:∀ x,B 0 x→HB B [Ob.row t 3 es] x:=fun x hx=>⟨0,trivial,hx⟩
  have hlv:∀ g,(Aq [Ob.gone,.row t 3 es'] g).live→g=1:=fun g h=>by
    match g with
    | 0=>exact h.elim
    | 1=>rfl
    | g+2=>exact h.elim
  refine ⟨⟨hos,htape,hout,hsz,fun x hx hn=>hblk x hx fun h=>hn (hB0 x h)⟩,fun _ h=>h,fun _ h=>.inl h,fun g u hu=>?_,?_,fun g x hl hx=>?_⟩
  · by_cases e:g=1
    · subst e
      rw [hwf.fr 1 rfl] at hu; cases hu
    · simp only [e,if_false]; exact hu
  · refine ⟨fun x hx=>zO (hwf.ilt x hx) hsz,fun g hl=>?_,fun g x hl hx=>?_,fun g x hl hx=>?_,fun g g' x hl hl' _ _=>by rw [hlv g hl,hlv g' hl'],fun g hf=>?_,hwf.gl.keep ⟨hsz,fun x hx hlt=>hblk x hlt fun h=>hwf.dI 0 x trivial h hx⟩ fun _ h=>h⟩
    · obtain rfl:=hlv g hl
      exact ⟨v',by simp,hrow⟩
    · obtain rfl:=hlv g hl
      simp only [if_true] at hx
      exact zO (hwf.lt 0 x trivial hx) hsz
    · obtain rfl:=hlv g hl
      simp only [if_true] at hx
      exact hwf.dI 0 x trivial hx
    · match g with
      | 0=>cases hf
      | 1=>cases hf
      | g+2 =>
        have e:¬ g+2=1:=by omega
        simp only [e,if_false]
        exact hwf.fr (g+2) rfl
  · obtain rfl:=hlv g hl
    simp only [if_true] at hx
    exact .inl (hB0 x hx)
theorem NJ {xs:List SV} {ob:List Ob} {r:SV} {ob':List Ob} (h:KM xs ob=some (r,ob')):Fun Tryz.prog 288 xs ob r ob':=by
  unfold KM at h
  split at h
  · rename_i f t sz es
    obtain ⟨h1,h2⟩:=Ap h
    obtain ⟨rfl,rfl,hk3,xs,rfl,hF⟩:=Ao.1 h1
    simp only [zE,zJ] at h2
    obtain ⟨rfl,rfl⟩:=h2
    clear h h1
    rw [Xy]
    rw [zF] at hk3
    intro w I V B vs hwf hvs
    obtain ⟨v,q,rfl,hv,hvs⟩:=A4 hvs
    obtain ⟨v2,q,rfl,hv2,hvs⟩:=A4 hvs
    obtain rfl:=DF hvs
    simp only [RepV] at hv hv2
    obtain ⟨vs2,rfl,hv2⟩:=hv2
    simp only [RepVs] at hv2
    subst hv2
    obtain ⟨val,hval,hrow⟩:=hwf.obj 0 trivial
    rw [hv.1] at hval
    obtain rfl:=zC hval
    have hv0:=hv.1
    have hrow:RowR w I (B 0) t 3 (xs.map Lt.o) v:=hrow
    have hrow0:=hrow
    rcases hrow with ⟨he,rfl⟩ | ⟨b,cap,cur,Sub,rfl,hs,hb,g1,g2,g3,g4,g5,g6,g7⟩
    · simp only [List.map_eq_nil_iff] at he
      subst he
      refine (I3 w).mono ?_
      rintro e w' ⟨rfl,rfl⟩
      have e0:Pf []=[]:=rfl
      rw [e0]
      exact ⟨_,I,_,_,rfl,by simp only [RepV]; exact ⟨rfl,rfl⟩,Pg hwf rfl (TapeOk.mk' rfl rfl) rfl (zP _) (fun _ _ _=>rfl) (.inl ⟨rfl,rfl⟩)⟩
    · have hblt:=(zQ.1 hb).1
      have view:=fun i hi=>Zu (xs:=xs) (S:=B 0) g5 g7 i hi
      rw [zF] at g1
      have hJb:∀ x,(I x∨(B 0 x∧x≠b))→x≠b:=fun x hx=>by
        rcases hx with hx | hx
        · intro e; subst e; exact hwf.dI 0 x trivial hs hx
        · exact hx.2
      have hJl:∀ x,(I x∨(B 0 x∧x≠b))→x<w.heap.size:=fun x hx=>by
        rcases hx with hx | hx
        · exact hwf.ilt x hx
        · exact hwf.lt 0 x trivial hx.1
      have hcon:=NI xs.length (KL xs) w b cap cur t hb g3 g1 g2 (fun i=>vB (cur.getD (i*3+0) undef)) (fun i=>vS (cur.getD (i*3+1) undef)) (fun i=>(vA (cur.getD (i*3+2) undef)).1) (fun i=>(vA (cur.getD (i*3+2) undef)).2.1) (fun i=>(vA (cur.getD (i*3+2) undef)).2.2)
        (fun i hi=>by
          obtain ⟨a,l,c,e0,e1,e2,_⟩:=view i hi
          rw [e0,e1,e2]
          exact ⟨rfl,rfl,rfl⟩)
        (fun i j hi hj W hW1 hW2=>by
          obtain ⟨a,l,c,e0,e1,e2,hrx⟩:=view i hi
          obtain ⟨a',l',c',e0',e1',e2',hry⟩:=view j hj
          have hk:KeepS (fun x=>I x∨(B 0 x∧x≠b)) w W:=⟨hW1,fun x hx hlt=>hW2 x hlt (hJb x hx)⟩
          have hc:=QbD (hF xs[i] (zL _) xs[j] (zL _)) (W:=W) (J:=fun x=>I x∨(B 0 x∧x≠b)) (fun x hx=>zO (hJl x hx) hW1) (hwf.gl.keep ⟨hW1,fun x hx hlt=>hk.block x (.inl hx) hlt⟩ fun x hx=>.inl hx) (RepV.mono hk (fun _ h=>h) (VLe.refl _) _ _ hrx) (RepV.mono hk (fun _ h=>h) (VLe.refl _) _ _ hry)
          rw [e0,e1,e2,e0',e1',e2']
          have e:KL xs i j=dec (xs[i]=xs[j]):=by
            unfold KL
            rw [zN hi,zN hj]
            by_cases h:xs[i]=xs[j]
            · rw [An h,An (by rw [h])]
            · rw [Aj h,Aj (fun e=>h (zC e))]
          rw [e]
          exact hc)
      rw [zF]
      refine hcon.mono ?_
      rintro e w' ⟨rfl,cur',hro,hcs,hcell⟩
      have c1:=Yj xs
      have hkl:=QaO (KL xs) xs.length
      refine ⟨_,I,_,_,rfl,by simp only [RepV]; exact ⟨rfl,rfl⟩,Pg hwf hro.os ⟨hro.tape,fun h=>False.elim h⟩ hro.output hro.size (fun x hx hn=>hro.block x hx fun e=>hn (e▸hs)) ?_⟩
      refine .inr ⟨b,cap,cur',fun p j x=>∃ h:p<(kept (KL xs) xs.length).length,Sub ((kept (KL xs) xs.length)[p]) j x,by rw [zF,c1],hs,hro.row,by rw [zF,c1]; omega,g2,by rw [hcs]; exact g3,fun i hi=>by rw [zM,Lt.o_eq]; rfl,fun i j x h=>g5 _ _ _ h.2,fun i j i' j' x h h'=>?_,fun i j hi hj=>?_⟩
      · obtain ⟨a1,a2⟩:=h
        obtain ⟨b1,b2⟩:=h'
        obtain ⟨d1,d2⟩:=g6 _ _ _ _ _ a2 b2
        exact ⟨(yU (VB _ _)).1 d1,d2⟩
      · have hi':i<(kept (KL xs) xs.length).length:=by rw [←c1]; simpa using hi
        have hlt:=(Oi (zL hi')).1
        have e1:((Pf xs).map Lt.o)[i]=(xs.map Lt.o)[(kept (KL xs) xs.length)[i]]'(by rw [zF]; exact hlt):=by
          obtain ⟨_,c2⟩:=Yk xs (zN hi') (by rw [c1]; exact hi')
          rw [zM,c2,zM]
        have hj':j<3:=by rw [e1] at hj; have:=g4 _ (show (kept (KL xs) xs.length)[i]<(xs.map Lt.o).length by rw [zF]; exact hlt); omega
        rw [hcell i hi' j hj']
        have h7:=g7 ((kept (KL xs) xs.length)[i]) j (by rw [zF]; exact hlt) (by rw [g4]; exact hj')
        have hk:KeepS I w w':=⟨hro.size,fun x hx hlt=>hro.block x hlt fun e=>hwf.dI 0 x trivial (e▸hs) hx⟩
        have h2:=(h7.keep hk (fun _ h=>h) (fun x hx hlt=>hro.block x hlt (g5 _ _ _ hx).2)).up (S':=fun x=>∃ h:i<(kept (KL xs) xs.length).length,Sub ((kept (KL xs) xs.length)[i]) j x) (fun x hx=>⟨hi',hx⟩)
        simp only [e1]
        exact h2
  · rename_i f
    obtain ⟨h1,h2⟩:=Ap h
    obtain rfl:=Ao.1 h1
    simp only [zE,zJ] at h2
    obtain ⟨rfl,rfl⟩:=h2
    intro w I V B vs hwf hvs
    obtain ⟨v,q,rfl,hv,hvs⟩:=A4 hvs
    obtain ⟨v2,q,rfl,hv2,hvs⟩:=A4 hvs
    obtain rfl:=DF hvs
    simp only [RepV] at hv hv2
    obtain ⟨vs2,rfl,hv2⟩:=hv2
    simp only [RepVs] at hv2
    subst hv2 hv
    refine (I3 w).mono ?_
    rintro e w' ⟨rfl,rfl⟩
    exact ⟨_,I,V,B,rfl,by simp only [RepV],H4 hwf⟩
  · cases h
end Go.Proofs.YtepbennkcbmgoaaGreatDoor
set_option maxRecDepth 100000
set_option linter.unusedSimpArgs false
set_option linter.unusedVariables false
set_option linter.unusedSectionVars false
namespace Go.Proofs.YtepbennkcbmgoaaGreatDoor
open Go.RowKit Go.Shelf
theorem JK {w w':World} {I:Nat→Prop} {V:Nat→Option Value} {B:Nat→Nat→Prop} {t:TypeId} {sz:Nat} {es:List (List OT)} {v':Value} {S:Nat→Prop} (hwf:Wf w I V B (Aq []))
    (hos:w'.os=w.os) (htape:TapeOk w w') (hout:w'.output=w.output) (hsz:w.heap.size≤w'.heap.size) (hblk:∀ x,x<w.heap.size→w'.heap[x]?=w.heap[x]?) (hS:∀ x,S x→w.heap.size≤x∧x<w'.heap.size) (hrow:RowR w' I S t sz es v') :
    FunPost w I V B [] [.row t sz es] w' I (fun g=>if g=0 then some v' else V g) (fun g=>if g=0 then S else B g):=by
  have hlv:∀ g,(Aq [Ob.row t sz es] g).live→g=0:=fun g h=>by
    match g with
    | 0=>rfl
    | g+1=>exact h.elim
  refine ⟨⟨hos,htape,hout,hsz,fun x hx hn=>hblk x hx⟩,fun _ h=>h,fun _ h=>.inl h,fun g u hu=>?_,?_,fun g x hl hx=>?_⟩
  · rw [hwf.fr g rfl] at hu; cases hu
  · refine ⟨fun x hx=>zO (hwf.ilt x hx) hsz,fun g hl=>?_,fun g x hl hx=>?_,fun g x hl hx hI=>?_,fun g g' x hl hl' _ _=>by rw [hlv g hl,hlv g' hl'],fun g hf=>?_,hwf.gl.keep ⟨hsz,fun x _ hlt=>hblk x hlt⟩ fun _ h=>h⟩
    · obtain rfl:=hlv g hl
      exact ⟨v',by simp,hrow⟩
    · obtain rfl:=hlv g hl
      simp only [if_true] at hx
      exact (hS x hx).2
    · obtain rfl:=hlv g hl
      simp only [if_true] at hx
      have:=hwf.ilt x hI
      have:=(hS x hx).1
      omega
    · match g with
      | 0=>cases hf
      | g+1 =>
        have e:¬ g+1=0:=by omega
        simp only [e,if_false]
        exact hwf.fr (g+1) rfl
  · obtain rfl:=hlv g hl
    simp only [if_true] at hx
    exact .inr (hS x hx).1
theorem QbE {w:World} {I S T:Nat→Prop} {d:D} {v:Value} (h:DRep false w T d v) (hT:∀ x,T x→I x):ORep w I S d.ot v:=by
 cases h with
 | int _ n=>exact .int S n
 | bool _ b=>exact .bool S b
 | str _ s h=>exact .str S s h
 | arr _ sz es a cap f Sub h1 h2 h3 h4 h5 h6 h7=>exact .sh S es _ ((DRep.arr _ sz es a cap f Sub h1 h2 h3 h4 h5 h6 h7).up hT)
theorem Ph:∃ (i:TypeInfo) (z:Value),Tryz.prog.info? 122=some i∧i.zero=some z∧i.size=3∧z.cells.size=3∧i.bytes=48:=by
 have h:(match Tryz.prog.info? 122 with
  | some i=>match i.zero with
   | some z=>i.size == 3&&z.cells.size == 3&&i.bytes == 48
   | none=>false
  | none=>false)=true:=by kernel_rfl
 split at h
 ·rename_i i hi
  split at h
  ·rename_i z hz
   rw [zS,zS,beq_iff_eq,beq_iff_eq,beq_iff_eq] at h
   exact ⟨i,z,hi,hz,h.1.1,h.1.2,h.2⟩
  ·cases h
 ·cases h
noncomputable def VC (xs:List SV) (ob:List Ob):Option (SV × List Ob) :=
 match xs,ob with
 | [.arr es],[]=>bif dec (es≠[]∧es.length≤1048576∧∀ e∈es,e.length=3) then some (.ref 0,[.row 122 3 (es.map fun e=>e.map D.ot)]) else none
 | _,_=>none
theorem VD (b off n c:Nat) (hn:0<n) (w w':World) (v':Value)
  (hap:∀ ty,(Builtin.append_ #[58,58] ty #[.slice (some ⟨w.heap.size,0,none⟩) 0 0,.slice (some ⟨b,off,none⟩) n c]).run Tryz.prog (w.alloc (.cells #[] 122))=.ok v' w') :
  Calls Tryz.prog 215 #[.slice (some ⟨b,off,none⟩) n c] w fun e w2=>e=.returned v'∧w2=w':=by
 have hq:∀ W,(binOp .eql 58 (.slice (some ⟨b,off,none⟩) n c) (.slice none 0 0)).run Tryz.prog W=.ok (.bool false) W:=fun W=>Lib.run_eql_slice_nil W _ _ _ n c 0 0 Tryz.underlying58
 go_enter Tryz.func215,Tryz.ntmps215
 go_wp2_with (at_builtin; refine Lib.wpList_append_run _ rfl _ _ _ _ rfl _ _ rfl rfl _ _ (hap _) ?_)
 go_ret
 exact ⟨rfl,rfl⟩
theorem VE (w:World):Calls Tryz.prog 213 #[.slice none 0 0,.int .i64 0] w fun e w'=>e=.returned (.slice none 0 0)∧w'=w:=by
 go_enter Tryz.func213,Tryz.ntmps213
 go_wp2
 go_ret
 exact ⟨rfl,rfl⟩
theorem VF (n:Nat) (hn:0<n) (hb:n≤1048576) (w:World):Calls Tryz.prog 213 #[.slice none 0 0,.int .i64 n] w fun e w'=>∃ (cs:Array Value) (G:Nat),e=.returned (.slice (some ⟨w.heap.size,0,none⟩) 0 G)∧w'=w.drew.alloc (.cells cs 122)∧cs.size=G*3∧G≤9223372036854775807:=by
 obtain ⟨i0,z,hi0,hz0,hs0,hzc,hby⟩:=Ph
 have hold:(Builtin.firstCells i0.size 0 (.slice none 0 0)).run Tryz.prog w.drew=.ok (yG []) w.drew:=run_firstCells_none w.drew i0.size 0 0 0
 have hrz:∀ ty,(Builtin.append_ #[58,3] ty #[.slice none 0 0,.int .i64 (n:Int)]).run Tryz.prog w =
   .ok (.slice (some ⟨w.heap.size,0,none⟩) n (grownCap w n 0 122)) (w.drew.alloc (.cells (yG []++Builtin.zeroCells z.cells n++Builtin.zeroCells z.cells (grownCap w n 0 122-n)) 122)):=fun ty=>by
  have h:=Lib.run_append_grow_zeros w 58 3 ty 122 i0 z .i64 .i64 Tryz.underlying58 Tryz.underlying3 hi0 hz0 none 0 0 [] hold n (by omega) (by omega) (by omega) (by omega)
   (by rw [hby]; omega) (by rw [zU]; exact growslice_fits (by omega) (by rw [hby]; omega))
  rw [zU] at h
  exact h
 have hGn:n≤grownCap w n 0 122:=grownCap_ge w _ _ _
 have hG63:=grownCap_le_maxLen w n 0 122 (by unfold maxLen; omega)
 obtain ⟨G,hG⟩:∃ G,G=grownCap w n 0 122:=⟨_,rfl⟩
 rw [←hG] at hrz hGn hG63
 have hG63':G≤9223372036854775807:=by unfold maxLen at hG63; omega
 obtain ⟨cs,hcs⟩:∃ cs,cs=yG []++Builtin.zeroCells z.cells n++Builtin.zeroCells z.cells (G-n):=⟨_,rfl⟩
 rw [←hcs] at hrz
 have hcl:cs.size=G*3:=by
  rw [hcs]
  simp [Builtin.zeroCells,hzc]
  omega
 clear hG hcs hold hG63
 go_enter Tryz.func213,Tryz.ntmps213
 go_wp2_with (at_builtin; refine Lib.wpList_append_run _ rfl _ _ _ _ rfl _ _ rfl rfl _ _ (hrz _) ?_)
 all_goals (go_ret; exact ⟨cs,G,rfl,rfl,hcl,hG63'⟩)
noncomputable def Zw (xs:List SV) (ob:List Ob):Option (SV × List Ob) :=
 match xs,ob with
 | [.nil,.int .i64 n],[]=>bif dec (n=0) then some (.nil,[]) else bif dec (0 < n∧n≤1048576) then some (.ref 0,[.row 122 3 []]) else none
 | _,_=>none
theorem VG {xs:List SV} {ob:List Ob} {r:SV} {ob':List Ob} (h:Zw xs ob=some (r,ob')):Fun Tryz.prog 213 xs ob r ob':=by
 unfold Zw at h
 split at h
 ·rename_i n
  intro w I V B vs hwf hvs
  obtain ⟨v,q,rfl,hv,hvs⟩:=A4 hvs
  obtain ⟨v2,q,rfl,hv2,hvs⟩:=A4 hvs
  obtain rfl:=DF hvs
  simp only [RepV] at hv hv2
  subst hv hv2
  cases hd:dec (n=0) with
  | true =>
   obtain rfl:=Ao.1 hd
   rw [hd] at h
   simp only [cond_true,zE,zJ] at h
   obtain ⟨rfl,rfl⟩:=h
   refine (VE w).mono ?_
   rintro e w' ⟨rfl,rfl⟩
   exact ⟨_,I,V,B,rfl,by simp only [RepV],⟨⟨rfl,TapeOk.mk' rfl rfl,rfl,zP _,fun _ _ _=>rfl⟩,fun _ h=>h,fun _ h=>.inl h,VLe.refl _,hwf,fun g b hl hb=>.inl ⟨g,hl,hb⟩⟩⟩
  | false =>
   rw [hd,cond_false] at h
   obtain ⟨h1,h2⟩:=Ap h
   obtain ⟨k1,k2⟩:=Ao.1 h1
   simp only [zE,zJ] at h2
   obtain ⟨rfl,rfl⟩:=h2
   obtain ⟨m,rfl⟩:∃ m:Nat,n=m:=⟨n.toNat,by omega⟩
   refine (VF m (by omega) (by omega) w).mono ?_
   rintro e w' ⟨cs,G,rfl,rfl,hcs,hG⟩
   have hnew:=heap_alloc_new w.drew (.cells cs 122)
   have hbl:∀ x,x<w.heap.size→(w.drew.alloc (.cells cs 122)).heap[x]?=w.heap[x]?:=fun x hx=>Below.heap_alloc w.drew _ x hx
   have hsz:(w.drew.alloc (.cells cs 122)).heap.size=w.heap.size+1:=xB _
   exact ⟨_,I,_,_,rfl,by simp only [RepV]; exact ⟨rfl,rfl⟩,JK (S:=fun x=>x=w.heap.size) hwf rfl (TapeOk.le rfl (Nat.le_succ _)) rfl (by omega) hbl (fun x hx=>by omega) (.inr ⟨w.heap.size,G,cs,fun _ _ _=>False,rfl,rfl,hnew,zT _,hG,hcs,fun i hi=>absurd hi (by simp),fun _ _ _ h=>h.elim,fun _ _ _ _ _ h=>h.elim,fun i j hi=>absurd hi (by simp)⟩)⟩
 ·cases h
theorem TO {xs:List SV} {ob:List Ob} {r:SV} {ob':List Ob} (h:VC xs ob=some (r,ob')):Fun Tryz.prog 215 xs ob r ob':=by
  unfold VC at h
  split at h
  · rename_i es
    obtain ⟨h1,h2⟩:=Ap h
    obtain ⟨k1,k2,k3⟩:=Ao.1 h1
    simp only [zE,zJ] at h2
    obtain ⟨rfl,rfl⟩:=h2
    intro w I V B vs hwf hvs
    obtain ⟨v,q,rfl,hv,hvs⟩:=A4 hvs
    obtain rfl:=DF hvs
    simp only [RepV] at hv
    have hpos:0<es.length:=List.length_pos_iff.2 k1
    cases hv with
    | arr S sz es a cap f Sub g1 g2 g3 g4 g5 g6 g7 =>
      rcases g3 with g3 | ⟨b,off,rfl,hS,hlt,hc,_⟩
      · omega
      have hsz3:sz=3:=by rw [←g4 0 hpos]; exact k3 _ (zL hpos)
      subst hsz3
      obtain ⟨i0,z,hi0,hz0,hs0,hzc,hby⟩:=Ph
      obtain ⟨W0,hW0⟩:∃ W,W=w.alloc (.cells #[] 122):=⟨_,rfl⟩
      have hb0:W0.heap[w.heap.size]?=some (.cells #[] 122 (0,0)):=by rw [hW0]; exact heap_alloc_new w _
      have hbl0:∀ x,x<w.heap.size→W0.heap[x]?=w.heap[x]?:=fun x hx=>by rw [hW0]; exact Below.heap_alloc w _ x hx
      have hz0':W0.heap.size=w.heap.size+1:=by rw [hW0]; simp
      have hk0:KeepS I w W0:=⟨by omega,fun x _ hlt=>hbl0 x hlt⟩
      have hc0:∀ i j,i<es.length→j<3→W0.cell? ⟨b,off+i*3+j,none⟩=some (f i j):=fun i j hi hj=>by
        rw [←hc i j hi hj]
        unfold World.cell?
        rw [hbl0 b hlt]
      obtain ⟨v',w',S',hrun,hrow,hS',o1,o2,o3,o4,o5⟩:=KA (P:=Tryz.prog) (w:=W0) (I:=I) (S:=fun x=>x=w.heap.size) (T:=fun _=>False) (t:=122) (es:=[]) (new:=es.map fun e=>e.map D.ot) (tr:=58) (ty:=58) (val:=f) (Sub':=fun _ _ _=>False) (a:=some ⟨b,off,none⟩) (cp:=cap) (v:=.slice (some ⟨w.heap.size,0,none⟩) 0 0) Tryz.underlying58 hi0 hz0 hs0 hzc (by omega)
        (fun x hx hI=>by have:=hwf.ilt x hI; omega)
        (.inr ⟨w.heap.size,0,#[],fun _ _ _=>False,rfl,rfl,hb0,zP _,by omega,by simp,fun i hi=>absurd hi (by simp),fun _ _ _ h=>h.elim,fun _ _ _ _ _ h=>h.elim,fun i j hi=>absurd hi (by simp)⟩)
        (fun _=>⟨b,off,rfl,fun i j hi hj=>hc0 i j (by simpa using hi) hj⟩)
        (fun i hi=>by rw [zM,zF]; exact g4 i (by simpa using hi)) (fun _ _ _ h=>h.elim) (fun _ h=>h.elim) (fun _ _ h=>h.elim) (fun _ _ _ _ _ h=>h.elim)
        (fun i j hi hj=>by
          have hi':i<es.length:=by simpa using hi
          have hj':j<es[i].length:=by simpa using hj
          simp only [zM]
          exact QbE ((g7 i j hi' hj').keep ⟨by omega,fun x _ hlt=>hbl0 x hlt⟩) fun x hx=>g5 i j x hx)
        (by simp; omega) (by rw [hby]; simp; omega)
      rw [zF] at hrun
      rw [List.nil_append] at hrow
      have hcon:=VD b off es.length cap hpos w w' v' (fun ty=>by
        rw [←hW0]
        exact hrun)
      have hone:v'.oneCell'=true:=by
        obtain ⟨a,n,e,_⟩:=hrow.form
        rw [e]; rfl
      refine hcon.mono ?_
      rintro e w2 ⟨rfl,rfl⟩
      refine ⟨_,I,_,_,rfl,by simp only [RepV]; exact ⟨rfl,hone⟩,JK (S:=fun x=>w.heap.size≤x∧x<w2.heap.size) hwf (by rw [o1,hW0]; rfl) (TapeOk.trans o2 (by rw [hW0]; exact TapeOk.mk' rfl rfl)) (by rw [o3,hW0]; rfl) (by omega) (fun x hx=>by rw [o5 x (by omega) (by omega),hbl0 x hx]) (fun x hx=>hx) (hrow.up fun x hx=>?_)⟩
      have hw0:w.heap.size<w2.heap.size:=by omega
      rcases hS' x hx with h | h | h
      · omega
      · exact h.elim
      · omega
  · cases h
end Go.Proofs.YtepbennkcbmgoaaGreatDoor
set_option maxRecDepth 100000
set_option linter.unusedSimpArgs false
set_option linter.unusedVariables false
set_option linter.unusedSectionVars false
namespace Go.Proofs.YtepbennkcbmgoaaGreatDoor
open Go.RowKit Go.Shelf
theorem RowOnly.cells {w:World} {b:Nat} {t:TypeId}:∀ (vs:List Value) (o:Nat) {V:World} {cur:Array Value},RowOnly w b t cur V→o+vs.length≤cur.size→∃ cur',RowOnly w b t cur' (V.setCells b o vs)∧cur'.size=cur.size∧∀ q,cur'.getD q undef=if o≤q∧q<o+vs.length then vs.getD (q-o) undef else cur.getD q undef
  | [],o,V,cur,h,_=>⟨cur,h,rfl,fun q=>by
    have e:¬ (o≤q∧q<o+([]:List Value).length):=by simp only [yX]; omega
    rw [if_neg e]⟩
  | v :: r,o,V,cur,h,hl=>by
    simp only [zY] at hl
    obtain ⟨cur',h1,h2,h3⟩:=RowOnly.cells r (o+1) (h.set o v) (by simp; omega)
    refine ⟨cur',h1,by simpa using h2,fun q=>?_⟩
    rw [h3 q]
    simp only [zY]
    by_cases e:q=o
    · subst e
      rw [if_neg (by omega),if_pos (by omega),Nat.sub_self]
      simp [zH,yC,show q<cur.size by omega]
    · by_cases h4:o+1≤q∧q<o+1+r.length
      · rw [if_pos h4,if_pos (by omega),show q-o=(q-(o+1))+1 by omega]; rfl
      · rw [if_neg h4,if_neg (by omega)]
        simp only [zH,yC]
        rw [if_neg (fun h=>e h.symm)]
theorem Qbo {w:World} {b:Nat} {cur:Array Value} {t:TypeId} (hb:w.heap[b]?=some (.cells cur t (0,0))) {q:Nat} (hlt:q<cur.size):w.cell? ⟨b,q,none⟩=some (cur.getD q undef):=by
 unfold World.cell?
 simp only [hb,yJ,if_false]
 rw [zH,zI hlt]
 rfl
theorem TP (n i:Nat) (hin:i<n) (w:World) (b cap:Nat) (cur:Array Value) (t:TypeId) (hb:w.heap[b]?=some (.cells cur t (0,0))) (hsz:cur.size=cap*3) (hn:n≤cap) (hcap:cap≤9223372036854775807)
    (hone:∀ q,q<n*3→(cur.getD q undef).oneCell'=true) :
    Calls Tryz.prog 214 #[.slice (some ⟨b,0,none⟩) n cap,.int .i64 (i:Int),.int .i64 ((i+1:Nat):Int)] w fun e w'=>e=.returned (.slice (some ⟨b,0,none⟩) (n-1) cap)∧∃ cur',RowOnly w b t cur' w'∧cur'.size=cur.size∧∀ p,p<n-1→∀ j,j<3→cur'.getD (p*3+j) undef=cur.getD ((if p<i then p else p+1)*3+j) undef:=by
  obtain ⟨i0,z,hi0,hz0,hs0,hzc,hby⟩:=Ph
  obtain ⟨m,hm⟩:∃ m,m=n-(i+1):=⟨_,rfl⟩
  obtain ⟨news,hnews⟩:∃ news,news=(yI (m*3)).map fun q=>cur.getD ((i+1)*3+q) undef:=⟨_,rfl⟩
  have hlen:news.length=m*3:=by rw [hnews]; simp
  have hget:∀ q,q<m*3→news[q]?=some (cur.getD ((i+1)*3+q) undef):=fun q hq=>by
    rw [hnews,y9,List.getElem?_range hq]; rfl
  have hrowD:w.drew.heap[b]?=some (.cells cur t (0,0)):=hb
  obtain ⟨A,hA,hsrc⟩:∃ A:Addr,(if cap=i+1 then (some (⟨b,0,none⟩:Addr)) else some ⟨b,(i+1)*3,none⟩)=some A∧Hid (∀ q u,news[q]?=some u→w.drew.cell? (A.add q)=some u):=by
    by_cases h:cap=i+1
    · refine ⟨⟨b,0,none⟩,by simp [h],fun q u hu=>?_⟩
      have h0:news.length=0:=by rw [hlen]; omega
      rw [List.length_eq_zero_iff.1 h0] at hu
      simp at hu
    · refine ⟨⟨b,(i+1)*3,none⟩,by simp [h],fun q u hu=>?_⟩
      have hq:q<m*3:=by
        have:=(List.getElem?_eq_some_iff.1 hu).1
        rwa [hlen] at this
      rw [hget q hq] at hu
      rw [Addr.add_lit,← hu]
      exact Qbo hrowD (by omega)
  have s1:Hid (news.length=m*3):=hlen
  have s2:Hid (∀ u∈news,u.oneCell'=true):=by
    intro u hu
    rw [hnews] at hu
    obtain ⟨q,hq,rfl⟩:=yK.1 hu
    rw [yR] at hq
    exact hone _ (by omega)
  have s3:Hid (∀ q,q<news.length→(w.drew.cell? ⟨b,0+i*3+q,none⟩).isSome=true∧w.drew.frozen? ⟨b,0+i*3+q,none⟩=false):=by
    intro q hq
    rw [hlen] at hq
    refine ⟨?_,RY hrowD _⟩
    rw [Qbo hrowD (by omega)]; rfl
  obtain ⟨W1,hW1⟩:∃ W1,W1=w.drew.setCells b (0+i*3) news:=⟨_,rfl⟩
  have hr0:RowOnly w b t cur w.drew:=⟨rfl,rfl,rfl,zP _,fun _ _ _=>rfl,hb⟩
  obtain ⟨cur1,hr1,hz1,hg1⟩:=hr0.cells news (0+i*3) (by rw [hlen]; omega)
  rw [←hW1] at hr1
  have hcl:∀ ty,(Builtin.clear_ #[58] ty #[.slice (some ⟨b,(i+m)*3,none⟩) (n-(i+m)) (cap-(i+m))]).run Tryz.prog W1=.ok (.tuple #[]) (W1.setCells b ((i+m)*3) (Fx (n-(i+m)))):=fun ty=>Pe ty hr1.row (by omega) (by omega)
  obtain ⟨cur2,hr2,hz2,hg2⟩:=hr1.cells (Fx (n-(i+m))) ((i+m)*3) (by rw [Pd]; omega)
  have hfin:Hid (∃ cur',RowOnly w b t cur' (W1.setCells b ((i+m)*3) (Fx (n-(i+m))))∧cur'.size=cur.size∧∀ p,p<n-1→∀ j,j<3→cur'.getD (p*3+j) undef=cur.getD ((if p<i then p else p+1)*3+j) undef):=by
    refine ⟨cur2,hr2,by rw [hz2,hz1],fun p hp j hj=>?_⟩
    rw [hg2,if_neg (by omega),hg1,hlen]
    by_cases h:p<i
    · rw [if_neg (by omega),if_pos h]
    · rw [if_pos (by omega),if_neg h,zZ,hget _ (by omega),z8]
      congr 1
      omega
  have hW:Hid (W1=w.drew.setCells b (0+i*3) news):=hW1
  have hic:i≤cap:=by omega
  have hjc:i+1≤cap:=by omega
  have mixed:Tryz.prog.follows .mixedOrders=true:=by kernel_rfl
  have z1:(0:Int)≤(i:Int)+1:=by omega
  have z2:(i:Int)+1≤(n:Int):=by omega
  subst hm
  clear hW1 hr1 hr2 hr0 hg1 hg2 hget hnews hlen hrowD hone hz1 hz2 hb hsz
  go_enter Tryz.func214,Tryz.ntmps214
  go_wp2_with fail
  go_region_law_o (refine step_append_room rfl (.tmp 22) (.tmp 25) 58 rfl 122 i0 3 Tryz.underlying58 hi0 hs0 b 0 i cap (by simp [Act.eval,Act.put]) A (n-(i+1)) (cap-(i+1)) news (by simp [Act.eval,Act.put]) s1.out hsrc.out s2.out (by omega) s3.out ?_; rw [←hW.out])
  go_wp2
  go_ret
  refine ⟨by rw [show n-1=i+(n-(i+1)) by omega]; rfl,?_⟩
  exact hfin.out
noncomputable def RZ (xs:List SV) (ob:List Ob):Option (SV × List Ob) :=
 match xs,ob with
 | [.ref 0,.int .i64 i,.int .i64 j],[.row t sz es]=>bif dec (sz=3∧0≤i∧i.toNat < es.length∧j=i+1∧es.length≤1099511627776) then some (.ref 1,[.gone,.row t sz (es.eraseIdx i.toNat)]) else none
 | _,_=>none
theorem Sa {xs:List SV} {ob:List Ob} {r:SV} {ob':List Ob} (h:RZ xs ob=some (r,ob')):Fun Tryz.prog 214 xs ob r ob':=by
  unfold RZ at h
  split at h
  · rename_i i j t sz es
    obtain ⟨h1,h2⟩:=Ap h
    obtain ⟨rfl,k1,k2,rfl,k3⟩:=Ao.1 h1
    simp only [zE,zJ] at h2
    obtain ⟨rfl,rfl⟩:=h2
    clear h h1
    obtain ⟨m,rfl⟩:∃ m:Nat,i=m:=⟨i.toNat,by omega⟩
    rw [y8] at k2 ⊢
    intro w I V B vs hwf hvs
    obtain ⟨v,q,rfl,hv,hvs⟩:=A4 hvs
    obtain ⟨v2,q,rfl,hv2,hvs⟩:=A4 hvs
    obtain ⟨v3,q,rfl,hv3,hvs⟩:=A4 hvs
    obtain rfl:=DF hvs
    simp only [RepV] at hv hv2 hv3
    subst hv2 hv3
    obtain ⟨val,hval,hrow⟩:=hwf.obj 0 trivial
    rw [hv.1] at hval
    obtain rfl:=zC hval
    have hrow:RowR w I (B 0) t 3 es v:=hrow
    rcases hrow with ⟨he,rfl⟩ | ⟨b,cap,cur,Sub,rfl,hs,hb,g1,g2,g3,g4,g5,g6,g7⟩
    · subst he; simp at k2
    · have hcon:=TP es.length m k2 w b cap cur t hb g3 g1 g2 (fun q hq=>by
        have hq1:q / 3<es.length:=by omega
        have:=g7 (q / 3) (q % 3) hq1 (by rw [g4 _ hq1]; omega)
        rw [show q / 3*3+q % 3=q by omega] at this
        exact this.oneCell)
      refine hcon.mono ?_
      rintro e w' ⟨rfl,cur',hro,hcs,hcell⟩
      have hlen:(es.eraseIdx m).length=es.length-1:=by rw [List.length_eraseIdx,if_pos k2]
      have eg:∀ p (hp:p<(es.eraseIdx m).length),∃ hq:(if p<m then p else p+1)<es.length,(es.eraseIdx m)[p]=es[if p<m then p else p+1]:=fun p hp=>by
        have hq:(if p<m then p else p+1)<es.length:=by split <;> omega
        refine ⟨hq,?_⟩
        rw [List.getElem_eraseIdx]
        split <;> simp only [*,if_true,if_false]
      refine ⟨_,I,_,_,rfl,by simp only [RepV]; exact ⟨rfl,rfl⟩,Pg hwf hro.os ⟨hro.tape,fun h=>False.elim h⟩ hro.output hro.size (fun x hx hn=>hro.block x hx fun e=>hn (e▸hs)) ?_⟩
      refine .inr ⟨b,cap,cur',fun p j x=>Sub (if p<m then p else p+1) j x,by rw [hlen],hs,hro.row,by rw [hlen]; omega,g2,by rw [hcs]; exact g3,fun p hp=>by obtain ⟨hq,e⟩:=eg p hp; rw [e]; exact g4 _ hq,fun p j x h=>g5 _ _ _ h,fun p j p' j' x h h'=>?_,fun p j hp hj=>?_⟩
      · obtain ⟨c1,c2⟩:=g6 _ _ _ _ _ h h'
        refine ⟨?_,c2⟩
        revert c1
        split <;> split <;> omega
      · obtain ⟨hq,e⟩:=eg p hp
        have hj':j<3:=by rw [e] at hj; have:=g4 _ hq; omega
        rw [hcell p (by omega) j hj']
        have h7:=g7 _ j hq (by rw [g4 _ hq]; exact hj')
        have h2:=h7.keep (w':=w') ⟨hro.size,fun x hx hlt=>hro.block x hlt fun e=>hwf.dI 0 x trivial (e▸hs) hx⟩ (fun _ h=>h) (fun x hx hlt=>hro.block x hlt (g5 _ _ _ hx).2)
        simp only [e]
        exact h2
  · cases h
end Go.Proofs.YtepbennkcbmgoaaGreatDoor
set_option maxRecDepth 100000
namespace Go.Proofs.YtepbennkcbmgoaaGreatDoor
open Go.Shelf
def so_CloneS_ren:Go.Shelf.Ren:=⟨fun | 16=>57 | n=>n,fun | 24=>28 | 9=>9 | 4=>4 | n=>n,fun | n=>n⟩
theorem M3:Go.Proofs.Lays2.n16 Tryz.prog so_CloneS_ren:={
 mixed:=by kernel_rfl,
 f16:=Tryz.func57.trans (congrArg some (by kernel_rfl)),
 t4:=Tryz.underlying4,
 a4:=Tryz.isAgg4,
 z4:=Tryz.sizeOf4,
 v4:=Tryz.zeroValue4,
 t9:=Tryz.underlying9,
 a9:=Tryz.isAgg9,
 z9:=Tryz.sizeOf9,
 v9:=Tryz.zeroValue9,
 t24:=Tryz.underlying28,
 a24:=Tryz.isAgg28,
 z24:=Tryz.sizeOf28,
 v24:=Tryz.zeroValue28,
 i9:=by kernel_rfl }
end Go.Proofs.YtepbennkcbmgoaaGreatDoor
set_option maxRecDepth 100000
set_option linter.unusedSimpArgs false
set_option linter.unusedVariables false
set_option linter.unusedSectionVars false
namespace Go.Proofs.YtepbennkcbmgoaaGreatDoor
open Go.RowKit
theorem Jc {w w':World} {I:Nat→Prop} {V:Nat→Option Value} {B:Nat→Nat→Prop} (hwf:Wf w I V B (Aq [])) (hbel:Below w.heap.size w w') {v:Value} {t:TypeId} {os:List OT} {vals:List Value} (hl:vals.length=os.length)
    (hown:w'.ownsRow w.heap.size t 1 v os.length vals) (hv:∀ i (h:i<os.length),ORep w' I (fun _=>False) os[i] (vals.getD i undef)) :
    ∃ V' B',RepV w' I V' (.ref 0) v∧FunPost w I V B [] [.row t 1 (os.map fun o=>[o])] w' I V' B':=by
  have hV0:V 0=none:=hwf.fr 0 rfl
  have hn:=hbel.size
  have gS:∀ (e:List (List OT)) (g:Nat),Aq [Ob.row t 1 e] (g+1)=.free:=fun _ _=>rfl
  obtain ⟨hx,hform⟩:=hown
  let B':Nat→Nat→Prop:=fun g b=>g=0∧w.heap.size≤b∧b<w'.heap.size∧∃ o n c,v=.slice (some ⟨b,o,none⟩) n c
  have hform2:∃ a n c,v=.slice a n c:=by
    rcases hform with ⟨rfl,_⟩ | ⟨g,cap,cur,rfl,_⟩
    · exact ⟨_,_,_,rfl⟩
    · exact ⟨_,_,_,rfl⟩
  have hrow:RowR w' I (B' 0) t 1 (os.map fun o=>[o]) v:=by
    rcases hform with ⟨rfl,h0⟩ | ⟨g,cap,cur,rfl,hg,hb,h1,h2,h3,h4⟩
    · left
      have:os=[]:=zK h0
      subst this
      exact ⟨rfl,rfl⟩
    · right
      have hlt:=(zQ.1 hb).1
      refine ⟨g,cap,cur,fun _ _ _=>False,by rw [zF],⟨rfl,hg,hlt,_,_,_,rfl⟩,hb,by rw [zF]; exact h1,by unfold maxLen at h2; omega,h3,fun i hi=>by simp,fun _ _ _ h=>h.elim,fun _ _ _ _ _ h=>h.elim,fun i j hi hj=>?_⟩
      have hi':i<os.length:=by simpa using hi
      have hj0:j=0:=by simpa using hj
      subst hj0
      have e:cur.getD (i*1+0) undef=vals.getD i undef:=by
        have hc:i<cur.size:=by omega
        rw [←h4,yW,z6,zH,zZ,List.getElem?_take]
        simp only [yW,hi',if_true,Array.getElem?_toList]
      rw [e]
      have:=hv i hi'
      simpa using this
  refine ⟨fun g=>if g=0 then some v else V g,B',?_,?_⟩
  · simp only [RepV]
    exact ⟨by simp,by obtain ⟨a,n,c,e⟩:=hform2; rw [e]; rfl⟩
  · refine ⟨⟨hbel.os,⟨hbel.tape,fun h=>False.elim h⟩,hbel.output,hn,fun x hx _=>hbel.block x hx⟩,fun x hx=>hx,fun x hx=>.inl hx,fun g u hu=>?_,⟨fun x hx=>zO (hwf.ilt x hx) hn,fun g hl=>?_,fun g b hl hb=>hb.2.2.1,fun g b hl hb hI=>?_,fun g g' b hl hl' hb hb'=>?_,fun g hg=>?_,hwf.gl.keep ⟨hn,fun x _ hlt=>hbel.block x hlt⟩ fun _ h=>h⟩,fun g b hl hb=>.inr hb.2.1⟩
    · by_cases h0:g=0
      · subst h0; rw [hV0] at hu; cases hu
      · simp only [if_neg h0]; exact hu
    · cases g with
      | zero=>exact ⟨v,by simp,hrow⟩
      | succ g=>rw [gS] at hl; exact hl.elim
    · have:=hwf.ilt b hI
      have:=hb.2.1
      omega
    · rw [hb.1,hb'.1]
    · cases g with
      | zero=>cases hg
      | succ g=>simp only [Nat.add_eq_zero_iff,Nat.succ_ne_self,and_false,if_false]; exact hwf.fr (g+1) rfl
theorem VH {w:World} {I:Nat→Prop} {es:List (List D)} {v:Value} (h:DRep false w I (.arr es) v) (hsz:∀ e∈es,e.length=1) :
    (es=[]∧∃ a c,v=.slice a 0 c)∨∃ b off cap,v=.slice (some ⟨b,off,none⟩) es.length cap∧∀ i (hi:i<es.length),∃ u,w.cell? ⟨b,off+i,none⟩=some u∧∃ S,DRep false w S (es[i].headD (.int 0)) u:=by
  cases h with
  | arr S sz es a cap f Sub h1 h2 h3 h4 h5 h6 h7 =>
    rcases h3 with h3 | ⟨b,off,rfl,hS,hb,hc,_⟩
    · left
      have he:es=[]:=zK h3
      subst he
      exact ⟨rfl,_,_,rfl⟩
    · rcases zX es.length with h0 | h0
      · left
        have he:es=[]:=zK h0
        subst he
        exact ⟨rfl,_,_,rfl⟩
      · right
        have hs1:sz=1:=by rw [←h4 0 h0]; exact hsz _ (zL h0)
        subst hs1
        refine ⟨b,off,cap,rfl,fun i hi=>⟨f i 0,by have:=hc i 0 hi (by omega); simpa using this,Sub i 0,?_⟩⟩
        have hl:=hsz _ (zL hi)
        have:=h7 i 0 hi (by omega)
        have key:∀ (l:List D) (h:0<l.length),l.headD (.int 0)=l[0]:=fun l h=>by
          cases l with
          | nil=>cases h
          | cons d r=>rfl
        have e:=key es[i] (by omega)
        rw [e]
        exact this
def unS:List D→ByteArray
 | D.str s :: _=>s
 | _=>⟨#[]⟩
noncomputable def M4 (xs:List SV) (ob:List Ob):Option (SV × List Ob) :=
 match xs,ob with
 | [.arr es],[]=>bif dec ((∀ e∈es,∃ s,e=[D.str s])∧es.length≤1048576) then some (.ref 0,[.row 9 1 (es.map fun e=>[OT.str (unS e)])]) else none
 | _,_=>none
theorem TQ {xs:List SV} {ob:List Ob} {r:SV} {ob':List Ob} (h:M4 xs ob=some (r,ob')):Fun Tryz.prog 57 xs ob r ob':=by
  unfold M4 at h
  split at h
  · rename_i es
    obtain ⟨h1,h2⟩:=Ap h
    obtain ⟨k1,k2⟩:=Ao.1 h1
    simp only [zE,zJ] at h2
    obtain ⟨rfl,rfl⟩:=h2
    intro w I V B vs hwf hvs
    obtain ⟨v,q,rfl,hv,hvs⟩:=A4 hvs
    obtain rfl:=DF hvs
    simp only [RepV] at hv
    have hsz:∀ e∈es,e.length=1:=fun e he=>by obtain ⟨s,rfl⟩:=k1 e he; rfl
    have hmap:(es.map fun e=>[OT.str (unS e)])=((es.map fun e=>OT.str (unS e)).map fun o=>[o]):=by rw [List.map_map]; rfl
    rcases VH hv hsz with ⟨rfl,a,c,rfl⟩ | ⟨b,off,cap,rfl,hcell⟩
    · cases a with
      | none =>
        have hcon:=Any.slices_Clone_string_nil M3 0 c w
        change Calls Tryz.prog 57 _ _ _ at hcon
        refine hcon.mono ?_
        rintro e w' ⟨rfl,rfl⟩
        obtain ⟨V',B',h3,h4⟩:=Jc (t:=9) (os:=[]) (vals:=[]) hwf (Below.refl _ _) rfl ⟨rfl,.inl ⟨rfl,rfl⟩⟩ (fun i h=>absurd h (by simp))
        exact ⟨_,I,V',B',rfl,h3,h4⟩
      | some a =>
        have hcon:=Any.slices_Clone_string_zero M3 a c w
        change Calls Tryz.prog 57 _ _ _ at hcon
        refine hcon.mono ?_
        rintro e w' ⟨v',rfl,hown,_,hbel⟩
        obtain ⟨V',B',h3,h4⟩:=Jc (t:=9) (os:=[]) (vals:=[]) hwf hbel rfl hown (fun i h=>absurd h (by simp))
        exact ⟨_,I,V',B',rfl,h3,h4⟩
    · obtain ⟨zs,hzs⟩:∃ zs,zs=es.map unS:=⟨_,rfl⟩
      have hzl:zs.length=es.length:=by rw [hzs,zF]
      have hcz:∀ j (hj:j<es.length),w.cell? ⟨b,off+j,none⟩=some (Value.string (unS es[j]))∧(unS es[j]).size≤9223372036854775807:=fun j hj=>by
        obtain ⟨u,hu,S,hd⟩:=hcell j hj
        obtain ⟨s,he⟩:=k1 es[j] (zL hj)
        rw [he] at hd ⊢
        simp only [List.headD_cons] at hd
        cases hd
        exact ⟨hu,by assumption⟩
      have hcon:=Any.slices_Clone_string M3 b off es.length cap zs w (by omega) (by omega) (fun j hj=>by
        have hj':j<es.length:=by omega
        rw [(hcz j hj').1]
        rw [zZ,zN hj]
        simp [hzs])
      change Calls Tryz.prog 57 _ _ _ at hcon
      refine hcon.mono ?_
      rintro e w' ⟨v',rfl,hown,_,hbel⟩
      have ht:zs.take es.length=zs:=List.take_of_length_le (by omega)
      rw [ht] at hown
      have hown2:w'.ownsRow w.heap.size 9 1 v' (es.map fun e=>OT.str (unS e)).length (zs.map Value.string):=by rw [zF]; exact hown
      obtain ⟨V',B',h3,h4⟩:=Jc (t:=9) (os:=es.map fun e=>OT.str (unS e)) (vals:=zs.map Value.string) hwf hbel (by simp [hzl]) hown2 (fun i hi=>by
        have hi':i<es.length:=by simpa using hi
        have e:(zs.map Value.string).getD i undef=Value.string (unS es[i]):=by
          rw [zZ,y9,zN (by omega)]
          simp [hzs]
        rw [e,zM]
        exact .str _ _ (hcz i hi').2)
      rw [hmap]
      exact ⟨_,I,V',B',rfl,h3,h4⟩
  · cases h
noncomputable def Cw:List ByteArray→ByteArray→List ByteArray
 | [],n=>[n]
 | x :: xs,n=>bif strLt x n then x :: Cw xs n else bif dec (x=n) then x :: xs else n :: x :: xs
noncomputable def Cc:List ByteArray→ByteArray→Nat
 | [],_=>0
 | x :: xs,n=>bif strLt x n then Cc xs n+1 else 0
theorem FunD.toFun {P:Program} {f:FuncId} {xs:List SV} {ob:List Ob} {r:SV} {ob':List Ob} (h:FunD P f xs ob r ob'):Fun P f xs ob r ob':=by
 intro w I V B vs hwf hvs
 refine (h w I V B vs hwf hvs).mono ?_
 rintro e w' ⟨v,I',V',B',he,hr,⟨⟨f1,⟨f2,_⟩,f3,f4,f5⟩,p1,p2,p3,p4,p5⟩⟩
 exact ⟨v,I',V',B',he,hr,⟨⟨f1,⟨f2,fun h=>h.elim⟩,f3,f4,f5⟩,p1,p2,p3,p4,p5⟩⟩
theorem Fun.taken {P:Program} {f:FuncId} {t:TypeId} {sz:Nat} {es:List (List OT)} {n:ByteArray} {t':TypeId} {sz':Nat} {es':List (List OT)} (hf:OT.AA es=true)
    (h:Fun P f [.arr (OT.erss es),.str n] [] (.ref 0) [.row t' sz' es']):Fun P f [.ref 0,.str n] [.row t sz es] (.ref 1) [.gone,.row t' sz' es']:=by
  intro w I V B vs hwf hvs
  obtain ⟨v,q,rfl,hv,hvs⟩:=A4 hvs
  obtain ⟨v2,q,rfl,hv2,hvs⟩:=A4 hvs
  obtain rfl:=DF hvs
  simp only [RepV] at hv hv2
  obtain ⟨val,hval,hrow⟩:=hwf.obj 0 trivial
  rw [hv.1] at hval
  obtain rfl:=zC hval
  have hrow:RowR w I (B 0) t sz es v:=hrow
  have hn:∀ g,Aq ([]:List Ob) g=.free:=fun g=>by cases g <;> rfl
  have hnl:∀ g,¬ (Aq ([]:List Ob) g).live:=fun g hl=>by rw [hn] at hl; exact hl
  have hHB0:∀ b,¬ HB (fun _ _=>False) ([]:List Ob) b:=fun b ⟨g,hl,_⟩=>hnl g hl
  have hwf0:Wf w (fun x=>I x∨B 0 x) (fun _=>none) (fun _ _=>False) (Aq []) :=
    ⟨fun b hb=>hb.elim (hwf.ilt b) (hwf.lt 0 b trivial),fun g hl=>(hnl g hl).elim,fun g b hl=>(hnl g hl).elim,fun g b hl=>(hnl g hl).elim,fun g g' b hl=>(hnl g hl).elim,fun g _=>rfl,hwf.gl.keep ⟨zP _,fun x _ _=>rfl⟩ fun x hx=>.inl hx⟩
  have hD:DRep false w (fun x=>I x∨B 0 x) (.arr (OT.erss es)) v:=hrow.er (fun b hb=>.inr hb) (fun b hb=>.inl hb) hf
  refine (h w _ _ _ [v,v2] hwf0 (by simp only [RepVs,RepV]; exact ⟨v,_,rfl,hD,v2,_,rfl,hv2,rfl⟩)).mono ?_
  rintro e w' ⟨rv,I2,V2,B2,rfl,hr,hp⟩
  simp only [RepV] at hr
  have hlv:∀ g,(Aq [Ob.gone,.row t' sz' es'] g).live→g=1:=fun g h=>by
    match g with
    | 0=>exact h.elim
    | 1=>rfl
    | g+2=>exact h.elim
  obtain ⟨f1,f2,f3,f4,f5⟩:=hp.fr
  refine ⟨rv,I2,fun g=>if g=1 then V2 0 else V g,fun g=>if g=1 then B2 0 else B g,rfl,by simp only [RepV]; exact ⟨by simp [hr.1],hr.2⟩,⟨⟨f1,f2,f3,f4,fun x hx _=>f5 x hx (hHB0 x)⟩,fun b hb=>hp.i0 b (.inl hb),fun b hb=>?_,fun g u hu=>?_,?_,fun g x hl hx=>?_⟩⟩
  · rcases hp.i1 b hb with (h1 | h1) | h1 | h1
    · exact .inl h1
    · exact .inr (.inr ⟨0,trivial,h1⟩)
    · exact .inr (.inl h1)
    · exact (hHB0 b h1).elim
  · by_cases e:g=1
    · subst e
      rw [hwf.fr 1 rfl] at hu; cases hu
    · simp only [e,if_false]; exact hu
  · refine ⟨hp.wf.ilt,fun g hl=>?_,fun g x hl hx=>?_,fun g x hl hx=>?_,fun g g' x hl hl' _ _=>by rw [hlv g hl,hlv g' hl'],fun g hfr=>?_,hp.wf.gl⟩
    · obtain rfl:=hlv g hl
      obtain ⟨val,hv0,hob⟩:=hp.wf.obj 0 trivial
      exact ⟨val,by simp [hv0],hob⟩
    · obtain rfl:=hlv g hl
      simp only [if_true] at hx
      exact hp.wf.lt 0 x trivial hx
    · obtain rfl:=hlv g hl
      simp only [if_true] at hx
      exact hp.wf.dI 0 x trivial hx
    · match g with
      | 0=>cases hfr
      | 1=>cases hfr
      | g+2 =>
        have e:¬ g+2=1:=by omega
        simp only [e,if_false]
        exact hwf.fr (g+2) rfl
  · obtain rfl:=hlv g hl
    simp only [if_true] at hx
    rcases hp.bh 0 x trivial hx with h1 | h1
    · exact (hHB0 x h1).elim
    · exact .inr h1
def L6 (es:List (List OT)):List ByteArray:=es.map fun e=>match e with
 | .str s :: _=>s
 | _=>⟨#[]⟩
theorem Zx (l:List ByteArray):L6 (l.map fun s=>[OT.str s])=l:=by
 unfold L6
 rw [List.map_map]
 exact (List.map_congr_left fun s _=>rfl).trans (List.map_id l)
theorem TR:∀ xs:List ByteArray,OT.AA (xs.map fun s=>[OT.str s])=true
 | []=>rfl
 | x :: xs=>by simp only [zD,OT.AA,OT.BU,OT.full,TR xs,zG]
noncomputable def M5 (xs:List SV) (ob:List Ob):Option (SV × List Ob) :=
 match xs,ob with
 | [.ref 0,.str n],[.row t sz es] =>
  bif dec (es=(L6 es).map (fun s=>[OT.str s])∧(¬ (L6 es).length<(Cw (L6 es) n).length→Fun Tryz.prog 238 [.ref 0,.str n] [.row t sz es] (.ref 0) [.row t sz es])∧((L6 es).length<(Cw (L6 es) n).length→Fun Tryz.prog 238 [.arr ((L6 es).map fun s=>[D.str s]),.str n] [] (.ref 0) [.row 9 1 ((Cw (L6 es) n).map fun s=>[OT.str s])])) then
   bif dec ((L6 es).length<(Cw (L6 es) n).length) then some (.ref 1,[.gone,.row 9 1 ((Cw (L6 es) n).map fun s=>[OT.str s])]) else some (.ref 0,[.row t sz es])
  else none
 | _,_=>none
theorem TS {xs:List SV} {ob:List Ob} {r:SV} {ob':List Ob} (h:M5 xs ob=some (r,ob')):Fun Tryz.prog 238 xs ob r ob':=by
 unfold M5 at h
 split at h
 ·rename_i n t sz es
  obtain ⟨h1,h2⟩:=Ap h
  obtain ⟨k1,k2,k3⟩:=Ao.1 h1
  by_cases hq:(L6 es).length<(Cw (L6 es) n).length
  ·rw [An hq,cond_true] at h2
   simp only [zE,zJ] at h2
   obtain ⟨rfl,rfl⟩:=h2
   have h3:=k3 hq
   rw [←Cp,← k1] at h3
   exact Fun.taken (by rw [k1]; exact TR _) h3
  ·rw [Aj hq,cond_false] at h2
   simp only [zE,zJ] at h2
   obtain ⟨rfl,rfl⟩:=h2
   exact k2 hq
 ·cases h
end Go.Proofs.YtepbennkcbmgoaaGreatDoor
set_option maxRecDepth 100000
namespace Go.Proofs.YtepbennkcbmgoaaGreatDoor
open Go.Shelf
def so_SortS_ren:Go.Shelf.Ren:=⟨fun | 190=>119 | 125=>182 | 258=>181 | 128=>256 | 129=>257 | 302=>247 | 303=>248 | 304=>249 | 305=>250 | 306=>251 | 307=>252 | 308=>253 | 309=>254 | 310=>255 | 333=>300 | 329=>301 | 330=>302 | 334=>303 | 335=>304 | 336=>305 | 344=>322 | n=>n,fun | 31=>28 | 9=>9 | 3=>3 | 46=>184 | 0=>0 | 51=>239 | 53=>241 | 4=>4 | 183=>231 | 182=>230 | 131=>236 | 5=>5 | 218=>271 | 222=>275 | 228=>286 | 229=>287 | n=>n,fun | n=>n⟩
theorem TT:Go.Proofs.Lays.n190 Tryz.prog so_SortS_ren:={
 mixed:=by kernel_rfl,
 f125:=Tryz.func182.trans (congrArg some (by kernel_rfl)),
 f128:=Tryz.func256.trans (congrArg some (by kernel_rfl)),
 f129:=Tryz.func257.trans (congrArg some (by kernel_rfl)),
 f190:=Tryz.func119.trans (congrArg some (by kernel_rfl)),
 f258:=Tryz.func181.trans (congrArg some (by kernel_rfl)),
 f302:=Tryz.func247.trans (congrArg some (by kernel_rfl)),
 f303:=Tryz.func248.trans (congrArg some (by kernel_rfl)),
 f304:=Tryz.func249.trans (congrArg some (by kernel_rfl)),
 f305:=Tryz.func250.trans (congrArg some (by kernel_rfl)),
 f306:=Tryz.func251.trans (congrArg some (by kernel_rfl)),
 f307:=Tryz.func252.trans (congrArg some (by kernel_rfl)),
 f308:=Tryz.func253.trans (congrArg some (by kernel_rfl)),
 f309:=Tryz.func254.trans (congrArg some (by kernel_rfl)),
 f310:=Tryz.func255.trans (congrArg some (by kernel_rfl)),
 f329:=Tryz.func301.trans (congrArg some (by kernel_rfl)),
 f330:=Tryz.func302.trans (congrArg some (by kernel_rfl)),
 f333:=Tryz.func300.trans (congrArg some (by kernel_rfl)),
 f334:=Tryz.func303.trans (congrArg some (by kernel_rfl)),
 f335:=Tryz.func304.trans (congrArg some (by kernel_rfl)),
 f336:=Tryz.func305.trans (congrArg some (by kernel_rfl)),
 f344:=Tryz.func322.trans (congrArg some (by kernel_rfl)),
 t0:=Tryz.underlying0,
 a0:=Tryz.isAgg0,
 z0:=Tryz.sizeOf0,
 v0:=Tryz.zeroValue0,
 t3:=Tryz.underlying3,
 a3:=Tryz.isAgg3,
 z3:=Tryz.sizeOf3,
 v3:=Tryz.zeroValue3,
 t4:=Tryz.underlying4,
 a4:=Tryz.isAgg4,
 z4:=Tryz.sizeOf4,
 v4:=Tryz.zeroValue4,
 t5:=Tryz.underlying5,
 a5:=Tryz.isAgg5,
 z5:=Tryz.sizeOf5,
 v5:=Tryz.zeroValue5,
 t9:=Tryz.underlying9,
 a9:=Tryz.isAgg9,
 z9:=Tryz.sizeOf9,
 v9:=Tryz.zeroValue9,
 t31:=Tryz.underlying28,
 a31:=Tryz.isAgg28,
 z31:=Tryz.sizeOf28,
 v31:=Tryz.zeroValue28,
 t46:=Tryz.underlying184,
 a46:=Tryz.isAgg184,
 z46:=Tryz.sizeOf184,
 v46:=Tryz.zeroValue184,
 t51:=Tryz.underlying239,
 a51:=Tryz.isAgg239,
 z51:=Tryz.sizeOf239,
 v51:=Tryz.zeroValue239,
 t53:=Tryz.underlying241,
 a53:=Tryz.isAgg241,
 z53:=Tryz.sizeOf241,
 v53:=Tryz.zeroValue241,
 t131:=Tryz.underlying236,
 a131:=Tryz.isAgg236,
 z131:=Tryz.sizeOf236,
 v131:=Tryz.zeroValue236,
 t182:=Tryz.underlying230,
 a182:=Tryz.isAgg230,
 z182:=Tryz.sizeOf230,
 v182:=Tryz.zeroValue230,
 t183:=Tryz.underlying231,
 a183:=Tryz.isAgg231,
 z183:=Tryz.sizeOf231,
 v183:=Tryz.zeroValue231,
 t218:=Tryz.underlying271,
 a218:=Tryz.isAgg271,
 z218:=Tryz.sizeOf271,
 v218:=Tryz.zeroValue271,
 t222:=Tryz.underlying275,
 a222:=Tryz.isAgg275,
 z222:=Tryz.sizeOf275,
 v222:=Tryz.zeroValue275,
 t228:=Tryz.underlying286,
 a228:=Tryz.isAgg286,
 z228:=Tryz.sizeOf286,
 v228:=Tryz.zeroValue286,
 t229:=Tryz.underlying287,
 a229:=Tryz.isAgg287,
 z229:=Tryz.sizeOf287,
 v229:=Tryz.zeroValue287 }
end Go.Proofs.YtepbennkcbmgoaaGreatDoor
set_option maxRecDepth 100000
set_option linter.unusedSimpArgs false
set_option linter.unusedVariables false
set_option linter.unusedSectionVars false
namespace Go.Proofs.YtepbennkcbmgoaaGreatDoor
open Go.RowKit Go.Shelf Go.Lib Go.Sort
theorem Ra (w:World) (b m:Nat) (ss:List (List UInt8)) (os:Array Obj) (x:Nat) (hx:x<w.heap.size) :
  (Sort.grow (putRow encStr (Sort.ahead w m) b 0 ss.toArray) os).heap[x]?=if b=x then (w.heap[x]?).map (onCells (putCells encStr 0 ss.toArray)) else w.heap[x]?:=by
 unfold Sort.grow putRow mapBlock Sort.ahead
 have hx':x<(w.heap.modify b (onCells (putCells encStr 0 ss.toArray))).size:=by simpa using hx
 simp only [Array.getElem?_append,Array.size_modify,hx,if_true,yD]
def srt (ss:List (List UInt8)):List (List UInt8):=ss.mergeSort fun x y=>decide (x≤y)
def Ny (l:List UInt8):List OT:=[.str ⟨l.toArray⟩]
noncomputable def sortStr (xs:List SV) (ob:List Ob):Option (SV × List Ob) :=
 match xs,ob with
 | [.ref 0],[.row t sz es]=>bif dec (sz=1∧(∀ e∈es,∃ s,e=[.str s])∧es.length≤1099511627776) then some (.tup [],[.row t sz ((srt (es.map fun e=>(GY e).toList)).map Ny)]) else none
 | _,_=>none
theorem ORep.Qcf {w:World} {I S:Nat→Prop} {s:ByteArray} {v:Value} (h:ORep w I S (.str s) v):v=.string s∧s.size≤9223372036854775807:=by
 cases h with
 | str _ _ hz=>exact ⟨rfl,hz⟩
theorem DY (s:ByteArray):(⟨s.toList.toArray⟩:ByteArray)=s:=JH (by rw [ByteArray.toList_eq])
theorem Sc {xs:List SV} {ob:List Ob} {r:SV} {ob':List Ob} (h:sortStr xs ob=some (r,ob')):Fun Tryz.prog 119 xs ob r ob':=by
  unfold sortStr at h
  split at h
  · rename_i t sz es
    obtain ⟨h1,h2⟩:=Ap h
    obtain ⟨rfl,hk1,hk3⟩:=Ao.1 h1
    simp only [zE,zJ] at h2
    obtain ⟨rfl,rfl⟩:=h2
    intro w I V B vs hwf hvs
    obtain ⟨v,q,rfl,hv,hvs⟩:=A4 hvs
    obtain rfl:=DF hvs
    simp only [RepV] at hv
    obtain ⟨val,hval,hrow⟩:=hwf.obj 0 trivial
    rw [hv.1] at hval
    obtain rfl:=zC hval
    have hv0:=hv.1
    have hrow:RowR w I (B 0) t 1 es v:=hrow
    rcases zX es.length with h0 | h0
    · have he:es=[]:=zK h0
      subst he
      obtain ⟨a,c,rfl,_⟩:=hrow.form
      have hcon:=Any.slices_Sort_string_none TT a c w
      change Calls Tryz.prog 119 _ _ _ at hcon
      refine hcon.mono ?_
      rintro e w' ⟨rfl,rfl⟩
      have e0:(srt ([].map fun e:List OT=>(GY e).toList)).map Ny=[]:=by simp [srt]
      rw [e0]
      exact ⟨_,I,V,B,rfl,by simp only [RepV,RepVs]; exact ⟨[],rfl,rfl⟩,H4 hwf⟩
    · rcases hrow with ⟨he,_⟩ | ⟨b,cap,cur,Sub,rfl,hs,hb,g1,g2,g3,g4,g5,g6,g7⟩
      · subst he; simp at h0
      have hblt:=(zQ.1 hb).1
      obtain ⟨ss,hss⟩:∃ ss,ss=es.map fun e=>(GY e).toList:=⟨_,rfl⟩
      have hsl:ss.length=es.length:=by rw [hss]; simp
      rw [←hss]
      have cellv:∀ i (hi:i<es.length),cur[i]?=some (.string (GY es[i]))∧(GY es[i]).size≤9223372036854775807:=fun i hi=>by
        obtain ⟨s,he⟩:=hk1 es[i] (zL hi)
        have hlt:i<cur.size:=by rw [g3]; omega
        have l0:=g7 i 0 hi (by rw [g4 i hi]; omega)
        simp only [he,zV,yW,z6,zH,zI hlt,z8] at l0
        rw [zI hlt,he]
        obtain ⟨z1,z2⟩:=ORep.Qcf l0
        exact ⟨by rw [z1]; rfl,z2⟩
      have hH:Holds encStr w b 0 ss.toArray:=by
        intro j hj
        have hj1:j<ss.length:=by simpa using hj
        have hj':j<es.length:=by rw [←hsl]; exact hj1
        refine ⟨?_,?_⟩
        · rw [zU,cell_of_row w b _ _ _ _ hb,(cellv j hj').1,getElem!_pos ss.toArray j hj]
          simp only [yA,hss,zM,encStr,DY]
        · unfold World.frozen?
          rw [hb]
          simp
      have hcon:=Any.slices_Sort_string TT b 0 cap ss w hH hblt (by rw [hsl]; omega)
      change Calls Tryz.prog 119 _ _ _ at hcon
      rw [hsl] at hcon
      refine hcon.mono ?_
      rintro e w' ⟨rfl,m,os,rfl⟩
      refine ⟨_,I,V,B,rfl,by simp only [RepV,RepVs]; exact ⟨[],rfl,rfl⟩,?_⟩
      have hper:(srt ss).Perm ss:=y4 _ _
      have hsl2:(srt ss).length=es.length:=by rw [hper.length_eq,hsl]
      have hgrow:∀ x,x<w.heap.size→x≠b→(Sort.grow (putRow encStr (Sort.ahead w m) b 0 (srt ss).toArray) os).heap[x]?=w.heap[x]?:=fun x hx hne=>by
        rw [Ra w b m _ os x hx,if_neg (fun e=>hne e.symm)]
      have hbl:(Sort.grow (putRow encStr (Sort.ahead w m) b 0 (srt ss).toArray) os).heap[b]?=some (.cells (putCells encStr 0 (srt ss).toArray cur) t (0,0)):=by
        rw [Ra w b m _ os b hblt,if_pos rfl,hb]; rfl
      have hsz:w.heap.size≤(Sort.grow (putRow encStr (Sort.ahead w m) b 0 (srt ss).toArray) os).heap.size:=by
        unfold Sort.grow
        simp [putRow,mapBlock,Sort.ahead]
      have hmem:∀ l∈ss,∃ e∈es,(GY e).toList=l:=by
        rw [hss]
        intro l h
        exact yK.1 h
      have hstr:∀ i (hi:i<(srt ss).length),(⟨(srt ss)[i].toArray⟩:ByteArray).size≤9223372036854775807:=fun i hi=>by
        obtain ⟨e,he,heq⟩:=hmem _ (hper.mem_iff.1 (zL hi))
        obtain ⟨k,hk,rfl⟩:=y7 he
        have:=(cellv k hk).2
        rw [←heq,DY]
        exact this
      refine RU (fun _ _ _=>False) hwf hv0 (by rw [zF,hsl2]) hs hb g1 g2 g3 (fun i hi=>by rw [zM]; rfl) (fun i j x h=>h.elim) (fun i j i' j' x h h'=>h.elim) rfl ⟨rfl,fun h=>False.elim h⟩ rfl hsz hgrow hbl (by simp [putCells]) (fun i j hi hj=>?_)
      have hi':i<(srt ss).length:=by simpa using hi
      have hj':j<1:=by simpa [Ny] using hj
      obtain rfl:j=0:=by omega
      have hlt:i<cur.size:=by rw [g3]; omega
      have hc:(putCells encStr 0 (srt ss).toArray cur).getD (i*1+0) undef=.string ⟨(srt ss)[i].toArray⟩:=by
        simp only [yW,z6,putCells,zH,yS,zI hlt,yN,z8,zT,true_and,zU,yE,hi',if_true,Nat.sub_zero]
        rw [getElem!_pos (srt ss).toArray i (by simpa using hi')]
        rfl
      rw [hc]
      simp only [zM,Ny,zV]
      exact .str _ _ (hstr i hi')
  · cases h
end Go.Proofs.YtepbennkcbmgoaaGreatDoor
set_option maxRecDepth 100000
namespace Go.Proofs.YtepbennkcbmgoaaGreatDoor
open Go.Shelf
def so_CompS_ren:Go.Shelf.Ren:=⟨fun | 194=>120 | n=>n,fun | 31=>28 | 9=>9 | 3=>3 | 4=>4 | 0=>0 | n=>n,fun | n=>n⟩
theorem TU:Go.Proofs.Lays.n194 Tryz.prog so_CompS_ren:={
 mixed:=by kernel_rfl,
 f194:=Tryz.func120.trans (congrArg some (by kernel_rfl)),
 t0:=Tryz.underlying0,
 a0:=Tryz.isAgg0,
 z0:=Tryz.sizeOf0,
 v0:=Tryz.zeroValue0,
 t3:=Tryz.underlying3,
 a3:=Tryz.isAgg3,
 z3:=Tryz.sizeOf3,
 v3:=Tryz.zeroValue3,
 t4:=Tryz.underlying4,
 a4:=Tryz.isAgg4,
 z4:=Tryz.sizeOf4,
 v4:=Tryz.zeroValue4,
 t9:=Tryz.underlying9,
 a9:=Tryz.isAgg9,
 z9:=Tryz.sizeOf9,
 v9:=Tryz.zeroValue9,
 t31:=Tryz.underlying28,
 a31:=Tryz.isAgg28,
 z31:=Tryz.sizeOf28,
 v31:=Tryz.zeroValue28 }
end Go.Proofs.YtepbennkcbmgoaaGreatDoor
set_option maxRecDepth 100000
set_option linter.unusedSimpArgs false
set_option linter.unusedVariables false
set_option linter.unusedSectionVars false
namespace Go.Proofs.YtepbennkcbmgoaaGreatDoor
open Go.RowKit Go.Shelf Go.Lib Go.Sort
theorem X2 {w w':World} {I:Nat→Prop} {V:Nat→Option Value} {B:Nat→Nat→Prop} {t:TypeId} {sz:Nat} {es es':List (List OT)} {v':Value} (hwf:Wf w I V B (Aq [.row t sz es]))
    (hos:w'.os=w.os) (htape:TapeOk w w') (hout:w'.output=w.output) (hsz:w.heap.size≤w'.heap.size) (hblk:∀ x,x<w.heap.size→¬ B 0 x→w'.heap[x]?=w.heap[x]?) (hrow:RowR w' I (B 0) t sz es' v') :
    FunPost w I V B [.row t sz es] [.gone,.row t sz es'] w' I (fun g=>if g=1 then some v' else V g) (fun g=>if g=1 then B 0 else B g):=by
  have hB0:∀ x,B 0 x→HB B [Ob.row t sz es] x:=fun x hx=>⟨0,trivial,hx⟩
  have hlv:∀ g,(Aq [Ob.gone,.row t sz es'] g).live→g=1:=fun g h=>by
    match g with
    | 0=>exact h.elim
    | 1=>rfl
    | g+2=>exact h.elim
  refine ⟨⟨hos,htape,hout,hsz,fun x hx hn=>hblk x hx fun h=>hn (hB0 x h)⟩,fun _ h=>h,fun _ h=>.inl h,fun g u hu=>?_,?_,fun g x hl hx=>?_⟩
  · by_cases e:g=1
    · subst e
      rw [hwf.fr 1 rfl] at hu; cases hu
    · simp only [e,if_false]; exact hu
  · refine ⟨fun x hx=>zO (hwf.ilt x hx) hsz,fun g hl=>?_,fun g x hl hx=>?_,fun g x hl hx=>?_,fun g g' x hl hl' _ _=>by rw [hlv g hl,hlv g' hl'],fun g hf=>?_,hwf.gl.keep ⟨hsz,fun x hx hlt=>hblk x hlt fun h=>hwf.dI 0 x trivial h hx⟩ fun _ h=>h⟩
    · obtain rfl:=hlv g hl
      exact ⟨v',by simp,hrow⟩
    · obtain rfl:=hlv g hl
      simp only [if_true] at hx
      exact zO (hwf.lt 0 x trivial hx) hsz
    · obtain rfl:=hlv g hl
      simp only [if_true] at hx
      exact hwf.dI 0 x trivial hx
    · match g with
      | 0=>cases hf
      | 1=>cases hf
      | g+2 =>
        have e:¬ g+2=1:=by omega
        simp only [e,if_false]
        exact hwf.fr (g+2) rfl
  · obtain rfl:=hlv g hl
    simp only [if_true] at hx
    exact .inl (hB0 x hx)
theorem Rb (w:World) (b m:Nat) (ss:List (List UInt8)) (x:Nat):(putRow encStr (Sort.ahead w m) b 0 ss.toArray).heap[x]?=if b=x then (w.heap[x]?).map (onCells (putCells encStr 0 ss.toArray)) else w.heap[x]?:=by
 unfold putRow mapBlock Sort.ahead
 simp only [yD]
theorem TV (zs:List (List UInt8)):(Lib.compact zs).length≤zs.length:=by
 unfold Lib.compact Lib.compactUpTo
 rw [zF]
 exact Nat.le_trans (yT _ _) (by simp)
theorem TW {zs:List (List UInt8)} {z:List UInt8} (h:z∈Lib.compact zs):z∈zs:=by
 unfold Lib.compact Lib.compactUpTo at h
 obtain ⟨i,hi,rfl⟩:=yK.1 h
 have hi:=yR.1 (List.mem_filter.1 hi).1
 rw [getElem!_pos zs.toArray i (by simpa using hi)]
 simp
noncomputable def EH (xs:List SV) (ob:List Ob):Option (SV × List Ob) :=
 match xs,ob with
 | [.ref 0],[.row t sz es]=>bif dec (sz=1∧(∀ e∈es,∃ s,e=[.str s])∧es.length≤1099511627776) then some (.ref 1,[.gone,.row t sz ((Lib.compact (es.map fun e=>(GY e).toList)).map Ny)]) else none
 | _,_=>none
theorem NK {xs:List SV} {ob:List Ob} {r:SV} {ob':List Ob} (h:EH xs ob=some (r,ob')):Fun Tryz.prog 120 xs ob r ob':=by
  unfold EH at h
  split at h
  · rename_i t sz es
    obtain ⟨h1,h2⟩:=Ap h
    obtain ⟨rfl,hk1,hk3⟩:=Ao.1 h1
    simp only [zE,zJ] at h2
    obtain ⟨rfl,rfl⟩:=h2
    intro w I V B vs hwf hvs
    obtain ⟨v,q,rfl,hv,hvs⟩:=A4 hvs
    obtain rfl:=DF hvs
    simp only [RepV] at hv
    obtain ⟨val,hval,hrow⟩:=hwf.obj 0 trivial
    rw [hv.1] at hval
    obtain rfl:=zC hval
    have hv0:=hv.1
    have hrow:RowR w I (B 0) t 1 es v:=hrow
    rcases zX es.length with h0 | h0
    · have he:es=[]:=zK h0
      subst he
      obtain ⟨a,c,rfl,_⟩:=hrow.form
      have hcon:=Any.slices_Compact_string_empty TU a c w
      change Calls Tryz.prog 120 _ _ _ at hcon
      refine hcon.mono ?_
      rintro e w' ⟨rfl,rfl⟩
      have e0:(Lib.compact ([].map fun e:List OT=>(GY e).toList)).map Ny=[]:=rfl
      rw [e0]
      exact ⟨_,I,_,_,rfl,by simp only [RepV]; exact ⟨rfl,rfl⟩,X2 hwf rfl (TapeOk.mk' rfl rfl) rfl (zP _) (fun _ _ _=>rfl) hrow⟩
    · rcases hrow with ⟨he,_⟩ | ⟨b,cap,cur,Sub,rfl,hs,hb,g1,g2,g3,g4,g5,g6,g7⟩
      · subst he; simp at h0
      have hblt:=(zQ.1 hb).1
      obtain ⟨ss,hss⟩:∃ ss,ss=es.map fun e=>(GY e).toList:=⟨_,rfl⟩
      have hsl:ss.length=es.length:=by rw [hss]; simp
      rw [←hss]
      have cellv:∀ i (hi:i<es.length),cur[i]?=some (.string (GY es[i]))∧(GY es[i]).size≤9223372036854775807:=fun i hi=>by
        obtain ⟨s,he⟩:=hk1 es[i] (zL hi)
        have hlt:i<cur.size:=by rw [g3]; omega
        have l0:=g7 i 0 hi (by rw [g4 i hi]; omega)
        simp only [he,zV,yW,z6,zH,zI hlt,z8] at l0
        rw [zI hlt,he]
        obtain ⟨z1,z2⟩:=ORep.Qcf l0
        exact ⟨by rw [z1]; rfl,z2⟩
      have hH:Holds encStr w b 0 ss.toArray:=by
        intro j hj
        have hj1:j<ss.length:=by simpa using hj
        have hj':j<es.length:=by rw [←hsl]; exact hj1
        refine ⟨?_,?_⟩
        · rw [zU,cell_of_row w b _ _ _ _ hb,(cellv j hj').1,getElem!_pos ss.toArray j hj]
          simp only [yA,hss,zM,encStr,DY]
        · unfold World.frozen?
          rw [hb]
          simp
      have hcon:=Any.slices_Compact_string TU b 0 cap ss w hH (by omega) (by omega)
      change Calls Tryz.prog 120 _ _ _ at hcon
      rw [hsl] at hcon
      refine hcon.mono ?_
      rintro e w' ⟨rfl,m,rfl⟩
      have hcl:=TV ss
      obtain ⟨cs,hcs⟩:∃ cs,cs=Lib.compact ss:=⟨_,rfl⟩
      obtain ⟨zs,hzs⟩:∃ zs,zs=Lib.compact ss++xD (es.length-(Lib.compact ss).length) ([]:List UInt8):=⟨_,rfl⟩
      rw [←hzs]
      have hgrow:∀ x,x<w.heap.size→¬ B 0 x→(putRow encStr (Sort.ahead w m) b 0 zs.toArray).heap[x]?=w.heap[x]?:=fun x hx hn=>by
        rw [Rb,if_neg (fun e:b=x=>hn (by rw [←e]; exact hs))]
      have hbl:(putRow encStr (Sort.ahead w m) b 0 zs.toArray).heap[b]?=some (.cells (putCells encStr 0 zs.toArray cur) t (0,0)):=by
        rw [Rb,if_pos rfl,hb]; rfl
      have hsz:w.heap.size≤(putRow encStr (Sort.ahead w m) b 0 zs.toArray).heap.size:=by simp [putRow,mapBlock,Sort.ahead]
      have hmem:∀ l∈ss,∃ e∈es,(GY e).toList=l:=by
        rw [hss]
        intro l h
        exact yK.1 h
      have hstr:∀ i (hi:i<cs.length),(⟨cs[i].toArray⟩:ByteArray).size≤9223372036854775807:=fun i hi=>by
        obtain ⟨e,he,heq⟩:=hmem _ (TW (by rw [←hcs]; exact zL hi))
        obtain ⟨k,hk,rfl⟩:=y7 he
        have:=(cellv k hk).2
        rw [←heq,DY]
        exact this
      rw [←hcs] at hcl hzs ⊢
      refine ⟨_,I,_,_,rfl,by simp only [RepV]; exact ⟨rfl,rfl⟩,X2 hwf rfl (TapeOk.le rfl (Nat.le_add_right _ _)) rfl hsz hgrow ?_⟩
      refine .inr ⟨b,cap,putCells encStr 0 zs.toArray cur,fun _ _ _=>False,by rw [zF],hs,hbl,by rw [zF]; omega,g2,by simp [putCells]; omega,fun i hi=>by rw [zM]; rfl,fun i j x h=>h.elim,fun i j i' j' x h h'=>h.elim,fun i j hi hj=>?_⟩
      have hi':i<cs.length:=by simpa using hi
      have hj':j<1:=by simpa [Ny] using hj
      obtain rfl:j=0:=by omega
      have hlt:i<cur.size:=by rw [g3]; omega
      have hiz:i<zs.length:=by rw [hzs,yP]; omega
      have hc:(putCells encStr 0 zs.toArray cur).getD (i*1+0) undef=.string ⟨cs[i].toArray⟩:=by
        simp only [yW,z6,putCells,zH,yS,zI hlt,yN,z8,zT,true_and,zU,yE,hiz,if_true,Nat.sub_zero]
        rw [getElem!_pos zs.toArray i (by simpa using hiz)]
        simp only [yA,hzs,xA hi']
        first | done | rfl
      rw [hc]
      simp only [zM,Ny,zV]
      exact .str _ _ (hstr i hi')
  · cases h
end Go.Proofs.YtepbennkcbmgoaaGreatDoor
set_option maxRecDepth 100000
set_option linter.unusedSimpArgs false
set_option linter.unusedVariables false
set_option linter.unusedSectionVars false
namespace Go.Proofs.YtepbennkcbmgoaaGreatDoor
open Go.RowKit Go.Shelf
theorem Qcg:∃ (i:TypeInfo) (z:Value),Tryz.prog.info? 9=some i∧i.zero=some z∧i.size=1∧z.cells.size=1∧i.bytes=16:=by
 have h:(match Tryz.prog.info? 9 with
  | some i=>match i.zero with
   | some z=>i.size == 1&&z.cells.size == 1&&i.bytes == 16
   | none=>false
  | none=>false)=true:=by kernel_rfl
 split at h
 ·rename_i i hi
  split at h
  ·rename_i z hz
   rw [zS,zS,beq_iff_eq,beq_iff_eq,beq_iff_eq] at h
   exact ⟨i,z,hi,hz,h.1.1,h.1.2,h.2⟩
  ·cases h
 ·cases h
theorem VI (w:World):Calls Tryz.prog 188 #[.slice none 0 0,.int .i64 0] w fun e w'=>e=.returned (.slice none 0 0)∧w'=w:=by
 go_enter Tryz.func188,Tryz.ntmps188
 go_wp2
 go_ret
 exact ⟨rfl,rfl⟩
theorem VJ (n:Nat) (hn:0<n) (hb:n≤1048576) (w:World):Calls Tryz.prog 188 #[.slice none 0 0,.int .i64 n] w fun e w'=>∃ (cs:Array Value) (G:Nat),e=.returned (.slice (some ⟨w.heap.size,0,none⟩) 0 G)∧w'=w.drew.alloc (.cells cs 9)∧cs.size=G*1∧G≤9223372036854775807:=by
 obtain ⟨i0,z,hi0,hz0,hs0,hzc,hby⟩:=Qcg
 have hold:(Builtin.firstCells i0.size 0 (.slice none 0 0)).run Tryz.prog w.drew=.ok (yG []) w.drew:=run_firstCells_none w.drew i0.size 0 0 0
 have hrz:∀ ty,(Builtin.append_ #[28,3] ty #[.slice none 0 0,.int .i64 (n:Int)]).run Tryz.prog w =
   .ok (.slice (some ⟨w.heap.size,0,none⟩) n (grownCap w n 0 9)) (w.drew.alloc (.cells (yG []++Builtin.zeroCells z.cells n++Builtin.zeroCells z.cells (grownCap w n 0 9-n)) 9)):=fun ty=>by
  have h:=Lib.run_append_grow_zeros w 28 3 ty 9 i0 z .i64 .i64 Tryz.underlying28 Tryz.underlying3 hi0 hz0 none 0 0 [] hold n (by omega) (by omega) (by omega) (by omega)
   (by rw [hby]; omega) (by rw [zU]; exact growslice_fits (by omega) (by rw [hby]; omega))
  rw [zU] at h
  exact h
 have hGn:n≤grownCap w n 0 9:=grownCap_ge w _ _ _
 have hG63:=grownCap_le_maxLen w n 0 9 (by unfold maxLen; omega)
 obtain ⟨G,hG⟩:∃ G,G=grownCap w n 0 9:=⟨_,rfl⟩
 rw [←hG] at hrz hGn hG63
 have hG63':G≤9223372036854775807:=by unfold maxLen at hG63; omega
 obtain ⟨cs,hcs⟩:∃ cs,cs=yG []++Builtin.zeroCells z.cells n++Builtin.zeroCells z.cells (G-n):=⟨_,rfl⟩
 rw [←hcs] at hrz
 have hcl:cs.size=G*1:=by
  rw [hcs]
  simp [Builtin.zeroCells,hzc]
  omega
 clear hG hcs hold hG63
 go_enter Tryz.func188,Tryz.ntmps188
 go_wp2_with (at_builtin; refine Lib.wpList_append_run _ rfl _ _ _ _ rfl _ _ rfl rfl _ _ (hrz _) ?_)
 all_goals (go_ret; exact ⟨cs,G,rfl,rfl,hcl,hG63'⟩)
noncomputable def Nz (xs:List SV) (ob:List Ob):Option (SV × List Ob) :=
 match xs,ob with
 | [.nil,.int .i64 n],[]=>bif dec (n=0) then some (.nil,[]) else bif dec (0 < n∧n≤1048576) then some (.ref 0,[.row 9 1 []]) else none
 | _,_=>none
theorem VK {xs:List SV} {ob:List Ob} {r:SV} {ob':List Ob} (h:Nz xs ob=some (r,ob')):Fun Tryz.prog 188 xs ob r ob':=by
 unfold Nz at h
 split at h
 ·rename_i n
  intro w I V B vs hwf hvs
  obtain ⟨v,q,rfl,hv,hvs⟩:=A4 hvs
  obtain ⟨v2,q,rfl,hv2,hvs⟩:=A4 hvs
  obtain rfl:=DF hvs
  simp only [RepV] at hv hv2
  subst hv hv2
  cases hd:dec (n=0) with
  | true =>
   obtain rfl:=Ao.1 hd
   rw [hd] at h
   simp only [cond_true,zE,zJ] at h
   obtain ⟨rfl,rfl⟩:=h
   refine (VI w).mono ?_
   rintro e w' ⟨rfl,rfl⟩
   exact ⟨_,I,V,B,rfl,by simp only [RepV],⟨⟨rfl,TapeOk.mk' rfl rfl,rfl,zP _,fun _ _ _=>rfl⟩,fun _ h=>h,fun _ h=>.inl h,VLe.refl _,hwf,fun g b hl hb=>.inl ⟨g,hl,hb⟩⟩⟩
  | false =>
   rw [hd,cond_false] at h
   obtain ⟨h1,h2⟩:=Ap h
   obtain ⟨k1,k2⟩:=Ao.1 h1
   simp only [zE,zJ] at h2
   obtain ⟨rfl,rfl⟩:=h2
   obtain ⟨m,rfl⟩:∃ m:Nat,n=m:=⟨n.toNat,by omega⟩
   refine (VJ m (by omega) (by omega) w).mono ?_
   rintro e w' ⟨cs,G,rfl,rfl,hcs,hG⟩
   have hnew:=heap_alloc_new w.drew (.cells cs 9)
   have hbl:∀ x,x<w.heap.size→(w.drew.alloc (.cells cs 9)).heap[x]?=w.heap[x]?:=fun x hx=>Below.heap_alloc w.drew _ x hx
   have hsz:(w.drew.alloc (.cells cs 9)).heap.size=w.heap.size+1:=xB _
   exact ⟨_,I,_,_,rfl,by simp only [RepV]; exact ⟨rfl,rfl⟩,JK (S:=fun x=>x=w.heap.size) hwf rfl (TapeOk.le rfl (Nat.le_succ _)) rfl (by omega) hbl (fun x hx=>by omega) (.inr ⟨w.heap.size,G,cs,fun _ _ _=>False,rfl,rfl,hnew,zT _,hG,hcs,fun i hi=>absurd hi (by simp),fun _ _ _ h=>h.elim,fun _ _ _ _ _ h=>h.elim,fun i j hi=>absurd hi (by simp)⟩)⟩
 ·cases h
theorem Qch:∃ (i:TypeInfo) (z:Value),Tryz.prog.info? 60=some i∧i.zero=some z∧i.size=1∧z.cells.size=1∧i.bytes=24:=by
 have h:(match Tryz.prog.info? 60 with
  | some i=>match i.zero with
   | some z=>i.size == 1&&z.cells.size == 1&&i.bytes == 24
   | none=>false
  | none=>false)=true:=by kernel_rfl
 split at h
 ·rename_i i hi
  split at h
  ·rename_i z hz
   rw [zS,zS,beq_iff_eq,beq_iff_eq,beq_iff_eq] at h
   exact ⟨i,z,hi,hz,h.1.1,h.1.2,h.2⟩
  ·cases h
 ·cases h
theorem VL (w:World):Calls Tryz.prog 290 #[.slice none 0 0,.int .i64 0] w fun e w'=>e=.returned (.slice none 0 0)∧w'=w:=by
 go_enter Tryz.func290,Tryz.ntmps290
 go_wp2
 go_ret
 exact ⟨rfl,rfl⟩
theorem VM (n:Nat) (hn:0<n) (hb:n≤1048576) (w:World):Calls Tryz.prog 290 #[.slice none 0 0,.int .i64 n] w fun e w'=>∃ (cs:Array Value) (G:Nat),e=.returned (.slice (some ⟨w.heap.size,0,none⟩) 0 G)∧w'=w.drew.alloc (.cells cs 60)∧cs.size=G*1∧G≤9223372036854775807:=by
 obtain ⟨i0,z,hi0,hz0,hs0,hzc,hby⟩:=Qch
 have hold:(Builtin.firstCells i0.size 0 (.slice none 0 0)).run Tryz.prog w.drew=.ok (yG []) w.drew:=run_firstCells_none w.drew i0.size 0 0 0
 have hrz:∀ ty,(Builtin.append_ #[55,3] ty #[.slice none 0 0,.int .i64 (n:Int)]).run Tryz.prog w =
   .ok (.slice (some ⟨w.heap.size,0,none⟩) n (grownCap w n 0 60)) (w.drew.alloc (.cells (yG []++Builtin.zeroCells z.cells n++Builtin.zeroCells z.cells (grownCap w n 0 60-n)) 60)):=fun ty=>by
  have h:=Lib.run_append_grow_zeros w 55 3 ty 60 i0 z .i64 .i64 Tryz.underlying55 Tryz.underlying3 hi0 hz0 none 0 0 [] hold n (by omega) (by omega) (by omega) (by omega)
   (by rw [hby]; omega) (by rw [zU]; exact growslice_fits (by omega) (by rw [hby]; omega))
  rw [zU] at h
  exact h
 have hGn:n≤grownCap w n 0 60:=grownCap_ge w _ _ _
 have hG63:=grownCap_le_maxLen w n 0 60 (by unfold maxLen; omega)
 obtain ⟨G,hG⟩:∃ G,G=grownCap w n 0 60:=⟨_,rfl⟩
 rw [←hG] at hrz hGn hG63
 have hG63':G≤9223372036854775807:=by unfold maxLen at hG63; omega
 obtain ⟨cs,hcs⟩:∃ cs,cs=yG []++Builtin.zeroCells z.cells n++Builtin.zeroCells z.cells (G-n):=⟨_,rfl⟩
 rw [←hcs] at hrz
 have hcl:cs.size=G*1:=by
  rw [hcs]
  simp [Builtin.zeroCells,hzc]
  omega
 clear hG hcs hold hG63
 go_enter Tryz.func290,Tryz.ntmps290
 go_wp2_with (at_builtin; refine Lib.wpList_append_run _ rfl _ _ _ _ rfl _ _ rfl rfl _ _ (hrz _) ?_)
 all_goals (go_ret; exact ⟨cs,G,rfl,rfl,hcl,hG63'⟩)
noncomputable def Zy (xs:List SV) (ob:List Ob):Option (SV × List Ob) :=
 match xs,ob with
 | [.nil,.int .i64 n],[]=>bif dec (n=0) then some (.nil,[]) else bif dec (0 < n∧n≤1048576) then some (.ref 0,[.row 60 1 []]) else none
 | _,_=>none
theorem VN {xs:List SV} {ob:List Ob} {r:SV} {ob':List Ob} (h:Zy xs ob=some (r,ob')):Fun Tryz.prog 290 xs ob r ob':=by
 unfold Zy at h
 split at h
 ·rename_i n
  intro w I V B vs hwf hvs
  obtain ⟨v,q,rfl,hv,hvs⟩:=A4 hvs
  obtain ⟨v2,q,rfl,hv2,hvs⟩:=A4 hvs
  obtain rfl:=DF hvs
  simp only [RepV] at hv hv2
  subst hv hv2
  cases hd:dec (n=0) with
  | true =>
   obtain rfl:=Ao.1 hd
   rw [hd] at h
   simp only [cond_true,zE,zJ] at h
   obtain ⟨rfl,rfl⟩:=h
   refine (VL w).mono ?_
   rintro e w' ⟨rfl,rfl⟩
   exact ⟨_,I,V,B,rfl,by simp only [RepV],⟨⟨rfl,TapeOk.mk' rfl rfl,rfl,zP _,fun _ _ _=>rfl⟩,fun _ h=>h,fun _ h=>.inl h,VLe.refl _,hwf,fun g b hl hb=>.inl ⟨g,hl,hb⟩⟩⟩
  | false =>
   rw [hd,cond_false] at h
   obtain ⟨h1,h2⟩:=Ap h
   obtain ⟨k1,k2⟩:=Ao.1 h1
   simp only [zE,zJ] at h2
   obtain ⟨rfl,rfl⟩:=h2
   obtain ⟨m,rfl⟩:∃ m:Nat,n=m:=⟨n.toNat,by omega⟩
   refine (VM m (by omega) (by omega) w).mono ?_
   rintro e w' ⟨cs,G,rfl,rfl,hcs,hG⟩
   have hnew:=heap_alloc_new w.drew (.cells cs 60)
   have hbl:∀ x,x<w.heap.size→(w.drew.alloc (.cells cs 60)).heap[x]?=w.heap[x]?:=fun x hx=>Below.heap_alloc w.drew _ x hx
   have hsz:(w.drew.alloc (.cells cs 60)).heap.size=w.heap.size+1:=xB _
   exact ⟨_,I,_,_,rfl,by simp only [RepV]; exact ⟨rfl,rfl⟩,JK (S:=fun x=>x=w.heap.size) hwf rfl (TapeOk.le rfl (Nat.le_succ _)) rfl (by omega) hbl (fun x hx=>by omega) (.inr ⟨w.heap.size,G,cs,fun _ _ _=>False,rfl,rfl,hnew,zT _,hG,hcs,fun i hi=>absurd hi (by simp),fun _ _ _ h=>h.elim,fun _ _ _ _ _ h=>h.elim,fun i j hi=>absurd hi (by simp)⟩)⟩
 ·cases h
end Go.Proofs.YtepbennkcbmgoaaGreatDoor
set_option maxRecDepth 100000
namespace Go.Proofs.YtepbennkcbmgoaaGreatDoor
open Go.Shelf
def so_Itoa_ren:Go.Shelf.Ren:=⟨fun | 171=>189 | 243=>261 | 246=>306 | 283=>323 | 284=>324 | 285=>325 | 286=>326 | 129=>257 | 317=>345 | 318=>346 | 319=>347 | 320=>348 | 337=>355 | 338=>356 | n=>n,fun | 3=>3 | 9=>9 | 2=>2 | 4=>4 | 171=>289 | 0=>0 | 53=>241 | 37=>159 | 5=>5 | 173=>291 | 212=>305 | 51=>239 | 20=>20 | 213=>306 | 46=>184 | 232=>313 | 233=>314 | n=>n,fun | 17=>0 | 18=>1 | 19=>2 | n=>n⟩
theorem QaP:Go.Proofs.LaysM.n171 Tryz.prog so_Itoa_ren:={
 mixed:=by kernel_rfl,
 f129:=Tryz.func257.trans (congrArg some (by kernel_rfl)),
 f171:=Tryz.func189.trans (congrArg some (by kernel_rfl)),
 f243:=Tryz.func261.trans (congrArg some (by kernel_rfl)),
 f246:=Tryz.func306.trans (congrArg some (by kernel_rfl)),
 f283:=Tryz.func323.trans (congrArg some (by kernel_rfl)),
 f284:=Tryz.func324.trans (congrArg some (by kernel_rfl)),
 f285:=Tryz.func325.trans (congrArg some (by kernel_rfl)),
 f286:=Tryz.func326.trans (congrArg some (by kernel_rfl)),
 f317:=Tryz.func345.trans (congrArg some (by kernel_rfl)),
 f318:=Tryz.func346.trans (congrArg some (by kernel_rfl)),
 f319:=Tryz.func347.trans (congrArg some (by kernel_rfl)),
 f320:=Tryz.func348.trans (congrArg some (by kernel_rfl)),
 f337:=Tryz.func355.trans (congrArg some (by kernel_rfl)),
 f338:=Tryz.func356.trans (congrArg some (by kernel_rfl)),
 t0:=Tryz.underlying0,
 a0:=Tryz.isAgg0,
 z0:=Tryz.sizeOf0,
 v0:=Tryz.zeroValue0,
 t2:=Tryz.underlying2,
 a2:=Tryz.isAgg2,
 z2:=Tryz.sizeOf2,
 v2:=Tryz.zeroValue2,
 t3:=Tryz.underlying3,
 a3:=Tryz.isAgg3,
 z3:=Tryz.sizeOf3,
 v3:=Tryz.zeroValue3,
 t4:=Tryz.underlying4,
 a4:=Tryz.isAgg4,
 z4:=Tryz.sizeOf4,
 v4:=Tryz.zeroValue4,
 t5:=Tryz.underlying5,
 a5:=Tryz.isAgg5,
 z5:=Tryz.sizeOf5,
 v5:=Tryz.zeroValue5,
 t9:=Tryz.underlying9,
 a9:=Tryz.isAgg9,
 z9:=Tryz.sizeOf9,
 v9:=Tryz.zeroValue9,
 t20:=Tryz.underlying20,
 a20:=Tryz.isAgg20,
 z20:=Tryz.sizeOf20,
 v20:=Tryz.zeroValue20,
 t37:=Tryz.underlying159,
 a37:=Tryz.isAgg159,
 z37:=Tryz.sizeOf159,
 v37:=Tryz.zeroValue159,
 t46:=Tryz.underlying184,
 a46:=Tryz.isAgg184,
 z46:=Tryz.sizeOf184,
 v46:=Tryz.zeroValue184,
 t51:=Tryz.underlying239,
 a51:=Tryz.isAgg239,
 z51:=Tryz.sizeOf239,
 v51:=Tryz.zeroValue239,
 t53:=Tryz.underlying241,
 a53:=Tryz.isAgg241,
 z53:=Tryz.sizeOf241,
 v53:=Tryz.zeroValue241,
 t171:=Tryz.underlying289,
 a171:=Tryz.isAgg289,
 z171:=Tryz.sizeOf289,
 v171:=Tryz.zeroValue289,
 t173:=Tryz.underlying291,
 a173:=Tryz.isAgg291,
 z173:=Tryz.sizeOf291,
 v173:=Tryz.zeroValue291,
 t212:=Tryz.underlying305,
 a212:=Tryz.isAgg305,
 z212:=Tryz.sizeOf305,
 v212:=Tryz.zeroValue305,
 t213:=Tryz.underlying306,
 a213:=Tryz.isAgg306,
 z213:=Tryz.sizeOf306,
 t232:=Tryz.underlying313,
 a232:=Tryz.isAgg313,
 z232:=Tryz.sizeOf313,
 v232:=Tryz.zeroValue313,
 t233:=Tryz.underlying314,
 a233:=Tryz.isAgg314,
 z233:=Tryz.sizeOf314,
 v233:=Tryz.zeroValue314,
 g17:=by kernel_rfl,
 g18:=by kernel_rfl,
 g19:=by kernel_rfl,
 i0:=by kernel_rfl,
 i2:=by kernel_rfl,
 i3:=by kernel_rfl,
 i4:=by kernel_rfl,
 i5:=by kernel_rfl,
 i9:=by kernel_rfl,
 i20:=by kernel_rfl,
 i37:=by kernel_rfl,
 i46:=by kernel_rfl,
 i51:=by kernel_rfl,
 i53:=by kernel_rfl,
 i171:=by kernel_rfl,
 i173:=by kernel_rfl,
 i212:=by kernel_rfl,
 i232:=by kernel_rfl,
 i233:=by kernel_rfl,
 m17:=by kernel_rfl,
 m18:=by kernel_rfl,
 m19:=by kernel_rfl }
end Go.Proofs.YtepbennkcbmgoaaGreatDoor
set_option maxRecDepth 100000
set_option linter.unusedSimpArgs false
set_option linter.unusedVariables false
set_option linter.unusedSectionVars false
namespace Go.Proofs.YtepbennkcbmgoaaGreatDoor
open Go.RowKit
def Jd (n:Int):ByteArray:=⟨(Lib.itoa n).toArray⟩
noncomputable def Rc:List SV→Option SV
 | [.int .i64 n]=>bif dec (0≤n∧n≤1099511627776) then some (.str (Jd n)) else none
 | _=>none
theorem JL {n:Int} (h0:0≤n) (h1:n≤1099511627776):(Jd n).size≤20:=by
 obtain ⟨u,rfl⟩:∃ u:Nat,n=u:=⟨n.toNat,by omega⟩
 show (Lib.itoa u).toArray.size≤20
 rw [Lib.itoa_nonneg,yE,Lib.decDigits_length]
 rcases zX u with rfl | hu
 ·rw [Lib.nDigits_small (by omega)]; omega
 ·have:=Lib.numDigits_eq u hu (by omega)
  split at this <;> omega
theorem VO {xs:List SV} {r:SV} (h:Rc xs=some r):Fun Tryz.prog 189 xs [] r []:=by
 unfold Rc at h
 split at h
 ·rename_i n
  obtain ⟨h1,h2⟩:=Ap h
  obtain ⟨k1,k2⟩:=Ao.1 h1
  obtain rfl:=zC h2
  intro w I V B vs hwf hvs
  obtain ⟨v,q,rfl,hv,hvs⟩:=A4 hvs
  obtain rfl:=DF hvs
  obtain rfl:=Xu hv
  have hcon:=Any.strconv_Itoa QaP n (by omega) (by omega) w hwf.gl.2.2
  change Calls Tryz.prog 189 _ _ _ at hcon
  refine hcon.mono ?_
  rintro e w' ⟨rfl,k,os,rfl⟩
  have hsz:w.heap.size≤(Sort.grow (w.drewN k) os).heap.size:=by simp [Sort.grow,World.drewN]
  have hbl:∀ x,x<w.heap.size→(Sort.grow (w.drewN k) os).heap[x]?=w.heap[x]?:=fun x hx=>by
   simp only [Sort.grow,World.drewN]
   rw [Array.getElem?_append_left hx]
  have hno:∀ g,¬ (Aq ([]:List Ob) g).live:=fun g h=>by
   have e:Aq ([]:List Ob) g=.free:=rfl
   rw [e] at h
   exact h
  refine ⟨_,I,V,B,rfl,?_,⟨⟨rfl,⟨rfl,fun h=>False.elim h⟩,rfl,hsz,fun x hx _=>hbl x hx⟩,fun _ h=>h,fun _ h=>.inl h,VLe.refl _,⟨fun x hx=>zO (hwf.ilt x hx) hsz,fun g hl=>(hno g hl).elim,fun g x hl=>(hno g hl).elim,fun g x hl=>(hno g hl).elim,fun g g' x hl=>(hno g hl).elim,fun g hg=>hwf.fr g rfl,hwf.gl.keep ⟨hsz,fun x _ hx=>hbl x hx⟩ fun _ h=>h⟩,fun g x hl=>(hno g hl).elim⟩⟩
  have:=JL k1 k2
  simp only [RepV]
  exact ⟨rfl,by omega⟩
 ·cases h
def X3:List (Nat × FM)→Nat→FM
 | [],_=>⟨[],.asis,none,false⟩
 | (f,m) :: r,g=>bif f == g then m else X3 r g
theorem Yl {l:List (Nat × FM)} {f:Nat} {g:List SV→List Ob→Option (SV × List Ob)} (h:(X3 l f).ext=some g):∃ m,(f,m)∈l∧m.ext=some g:=by
 induction l with
 | nil=>cases h
 | cons x r ih =>
  obtain ⟨f',m⟩:=x
  simp only [X3] at h
  cases e:f' == f with
  | true =>
   rw [e] at h
   obtain rfl:f'=f:=by simpa using e
   exact ⟨m,by simp,h⟩
  | false =>
   rw [e] at h
   obtain ⟨m',h1,h2⟩:=ih h
   exact ⟨m',by simp [h1],h2⟩
noncomputable def Rd:List SV→Option SV
 | [.int .i64 k]=>bif dec (1≤k)&&dec (k≤1099511627776) then some (.str (DG k)) else none
 | _=>none
theorem VP {xs:List SV} {r:SV} (h:Rd xs=some r):Fun Tryz.prog 63 xs [] r []:=by
 unfold Rd at h
 split at h
 ·rename_i k
  obtain ⟨h1,h2⟩:=Ap h
  rw [zS,Ao,Ao] at h1
  obtain rfl:=zC h2
  obtain ⟨n,rfl⟩:∃ n:Nat,k=n:=⟨k.toNat,by omega⟩
  refine Fun.Vy (rv:=.string (DG n)) (fun w I V=>by simp only [RepV,true_and]; exact Vz (by omega) (by omega)) fun w I V vs h=>?_
  obtain ⟨v,r,rfl,h3,h⟩:=A4 h
  obtain rfl:=DF h
  obtain rfl:=Xu h3
  exact RQ n w (by omega) (by omega)
 ·cases h
def Zz:List SV→Option SV
 | [.str s]=>some (.bool (AO s))
 | _=>none
theorem Ym {xs:List SV} {r:SV} (h:Zz xs=some r):Fun Tryz.prog 177 xs [] r []:=by
 unfold Zz at h
 split at h
 ·rename_i s
  obtain rfl:=zC h
  refine Fun.of_same (rv:=.bool (AO s)) (fun w I V=>by simp only [RepV]) fun w I V vs h=>?_
  obtain ⟨v,r,rfl,h3,h⟩:=A4 h
  obtain rfl:=DF h
  obtain ⟨rfl,h4⟩:=Of h3
  exact OU s w h4
 ·cases h
def Z0:List SV→Option SV
 | [.str s]=>some (.bool (AO s))
 | _=>none
theorem Yn {xs:List SV} {r:SV} (h:Z0 xs=some r):Fun Tryz.prog 191 xs [] r []:=by
 unfold Z0 at h
 split at h
 ·rename_i s
  obtain rfl:=zC h
  refine Fun.of_same (rv:=.bool (AO s)) (fun w I V=>by simp only [RepV]) fun w I V vs h=>?_
  obtain ⟨v,r,rfl,h3,h⟩:=A4 h
  obtain rfl:=DF h
  obtain ⟨rfl,h4⟩:=Of h3
  exact Yf s w h4
 ·cases h
def Z1:List SV→Option SV
 | [.str s]=>some (.bool (Dd s))
 | _=>none
theorem Yo {xs:List SV} {r:SV} (h:Z1 xs=some r):Fun Tryz.prog 184 xs [] r []:=by
 unfold Z1 at h
 split at h
 ·rename_i s
  obtain rfl:=zC h
  refine Fun.Vy (rv:=.bool (Dd s)) (fun w I V=>by simp only [RepV]) fun w I V vs h=>?_
  obtain ⟨v,r,rfl,h3,h⟩:=A4 h
  obtain rfl:=DF h
  obtain ⟨rfl,h4⟩:=Of h3
  exact RS s w h4
 ·cases h
def Z2:List SV→Option SV
 | [.str s]=>some (.bool (Dd s))
 | _=>none
theorem Yp {xs:List SV} {r:SV} (h:Z2 xs=some r):Fun Tryz.prog 265 xs [] r []:=by
 unfold Z2 at h
 split at h
 ·rename_i s
  obtain rfl:=zC h
  refine Fun.of_same (rv:=.bool (Dd s)) (fun w I V=>by simp only [RepV]) fun w I V vs h=>?_
  obtain ⟨v,r,rfl,h3,h⟩:=A4 h
  obtain rfl:=DF h
  obtain ⟨rfl,h4⟩:=Of h3
  exact RT s w h4
 ·cases h
noncomputable def modes:FuncId→FM:=X3 [(63,⟨[],.asis,some (JX Rd),false⟩),(177,⟨[],.asis,some (JX Zz),false⟩),(191,⟨[],.asis,some (JX Z0),false⟩),(184,⟨[],.asis,some (JX Z1),false⟩),(265,⟨[],.asis,some (JX Z2),false⟩),(72,⟨[true],.asis,none,true⟩),(62,⟨[true],.asis,none,false⟩),(46,⟨[true],.asis,none,true⟩),(17,⟨[true],.asis,none,false⟩),(83,⟨[true],.asis,none,true⟩),(32,⟨[true],.asis,none,true⟩),(31,⟨[true],.asis,none,false⟩),(23,⟨[true],.asis,none,true⟩),(18,⟨[true],.asis,none,true⟩),(260,⟨[],.own [some (33,2)],none,false⟩),(276,⟨[],.own [none,some (33,2)],none,false⟩),(207,⟨[],.late,none,false⟩),(211,⟨[],.own [some (227,3),none],none,false⟩),(135,⟨[],.frz,none,false⟩),(173,⟨[],.frz,none,false⟩),(269,⟨[],.frz,none,false⟩),(280,⟨[],.frz,none,false⟩),(174,⟨[],.frz,none,false⟩),(328,⟨[],.frz,none,false⟩),(312,⟨[],.frz,none,false⟩),(238,⟨[true],.asis,some M5,false⟩),(237,⟨[],.frz,none,false⟩),(100,⟨[],.frz,none,false⟩),(119,⟨[true],.asis,some sortStr,false⟩),(281,⟨[true],.asis,some IZ,false⟩),(193,⟨[true],.asis,none,false⟩),(124,⟨[true],.own [some (9,1)],none,false⟩),(151,⟨[],.own [some (227,3),none],none,false⟩),(210,⟨[],.frz,none,false⟩),(270,⟨[],.frz,none,false⟩),(199,⟨[],.frz,none,false⟩),(132,⟨[],.own [none,none,some (33,2),none,some (36,5)],none,false⟩),(231,⟨[],.own [none,none,some (33,2),none,some (36,5)],none,false⟩),(168,⟨[],.own [none,none,some (33,2),none,some (36,5)],none,false⟩),(170,⟨[],.own [none,none,some (33,2),none,some (36,5)],none,false⟩),(128,⟨[false,false,true],.own [none,none,some (33,2),none,some (36,5)],none,false⟩),(105,⟨[true],.own [none,none,some (33,2),none,some (36,5)],none,false⟩),(126,⟨[true],.own [none,none,some (33,2),none,some (36,5)],none,false⟩),(234,⟨[false,true,true],.own [none,none,some (33,2),none,some (36,5)],none,false⟩),(60,⟨[true],.own [none,none,some (33,2),none,some (36,5),none],none,false⟩),(104,⟨[],.own [none,none,some (33,2),none,some (36,5),none],none,false⟩),(227,⟨[],.frz,none,false⟩),(99,⟨[],.frz,none,false⟩),(228,⟨[],.frz,none,false⟩),(165,⟨[],.frz,none,false⟩),(164,⟨[],.frz,none,false⟩),(98,⟨[],.frz,none,false⟩),(125,⟨[true],.asis,none,false⟩),(57,⟨[],.asis,some M4,false⟩),(226,⟨[],.frz,none,false⟩),(275,⟨[],.own [none,some (33,2)],none,false⟩),(127,⟨[],.own [none,some (33,2)],none,false⟩),(131,⟨[],.frz,none,false⟩),(233,⟨[],.own [none,none,some (33,2),none,some (36,5)],none,false⟩),(294,⟨[],.own [none,none,some (33,2),none,some (36,5)],none,false⟩),(169,⟨[],.own [none,none,some (33,2),none,some (36,5)],none,false⟩),(59,⟨[],.own [none,none,some (33,2),none,some (36,5)],none,false⟩),(133,⟨[],.own [none,none,some (33,2),none,some (36,5)],none,false⟩),(70,⟨[],.own [none,none,some (33,2),none,some (36,5)],none,false⟩),(140,⟨[],.own [none,none,some (33,2),none,some (36,5)],none,false⟩),(14,⟨[],.own [none,none,some (33,2),none,some (36,5),none],none,false⟩),(291,⟨[],.frz,none,false⟩),(286,⟨[],.frz,none,false⟩),(229,⟨[],.frz,none,false⟩),(166,⟨[],.frz,none,false⟩),(101,⟨[],.frz,none,false⟩),(114,⟨[],.frz,none,false⟩),(51,⟨[],.frz,none,false⟩),(11,⟨[],.frz,none,false⟩),(111,⟨[],.frz,none,false⟩),(137,⟨[true],.asis,none,false⟩),(68,⟨[true],.asis,none,false⟩),(56,⟨[true],.own [some (9,1)],none,false⟩),(189,⟨[],.asis,some (JX Rc),false⟩),(287,⟨[true],.asis,some RV,false⟩),(288,⟨[true],.asis,some KM,false⟩),(159,⟨[],.own [none,none,some (33,2)],none,false⟩),(222,⟨[],.own [some (122,3)],none,false⟩),(93,⟨[],.own [some (122,3)],none,false⟩),(163,⟨[],.own [some (122,3)],none,false⟩),(206,⟨[],.own [some (122,3)],none,false⟩),(150,⟨[],.frz,none,false⟩),(284,⟨[true],.own [some (122,3),none],none,false⟩),(212,⟨[],.own [some (122,3),none],none,false⟩),(218,⟨[],.frl [10],none,false⟩),(271,⟨[],.frz,none,false⟩),(86,⟨[],.frz,none,false⟩),(221,⟨[],.frz,none,false⟩),(161,⟨[],.frz,none,false⟩),(197,⟨[],.frz,none,false⟩),(215,⟨[],.asis,some VC,false⟩),(213,⟨[true],.asis,some Zw,false⟩),(214,⟨[true],.asis,some RZ,false⟩),(153,⟨[],.own [some (122,3)],none,false⟩),(154,⟨[],.own [some (122,3)],none,false⟩),(152,⟨[],.own [some (122,3),none],none,false⟩),(80,⟨[],.own [some (122,3),none],none,false⟩),(95,⟨[],.own [some (122,3),none],none,false⟩),(37,⟨[],.own [some (122,3),none],none,false⟩),(28,⟨[],.own [some (60,1),none],none,false⟩),(268,⟨[false,true],.asis,none,false⟩),(200,⟨[],.frz,none,false⟩),(145,⟨[],.frz,none,false⟩),(77,⟨[],.frz,none,false⟩),(102,⟨[],.frz,none,false⟩),(26,⟨[],.frz,none,false⟩),(87,⟨[],.frz,none,false⟩),(35,⟨[],.frz,none,false⟩),(120,⟨[true],.asis,some EH,false⟩),(188,⟨[true],.asis,some Nz,false⟩),(290,⟨[true],.asis,some Zy,false⟩),(129,⟨[],.own [some (9,1)],none,false⟩),(123,⟨[],.frz,none,false⟩),(220,⟨[],.frz,none,false⟩),(219,⟨[],.frz,none,false⟩),(160,⟨[],.frz,none,false⟩),(96,⟨[],.frz,none,false⟩),(39,⟨[],.frz,none,false⟩),(223,⟨[],.frz,none,false⟩),(225,⟨[],.frz,none,false⟩),(162,⟨[],.frz,none,false⟩),(67,⟨[],.frz,none,false⟩),(20,⟨[],.frz,none,false⟩),(97,⟨[],.own [some (60,1),none],none,false⟩),(40,⟨[],.own [some (60,1),none],none,false⟩),(44,⟨[],.own [some (60,1),none],none,false⟩),(58,⟨[],.frz,none,false⟩),(295,⟨[true],.asis,none,false⟩),(172,⟨[true],.asis,none,false⟩),(110,⟨[],.asis,none,false⟩)]
theorem KN:Lz Tryz.prog modes:=by
 intro f g xs ob r ob' hg hx
 obtain ⟨m,h1,h2⟩:=Yl hg
 rcases zA.1 h1 with h1 | h1
 ·obtain ⟨rfl,rfl⟩:=zB h1
  obtain rfl:=zC h2
  exact FJ VP hx
 rcases zA.1 h1 with h1 | h1
 ·obtain ⟨rfl,rfl⟩:=zB h1
  obtain rfl:=zC h2
  exact FJ Ym hx
 rcases zA.1 h1 with h1 | h1
 ·obtain ⟨rfl,rfl⟩:=zB h1
  obtain rfl:=zC h2
  exact FJ Yn hx
 rcases zA.1 h1 with h1 | h1
 ·obtain ⟨rfl,rfl⟩:=zB h1
  obtain rfl:=zC h2
  exact FJ Yo hx
 rcases zA.1 h1 with h1 | h1
 ·obtain ⟨rfl,rfl⟩:=zB h1
  obtain rfl:=zC h2
  exact FJ Yp hx
 rcases zA.1 h1 with h1 | h1
 ·obtain ⟨rfl,rfl⟩:=zB h1
  cases h2
 rcases zA.1 h1 with h1 | h1
 ·obtain ⟨rfl,rfl⟩:=zB h1
  cases h2
 rcases zA.1 h1 with h1 | h1
 ·obtain ⟨rfl,rfl⟩:=zB h1
  cases h2
 rcases zA.1 h1 with h1 | h1
 ·obtain ⟨rfl,rfl⟩:=zB h1
  cases h2
 rcases zA.1 h1 with h1 | h1
 ·obtain ⟨rfl,rfl⟩:=zB h1
  cases h2
 rcases zA.1 h1 with h1 | h1
 ·obtain ⟨rfl,rfl⟩:=zB h1
  cases h2
 rcases zA.1 h1 with h1 | h1
 ·obtain ⟨rfl,rfl⟩:=zB h1
  cases h2
 rcases zA.1 h1 with h1 | h1
 ·obtain ⟨rfl,rfl⟩:=zB h1
  cases h2
 rcases zA.1 h1 with h1 | h1
 ·obtain ⟨rfl,rfl⟩:=zB h1
  cases h2
 rcases zA.1 h1 with h1 | h1
 ·obtain ⟨rfl,rfl⟩:=zB h1
  cases h2
 rcases zA.1 h1 with h1 | h1
 ·obtain ⟨rfl,rfl⟩:=zB h1
  cases h2
 rcases zA.1 h1 with h1 | h1
 ·obtain ⟨rfl,rfl⟩:=zB h1
  cases h2
 rcases zA.1 h1 with h1 | h1
 ·obtain ⟨rfl,rfl⟩:=zB h1
  cases h2
 rcases zA.1 h1 with h1 | h1
 ·obtain ⟨rfl,rfl⟩:=zB h1
  cases h2
 rcases zA.1 h1 with h1 | h1
 ·obtain ⟨rfl,rfl⟩:=zB h1
  cases h2
 rcases zA.1 h1 with h1 | h1
 ·obtain ⟨rfl,rfl⟩:=zB h1
  cases h2
 rcases zA.1 h1 with h1 | h1
 ·obtain ⟨rfl,rfl⟩:=zB h1
  cases h2
 rcases zA.1 h1 with h1 | h1
 ·obtain ⟨rfl,rfl⟩:=zB h1
  cases h2
 rcases zA.1 h1 with h1 | h1
 ·obtain ⟨rfl,rfl⟩:=zB h1
  cases h2
 rcases zA.1 h1 with h1 | h1
 ·obtain ⟨rfl,rfl⟩:=zB h1
  cases h2
 rcases zA.1 h1 with h1 | h1
 ·obtain ⟨rfl,rfl⟩:=zB h1
  obtain rfl:=zC h2
  exact TS hx
 rcases zA.1 h1 with h1 | h1
 ·obtain ⟨rfl,rfl⟩:=zB h1
  cases h2
 rcases zA.1 h1 with h1 | h1
 ·obtain ⟨rfl,rfl⟩:=zB h1
  cases h2
 rcases zA.1 h1 with h1 | h1
 ·obtain ⟨rfl,rfl⟩:=zB h1
  obtain rfl:=zC h2
  exact Sc hx
 rcases zA.1 h1 with h1 | h1
 ·obtain ⟨rfl,rfl⟩:=zB h1
  obtain rfl:=zC h2
  exact Mz hx
 rcases zA.1 h1 with h1 | h1
 ·obtain ⟨rfl,rfl⟩:=zB h1
  cases h2
 rcases zA.1 h1 with h1 | h1
 ·obtain ⟨rfl,rfl⟩:=zB h1
  cases h2
 rcases zA.1 h1 with h1 | h1
 ·obtain ⟨rfl,rfl⟩:=zB h1
  cases h2
 rcases zA.1 h1 with h1 | h1
 ·obtain ⟨rfl,rfl⟩:=zB h1
  cases h2
 rcases zA.1 h1 with h1 | h1
 ·obtain ⟨rfl,rfl⟩:=zB h1
  cases h2
 rcases zA.1 h1 with h1 | h1
 ·obtain ⟨rfl,rfl⟩:=zB h1
  cases h2
 rcases zA.1 h1 with h1 | h1
 ·obtain ⟨rfl,rfl⟩:=zB h1
  cases h2
 rcases zA.1 h1 with h1 | h1
 ·obtain ⟨rfl,rfl⟩:=zB h1
  cases h2
 rcases zA.1 h1 with h1 | h1
 ·obtain ⟨rfl,rfl⟩:=zB h1
  cases h2
 rcases zA.1 h1 with h1 | h1
 ·obtain ⟨rfl,rfl⟩:=zB h1
  cases h2
 rcases zA.1 h1 with h1 | h1
 ·obtain ⟨rfl,rfl⟩:=zB h1
  cases h2
 rcases zA.1 h1 with h1 | h1
 ·obtain ⟨rfl,rfl⟩:=zB h1
  cases h2
 rcases zA.1 h1 with h1 | h1
 ·obtain ⟨rfl,rfl⟩:=zB h1
  cases h2
 rcases zA.1 h1 with h1 | h1
 ·obtain ⟨rfl,rfl⟩:=zB h1
  cases h2
 rcases zA.1 h1 with h1 | h1
 ·obtain ⟨rfl,rfl⟩:=zB h1
  cases h2
 rcases zA.1 h1 with h1 | h1
 ·obtain ⟨rfl,rfl⟩:=zB h1
  cases h2
 rcases zA.1 h1 with h1 | h1
 ·obtain ⟨rfl,rfl⟩:=zB h1
  cases h2
 rcases zA.1 h1 with h1 | h1
 ·obtain ⟨rfl,rfl⟩:=zB h1
  cases h2
 rcases zA.1 h1 with h1 | h1
 ·obtain ⟨rfl,rfl⟩:=zB h1
  cases h2
 rcases zA.1 h1 with h1 | h1
 ·obtain ⟨rfl,rfl⟩:=zB h1
  cases h2
 rcases zA.1 h1 with h1 | h1
 ·obtain ⟨rfl,rfl⟩:=zB h1
  cases h2
 rcases zA.1 h1 with h1 | h1
 ·obtain ⟨rfl,rfl⟩:=zB h1
  cases h2
 rcases zA.1 h1 with h1 | h1
 ·obtain ⟨rfl,rfl⟩:=zB h1
  cases h2
 rcases zA.1 h1 with h1 | h1
 ·obtain ⟨rfl,rfl⟩:=zB h1
  obtain rfl:=zC h2
  exact TQ hx
 rcases zA.1 h1 with h1 | h1
 ·obtain ⟨rfl,rfl⟩:=zB h1
  cases h2
 rcases zA.1 h1 with h1 | h1
 ·obtain ⟨rfl,rfl⟩:=zB h1
  cases h2
 rcases zA.1 h1 with h1 | h1
 ·obtain ⟨rfl,rfl⟩:=zB h1
  cases h2
 rcases zA.1 h1 with h1 | h1
 ·obtain ⟨rfl,rfl⟩:=zB h1
  cases h2
 rcases zA.1 h1 with h1 | h1
 ·obtain ⟨rfl,rfl⟩:=zB h1
  cases h2
 rcases zA.1 h1 with h1 | h1
 ·obtain ⟨rfl,rfl⟩:=zB h1
  cases h2
 rcases zA.1 h1 with h1 | h1
 ·obtain ⟨rfl,rfl⟩:=zB h1
  cases h2
 rcases zA.1 h1 with h1 | h1
 ·obtain ⟨rfl,rfl⟩:=zB h1
  cases h2
 rcases zA.1 h1 with h1 | h1
 ·obtain ⟨rfl,rfl⟩:=zB h1
  cases h2
 rcases zA.1 h1 with h1 | h1
 ·obtain ⟨rfl,rfl⟩:=zB h1
  cases h2
 rcases zA.1 h1 with h1 | h1
 ·obtain ⟨rfl,rfl⟩:=zB h1
  cases h2
 rcases zA.1 h1 with h1 | h1
 ·obtain ⟨rfl,rfl⟩:=zB h1
  cases h2
 rcases zA.1 h1 with h1 | h1
 ·obtain ⟨rfl,rfl⟩:=zB h1
  cases h2
 rcases zA.1 h1 with h1 | h1
 ·obtain ⟨rfl,rfl⟩:=zB h1
  cases h2
 rcases zA.1 h1 with h1 | h1
 ·obtain ⟨rfl,rfl⟩:=zB h1
  cases h2
 rcases zA.1 h1 with h1 | h1
 ·obtain ⟨rfl,rfl⟩:=zB h1
  cases h2
 rcases zA.1 h1 with h1 | h1
 ·obtain ⟨rfl,rfl⟩:=zB h1
  cases h2
 rcases zA.1 h1 with h1 | h1
 ·obtain ⟨rfl,rfl⟩:=zB h1
  cases h2
 rcases zA.1 h1 with h1 | h1
 ·obtain ⟨rfl,rfl⟩:=zB h1
  cases h2
 rcases zA.1 h1 with h1 | h1
 ·obtain ⟨rfl,rfl⟩:=zB h1
  cases h2
 rcases zA.1 h1 with h1 | h1
 ·obtain ⟨rfl,rfl⟩:=zB h1
  cases h2
 rcases zA.1 h1 with h1 | h1
 ·obtain ⟨rfl,rfl⟩:=zB h1
  cases h2
 rcases zA.1 h1 with h1 | h1
 ·obtain ⟨rfl,rfl⟩:=zB h1
  cases h2
 rcases zA.1 h1 with h1 | h1
 ·obtain ⟨rfl,rfl⟩:=zB h1
  cases h2
 rcases zA.1 h1 with h1 | h1
 ·obtain ⟨rfl,rfl⟩:=zB h1
  obtain rfl:=zC h2
  exact FJ VO hx
 rcases zA.1 h1 with h1 | h1
 ·obtain ⟨rfl,rfl⟩:=zB h1
  obtain rfl:=zC h2
  exact RW hx
 rcases zA.1 h1 with h1 | h1
 ·obtain ⟨rfl,rfl⟩:=zB h1
  obtain rfl:=zC h2
  exact NJ hx
 rcases zA.1 h1 with h1 | h1
 ·obtain ⟨rfl,rfl⟩:=zB h1
  cases h2
 rcases zA.1 h1 with h1 | h1
 ·obtain ⟨rfl,rfl⟩:=zB h1
  cases h2
 rcases zA.1 h1 with h1 | h1
 ·obtain ⟨rfl,rfl⟩:=zB h1
  cases h2
 rcases zA.1 h1 with h1 | h1
 ·obtain ⟨rfl,rfl⟩:=zB h1
  cases h2
 rcases zA.1 h1 with h1 | h1
 ·obtain ⟨rfl,rfl⟩:=zB h1
  cases h2
 rcases zA.1 h1 with h1 | h1
 ·obtain ⟨rfl,rfl⟩:=zB h1
  cases h2
 rcases zA.1 h1 with h1 | h1
 ·obtain ⟨rfl,rfl⟩:=zB h1
  cases h2
 rcases zA.1 h1 with h1 | h1
 ·obtain ⟨rfl,rfl⟩:=zB h1
  cases h2
 rcases zA.1 h1 with h1 | h1
 ·obtain ⟨rfl,rfl⟩:=zB h1
  cases h2
 rcases zA.1 h1 with h1 | h1
 ·obtain ⟨rfl,rfl⟩:=zB h1
  cases h2
 rcases zA.1 h1 with h1 | h1
 ·obtain ⟨rfl,rfl⟩:=zB h1
  cases h2
 rcases zA.1 h1 with h1 | h1
 ·obtain ⟨rfl,rfl⟩:=zB h1
  cases h2
 rcases zA.1 h1 with h1 | h1
 ·obtain ⟨rfl,rfl⟩:=zB h1
  cases h2
 rcases zA.1 h1 with h1 | h1
 ·obtain ⟨rfl,rfl⟩:=zB h1
  cases h2
 rcases zA.1 h1 with h1 | h1
 ·obtain ⟨rfl,rfl⟩:=zB h1
  obtain rfl:=zC h2
  exact TO hx
 rcases zA.1 h1 with h1 | h1
 ·obtain ⟨rfl,rfl⟩:=zB h1
  obtain rfl:=zC h2
  exact VG hx
 rcases zA.1 h1 with h1 | h1
 ·obtain ⟨rfl,rfl⟩:=zB h1
  obtain rfl:=zC h2
  exact Sa hx
 rcases zA.1 h1 with h1 | h1
 ·obtain ⟨rfl,rfl⟩:=zB h1
  cases h2
 rcases zA.1 h1 with h1 | h1
 ·obtain ⟨rfl,rfl⟩:=zB h1
  cases h2
 rcases zA.1 h1 with h1 | h1
 ·obtain ⟨rfl,rfl⟩:=zB h1
  cases h2
 rcases zA.1 h1 with h1 | h1
 ·obtain ⟨rfl,rfl⟩:=zB h1
  cases h2
 rcases zA.1 h1 with h1 | h1
 ·obtain ⟨rfl,rfl⟩:=zB h1
  cases h2
 rcases zA.1 h1 with h1 | h1
 ·obtain ⟨rfl,rfl⟩:=zB h1
  cases h2
 rcases zA.1 h1 with h1 | h1
 ·obtain ⟨rfl,rfl⟩:=zB h1
  cases h2
 rcases zA.1 h1 with h1 | h1
 ·obtain ⟨rfl,rfl⟩:=zB h1
  cases h2
 rcases zA.1 h1 with h1 | h1
 ·obtain ⟨rfl,rfl⟩:=zB h1
  cases h2
 rcases zA.1 h1 with h1 | h1
 ·obtain ⟨rfl,rfl⟩:=zB h1
  cases h2
 rcases zA.1 h1 with h1 | h1
 ·obtain ⟨rfl,rfl⟩:=zB h1
  cases h2
 rcases zA.1 h1 with h1 | h1
 ·obtain ⟨rfl,rfl⟩:=zB h1
  cases h2
 rcases zA.1 h1 with h1 | h1
 ·obtain ⟨rfl,rfl⟩:=zB h1
  cases h2
 rcases zA.1 h1 with h1 | h1
 ·obtain ⟨rfl,rfl⟩:=zB h1
  cases h2
 rcases zA.1 h1 with h1 | h1
 ·obtain ⟨rfl,rfl⟩:=zB h1
  cases h2
 rcases zA.1 h1 with h1 | h1
 ·obtain ⟨rfl,rfl⟩:=zB h1
  obtain rfl:=zC h2
  exact NK hx
 rcases zA.1 h1 with h1 | h1
 ·obtain ⟨rfl,rfl⟩:=zB h1
  obtain rfl:=zC h2
  exact VK hx
 rcases zA.1 h1 with h1 | h1
 ·obtain ⟨rfl,rfl⟩:=zB h1
  obtain rfl:=zC h2
  exact VN hx
 rcases zA.1 h1 with h1 | h1
 ·obtain ⟨rfl,rfl⟩:=zB h1
  cases h2
 rcases zA.1 h1 with h1 | h1
 ·obtain ⟨rfl,rfl⟩:=zB h1
  cases h2
 rcases zA.1 h1 with h1 | h1
 ·obtain ⟨rfl,rfl⟩:=zB h1
  cases h2
 rcases zA.1 h1 with h1 | h1
 ·obtain ⟨rfl,rfl⟩:=zB h1
  cases h2
 rcases zA.1 h1 with h1 | h1
 ·obtain ⟨rfl,rfl⟩:=zB h1
  cases h2
 rcases zA.1 h1 with h1 | h1
 ·obtain ⟨rfl,rfl⟩:=zB h1
  cases h2
 rcases zA.1 h1 with h1 | h1
 ·obtain ⟨rfl,rfl⟩:=zB h1
  cases h2
 rcases zA.1 h1 with h1 | h1
 ·obtain ⟨rfl,rfl⟩:=zB h1
  cases h2
 rcases zA.1 h1 with h1 | h1
 ·obtain ⟨rfl,rfl⟩:=zB h1
  cases h2
 rcases zA.1 h1 with h1 | h1
 ·obtain ⟨rfl,rfl⟩:=zB h1
  cases h2
 rcases zA.1 h1 with h1 | h1
 ·obtain ⟨rfl,rfl⟩:=zB h1
  cases h2
 rcases zA.1 h1 with h1 | h1
 ·obtain ⟨rfl,rfl⟩:=zB h1
  cases h2
 rcases zA.1 h1 with h1 | h1
 ·obtain ⟨rfl,rfl⟩:=zB h1
  cases h2
 rcases zA.1 h1 with h1 | h1
 ·obtain ⟨rfl,rfl⟩:=zB h1
  cases h2
 rcases zA.1 h1 with h1 | h1
 ·obtain ⟨rfl,rfl⟩:=zB h1
  cases h2
 rcases zA.1 h1 with h1 | h1
 ·obtain ⟨rfl,rfl⟩:=zB h1
  cases h2
 rcases zA.1 h1 with h1 | h1
 ·obtain ⟨rfl,rfl⟩:=zB h1
  cases h2
 rcases zA.1 h1 with h1 | h1
 ·obtain ⟨rfl,rfl⟩:=zB h1
  cases h2
 rcases zA.1 h1 with h1 | h1
 ·obtain ⟨rfl,rfl⟩:=zB h1
  cases h2
 cases h1
noncomputable def E:FEnv:=ev Tryz.prog modes
noncomputable def calls:CallF:=C1 modes E
theorem E_told {f:FuncId} {xs:List SV} {ob:List Ob} {r:SV} {ob':List Ob} (h:E f xs ob=some (r,ob')):Fun Tryz.prog f xs ob r ob':=Xt Zb KN f xs ob r ob' h
noncomputable def run (n0:Nat):SC→St→Option (X × St):=fr Tryz.prog calls (If n0)
def go (n0:Nat) (sc:SC) (st:St) (K:X→St→Prop):Prop:=∃ x st',run n0 sc st=some (x,st')∧K x st'
def Sd (n0:Nat) (b:SC) (K:X→St→Prop):X→St→Prop
 | .normal,st=>go n0 b st K
 | .exit i,st=>K (.exit i) st
 | .ret,st=>K .ret st
def blk (id:Nat) (K:X→St→Prop):X→St→Prop
 | .normal,st=>K .normal st
 | .exit i,st=>if i=id then K .normal st else K (.exit i) st
 | .ret,st=>K .ret st
def Pi (r:Option St) (k:X→St→Prop):Prop :=
 match r with
 | some st=>k .normal st
 | none=>False
def Pj (anc:List (List Nat)) (r:Option (List Ent × St)) (k:X→St→Prop):Prop :=
 match r with
 | some (es,st)=>obB anc [] (F8 es) 0=true∧k .normal st
 | none=>False
def G6 (v:SV) (a b:Unit→Prop):Prop :=
 match v with
 | .bool true=>a ()
 | .bool false=>b ()
 | _=>False
noncomputable def KO (ops:List SOper) (st:St):Option St:=NG Tryz.prog calls ops st
noncomputable def KP (ops:List SOper) (acc:List Ent) (st:St):Option (List Ent × St):=GW Tryz.prog calls ops acc st
section
variable {n0:Nat} {st:St} {K:X→St→Prop}
theorem go_skip:go n0 .skip st K=K .normal st:=by
 refine propext ⟨fun ⟨x,st',h,k⟩=>?_,fun k=>⟨_,_,rfl,k⟩⟩
 obtain ⟨rfl,rfl⟩:X.normal=x∧st=st':=by simpa [run,fr] using h
 exact k
theorem Se {i:Nat}:go n0 (.exit i) st K=K (.exit i) st:=by
 refine propext ⟨fun ⟨x,st',h,k⟩=>?_,fun k=>⟨_,_,rfl,k⟩⟩
 obtain ⟨rfl,rfl⟩:X.exit i=x∧st=st':=by simpa [run,fr] using h
 exact k
theorem go_ret:go n0 .ret st K=K .ret st:=by
 refine propext ⟨fun ⟨x,st',h,k⟩=>?_,fun k=>⟨_,_,rfl,k⟩⟩
 obtain ⟨rfl,rfl⟩:X.ret=x∧st=st':=by simpa [run,fr] using h
 exact k
theorem VQ {ops:List SOper}:go n0 (.reg ops) st K=Pi (KO ops st) K:=by
 unfold Pi KO
 refine propext ⟨fun ⟨x,st',h,k⟩=>?_,fun k=>?_⟩
 ·simp only [run,fr] at h
  split at h
  ·rename_i s hs
   simp only [zE,zJ] at h
   obtain ⟨rfl,rfl⟩:=h
   first | exact k | (simp only [hs]; exact k)
  ·cases h
 ·split at k
  ·rename_i s hs
   exact ⟨.normal,s,by simp only [run,fr,hs],k⟩
  ·exact k.elim
theorem Sf {anc:List (List Nat)} {ops:List SOper}:go n0 (.dreg anc ops) st K=Pj anc (KP ops [] st) K:=by
 unfold Pj KP
 refine propext ⟨fun ⟨x,st',h,k⟩=>?_,fun k=>?_⟩
 ·simp only [run,fr] at h
  split at h
  ·rename_i es s hs
   obtain ⟨h1,h2⟩:=Ap h
   simp only [zE,zJ] at h2
   obtain ⟨rfl,rfl⟩:=h2
   first | exact ⟨h1,k⟩ | (simp only [hs]; exact ⟨h1,k⟩)
  ·cases h
 ·split at k
  ·rename_i es s hs
   exact ⟨.normal,s,by simp only [run,fr,hs,k.1,cond_true],k.2⟩
  ·exact k.elim
theorem VR {a b:SC}:go n0 (.seq a b) st K=go n0 a st (Sd n0 b K):=by
 refine propext ⟨fun ⟨x,st',h,k⟩=>?_,fun ⟨x,st',h,k⟩=>?_⟩
 ·simp only [run,fr,BV] at h
  split at h
  ·rename_i s hs
   exact ⟨.normal,s,hs,x,st',h,k⟩
  ·rename_i i s hs
   simp only [zE,zJ] at h
   obtain ⟨rfl,rfl⟩:=h
   exact ⟨_,_,hs,k⟩
  ·rename_i s hs
   simp only [zE,zJ] at h
   obtain ⟨rfl,rfl⟩:=h
   exact ⟨_,_,hs,k⟩
  ·cases h
 ·simp only [run] at h
  cases x with
  | normal =>
   obtain ⟨x2,st2,h2,k2⟩:=k
   exact ⟨x2,st2,by simp only [run,fr,BV,h]; exact h2,k2⟩
  | exit i=>exact ⟨_,st',by simp only [run,fr,BV,h],k⟩
  | ret=>exact ⟨_,st',by simp only [run,fr,BV,h],k⟩
theorem Pk {id:Nat} {b:SC}:go n0 (.block id b) st K=go n0 b st (blk id K):=by
  refine propext ⟨fun ⟨x,st',h,k⟩=>?_,fun ⟨x,st',h,k⟩=>?_⟩
  · simp only [run,fr,Eg] at h
    split at h
    · rename_i s hs
      simp only [zE,zJ] at h
      obtain ⟨rfl,rfl⟩:=h
      exact ⟨.normal,s,hs,k⟩
    · rename_i i s hs
      refine ⟨.exit i,s,hs,?_⟩
      simp only [blk]
      by_cases hi:i=id
      · simp only [if_pos hi,zE,zJ] at h ⊢
        obtain ⟨rfl,rfl⟩:=h
        exact k
      · simp only [if_neg hi,zE,zJ] at h ⊢
        obtain ⟨rfl,rfl⟩:=h
        exact k
    · rename_i s hs
      simp only [zE,zJ] at h
      obtain ⟨rfl,rfl⟩:=h
      exact ⟨_,s,hs,k⟩
    · cases h
  · simp only [run] at h
    cases x with
    | normal=>exact ⟨_,st',by simp only [run,fr,Eg,h],k⟩
    | exit i =>
      simp only [blk] at k
      by_cases hi:i=id
      · simp only [if_pos hi] at k
        exact ⟨.normal,st',by simp only [run,fr,Eg,h,if_pos hi],k⟩
      · simp only [if_neg hi] at k
        exact ⟨.exit i,st',by simp only [run,fr,Eg,h,if_neg hi],k⟩
    | ret=>exact ⟨_,st',by simp only [run,fr,Eg,h],k⟩
theorem Ab {q:SX} {a b:SC}:go n0 (.cond q a b) st K=G6 (Av (gets st.sl) q) (fun _=>go n0 a st K) (fun _=>go n0 b st K):=by
 unfold G6
 refine propext ⟨fun ⟨x,st',h,k⟩=>?_,fun k=>?_⟩
 ·simp only [run,fr] at h
  split at h
  ·rename_i t ht
   simp only [ht]
   cases t with
   | true=>exact ⟨x,st',h,k⟩
   | false=>exact ⟨x,st',h,k⟩
  ·cases h
 ·split at k
  ·rename_i ht
   obtain ⟨x,st',h,k⟩:=k
   exact ⟨x,st',by simp only [run,fr,ht,cond_true]; exact h,k⟩
  ·rename_i ht
   obtain ⟨x,st',h,k⟩:=k
   exact ⟨x,st',by simp only [run,fr,ht,cond_false]; exact h,k⟩
  ·exact k.elim
theorem Sg {a b:Unit→Prop}:G6 (.bool true) a b=a ():=rfl
theorem Sh {a b:Unit→Prop}:G6 (.bool false) a b=b ():=rfl
theorem Si {t:Bool} {a b:Unit→Prop}:G6 (.bool (!t)) a b=G6 (.bool t) b a:=by cases t <;> rfl
theorem A5 {q:SX} {a b:SC} (h:Av (gets st.sl) q=.bool true) (k:go n0 a st K):go n0 (.cond q a b) st K:=by rw [Ab,h]; exact k
theorem A6 {q:SX} {a b:SC} (h:Av (gets st.sl) q=.bool false) (k:go n0 b st K):go n0 (.cond q a b) st K:=by rw [Ab,h]; exact k
theorem Cq {t:Bool} {a b:Unit→Prop} (h1:t=true→a ()) (h2:t=false→b ()):G6 (.bool t) a b:=by
 cases t with
 | true=>exact h1 rfl
 | false=>exact h2 rfl
theorem VS {b:SC}:Sd n0 b K .normal st=go n0 b st K:=rfl
theorem VT {b:SC} {i:Nat}:Sd n0 b K (.exit i) st=K (.exit i) st:=rfl
theorem VU {b:SC}:Sd n0 b K .ret st=K .ret st:=rfl
theorem Z3 {id:Nat}:blk id K .normal st=K .normal st:=rfl
theorem Z4 {id i:Nat}:blk id K (.exit i) st=if i=id then K .normal st else K (.exit i) st:=rfl
theorem Z5 {id:Nat}:blk id K .ret st=K .ret st:=rfl
theorem Sj:Pi (some st) K=K .normal st:=rfl
def quiet:List Ent→Bool
 | []=>true
 | ⟨_,_,[],_⟩ :: r=>quiet r
 | ⟨_,_,_ :: _,_⟩ :: _=>false
theorem FV {anc:List (List Nat)} {rd:List Nat} {j:Nat}:∀ {l:List Ent} {i:Nat},quiet l=true→PV anc rd [] j (F8 l) i=true
 | [],i,_=>rfl
 | ⟨_,_,[],rdi⟩ :: r,i,h=>by
  have:=FV (anc:=anc) (rd:=rd) (j:=j) (l:=r) (i:=i+1) h
  simp only [F8,zD,List.map_nil] at this ⊢
  simp only [PV,this,zR]
  have e1:meets [] (rd++[])=false:=rfl
  have e2:meets rdi []=false:=by cases rdi <;> simp [meets]
  rw [e1,e2]; rfl
theorem M6 {l l':List Ent} (h:quiet l=true) (h':quiet l'=true):quiet (l++l')=true:=by
 induction l with
 | nil=>exact h'
 | cons x r ih =>
  obtain ⟨a,b,c,d⟩:=x
  cases c with
  | nil=>exact ih h
  | cons _ _=>cases h
theorem H5 {anc:List (List Nat)}:∀ {l pre:List Ent} {j:Nat},quiet pre=true→quiet l=true→obB anc (F8 pre) (F8 l) j=true
 | [],pre,j,_,_=>rfl
 | ⟨a,b,[],rd⟩ :: r,pre,j,hp,h=>by
  have e:=H5 (anc:=anc) (l:=r) (pre:=pre++[⟨a,b,[],rd⟩]) (j:=j+1) (M6 hp rfl) h
  have e2:=FV (anc:=anc) (rd:=rd) (j:=j) (i:=0) hp
  simp only [F8,yZ,zD,List.map_nil] at e e2 ⊢
  simp only [obB,e2,e,zG]
theorem Sk {anc:List (List Nat)} {es:List Ent}:Pj anc (some (es,st)) K=match quiet es with
  | true=>K .normal st
  | false=>obB anc [] (F8 es) 0=true∧K .normal st:=by
 show (obB anc [] (F8 es) 0=true∧K .normal st)=_
 cases h:quiet es with
 | true=>exact propext ⟨fun h=>h.2,fun h'=>⟨H5 (pre:=[]) rfl h,h'⟩⟩
 | false=>rfl
noncomputable def VV (r:List SOper) (e:Option (Ent × St)):Option St :=
 match e with
 | some (_,st)=>KO r st
 | none=>none
noncomputable def VW (r:List SOper) (acc:List Ent) (e:Option (Ent × St)):Option (List Ent × St) :=
 match e with
 | some (x,st)=>KP r (acc++[x]) st
 | none=>none
noncomputable def opF (so:SOp) (sl:List SV) (ob:List Ob):Option R3:=fOp Tryz.prog calls so sl ob
theorem Pl:KO [] st=some st:=rfl
theorem M7 {d:Option Tmp} {so:SOp} {r:List SOper} {sl:List SV} {ob:List Ob}:KO (⟨d,none,so⟩ :: r) ⟨sl,ob⟩=VV r (FO d ⟨sl,ob⟩ (opF so sl ob)):=rfl
noncomputable def gdF (d:Option Tmp) (so:SOp) (want:Bool) (sl:List SV) (ob:List Ob) (v:SV):Option (Ent × St) :=
 match v with
 | .bool b=>bif T5 b want then FO d ⟨sl,ob⟩ (opF so sl ob) else some (⟨false,.tup [],[],[]⟩,⟨DV sl d (.tup []),ob⟩)
 | .tup []=>some (⟨false,.tup [],[],[]⟩,⟨DV sl d (.tup []),ob⟩)
 | _=>none
theorem Sl {d:Option Tmp} {k:Nat} {want:Bool} {so:SOp} {r:List SOper} {sl:List SV} {ob:List Ob}:KO (⟨d,some (k,want),so⟩ :: r) ⟨sl,ob⟩=VV r (gdF d so want sl ob (gets sl k)):=rfl
theorem Pm {acc:List Ent}:KP [] acc st=some (acc,st):=rfl
theorem M8 {d:Option Tmp} {so:SOp} {r:List SOper} {acc:List Ent} {sl:List SV} {ob:List Ob}:KP (⟨d,none,so⟩ :: r) acc ⟨sl,ob⟩=VW r acc (FO d ⟨sl,ob⟩ (opF so sl ob)):=rfl
theorem Sm {d:Option Tmp} {k:Nat} {want:Bool} {so:SOp} {r:List SOper} {acc:List Ent} {sl:List SV} {ob:List Ob}:KP (⟨d,some (k,want),so⟩ :: r) acc ⟨sl,ob⟩=VW r acc (gdF d so want sl ob (gets sl k)):=rfl
theorem VX {r:List SOper} {e:Ent}:VV r (some (e,st))=KO r st:=rfl
theorem VY {r:List SOper} {acc:List Ent} {e:Ent}:VW r acc (some (e,st))=KP r (acc++[e]) st:=rfl
theorem Z6 {d:Option Tmp} {so:SOp} {sl:List SV} {ob:List Ob}:gdF d so true sl ob (.bool true)=FO d ⟨sl,ob⟩ (opF so sl ob):=rfl
theorem VZ {d:Option Tmp} {so:SOp} {sl:List SV} {ob:List Ob}:gdF d so false sl ob (.bool false)=FO d ⟨sl,ob⟩ (opF so sl ob):=rfl
theorem Wa {d:Option Tmp} {so:SOp} {sl:List SV} {ob:List Ob}:gdF d so true sl ob (.bool false)=some (⟨false,.tup [],[],[]⟩,⟨DV sl d (.tup []),ob⟩):=rfl
theorem Wb {d:Option Tmp} {so:SOp} {sl:List SV} {ob:List Ob}:gdF d so false sl ob (.bool true)=some (⟨false,.tup [],[],[]⟩,⟨DV sl d (.tup []),ob⟩):=rfl
theorem Z7 {d:Option Tmp} {so:SOp} {want:Bool} {sl:List SV} {ob:List Ob}:gdF d so want sl ob (.tup [])=some (⟨false,.tup [],[],[]⟩,⟨DV sl d (.tup []),ob⟩):=rfl
theorem Wc {d:Option Tmp} {x:SV} {rd:List Nat}:FO d st (some (x,[],rd))=some (⟨true,x,[],rd⟩,⟨DV st.sl d x,st.ob⟩):=rfl
theorem We {d:Option Tmp} {x:SV} {q:Nat × Ob} {u:List (Nat × Ob)} {rd:List Nat}:FO d st (some (x,q :: u,rd))=bif T3 (CD st.ob (q :: u)).length (q :: u) then some (⟨true,x,q :: u,rd⟩,⟨DV st.sl d x,CD st.ob (q :: u)⟩) else none:=rfl
def Je (ob:List Ob) (xs:List SV) (sel:List Nat) (r:Option (SV × List Ob)) (n:Nat):Option R3 :=
 match r with
 | some (r,fob')=>bif decide (n≤fob'.length) then some (Dw sel (AQ sel xs) ob.length r fob') else none
 | none=>none
def Wg (hd:List Bool) (f:FuncId) (xs:List SV) (ob:List Ob) (sel:List Nat) (e:List SV→List Ob→Option (SV × List Ob)) (b:Option (List Ob)):Option R3 :=
 match b with
 | some fob=>bif nodupB sel&&GX ob.length sel&&EX fob.length fob then Je ob xs sel (e (E4 hd (Aq ob) sel xs) fob) fob.length else none
 | none=>none
def Pn (hd:List Bool) (f:FuncId) (xs:List SV) (ob:List Ob) (sel:List Nat) (e:List SV→List Ob→Option (SV × List Ob)):Option R3:=Wg hd f xs ob sel e (DQ sel ob sel)
theorem Po {f:FuncId} {xs:List SV} {ob:List Ob}:calls f xs ob=D5 (modes f).res (Pn (modes f).hand f xs ob (reach ob 64 (Fj (modes f).hand xs) []) (E f)):=rfl
theorem Wh {r:Option R3}:D5 .asis r=r:=rfl
theorem Wi {r:Option R3}:D5 .frz r=r:=rfl
theorem Wj {l:List (Option (Nat × Nat))} {r:Option R3}:D5 (.own l) r=r:=rfl
theorem Wk {l:List (Option (Nat × Nat))} {r:Option R3}:D5 (.tr l) r=r:=rfl
theorem Wl {l:List Nat} {r:Option R3}:D5 (.frl l) r=r:=rfl
theorem Wm {r:R3}:D5 .late (some r)=OD r:=rfl
theorem DZ:∀ u:List (Nat × Ob),Cv [] u=u
 | []=>rfl
 | (g,o) :: u=>by rw [Cv,DZ u]; rfl
theorem Wn {m:RM} {b:Bool} {u:List (Nat × Ob)} {rd:List Nat}:D5 m (some (.bool b,u,rd))=some (.bool b,u,rd):=by
 cases m <;> first | rfl | (show some (SV.bool b,Cv [] u,rd)=_; rw [DZ])
theorem Wo {m:RM} {k:IntKind} {n:Int} {u:List (Nat × Ob)} {rd:List Nat}:D5 m (some (.int k n,u,rd))=some (.int k n,u,rd):=by
 cases m <;> first | rfl | (show some (SV.int k n,Cv [] u,rd)=_; rw [DZ])
theorem M9 {hd:List Bool} {f:FuncId} {xs:List SV} {ob:List Ob} {e:List SV→List Ob→Option (SV × List Ob)}:Pn hd f xs ob [] e=Je ob xs [] (e (E4 hd (Aq ob) [] xs) []) 0:=rfl
theorem KQ {hd:List Bool} {f:FuncId} {xs:List SV} {ob:List Ob} {g:Nat} {r:List Nat} {e:List SV→List Ob→Option (SV × List Ob)}:Pn hd f xs ob (g :: r) e=Wg hd f xs ob (g :: r) e (DQ (g :: r) ob (g :: r)):=rfl
theorem Sn {ob:List Ob} {xs:List SV} {r:SV} {fob':List Ob}:Je ob xs [] (some (r,fob')) 0=some (Dw [] (AQ [] xs) ob.length r fob'):=rfl
theorem So {ob:List Ob} {xs:List SV} {sel:List Nat} {r:SV} {fob':List Ob} {n:Nat}:Je ob xs sel (some (r,fob')) n=bif decide (n≤fob'.length) then some (Dw sel (AQ sel xs) ob.length r fob') else none:=rfl
theorem Wp {hd:List Bool} {f:FuncId} {xs:List SV} {ob:List Ob} {sel:List Nat} {fob:List Ob} {e:List SV→List Ob→Option (SV × List Ob)}:Wg hd f xs ob sel e (some fob)=bif nodupB sel&&GX ob.length sel&&EX fob.length fob then Je ob xs sel (e (E4 hd (Aq ob) sel xs) fob) fob.length else none:=rfl
theorem MA {p:Nat} {r:SV}:Dw [] [] p r []=(r.ren (sgp [] p),[],[]):=rfl
def Ij {α:Type} (n0:Nat) (keep:List Nat) (H:α→St) (R:α→Prop) (μ:α→Nat) (a:α) (K:X→St→Prop):X→St→Prop
 | .normal,st'=>∃ y,R y∧μ y < μ a∧canon n0 keep st'=H y
 | .exit i,st'=>K (.exit i) st'
 | .ret,st'=>K .ret st'
theorem Pp {α:Type} {keep:List Nat} {H:α→St} {R:α→Prop} {μ:α→Nat} {a:α} {st':St}:Ij n0 keep H R μ a K .normal st'=∃ y,R y∧μ y < μ a∧canon n0 keep st'=H y:=rfl
theorem Pq {α:Type} {keep:List Nat} {H:α→St} {R:α→Prop} {μ:α→Nat} {a:α} {i:Nat} {st':St}:Ij n0 keep H R μ a K (.exit i) st'=K (.exit i) st':=rfl
theorem Pr {α:Type} {keep:List Nat} {H:α→St} {R:α→Prop} {μ:α→Nat} {a:α} {st':St}:Ij n0 keep H R μ a K .ret st'=K .ret st':=rfl
theorem go_loop {α:Type} {keep:List Nat} {b:SC} (H:α→St) (R:α→Prop) (μ:α→Nat) (a0:α) (hR:R a0) (h0:canon n0 keep st=H a0) (round:∀ a,R a→go n0 b (H a) (Ij n0 keep H R μ a K)):go n0 (.loop keep b) st K:=by
  have key:∀ (n:Nat) (a:α) (st:St),μ a≤n→R a→canon n0 keep st=H a→∃ x st',OP n0 keep (run n0 b) st=some (x,st')∧K x st':=by
    intro n
    induction n with
    | zero =>
      intro a st hn hR hc
      obtain ⟨x,st',h,k⟩:=round a hR
      cases x with
      | normal =>
        obtain ⟨y,_,h2,_⟩:=k
        omega
      | exit i=>exact ⟨_,st',by rw [DE,hc,h]; rfl,k⟩
      | ret=>exact ⟨_,st',by rw [DE,hc,h]; rfl,k⟩
    | succ n ih =>
      intro a st hn hR hc
      obtain ⟨x,st',h,k⟩:=round a hR
      cases x with
      | normal =>
        obtain ⟨y,h1,h2,h3⟩:=k
        obtain ⟨x2,st2,h4,k2⟩:=ih y st' (by omega) h1 h3
        exact ⟨x2,st2,by rw [DE,hc,h]; exact h4,k2⟩
      | exit i=>exact ⟨_,st',by rw [DE,hc,h]; rfl,k⟩
      | ret=>exact ⟨_,st',by rw [DE,hc,h]; rfl,k⟩
  exact key (μ a0) a0 st (zP _) hR h0
def G7 (n0:Nat) (keep keepO:List Nat) (H:EL→St) (F:X × St) (p:EL):X→St→Prop
 | .normal,st'=>canon n0 keep st'=H p
 | .exit i,st'=>F=(.exit i,canon n0 keepO st')
 | .ret,st'=>F=(.ret,canon n0 keepO st')
def Re (n0:Nat) (keepO:List Nat) (F:X × St):X→St→Prop
 | .normal,_=>False
 | .exit i,st'=>F=(.exit i,canon n0 keepO st')
 | .ret,st'=>F=(.ret,canon n0 keepO st')
theorem MB {keep keepO:List Nat} {H:EL→St} {F:X × St} {p:EL} {st':St}:G7 n0 keep keepO H F p .normal st'=(canon n0 keep st'=H p):=rfl
theorem MC {keep keepO:List Nat} {H:EL→St} {F:X × St} {p:EL} {i:Nat} {st':St}:G7 n0 keep keepO H F p (.exit i) st'=(F=(.exit i,canon n0 keepO st')):=rfl
theorem MD {keep keepO:List Nat} {H:EL→St} {F:X × St} {p:EL} {st':St}:G7 n0 keep keepO H F p .ret st'=(F=(.ret,canon n0 keepO st')):=rfl
theorem Sp {keepO:List Nat} {F:X × St} {i:Nat} {st':St}:Re n0 keepO F (.exit i) st'=(F=(.exit i,canon n0 keepO st')):=rfl
theorem Sq {keepO:List Nat} {F:X × St} {st':St}:Re n0 keepO F .ret st'=(F=(.ret,canon n0 keepO st')):=rfl
theorem TX {keep keepO:List Nat} {it:SX} {nx more:Nat} {b:SC} (f:MF) (hfin:∃ l,Enum f l) (F:X × St) (hF:K F.1 F.2) (H:EL→St) (g:Nat) (ks:Bool)
    (h0:canon n0 keep st=H []) (hit:∀ p:EL,PY it (H p)=some (g,ks,f,(p.map (·.1)).reverse))
    (round:∀ (p:EL) (k:MK) (x:MV),(p.map (·.1)).Nodup→(∀ e,e∈p→f e.1=some e.2)→f k=some x→k ∉ p.map (·.1)→go n0 b (E7 nx more (H p) true [(g,.it ks f (k :: (p.map (·.1)).reverse) (some (k,x)))]) (G7 n0 keep keepO H F (p++[(k,x)])))
    (fin:∀ p:EL,Enum f p→go n0 b (E7 nx more (H p) false []) (Re n0 keepO F)):go n0 (.mloop keep keepO it nx more b) st K:=by
  have key:∀ (l p:EL) (s:St),Enum f (p++l)→canon n0 keep s=H p→OL n0 keepO (Fl n0 ⟨keepO,it,nx,more⟩ keep (run n0 b) f l (p.map (·.1)).reverse s)=some F:=by
    intro l
    induction l with
    | nil =>
      intro p s hE hs
      rw [List.append_nil] at hE
      unfold Fl
      rw [hs,hit p]
      simp only
      try rw [An (p:=f=f) rfl,An (p:=(p.map (·.1)).reverse=(p.map (·.1)).reverse) rfl]
      simp only [An True.intro,zG,cond_true]
      obtain ⟨x,st',h1,h2⟩:=fin p hE
      rw [h1]
      cases x with
      | normal=>exact h2.elim
      | exit i=>have h2:F=_:=h2; rw [h2]; rfl
      | ret=>have h2:F=_:=h2; rw [h2]; rfl
    | cons e l ih =>
      intro p s hE hs
      obtain ⟨k,x⟩:=e
      have hnd:=hE.nd
      rw [yZ,List.nodup_append] at hnd
      have hpm:∀ e,e∈p→f e.1=some e.2:=fun e he=>(hE.mem e.1 e.2).1 (by simp [he])
      have hk:f k=some x:=(hE.mem k x).1 (by simp)
      have hn:k ∉ p.map (·.1):=fun hm=>hnd.2.2 k hm k (by simp) rfl
      obtain ⟨x1,st1,h1,h2⟩:=round p k x hnd.1 hpm hk hn
      unfold Fl
      rw [hs,hit p]
      simp only
      try rw [An (p:=f=f) rfl,An (p:=(p.map (·.1)).reverse=(p.map (·.1)).reverse) rfl]
      simp only [An True.intro,zG,cond_true]
      rw [h1]
      cases x1 with
      | normal =>
        have h2:canon n0 keep st1=H (p++[(k,x)]):=h2
        have:=ih (p++[(k,x)]) st1 (by rw [List.append_assoc]; exact hE) h2
        have hrev:((p++[(k,x)]).map (·.1)).reverse=k :: (p.map (·.1)).reverse:=by simp
        rw [hrev] at this
        exact this
      | exit i=>have h2:F=_:=h2; rw [h2]; rfl
      | ret=>have h2:F=_:=h2; rw [h2]; rfl
  refine ⟨F.1,F.2,?_,hF⟩
  have:Hz n0 ⟨keepO,it,nx,more⟩ keep (run n0 b) st=some F:=by
    unfold Hz
    rw [h0,hit []]
    exact EA.2 ⟨hfin,fun l hl=>key l [] st (by simpa using hl) h0⟩
  exact this
end
def slots:Nat→Nat→List (Nat × SV)→List SV
 | 0,_,_=>[]
 | n+1,k,[]=>.any :: slots n (k+1) []
 | n+1,k,(j,x) :: r=>bif j == k then x :: slots n (k+1) r else .any :: slots n (k+1) ((j,x) :: r)
def TY (res:RM) (n0:Nat) (rs:List RX) (out:SV × List Ob) (x:X) (st:St):Prop:=fin res n0 rs x st=some out
def Wq (res:RM) (n0:Nat) (r:Option (SV × List Ob)):Option (SV × List Ob) :=
 match r with
 | some (r,ob)=>order res n0 r ob
 | none=>none
def L7 (res:RM) (n0:Nat) (ob:List Ob) (r:Option SV):Option (SV × List Ob) :=
 match r with
 | some r0=>Wq res n0 (gc n0 r0 ob)
 | none=>none
theorem Wr {res:RM} {n0:Nat} {rs:List RX} {out:SV × List Ob} {sl:List SV} {ob:List Ob}:TY res n0 rs out .ret ⟨sl,ob⟩=(L7 res n0 ob (Mq ⟨sl,ob⟩ rs)=some out):=rfl
theorem Ws {res:RM} {n0:Nat} {rs:List RX} {out:SV × List Ob} {sl:List SV} {ob:List Ob}:TY res n0 rs out .normal ⟨sl,ob⟩=(L7 res n0 ob (Mq ⟨sl,ob⟩ rs)=some out):=rfl
theorem Sr {res:RM} {n0:Nat} {ob:List Ob} {r:SV}:L7 res n0 ob (some r)=Wq res n0 (gc n0 r ob):=rfl
theorem Wt {n0:Nat} {r:SV} {ob:List Ob} {res:RM}:Wq res n0 (some (r,ob))=order res n0 r ob:=rfl
theorem Ai {f:FuncId} {fc:FC} {hand:List Bool} {res:RM} {tr:Bool} {xs:List SV} {ob:List Ob} {out:SV × List Ob} (hc:codeOf Tryz.prog f=some fc) (hr:modes f=⟨hand,res,none,tr⟩) (hn:xs.length≤fc.nt) (h:go ob.length (G5 res fc.sc) ⟨xs++JW (fc.nt-xs.length),entry tr ob⟩ (TY res ob.length fc.rs out)):E f xs ob=some out:=by
 obtain ⟨x,st',h1,h2⟩:=h
 unfold E
 rw [Zm]
 unfold FQ
 rw [hc,hr]
 simp only
 rw [decide_eq_true hn,cond_true]
 have h1:fr Tryz.prog (C1 modes (ev Tryz.prog modes)) (If ob.length) (G5 res fc.sc) ⟨xs++JW (fc.nt-xs.length),entry tr ob⟩=some (x,st'):=h1
 rw [h1]
 exact h2
theorem KR {f:FuncId} {g:List SV→List Ob→Option (SV × List Ob)} {xs:List SV} {ob:List Ob} (hg:(modes f).ext=some g):E f xs ob=g xs ob:=by
 unfold E
 rw [Zm]
 unfold FQ
 rw [hg]
theorem Rf {f:FuncId} {g:List SV→Option SV} {xs:List SV} {r:SV} (hg:(modes f).ext=some (JX g)) (h:g xs=some r):E f xs []=some (r,[]):=by
 rw [KR hg]
 simp only [JX,h]
theorem CS:modes 63=⟨[],.asis,some (JX Rd),false⟩:=by unfold modes; rfl
theorem Ea {k:Int} (h1:1≤k) (h2:k≤1099511627776):E 63 [.int .i64 k] []=some (.str (DG k),[]):=by
 refine Rf (g:=Rd) (by unfold modes; rfl) ?_
 simp only [Rd,An h1,An h2,zG,cond_true]
theorem Ae:modes 177=⟨[],.asis,some (JX Zz),false⟩:=by unfold modes; rfl
theorem CK (s:ByteArray):E 177 [.str s] []=some (.bool (AO s),[]):=Rf (g:=Zz) (congrArg FM.ext Ae) rfl
theorem Ak:modes 191=⟨[],.asis,some (JX Z0),false⟩:=by unfold modes; rfl
theorem Dx (s:ByteArray):E 191 [.str s] []=some (.bool (AO s),[]):=Rf (g:=Z0) (congrArg FM.ext Ak) rfl
theorem AG:modes 184=⟨[],.asis,some (JX Z1),false⟩:=by unfold modes; rfl
theorem FW (s:ByteArray):E 184 [.str s] []=some (.bool (Dd s),[]):=Rf (g:=Z1) (congrArg FM.ext AG) rfl
theorem Bh:modes 265=⟨[],.asis,some (JX Z2),false⟩:=by unfold modes; rfl
theorem Ps (s:ByteArray):E 265 [.str s] []=some (.bool (Dd s),[]):=Rf (g:=Z2) (congrArg FM.ext Bh) rfl
theorem X4 {n:Int} (h1:-9223372036854775808≤n) (h2:n≤9223372036854775807):dec (inK .i64 n)=true:=An (QaF.2 ⟨h1,h2⟩)
theorem get_at {α β:Type} (f:α→β) {xs:List α} {k:Nat} (h:k<xs.length):(xs.map f)[k]?=some (f xs[k]):=by rw [y9,zN h]; rfl
theorem AW (left:Int) (n:Nat):((n:Int)≤left∧szR left n=left-n)∨(left<n∧szR left n=-1):=by
 unfold szR; split <;> omega
mutual
def D.fit:D→Prop
 | .int _=>True
 | .bool _=>True
 | .str s=>s.size≤9223372036854775807
 | .arr es=>es.length≤9223372036854775807∧D.TZ es
def D.fits:List D→Prop
 | []=>True
 | x :: r=>D.fit x∧D.fits r
def D.TZ:List (List D)→Prop
 | []=>True
 | x :: r=>D.fits x∧D.TZ r
end
theorem D.X5:∀ {l:List D},(∀ (j:Nat) (h:j<l.length),D.fit l[j])→D.fits l
 | [],_=>trivial
 | x :: r,h=>⟨h 0 (by simp),D.X5 fun j hj=>h (j+1) (by simpa using hj)⟩
theorem D.Ua:∀ {es:List (List D)},(∀ (i:Nat) (h:i<es.length),D.fits es[i])→D.TZ es
 | [],_=>trivial
 | x :: r,h=>⟨h 0 (by simp),D.Ua fun j hj=>h (j+1) (by simpa using hj)⟩
theorem D.JM {α:Type} {f:α→List D}:∀ {xs:List α},D.TZ (xs.map f)→∀ x∈xs,D.fits (f x)
 | [],_,x,h=>by cases h
 | y :: r,h,x,hx=>by
  simp only [zD,D.TZ] at h
  rcases zA.1 hx with rfl | hx
  ·exact h.1
  ·exact D.JM h.2 x hx
theorem DRep.fit {own:Bool} {w:World} {S:Nat→Prop} {d:D} {v:Value} (h:DRep own w S d v):D.fit d:=by
 induction h with
 | int=>trivial
 | bool=>trivial
 | str S s h=>exact h
 | arr S sz es a cap f Sub h1 h2 h3 h4 h5 h6 h7 ih=>exact ⟨Nat.le_trans h1 h2,D.Ua fun i hi=>D.X5 fun j hj=>ih i j hi hj⟩
theorem Z8:dec True=true:=An trivial
theorem Z9:dec False=false:=Aj fun h=>h
attribute [go_sem] E4 QE SV.isNil Ob.idsB SV.idsB SV.Ls List.getElem?_cons_zero List.getElem?_cons_succ OT.AA OT.BU OT.full entry toTree TC QL TA Fw FI Ef Xf Oq Vn OT.erss OT.ers OT.er OT.B0 OT.CP OT.noSh quiet obB PV F8 meets HZ go_skip Se go_ret VQ Sf VR Pk Sg Sh Si VS VT VU Z3 Z4 Z5 Sj Sk Pl M7 Sl Pm M8 Sm VX VY Z6 VZ Wa Wb Z7 Wc We Po Wh Wi Wj Wk Wl Wm Wn Wo OD QI Cv seen M9 KQ Sn So Wp MA Dw Pp Pq Pr Wr Ws Sr Wt order opF fOp E8 Tz Zc Tx Ty Xe Ic eqK Av gets Aq O2 DV CD KB NF AD T3 SV.cellsN SV.one IL splice D4 RF IK Kg Dl Bp BI Bk IN IO Td eOp.mkEs eOp.addS D.sv OT.sv D.ot GV nodupB reach SV.refs SV.OB SV.ptrs SV.OC Ob.refs Ob.liveB Fj DQ SV.back SV.Lv Ob.back GU Hu Ck AQ Ba GX EX SV.ren SV.KD Ob.ren mkU sgp gc Lw names KI Xj Xk Xl Mt XZ Xn Xo Xp Xq Xr Xs SC.mark OI Fk slots Mq Tt rxV JW QH SV.noSh SV.Lr Ob.noSh SV.own SV.PX Fv cond_true cond_false zY yX zD List.map_nil y6 yB xE y5 xC List.take_nil List.append_nil List.nil_append List.cons_append List.all_cons List.all_nil List.getD_cons_zero List.getD_cons_succ xF List.any_nil List.contains_cons List.contains_nil List.isEmpty_nil List.isEmpty_cons List.flatten_cons List.flatten_nil List.replicate_succ List.replicate_zero List.set_cons_zero List.set_cons_succ z6 zU zP zT zR Bool.true_and zG Bool.or_false Bool.false_or Bool.true_or Bool.or_true Bool.not_true Bool.not_false Bool.false_and Bool.and_false decide_true decide_false beq_self_eq_true if_true if_false yN Option.map_none zE z8 Option.getD_none y8 true_and and_true and_self eq_self_iff_true zF Bool.false_eq_true Bool.true_eq_false zJ SV.int.injEq SV.bool.injEq SV.str.injEq SV.agg.injEq SV.tup.injEq SV.arr.injEq yL St.mk.injEq Int.zero_add Z8 Z9 X4 An Aj Qb7 svK svD XN svM MV.sv Tc T1 OA T2 E7 St.app PY MK.sv MB MC MD Sp Sq
attribute [go_sem_proc] Nat.reduceAdd Nat.reduceSub Nat.reduceLT Nat.reduceLeDiff Nat.reduceEqDiff Nat.reduceBEq Nat.reduceBneDiff Nat.reduceMul Int.reduceToNat Int.reduceNeg Int.reduceAdd reduceCtorEq
attribute [go_sem_proc ↓] reduceIte
theorem L8:∀ xs:List ByteArray,OT.AA (xs.map fun s=>[OT.str s])=true
 | []=>rfl
 | x :: xs=>by simp only [zD,OT.AA,OT.BU,OT.full,L8 xs,zG]
theorem X6:∀ xs:List Int,OT.AA (xs.map fun n=>[OT.int n])=true
 | []=>rfl
 | x :: xs=>by simp only [zD,OT.AA,OT.BU,OT.full,X6 xs,zG]
theorem Tm.fu_of:∀ xs:List Tm,(∀ x∈xs,OT.BU (Tm.o x)=true)→OT.AA (xs.map Tm.o)=true
 | [],_=>rfl
 | x :: xs,h=>by
  simp only [zD,OT.AA]
  rw [h x (by simp),Tm.fu_of xs fun y hy=>h y (by simp [hy])]; rfl
theorem Tm.fu (x:Tm):OT.BU (Tm.o x)=true:=by
 have h:=Tm.fu_of x.args fun y hy=>Tm.fu y
 rw [Tm.o_eq]
 simp only [OT.BU,OT.full,h,zG,zR]
termination_by SizeOf.sizeOf x
decreasing_by exact Tm.lt_of_mem hy
theorem Tm.fus (xs:List Tm):OT.AA (xs.map Tm.o)=true:=Tm.fu_of xs fun x _=>Tm.fu x
theorem Fm.fu_of:∀ xs:List Fm,(∀ x∈xs,OT.BU (Fm.o x)=true)→OT.AA (xs.map Fm.o)=true
 | [],_=>rfl
 | x :: xs,h=>by
  simp only [zD,OT.AA]
  rw [h x (by simp),Fm.fu_of xs fun y hy=>h y (by simp [hy])]; rfl
theorem Fm.fu (x:Fm):OT.BU (Fm.o x)=true:=by
 have h:=Fm.fu_of x.parts fun y hy=>Fm.fu y
 rw [Fm.o_eq]
 simp only [OT.BU,OT.full,h,Tm.fus,zG,zR]
termination_by SizeOf.sizeOf x
decreasing_by exact Fm.lt_of_mem hy
theorem Fm.fus (xs:List Fm):OT.AA (xs.map Fm.o)=true:=Fm.fu_of xs fun x _=>Fm.fu x
theorem Lt.fu (x:Lt):OT.BU (Lt.o x)=true:=by
 simp only [Lt.o,OT.BU,OT.full,Tm.fus,zG,zR]
theorem Lt.fus:∀ xs:List Lt,OT.AA (xs.map Lt.o)=true
 | []=>rfl
 | x :: xs=>by simp only [zD,OT.AA,Lt.fu,Lt.fus xs,zG]
theorem Cl.fu (x:Cl):OT.BU (Cl.o x)=true:=by
 simp only [Cl.o,OT.BU,OT.full,Lt.fus,zG,zR]
theorem Cl.fus:∀ xs:List Cl,OT.AA (xs.map Cl.o)=true
 | []=>rfl
 | x :: xs=>by simp only [zD,OT.AA,Cl.fu,Cl.fus xs,zG]
theorem Bd.fu (x:Bd):OT.BU (Bd.o x)=true:=by
 simp only [Bd.o,OT.BU,OT.full,Tm.fus,zG,zR]
theorem Bd.fus:∀ xs:List Bd,OT.AA (xs.map Bd.o)=true
 | []=>rfl
 | x :: xs=>by simp only [zD,OT.AA,Bd.fu,Bd.fus xs,zG]
theorem Sb.fu (x:Sb):OT.BU (Sb.o x)=true:=by
 simp only [Sb.o,OT.BU,OT.full,Bd.fus,zG,zR]
theorem Sb.fus:∀ xs:List Sb,OT.AA (xs.map Sb.o)=true
 | []=>rfl
 | x :: xs=>by simp only [zD,OT.AA,Sb.fu,Sb.fus xs,zG]
theorem Df.fu (x:Df):OT.BU (Df.o x)=true:=by
 simp only [Df.o,OT.BU,OT.full,Fm.fus,Tm.fus,L8,zG,zR]
theorem Df.fus:∀ xs:List Df,OT.AA (xs.map Df.o)=true
 | []=>rfl
 | x :: xs=>by simp only [zD,OT.AA,Df.fu,Df.fus xs,zG]
attribute [go_sem] L8 X6 Cp QaI Xv QaJ Tm.fus Tm.erss Tm.noss Fm.fus Fm.erss Fm.noss Lt.fus Lt.erss Lt.noss Cl.fus Cl.erss Cl.noss Bd.fus Bd.erss Bd.noss Sb.fus Sb.erss Sb.noss Df.fus Df.erss Df.noss
theorem Jf {α β:Type} (f:α→β) (dn rest:List α) (x y:α) {k:Nat} (h:dn.length=k):((dn++x :: rest).map f).set k (f y)=((dn++[y])++rest).map f:=by
 subst h
 rw [yZ,List.set_append_right _ _ (by simp)]
 simp
theorem DH {α:Type} (a:α):dec (a=a)=true:=An rfl
def E5 {α β:Type} (f:α→β) (z:β) (xs:List α) (k:Nat):List β:=(xs.take k).map f++xD (xs.length-k) z
section
variable {α β:Type} (f:α→β) (z:β) {xs:List α} {k:Nat}
theorem FX:E5 f z xs 0=xD xs.length z:=by simp [E5]
theorem H6:(E5 f z xs k).length=xs.length:=by simp [E5]; omega
theorem H7:E5 f z xs xs.length=xs.map f:=by simp [E5]
theorem H8 (h:k<xs.length):(E5 f z xs k)[k]?=some z:=by
 have hl:((xs.take k).map f).length=k:=by simp; omega
 unfold E5
 rw [List.getElem?_append_right (by omega),hl,Nat.sub_self,List.getElem?_replicate]
 simp; omega
theorem H9 (h:k<xs.length):(E5 f z xs k).set k (f xs[k])=E5 f z xs (k+1):=by
 have hl:((xs.take k).map f).length=k:=by simp; omega
 have e:List.take (k+1) xs=List.take k xs++[xs[k]]:=List.take_succ_eq_append_getElem h
 unfold E5
 rw [List.set_append_right _ _ (by omega),hl,Nat.sub_self,e,yZ,List.append_assoc]
 congr 1
 rw [show xs.length-k=(xs.length-(k+1))+1 by omega,List.replicate_succ,List.set_cons_zero]
 rfl
end
theorem QaQ (a b:Int):(bif dec (a<b) then b else a)=max a b:=by
 by_cases h:a<b
 ·rw [An h,cond_true,Int.max_eq_right (by omega)]
 ·rw [Aj h,cond_false,Int.max_eq_left (by omega)]
def D8 {α:Type} (p:α→Bool):List α→Int→Int
 | [],_=>-1
 | x :: xs,i=>if p x then i else D8 p xs (i+1)
theorem L9 {α:Type} (p:α→Bool):∀ (xs:List α),dec (0≤D8 p xs 0)=xs.any p:=by
 have key:∀ (xs:List α) (i:Int),0≤i→(0≤D8 p xs i ↔ xs.any p=true):=by
  intro xs
  induction xs with
  | nil=>intro i h; simp [D8]
  | cons x xs ih =>
   intro i h
   simp only [D8,xF,yY]
   by_cases hp:p x=true
   ·simp [hp,h]
   ·rw [if_neg hp,ih (i+1) (by omega)]; simp [hp]
 intro xs
 cases h:xs.any p with
 | true=>exact An ((key xs 0 (by omega)).2 h)
 | false=>exact Aj fun h'=>by rw [(key xs 0 (by omega)).1 h'] at h; cases h
noncomputable def Pt (p:EL):MF:=p.foldl (fun m e=>K7 m e.1 e.2) nomap
theorem Pu (p:EL) (k:MK) (x:MV):Pt (p++[(k,x)])=K7 (Pt p) k x:=by unfold Pt; rw [List.foldl_append]; rfl
theorem Ub {f:MF} {p:EL} (h:Enum f p):Pt p=f:=by
  have key:∀ (p:EL) (m0:MF) (k:MK),(p.map (·.1)).Nodup→p.foldl (fun m e=>K7 m e.1 e.2) m0 k=match p.find? (fun e=>dec (e.1=k)) with | some e=>some e.2 | none=>m0 k:=by
    intro p
    induction p with
    | nil=>intro m0 k _; rfl
    | cons e p ih =>
      intro m0 k hn
      rw [zD,List.nodup_cons] at hn
      rw [List.foldl_cons,ih _ _ hn.2,List.find?_cons]
      by_cases he:e.1=k
      · rw [An he]
        have:p.find? (fun e=>dec (e.1=k))=none:=by
          rw [List.find?_eq_none]
          intro e' he' hd
          rw [Ao] at hd
          exact hn.1 (yK.2 ⟨e',he',by rw [hd,he]⟩)
        rw [this]
        simp only
        rw [←he,Hs]
      · rw [Aj he]
        simp only
        cases p.find? (fun e=>dec (e.1=k)) with
        | some e'=>rfl
        | none=>simp only; rw [G4 fun h=>he h.symm]
  funext k
  unfold Pt
  rw [key p nomap k h.nd]
  cases hf:p.find? (fun e=>dec (e.1=k)) with
  | some e =>
    have h1:=List.mem_of_find?_eq_some hf
    have h2:=List.find?_some hf
    rw [Ao] at h2
    subst h2
    exact ((h.mem e.1 e.2).1 h1).symm
  | none =>
    simp only
    cases hk:f k with
    | none=>rfl
    | some x =>
      have h1:=(h.mem k x).2 hk
      rw [List.find?_eq_none] at hf
      exact absurd (An rfl) (hf _ h1)
theorem QaR {f:MF} (l:List ByteArray) (hl:∀ k x,f k=some x→∃ s∈l,k=.str s):∃ L,Enum f L:=by
  have key:∀ l:List ByteArray,∃ L:EL,(L.map (·.1)).Nodup∧∀ k x,(k,x)∈L ↔ f k=some x∧k∈l.map MK.str:=by
    intro l
    induction l with
    | nil=>exact ⟨[],by simp,fun k x=>by simp⟩
    | cons s l ih =>
      obtain ⟨L,h1,h2⟩:=ih
      cases hs:f (.str s) with
      | none =>
        refine ⟨L,h1,fun k x=>?_⟩
        rw [h2]
        constructor
        · rintro ⟨a,b⟩; exact ⟨a,by simp only [zD,zA]; exact .inr b⟩
        · rintro ⟨a,b⟩
          rcases zA.1 b with rfl | b
          · rw [hs] at a; cases a
          · exact ⟨a,b⟩
      | some v =>
        by_cases hm:MK.str s∈l.map MK.str
        · refine ⟨L,h1,fun k x=>?_⟩
          rw [h2]
          constructor
          · rintro ⟨a,b⟩; exact ⟨a,by simp only [zD,zA]; exact .inr b⟩
          · rintro ⟨a,b⟩
            rcases zA.1 b with rfl | b
            · exact ⟨a,hm⟩
            · exact ⟨a,b⟩
        · refine ⟨(.str s,v) :: L,?_,fun k x=>?_⟩
          · rw [zD,List.nodup_cons]
            refine ⟨fun hk=>?_,h1⟩
            obtain ⟨⟨k,x⟩,hk1,hk2⟩:=yK.1 hk
            have:=(h2 k x).1 hk1
            have hk2:k=.str s:=hk2
            rw [hk2] at this
            exact hm this.2
          · rw [zA,h2]
            constructor
            · rintro (hk | ⟨a,b⟩)
              · obtain ⟨rfl,rfl⟩:=zB hk
                exact ⟨hs,by simp⟩
              · exact ⟨a,by simp only [zD,zA]; exact .inr b⟩
            · rintro ⟨a,b⟩
              rcases zA.1 b with rfl | b
              · rw [hs] at a
                exact .inl (by rw [zC a])
              · exact .inr ⟨a,b⟩
  obtain ⟨L,h1,h2⟩:=key l
  refine ⟨L,h1,fun k x=>?_⟩
  rw [h2]
  exact ⟨fun h=>h.1,fun h=>⟨h,by obtain ⟨s,hs,rfl⟩:=hl k x h; exact yK.2 ⟨s,hs,rfl⟩⟩⟩
theorem QbF {p q:Prop} (h:p ↔ q):dec p=dec q:=by rw [propext h]
mutual
def Tm.nodes:Tm→Nat
 | .mk _ args=>1+Tm.nodeS args
def Tm.nodeS:List Tm→Nat
 | []=>0
 | x :: xs=>Tm.nodes x+Tm.nodeS xs
end
theorem Tm.nodes_eq (x:Tm):x.nodes=1+Tm.nodeS x.args:=by
 obtain ⟨name,args⟩:=x
 rw [Tm.nodes]; rfl
theorem Tm.nodes_pos (x:Tm):1≤x.nodes:=by rw [Tm.nodes_eq]; omega
theorem Tm.nodes_le:∀ (xs:List Tm) (k:Nat) (h:k<xs.length),xs[k].nodes≤Tm.nodeS xs
 | [],k,h=>absurd h (by simp)
 | x :: xs,0,_=>by rw [Tm.nodeS]; simp
 | x :: xs,k+1,h=>by
  have:=Tm.nodes_le xs k (by simpa using h)
  rw [Tm.nodeS]; simp only [yQ]; omega
mutual
def Tm.deep:Tm→Nat
 | .mk _ args=>Tm.G8 args+1
def Tm.G8:List Tm→Nat
 | []=>0
 | x :: xs=>max (Tm.deep x) (Tm.G8 xs)
end
theorem Tm.Ss (x:Tm):x.deep=Tm.G8 x.args+1:=by
 obtain ⟨name,args⟩:=x
 rw [Tm.deep]; rfl
theorem Tm.Jg:∀ xs:List Tm,(∀ y∈xs,y.deep≤y.nodes)→Tm.G8 xs≤Tm.nodeS xs
 | [],_=>by simp [Tm.G8]
 | x :: xs,h=>by
  have h1:=h x (by simp)
  have h2:=Tm.Jg xs fun y hy=>h y (by simp [hy])
  rw [Tm.G8,Tm.nodeS]; omega
theorem Tm.Ha (x:Tm):x.deep≤x.nodes:=by
 rw [Tm.Ss,Tm.nodes_eq]
 have:=Tm.Jg x.args fun y hy=>Tm.Ha y
 omega
termination_by SizeOf.sizeOf x
decreasing_by exact Tm.lt_of_mem hy
mutual
def Tm.names:Tm→Bool
 | .mk name args=>if AO name then args.length == 0 else Dd name&&decide (args.length≤4)&&Tm.F1 args
def Tm.F1:List Tm→Bool
 | []=>true
 | x :: xs=>Tm.names x&&Tm.F1 xs
end
theorem Tm.HD (x:Tm):x.names=if AO x.name then x.args.length == 0 else Dd x.name&&decide (x.args.length≤4)&&Tm.F1 x.args:=by
 obtain ⟨name,args⟩:=x
 rw [Tm.names]; rfl
theorem Tm.HF:∀ xs:List Tm,Tm.F1 xs=xs.all Tm.names
 | []=>rfl
 | x :: xs=>by rw [Tm.F1,Tm.HF xs]; rfl
theorem Tm.length_le:∀ xs:List Tm,xs.length≤Tm.nodeS xs
 | []=>zP _
 | x :: xs=>by
  have:=Tm.length_le xs
  have:=Tm.nodes_pos x
  rw [Tm.nodeS]; simp only [zY]; omega
theorem Tm.nodes_mem {xs:List Tm} {y:Tm} (h:y∈xs):y.nodes≤Tm.nodeS xs:=by
 obtain ⟨k,hk,rfl⟩:=y7 h
 exact Tm.nodes_le xs k hk
def Tm.small (x:Tm):Bool:=decide (x.nodes≤30)&&decide (x.deep≤8)
def Tm.valid (x:Tm):Bool:=x.small&&x.names
noncomputable def Tm.eqn (x:Tm):Bool:=dec (x.name=⟨#[61]⟩)
noncomputable def Tm.atom (x:Tm):Bool:=if x.eqn then x.args.length == 2&&x.small&&Tm.F1 x.args else Dd x.name&&x.valid
theorem Rg {xs:List Tm} (h:xs.length=2):Tm.F1 xs=((xs[0]'(by omega)).names&&(xs[1]'(by omega)).names):=by
 match xs,h with
 | [a,b],_=>simp [Tm.F1]
mutual
def Tm.cap:Tm→Int
 | .mk _ xs=>Tm.capL xs 1
def Tm.capL:List Tm→Int→Int
 | [],n=>n
 | x :: xs,n=>if 30 < n then n else Tm.capL xs (n+Tm.cap x)
end
theorem Tm.cap_eq (x:Tm):x.cap=Tm.capL x.args 1:=by
 obtain ⟨n,xs⟩:=x
 rw [Tm.cap]; rfl
theorem Tm.capL_spec:∀ (xs:List Tm) (n:Int),(∀ x∈xs,1≤x.cap∧x.cap≤x.nodes∧(x.cap≤30→x.cap=x.nodes))→1≤n→n≤Tm.capL xs n∧Tm.capL xs n≤n+Tm.nodeS xs∧(Tm.capL xs n≤30→Tm.capL xs n=n+Tm.nodeS xs)
  | [],n,_,h=>by simp [Tm.capL,Tm.nodeS]
  | x :: xs,n,hx,h=>by
    rw [Tm.capL,Tm.nodeS]
    have h1:=hx x (by simp)
    split
    · omega
    · have:=Tm.capL_spec xs (n+x.cap) (fun y hy=>hx y (by simp [hy])) (by omega)
      omega
theorem Tm.cap_spec (x:Tm):1≤x.cap∧x.cap≤x.nodes∧(x.cap≤30→x.cap=x.nodes):=by
 rw [Tm.cap_eq,Tm.nodes_eq]
 have:=Tm.capL_spec x.args 1 (fun y hy=>Tm.cap_spec y) (by omega)
 omega
termination_by SizeOf.sizeOf x
decreasing_by exact Tm.lt_of_mem hy
mutual
def Tm.many:Tm→Int→Int
 | .mk _ xs,m=>Tm.manyL xs m 1
def Tm.manyL:List Tm→Int→Int→Int
 | [],_,n=>n
 | x :: xs,m,n=>if n≤m then Tm.manyL xs m (n+Tm.many x (m-n)) else n
end
theorem Tm.many_eq (x:Tm) (m:Int):x.many m=Tm.manyL x.args m 1:=by
 obtain ⟨n,xs⟩:=x
 rw [Tm.many]; rfl
theorem Tm.manyL_spec (m:Int):∀ (xs:List Tm) (n:Int),(∀ x∈xs,∀ m,0≤m→1≤x.many m∧x.many m≤x.nodes∧(x.many m≤m→x.many m=x.nodes))→1≤n→n≤Tm.manyL xs m n∧Tm.manyL xs m n≤n+Tm.nodeS xs∧(Tm.manyL xs m n≤m→Tm.manyL xs m n=n+Tm.nodeS xs)
  | [],n,_,h=>by simp [Tm.manyL,Tm.nodeS]
  | x :: xs,n,hx,h=>by
    rw [Tm.manyL,Tm.nodeS]
    split
    · have h1:=hx x (by simp) (m-n) (by omega)
      have:=Tm.manyL_spec m xs (n+x.many (m-n)) (fun y hy=>hx y (by simp [hy])) (by omega)
      omega
    · omega
theorem Tm.many_spec (x:Tm) (m:Int):1≤x.many m∧x.many m≤x.nodes∧(x.many m≤m→x.many m=x.nodes):=by
 rw [Tm.many_eq,Tm.nodes_eq]
 have:=Tm.manyL_spec m x.args 1 (fun y hy m _=>Tm.many_spec y m) (by omega)
 omega
termination_by SizeOf.sizeOf x
decreasing_by exact Tm.lt_of_mem hy
mutual
noncomputable def Tm.ap (f:ByteArray→Option Tm):Tm→Tm
 | .mk name args=>if AO name then (f name).getD (.mk name []) else .mk name (Tm.apL f args)
noncomputable def Tm.apL (f:ByteArray→Option Tm):List Tm→List Tm
 | []=>[]
 | x :: xs=>Tm.ap f x :: Tm.apL f xs
end
theorem Tm.N0 (f:ByteArray→Option Tm) (x:Tm):x.ap f=if AO x.name then (f x.name).getD (.mk x.name []) else .mk x.name (Tm.apL f x.args):=by
 obtain ⟨name,args⟩:=x
 rw [Tm.ap]; rfl
theorem Tm.QaS (f:ByteArray→Option Tm):∀ xs:List Tm,(Tm.apL f xs).length=xs.length
 | []=>by rw [Tm.apL]
 | x :: xs=>by rw [Tm.apL]; simp only [zY,Tm.QaS f xs]
theorem Tm.LA (f:ByteArray→Option Tm):∀ xs:List Tm,Tm.apL f xs=xs.map (Tm.ap f)
 | []=>by rw [Tm.apL]; rfl
 | x :: xs=>by rw [Tm.apL,Tm.LA f xs]; rfl
theorem Tm.JN {x:Tm} (h:x.names=true) (hv:AO x.name=true):x.args=[]:=by
 rw [Tm.HD,if_pos hv] at h
 exact zK (by simpa using h)
theorem Tm.EI {x:Tm} (h:x.names=true) {y:Tm} (hy:y∈x.args):y.names=true:=by
 rw [Tm.HD] at h
 split at h
 ·have:x.args=[]:=zK (by simpa using h)
  rw [this] at hy; cases hy
 ·rw [zS,Tm.HF,List.all_eq_true] at h
  exact h.2 y hy
theorem X7 (u:Nat):Lib.decDigits u≠[]:=by
 rw [Lib.decDigits]
 split <;> simp
theorem X8 {a b:Nat} (ha:a<10) (hb:b<10) (h:UInt8.ofNat (48+a)=UInt8.ofNat (48+b)):a=b:=by
 have:=congrArg UInt8.toNat h
 rw [UInt8.toNat_ofNat',UInt8.toNat_ofNat'] at this
 omega
theorem ZA:∀ u v:Nat,Lib.decDigits u=Lib.decDigits v→u=v:=by
  intro u
  induction u using Nat.strongRecOn with
  | _ u ih =>
    intro v h
    rw [Lib.decDigits,Lib.decDigits.eq_def v] at h
    split at h <;> split at h
    · rename_i h1 h2
      exact X8 h1 h2 (by simpa using h)
    · rename_i h1 h2
      have:=congrArg List.length h
      have hne:=X7 (v / 10)
      rw [yP] at this
      have:(Lib.decDigits (v / 10)).length=0:=by simp at this; simpa using this
      exact absurd (zK this) hne
    · rename_i h1 h2
      have:=congrArg List.length h
      have hne:=X7 (u / 10)
      rw [yP] at this
      have:(Lib.decDigits (u / 10)).length=0:=by simp at this; simpa using this
      exact absurd (zK this) hne
    · rename_i h1 h2
      obtain ⟨e1,e2⟩:=List.append_inj' h rfl
      have e3:=ih (u / 10) (by omega) _ e1
      have e4:=X8 (Nat.mod_lt _ (by omega)) (Nat.mod_lt _ (by omega)) (by simpa using e2)
      omega
theorem ZB {a b:Int} (ha:0≤a) (hb:0≤b) (h:Jd a=Jd b):a=b:=by
 obtain ⟨u,rfl⟩:∃ u:Nat,a=u:=⟨a.toNat,by omega⟩
 obtain ⟨v,rfl⟩:∃ v:Nat,b=v:=⟨b.toNat,by omega⟩
 unfold Jd at h
 rw [Lib.itoa_nonneg,Lib.itoa_nonneg] at h
 have:=ZA u v (by have:=congrArg (fun x:ByteArray=>x.data.toList) h; simpa using this)
 omega
theorem Wu {n:Int} (h0:0≤n) (h:n<10):Jd n=⟨#[UInt8.ofNat (48+n.toNat)]⟩:=by
 obtain ⟨u,rfl⟩:∃ u:Nat,n=u:=⟨n.toNat,by omega⟩
 unfold Jd
 rw [Lib.itoa_nonneg,Lib.decDigits,dif_pos (by omega)]
 rfl
theorem ZC {n:Int} (h:10≤n):Jd n=Jd (n.tdiv 10)++⟨#[UInt8.ofNat (48+(n.tmod 10).toNat)]⟩:=by
 obtain ⟨u,rfl⟩:∃ u:Nat,n=u:=⟨n.toNat,by omega⟩
 have e1:(u:Int).tdiv 10=((u / 10:Nat):Int):=by rw [Int.tdiv_eq_ediv_of_nonneg (by omega)]; rfl
 have e2:((u:Int).tmod 10).toNat=u % 10:=by rw [Int.tmod_eq_emod_of_nonneg (by omega)]; omega
 rw [e1,e2]
 unfold Jd
 rw [Lib.itoa_nonneg,Lib.itoa_nonneg,Lib.decDigits,dif_neg (by omega)]
 have key:∀ (x:List UInt8) (y:UInt8),(⟨(x++[y]).toArray⟩:ByteArray)=⟨x.toArray⟩++⟨#[y]⟩:=fun x y=>by
  have e:∀ a b:ByteArray,a.data=b.data→a=b:=fun a b h=>by cases a; cases b; cases h; rfl
  apply e
  simp
 exact key _ _
def pre (p:ByteArray) (n:Int):ByteArray:=p++Jd n
theorem QaT {p:ByteArray} {a b:Int} (ha:0≤a) (hb:0≤b) (h:pre p a=pre p b):a=b:=by
 refine ZB ha hb ?_
 unfold pre at h
 simpa using h
noncomputable def beyond (p:ByteArray) (taken:List ByteArray) (c:Int):Nat:=(taken.filter fun s=>dec (∃ k:Int,c<k∧s=pre p k)).length
theorem ME (p:ByteArray) (taken:List ByteArray) (c:Int):beyond p taken c≤taken.length:=yT _ _
theorem JO {p:ByteArray} {taken:List ByteArray} {c:Int} (hc:0≤c) (h:pre p (c+1)∈taken):beyond p taken (c+1)<beyond p taken c:=by
 unfold beyond
 refine filter_lt (fun x hx=>?_) h (An ⟨c+1,by omega,rfl⟩) (Aj ?_)
 ·rw [Ao] at hx ⊢
  obtain ⟨k,h1,h2⟩:=hx
  exact ⟨k,by omega,h2⟩
 ·rintro ⟨k,h1,h2⟩
  have:=QaT (by omega) (by omega) h2
  omega
noncomputable def De (p:ByteArray) (taken:List ByteArray):Nat→Int→Int
 | 0,c=>c+1
 | k+1,c=>bif dec (pre p (c+1)∈taken) then De p taken k (c+1) else c+1
noncomputable def fresh (p:ByteArray) (taken:List ByteArray) (c:Int):Int:=De p taken (taken.length+1) c
theorem LB (p:ByteArray) (taken:List ByteArray):∀ (k:Nat) (c:Int),c<De p taken k c∧De p taken k c≤c+1+k
 | 0,c=>by rw [De]; omega
 | k+1,c=>by
  have:=LB p taken k (c+1)
  rw [De]
  cases dec (pre p (c+1)∈taken) with
  | true=>rw [cond_true]; omega
  | false=>rw [cond_false]; omega
theorem G9 {p:ByteArray} {taken:List ByteArray}:∀ (k j:Nat) (c:Int),0≤c→beyond p taken c<k→beyond p taken c<j→De p taken k c=De p taken j c
  | 0,_,_,_,h,_=>by omega
  | _,0,_,_,_,h=>by omega
  | k + 1,j+1,c,hc,h1,h2=>by
    rw [De,De]
    by_cases h:pre p (c+1)∈taken
    · have:=JO hc h
      rw [An h,cond_true,cond_true]
      exact G9 k j (c+1) (by omega) (by omega) (by omega)
    · rw [Aj h]; rfl
theorem Rh {p:ByteArray} {taken:List ByteArray} {c:Int} (hc:0≤c) (h:pre p (c+1)∈taken):fresh p taken c=fresh p taken (c+1):=by
 have h1:=JO hc h
 have h2:=ME p taken c
 unfold fresh
 rw [De,An h,cond_true]
 exact G9 _ _ _ (by omega) (by omega) (by omega)
theorem Ri {p:ByteArray} {taken:List ByteArray} {c:Int} (h:¬ pre p (c+1)∈taken):fresh p taken c=c+1:=by
 unfold fresh
 rw [De,Aj h]; rfl
theorem CG (p:ByteArray) (taken:List ByteArray) (c:Int):c<fresh p taken c∧fresh p taken c≤c+2+taken.length:=by
 have:=LB p taken (taken.length+1) c
 unfold fresh
 omega
theorem FY:modes 189=⟨[],.asis,some (JX Rc),false⟩:=by unfold modes; rfl
theorem QbG (n:Int) (h0:0≤n) (h1:n≤1099511627776):E 189 [.int .i64 n] []=some (.str (Jd n),[]) :=
 Rf (g:=Rc) (congrArg FM.ext FY) (by simp only [Rc,An (⟨h0,h1⟩:0≤n∧n≤1099511627776),cond_true])
def N1:SC:=(.seq (.reg [⟨some 1,none,.boxv 33 2 (.t 0)⟩,⟨some 2,none,.mv (.c (.int .i64 0))⟩]) (.seq (.reg [⟨some 3,none,.mv (.c (.int .i64 1))⟩]) (.seq (.seq (.reg [⟨some 6,none,.faddr 1 (.t 1)⟩,⟨some 7,none,.load false 1 (.t 6)⟩,⟨some 8,none,.len false (.t 7)⟩,⟨some 9,none,.mv (.c (.int .i64 0))⟩]) (.block 0 (.loop [0,0,0,1,0,0,0,1,1,1,0,0,0,0,0,0,0,0,0,0,0,0] (.seq (.reg [⟨some 10,none,.bin .lss false (.t 9) (.t 8)⟩]) (.seq (.cond (.t 10) .skip (.exit 0)) (.seq (.block 1 (.seq (.reg [⟨some 11,none,.iaddr 2 (.t 7) (.t 9)⟩,⟨some 12,none,.load true 2 (.t 11)⟩,⟨(some 5),none,(.alloc 33 [(.str ⟨#[]⟩),.nil])⟩,⟨none,none,(.store 2 (.t 5) (.t 12))⟩]) (.seq (.seq (.reg [⟨some 13,none,.mv (.t 3)⟩,⟨some 14,none,.bin .gtr false (.t 13) (.c (.int .i64 30))⟩]) (.cond (.t 14) (.seq (.reg [⟨some 15,none,.mv (.t 3)⟩,⟨some 2,none,.mv (.t 15)⟩]) .ret) .skip)) (.reg [⟨some 16,none,.mv (.t 3)⟩,⟨some 17,none,.load true 2 (.t 5)⟩,⟨some 18,none,.call 296 [(.t 17)]⟩,⟨some 19,none,.bin .add false (.t 16) (.t 18)⟩,⟨some 3,none,.mv (.t 19)⟩])))) (.reg [⟨some 20,none,.bin .add false (.t 9) (.c (.int .i64 1))⟩,⟨some 9,none,.mv (.t 20)⟩]))))))) (.seq (.reg [⟨some 21,none,.mv (.t 3)⟩,⟨some 2,none,.mv (.t 21)⟩]) .ret))))
theorem Uc:codeOf Tryz.prog 296=some ⟨22,N1,[(.tmp 2)]⟩:=by kernel_rfl
theorem Fn:modes 296=⟨[],.asis,none,false⟩:=by unfold modes; rfl
theorem QaU (x:Tm) (hn:x.nodes≤1099511627776) (ih:∀ y∈x.args,E 296 [y.sv] []=some (.int .i64 y.cap,[])):E 296 [x.sv] []=some (.int .i64 x.cap,[]):=by
 have hl:=Tm.length_le x.args
 have hx:=Tm.nodes_eq x
 rw [Tm.cap_eq]
 refine Ai Uc Fn (of_decide_eq_true rfl) ?_
 simp (disch:=omega) only [N1,go_sem,Ab]
 refine go_loop (α:=Int × Int) (fun a=>⟨slots 22 0 [(3,.int .i64 a.2),(7,.arr (x.args.map Tm.d)),(8,.int .i64 x.args.length),(9,.int .i64 a.1)],[]⟩) (fun a=>∃ k:Nat,a.1=k∧k≤x.args.length∧1≤a.2∧a.2+Tm.nodeS (x.args.drop k)≤x.nodes∧Tm.capL (x.args.drop k) a.2=Tm.capL x.args 1) (fun a=>x.args.length-a.1.toNat) (0,1) ⟨0,rfl,zT _,by dsimp only; omega,by rw [yB]; dsimp only; omega,rfl⟩ (by simp (disch:=omega) only [go_sem,Ab]) ?_
 rintro ⟨i,n⟩ ⟨k,hi,hk,hn0,hn1,hs⟩
 dsimp only at hi hn0 hn1 hs
 have hni:i.toNat=k:=by omega
 rcases yF k x.args.length with hlt | hge
 ·have hg:=get_at Tm.d hlt
  rw [Tm.d_eq] at hg
  have hd:x.args.drop k=x.args[k] :: x.args.drop (k+1):=zW hlt
  have hc:=ih x.args[k] (zL hlt)
  have hp:=Tm.cap_spec x.args[k]
  rw [hd,Tm.capL] at hs
  rw [hd,Tm.nodeS] at hn1
  rcases Int.lt_or_le 30 n with h30 | h30
  ·rw [if_pos h30] at hs
   simp (disch:=omega) only [go_sem,Ab,hni,hg,hc,Fn]
   exact hs
  ·rw [if_neg (by omega)] at hs
   simp (disch:=omega) only [go_sem,Ab,hni,hg,hc,Fn]
   refine ⟨(i+1,n+x.args[k].cap),⟨k+1,by dsimp only; omega,hlt,by dsimp only; omega,by dsimp only; omega,hs⟩,by dsimp only; omega,?_⟩
   simp only [and_self]
 ·have hd:x.args.drop k=[]:=z7 hge
  rw [hd,Tm.capL] at hs
  simp (disch:=omega) only [go_sem,Ab,hni]
  exact hs
theorem ZD (x:Tm) (hn:x.nodes≤1099511627776):E 296 [x.sv] []=some (.int .i64 x.cap,[]) :=
 QaU x hn fun y hy=>ZD y (by have:=Tm.nodes_mem hy; have:=Tm.nodes_eq x; omega)
termination_by SizeOf.sizeOf x
decreasing_by exact Tm.lt_of_mem hy
def Kk:SC:=(.seq (.reg [⟨some 2,none,.boxv 33 2 (.t 0)⟩,⟨some 4,none,.mv (.c (.int .i64 0))⟩]) (.seq (.reg [⟨some 5,none,.mv (.c (.int .i64 1))⟩]) (.seq (.seq (.reg [⟨some 6,none,.mv (.c (.int .i64 0))⟩]) (.block 0 (.loop [0,1,1,0,0,1,1,0,0,0,0,0,0,0,0,0,0,0,0,0,0,0,0,0,0,0,0,0,0,0,0] (.seq (.seq (.reg [⟨some 7,none,.mv (.t 6)⟩,⟨some 8,none,.faddr 1 (.t 2)⟩,⟨some 9,none,.load false 1 (.t 8)⟩,⟨some 10,none,.len false (.t 9)⟩,⟨some 11,none,.bin .lss false (.t 7) (.t 10)⟩,⟨some 12,none,.mv (.t 11)⟩,⟨(some 13),(some (12,true)),(.mv (.t 5))⟩,⟨(some 14),(some (12,true)),(.mv (.t 1))⟩,⟨(some 15),(some (12,true)),(.bin .leq false (.t 13) (.t 14))⟩,⟨some 16,none,.pick (.t 12) (.t 15) (.c (.bool false))⟩]) (.cond (.t 16) .skip (.exit 0))) (.seq (.block 1 (.reg [⟨some 19,none,.mv (.t 5)⟩,⟨some 20,none,.faddr 1 (.t 2)⟩,⟨some 21,none,.load false 1 (.t 20)⟩,⟨some 22,none,.mv (.t 6)⟩,⟨some 23,none,.iaddr 2 (.t 21) (.t 22)⟩,⟨some 24,none,.load true 2 (.t 23)⟩,⟨some 25,none,.mv (.t 1)⟩,⟨some 26,none,.mv (.t 5)⟩,⟨some 27,none,.bin .sub false (.t 25) (.t 26)⟩,⟨some 28,none,.call 307 [(.t 24),(.t 27)]⟩,⟨some 29,none,.bin .add false (.t 19) (.t 28)⟩,⟨some 5,none,.mv (.t 29)⟩])) (.reg [⟨some 17,none,.mv (.t 6)⟩,⟨some 18,none,.bin .add false (.t 17) (.c (.int .i64 1))⟩,⟨some 6,none,.mv (.t 18)⟩])))))) (.seq (.reg [⟨some 30,none,.mv (.t 5)⟩,⟨some 4,none,.mv (.t 30)⟩]) .ret))))
theorem Qf:codeOf Tryz.prog 307=some ⟨31,Kk,[(.tmp 4)]⟩:=by kernel_rfl
theorem DI:modes 307=⟨[],.asis,none,false⟩:=by unfold modes; rfl
theorem QaV (x:Tm) (m:Int) (hm:0≤m) (hm1:m≤1099511627776) (hn:x.nodes≤1099511627776) (ih:∀ y∈x.args,∀ m:Int,0≤m→m≤1099511627776→E 307 [y.sv,.int .i64 m] []=some (.int .i64 (y.many m),[])):E 307 [x.sv,.int .i64 m] []=some (.int .i64 (x.many m),[]):=by
 have hl:=Tm.length_le x.args
 have hx:=Tm.nodes_eq x
 rw [Tm.many_eq]
 refine Ai Qf DI (of_decide_eq_true rfl) ?_
 simp (disch:=omega) only [Kk,go_sem,Ab]
 refine go_loop (α:=Int × Int) (fun a=>⟨slots 31 0 [(1,.int .i64 m),(2,.ptr 0 0),(5,.int .i64 a.2),(6,.int .i64 a.1)],[.box 33 [.str x.name,.arr (x.args.map Tm.d)]]⟩) (fun a=>∃ k:Nat,a.1=k∧k≤x.args.length∧1≤a.2∧a.2+Tm.nodeS (x.args.drop k)≤x.nodes∧Tm.manyL (x.args.drop k) m a.2=Tm.manyL x.args m 1) (fun a=>x.args.length-a.1.toNat) (0,1) ⟨0,rfl,zT _,by dsimp only; omega,by rw [yB]; dsimp only; omega,rfl⟩ (by simp (disch:=omega) only [go_sem,Ab]) ?_
 rintro ⟨i,n⟩ ⟨k,hi,hk,hn0,hn1,hs⟩
 dsimp only at hi hn0 hn1 hs
 have hni:i.toNat=k:=by omega
 rcases yF k x.args.length with hlt | hge
 ·have hg:=get_at Tm.d hlt
  rw [Tm.d_eq] at hg
  have hd:x.args.drop k=x.args[k] :: x.args.drop (k+1):=zW hlt
  rw [hd,Tm.manyL] at hs
  rw [hd,Tm.nodeS] at hn1
  rcases Int.lt_or_le m n with h30 | h30
  ·rw [if_neg (by omega)] at hs
   simp (disch:=omega) only [go_sem,Ab,hni,hg,DI]
   exact hs
  ·rw [if_pos h30] at hs
   have hc:=ih x.args[k] (zL hlt) (m-n) (by omega) (by omega)
   have hp:=Tm.many_spec x.args[k] (m-n)
   simp (disch:=omega) only [go_sem,Ab,hni,hg,hc,DI]
   refine ⟨(i+1,n+x.args[k].many (m-n)),⟨k+1,by dsimp only; omega,hlt,by dsimp only; omega,by dsimp only; omega,hs⟩,by dsimp only; omega,?_⟩
   simp only [and_self]
 ·have hd:x.args.drop k=[]:=z7 hge
  rw [hd,Tm.manyL] at hs
  simp (disch:=omega) only [go_sem,Ab,hni]
  exact hs
theorem ZE (x:Tm) (m:Int) (hm:0≤m) (hm1:m≤1099511627776) (hn:x.nodes≤1099511627776):E 307 [x.sv,.int .i64 m] []=some (.int .i64 (x.many m),[]) :=
 QaV x m hm hm1 hn fun y hy m hm hm1=>ZE y m hm hm1 (by have:=Tm.nodes_mem hy; have:=Tm.nodes_eq x; omega)
termination_by SizeOf.sizeOf x
decreasing_by exact Tm.lt_of_mem hy
def LC:SC:=(.seq (.reg [⟨some 1,none,.boxv 33 2 (.t 0)⟩,⟨some 2,none,.mv (.c (.int .i64 0))⟩]) (.seq (.reg [⟨some 3,none,.mv (.c (.int .i64 0))⟩]) (.seq (.seq (.reg [⟨some 6,none,.faddr 1 (.t 1)⟩,⟨some 7,none,.load false 1 (.t 6)⟩,⟨some 8,none,.len false (.t 7)⟩,⟨some 9,none,.mv (.c (.int .i64 0))⟩]) (.block 0 (.loop [0,0,0,1,0,0,0,1,1,1,0,0,0,0,0,0,0,0,0,0] (.seq (.reg [⟨some 10,none,.bin .lss false (.t 9) (.t 8)⟩]) (.seq (.cond (.t 10) .skip (.exit 0)) (.seq (.block 1 (.seq (.reg [⟨some 11,none,.iaddr 2 (.t 7) (.t 9)⟩,⟨some 12,none,.load true 2 (.t 11)⟩,⟨(some 5),none,(.alloc 33 [(.str ⟨#[]⟩),.nil])⟩,⟨none,none,(.store 2 (.t 5) (.t 12))⟩]) (.reg [⟨some 13,none,.mv (.t 3)⟩,⟨some 14,none,.load true 2 (.t 5)⟩,⟨some 15,none,.call 297 [(.t 14)]⟩,⟨some 16,none,.minmax true (.t 13) (.t 15)⟩,⟨some 3,none,.mv (.t 16)⟩]))) (.reg [⟨some 17,none,.bin .add false (.t 9) (.c (.int .i64 1))⟩,⟨some 9,none,.mv (.t 17)⟩]))))))) (.seq (.reg [⟨some 18,none,.mv (.t 3)⟩,⟨some 19,none,.bin .add false (.t 18) (.c (.int .i64 1))⟩,⟨some 2,none,.mv (.t 19)⟩]) .ret))))
theorem Su:codeOf Tryz.prog 297=some ⟨20,LC,[(.tmp 2)]⟩:=by kernel_rfl
theorem FA:modes 297=⟨[],.asis,none,false⟩:=by unfold modes; rfl
def Kl:SC:=(.seq (.reg [⟨some 4,none,.mv (.c (.int .i64 0))⟩]) (.seq (.seq (.reg [⟨some 5,none,.mv (.t 0)⟩,⟨some 6,none,.mv (.t 1)⟩,⟨some 7,none,.bin .gtr false (.t 5) (.t 6)⟩]) (.cond (.t 7) (.seq (.reg [⟨some 8,none,.mv (.t 0)⟩,⟨some 4,none,.mv (.t 8)⟩]) .ret) .skip)) (.seq (.reg [⟨some 9,none,.mv (.t 1)⟩,⟨some 4,none,.mv (.t 9)⟩]) .ret)))
theorem Qg:codeOf Tryz.prog 327=some ⟨10,Kl,[(.tmp 4)]⟩:=by kernel_rfl
theorem Km:modes 327=⟨[],.asis,none,false⟩:=by unfold modes; rfl
def Jh:SC:=(.seq (.reg [⟨some 1,none,.boxv 33 2 (.t 0)⟩,⟨some 2,none,.mv (.c (.int .i64 0))⟩]) (.seq (.reg [⟨some 3,none,.mv (.c (.int .i64 0))⟩]) (.seq (.seq (.reg [⟨some 4,none,.mv (.c (.int .i64 0))⟩]) (.block 0 (.loop [0,1,0,1,1,0,0,0,0,0,0,0,0,0,0,0,0,0,0,0,0,0] (.seq (.seq (.reg [⟨some 5,none,.mv (.t 4)⟩,⟨some 6,none,.faddr 1 (.t 1)⟩,⟨some 7,none,.load false 1 (.t 6)⟩,⟨some 8,none,.len false (.t 7)⟩,⟨some 9,none,.bin .lss false (.t 5) (.t 8)⟩]) (.cond (.t 9) .skip (.exit 0))) (.seq (.block 1 (.reg [⟨some 12,none,.mv (.t 3)⟩,⟨some 13,none,.faddr 1 (.t 1)⟩,⟨some 14,none,.load false 1 (.t 13)⟩,⟨some 15,none,.mv (.t 4)⟩,⟨some 16,none,.iaddr 2 (.t 14) (.t 15)⟩,⟨some 17,none,.load true 2 (.t 16)⟩,⟨some 18,none,.call 308 [(.t 17)]⟩,⟨some 19,none,.call 327 [(.t 12),(.t 18)]⟩,⟨some 3,none,.mv (.t 19)⟩])) (.reg [⟨some 10,none,.mv (.t 4)⟩,⟨some 11,none,.bin .add false (.t 10) (.c (.int .i64 1))⟩,⟨some 4,none,.mv (.t 11)⟩])))))) (.seq (.reg [⟨some 20,none,.mv (.t 3)⟩,⟨some 21,none,.bin .add false (.t 20) (.c (.int .i64 1))⟩,⟨some 2,none,.mv (.t 21)⟩]) .ret))))
theorem Pv:codeOf Tryz.prog 308=some ⟨22,Jh,[(.tmp 2)]⟩:=by kernel_rfl
theorem Ek:modes 308=⟨[],.asis,none,false⟩:=by unfold modes; rfl
theorem ZF (a b:Int):E 327 [.int .i64 a,.int .i64 b] []=some (.int .i64 (max a b),[]):=by
 refine Ai Qg Km (of_decide_eq_true rfl) ?_
 simp (disch:=omega) only [Kl,go_sem,Ab]
 repeat' (refine Cq (fun hq=>?_) (fun hq=>?_) <;> (first | replace hq:=Ao.1 hq | replace hq:=Cj.1 hq) <;> (try simp (disch:=omega) only [go_sem,Ab]))
 all_goals omega
theorem ZG (x:Tm) (hn:x.nodes≤1099511627776) (ih:∀ y∈x.args,E 297 [y.sv] []=some (.int .i64 y.deep,[])):E 297 [x.sv] []=some (.int .i64 x.deep,[]):=by
 have hl:=Tm.length_le x.args
 have hx:=Tm.nodes_eq x
 have hd1:=Tm.Ss x
 have hd2:=Tm.Ha x
 refine Ai Su FA (of_decide_eq_true rfl) ?_
 simp (disch:=omega) only [LC,go_sem,Ab]
 refine go_loop (α:=Int × (Int)) (fun a=>⟨slots 20 0 [(3,.int .i64 (a.2)),(7,.arr (x.args.map Tm.d)),(8,.int .i64 x.args.length),(9,.int .i64 (a.1))],[]⟩) (fun a=>∃ k:Nat,a.1=k∧k≤(x.args).length∧0≤(a.2)∧max (a.2) (Tm.G8 (x.args.drop k):Nat)=(Tm.G8 x.args:Nat)) (fun a=>(x.args).length-(a.1).toNat) (0,0) ⟨0,rfl,zT _,by dsimp only; omega,by rw [yB]; dsimp only; omega⟩ (by simp (disch:=omega) only [go_sem,Ab]) ?_
 rintro ⟨i,n⟩ ⟨k,hi,hk,hR⟩
 dsimp only at hi hR
 have hni:i.toNat=k:=by omega
 have hni1:(i+1).toNat=k+1:=by omega
 rcases yF k (x.args).length with hlt | hge
 ·have hg:=get_at Tm.d hlt
  rw [Tm.d_eq] at hg
  have hc:=ih x.args[k] (zL hlt)
  rw [zW hlt,Tm.G8] at hR
  simp (disch:=omega) only [go_sem,Ab,hni,hg,hc,FA,QaQ]
  refine ⟨(i+1,max n (x.args[k].deep:Int)),⟨k+1,by dsimp only; omega,hlt,by dsimp only; omega⟩,by dsimp only; omega,?_⟩
  simp only [and_self]
 ·rw [z7 hge,Tm.G8] at hR
  simp (disch:=omega) only [go_sem,Ab,hni]
  omega
theorem X9 (x:Tm) (hn:x.nodes≤1099511627776):E 297 [x.sv] []=some (.int .i64 x.deep,[]) :=
 ZG x hn fun y hy=>X9 y (by have:=Tm.nodes_mem hy; have:=Tm.nodes_eq x; omega)
termination_by SizeOf.sizeOf x
decreasing_by exact Tm.lt_of_mem hy
theorem Wv (x:Tm) (hn:x.nodes≤1099511627776) (ih:∀ y∈x.args,E 308 [y.sv] []=some (.int .i64 y.deep,[])):E 308 [x.sv] []=some (.int .i64 x.deep,[]):=by
 have hl:=Tm.length_le x.args
 have hx:=Tm.nodes_eq x
 have hd1:=Tm.Ss x
 have hd2:=Tm.Ha x
 refine Ai Pv Ek (of_decide_eq_true rfl) ?_
 simp (disch:=omega) only [Jh,go_sem,Ab]
 refine go_loop (α:=Int × (Int)) (fun a=>⟨slots 22 0 [(1,.ptr 0 0),(3,.int .i64 (a.2)),(4,.int .i64 (a.1))],[.box 33 [.str x.name,.arr (x.args.map Tm.d)]]⟩) (fun a=>∃ k:Nat,a.1=k∧k≤(x.args).length∧0≤(a.2)∧max (a.2) (Tm.G8 (x.args.drop k):Nat)=(Tm.G8 x.args:Nat)) (fun a=>(x.args).length-(a.1).toNat) (0,0) ⟨0,rfl,zT _,by dsimp only; omega,by rw [yB]; dsimp only; omega⟩ (by simp (disch:=omega) only [go_sem,Ab]) ?_
 rintro ⟨i,n⟩ ⟨k,hi,hk,hR⟩
 dsimp only at hi hR
 have hni:i.toNat=k:=by omega
 have hni1:(i+1).toNat=k+1:=by omega
 rcases yF k (x.args).length with hlt | hge
 ·have hg:=get_at Tm.d hlt
  rw [Tm.d_eq] at hg
  have hc:=ih x.args[k] (zL hlt)
  rw [zW hlt,Tm.G8] at hR
  simp (disch:=omega) only [go_sem,Ab,hni,hg,hc,Ek,ZF,Km]
  refine ⟨(i+1,max n (x.args[k].deep:Int)),⟨k+1,by dsimp only; omega,hlt,by dsimp only; omega⟩,by dsimp only; omega,?_⟩
  simp only [and_self]
 ·rw [z7 hge,Tm.G8] at hR
  simp (disch:=omega) only [go_sem,Ab,hni]
  omega
theorem Rj (x:Tm) (hn:x.nodes≤1099511627776):E 308 [x.sv] []=some (.int .i64 x.deep,[]) :=
 Wv x hn fun y hy=>Rj y (by have:=Tm.nodes_mem hy; have:=Tm.nodes_eq x; omega)
termination_by SizeOf.sizeOf x
decreasing_by exact Tm.lt_of_mem hy
def BK:SC:=(.seq (.reg [⟨some 4,none,.mv (.c (.int .i64 0))⟩]) (.seq (.seq (.reg [⟨some 6,none,.mv (.t 0)⟩,⟨some 7,none,.len false (.t 6)⟩,⟨some 8,none,.mv (.c (.int .i64 0))⟩]) (.block 0 (.loop [1,1,0,0,0,0,0,1,1,0,0,0,0,0,0,0,0,0,0] (.seq (.reg [⟨some 9,none,.bin .lss false (.t 8) (.t 7)⟩]) (.seq (.cond (.t 9) .skip (.exit 0)) (.seq (.block 1 (.seq (.reg [⟨some 10,none,.mv (.t 8)⟩,⟨some 5,none,.mv (.t 10)⟩]) (.seq (.reg [⟨some 11,none,.mv (.t 1)⟩,⟨some 12,none,.mv (.t 0)⟩,⟨some 13,none,.mv (.t 5)⟩,⟨some 14,none,.iaddr 2 (.t 12) (.t 13)⟩,⟨some 15,none,.load true 2 (.t 14)⟩,⟨some 16,none,.callv (.t 11) [(.t 15)]⟩]) (.cond (.t 16) (.seq (.reg [⟨some 17,none,.mv (.t 5)⟩,⟨some 4,none,.mv (.t 17)⟩]) .ret) .skip)))) (.reg [⟨some 18,none,.bin .add false (.t 8) (.c (.int .i64 1))⟩,⟨some 8,none,.mv (.t 18)⟩]))))))) (.seq (.reg [⟨some 4,none,.mv (.c (.int .i64 (-(0+1))))⟩]) .ret)))
theorem Dm:codeOf Tryz.prog 321=some ⟨19,BK,[(.tmp 4)]⟩:=by kernel_rfl
theorem BL:modes 321=⟨[],.asis,none,false⟩:=by unfold modes; rfl
def B5:SC:=(.seq (.reg [⟨some 4,none,.mv (.c (.bool false))⟩]) (.seq (.reg [⟨some 5,none,.mv (.t 0)⟩,⟨some 6,none,.mv (.t 1)⟩,⟨some 7,none,.call 321 [(.t 5),(.t 6)]⟩,⟨some 8,none,.bin .geq false (.t 7) (.c (.int .i64 0))⟩,⟨some 4,none,.mv (.t 8)⟩]) .ret))
theorem CT:codeOf Tryz.prog 298=some ⟨9,B5,[(.tmp 4)]⟩:=by kernel_rfl
theorem B6:modes 298=⟨[],.asis,none,false⟩:=by unfold modes; rfl
theorem NL (fid:Nat) (p:Tm→Bool) (xs:List Tm) (hl:xs.length≤1099511627776) (hg:JV Tryz.prog fid=true) (hm:(modes fid).hand=[]) (hE:∀ x∈xs,E fid [x.sv] []=some (.bool (p x),[])):E 321 [.arr (xs.map Tm.d),.fn fid []] []=some (.int .i64 (D8 p xs 0),[]):=by
 refine Ai Dm BL (of_decide_eq_true rfl) ?_
 simp (disch:=omega) only [BK,go_sem,Ab]
 refine go_loop (α:=Int) (fun a=>⟨slots 19 0 [(0,.arr (xs.map Tm.d)),(1,.fn fid []),(7,.int .i64 xs.length),(8,.int .i64 a)],[]⟩) (fun a=>∃ k:Nat,a=k∧k≤(xs).length∧D8 p (xs.drop k) a=D8 p xs 0) (fun a=>(xs).length-(a).toNat) 0 ⟨0,rfl,zT _,by rw [yB]⟩ (by simp (disch:=omega) only [go_sem,Ab]) ?_
 rintro i ⟨k,hi,hk,hR⟩
 have hni:i.toNat=k:=by omega
 have hni1:(i+1).toNat=k+1:=by omega
 rcases yF k (xs).length with hlt | hge
 ·have hg':=get_at Tm.d hlt
  rw [Tm.d_eq] at hg'
  have hc:=hE xs[k] (zL hlt)
  rw [zW hlt,D8] at hR
  cases hp:p xs[k] with
  | true =>
   rw [hp] at hc hR
   simp (disch:=omega) only [go_sem,Ab,hni,hg',hc,hg,hm]
   simpa using hR
  | false =>
   rw [hp] at hc hR
   simp (disch:=omega) only [go_sem,Ab,hni,hg',hc,hg,hm]
   exact ⟨i+1,⟨k+1,by omega,hlt,by simpa using hR⟩,by omega,by first | trivial | rfl⟩
 ·rw [z7 hge,D8] at hR
  simp (disch:=omega) only [go_sem,Ab,hni]
  exact hR
theorem KS (fid:Nat) (p:Tm→Bool) (xs:List Tm) (hl:xs.length≤1099511627776) (hg:JV Tryz.prog fid=true) (hm:(modes fid).hand=[]) (hE:∀ x∈xs,E fid [x.sv] []=some (.bool (p x),[])):E 298 [.arr (xs.map Tm.d),.fn fid []] []=some (.bool (xs.any p),[]):=by
 have h:=NL fid p xs hl hg hm hE
 refine Ai CT B6 (of_decide_eq_true rfl) ?_
 simp (disch:=omega) only [B5,go_sem,Ab,h,BL]
 rw [L9]
def CU:SC:=(.seq (.reg [⟨some 1,none,.boxv 33 2 (.t 0)⟩,⟨some 2,none,.mv (.c (.bool false))⟩]) (.seq (.seq (.reg [⟨some 3,none,.faddr 0 (.t 1)⟩,⟨some 4,none,.load false 1 (.t 3)⟩,⟨some 5,none,.call 177 [(.t 4)]⟩]) (.cond (.t 5) (.seq (.reg [⟨some 6,none,.faddr 1 (.t 1)⟩,⟨some 7,none,.load false 1 (.t 6)⟩,⟨some 8,none,.len false (.t 7)⟩,⟨some 9,none,.bin .eql false (.t 8) (.c (.int .i64 0))⟩,⟨some 2,none,.mv (.t 9)⟩]) .ret) .skip)) (.seq (.reg [⟨some 10,none,.faddr 0 (.t 1)⟩,⟨some 11,none,.load false 1 (.t 10)⟩,⟨some 12,none,.call 184 [(.t 11)]⟩,⟨some 13,none,.mv (.t 12)⟩,⟨(some 14),(some (13,true)),(.faddr 1 (.t 1))⟩,⟨(some 15),(some (13,true)),(.load false 1 (.t 14))⟩,⟨(some 16),(some (13,true)),(.len false (.t 15))⟩,⟨(some 17),(some (13,true)),(.bin .leq false (.t 16) (.c (.int .i64 4)))⟩,⟨some 18,none,.pick (.t 13) (.t 17) (.c (.bool false))⟩,⟨some 19,none,.mv (.t 18)⟩,⟨(some 20),(some (19,true)),(.faddr 1 (.t 1))⟩,⟨(some 21),(some (19,true)),(.load false 1 (.t 20))⟩,⟨(some 22),(some (19,true)),(.call 298 [(.t 21),(.c (.fn 299 []))])⟩,⟨(some 23),(some (19,true)),(.un .not (.t 22))⟩,⟨some 24,none,.pick (.t 19) (.t 23) (.c (.bool false))⟩,⟨some 2,none,.mv (.t 24)⟩]) .ret)))
theorem DS:codeOf Tryz.prog 245=some ⟨25,CU,[(.tmp 2)]⟩:=by kernel_rfl
theorem AH:modes 245=⟨[],.asis,none,false⟩:=by unfold modes; rfl
def GA:SC:=(.seq (.reg [⟨some 1,none,.boxv 33 2 (.t 0)⟩,⟨some 2,none,.mv (.c (.bool false))⟩]) (.seq (.reg [⟨some 3,none,.load true 2 (.t 1)⟩,⟨some 4,none,.call 245 [(.t 3)]⟩,⟨some 5,none,.un .not (.t 4)⟩,⟨some 2,none,.mv (.t 5)⟩]) .ret))
theorem LE:codeOf Tryz.prog 299=some ⟨6,GA,[(.tmp 2)]⟩:=by kernel_rfl
theorem GB:modes 299=⟨[],.asis,none,false⟩:=by unfold modes; rfl
theorem LF:JV Tryz.prog 299=true:=by kernel_rfl
theorem Tm.any_not (xs:List Tm):(!xs.any fun y=>!y.names)=Tm.F1 xs:=by
 rw [Tm.HF]
 induction xs with
 | nil=>rfl
 | cons x xs ih=>simp only [xF,List.all_cons,Bool.not_or,Bool.not_not,ih]
theorem Ud (x:Tm) (hn:x.nodes≤1099511627776) (ih:∀ y∈x.args,E 245 [y.sv] []=some (.bool y.names,[])):E 245 [x.sv] []=some (.bool x.names,[]):=by
  have hl:=Tm.length_le x.args
  have hx:=Tm.nodes_eq x
  have h1:∀ y∈x.args,E 299 [y.sv] []=some (.bool (!y.names),[]):=fun y hy=>by
    have h:=ih y hy
    refine Ai LE GB (of_decide_eq_true rfl) ?_
    simp (disch:=omega) only [GA,go_sem,Ab,h,AH]
  have h2:=KS 299 (fun y=>!y.names) x.args (by omega) LF (by rw [GB]) h1
  rw [Tm.HD,← Tm.any_not]
  cases hv:AO x.name with
  | true =>
    have h3:=CK x.name
    rw [hv] at h3
    refine Ai DS AH (of_decide_eq_true rfl) ?_
    simp (disch:=omega) only [CU,go_sem,Ab,h3,Ae]
    rw [KG]; cases x.args <;> simp <;> omega
  | false =>
    have h3:=CK x.name
    rw [hv] at h3
    have h4:=FW x.name
    cases hs:Dd x.name with
    | false =>
      rw [hs] at h4
      refine Ai DS AH (of_decide_eq_true rfl) ?_
      simp (disch:=omega) only [CU,go_sem,Ab,h2,h3,h4,Ae,AG]
    | true =>
      rw [hs] at h4
      rcases yF 4 x.args.length with h5 | h5
      · refine Ai DS AH (of_decide_eq_true rfl) ?_
        simp (disch:=omega) only [CU,go_sem,Ab,h2,h3,h4,Ae,AG]
        simp; omega
      · refine Ai DS AH (of_decide_eq_true rfl) ?_
        simp (disch:=omega) only [CU,go_sem,Ab,h2,h3,h4,Ae,AG,B6]
        simp [h5]
theorem Ik (x:Tm) (hn:x.nodes≤1099511627776):E 245 [x.sv] []=some (.bool x.names,[]) :=
 Ud x hn fun y hy=>Ik y (by have:=Tm.nodes_mem hy; have:=Tm.nodes_eq x; omega)
termination_by SizeOf.sizeOf x
decreasing_by exact Tm.lt_of_mem hy
def Dn:SC:=(.seq (.reg [⟨some 1,none,.boxv 33 2 (.t 0)⟩,⟨some 2,none,.mv (.c (.bool false))⟩]) (.seq (.seq (.reg [⟨some 4,none,.faddr 0 (.t 1)⟩,⟨some 5,none,.load false 1 (.t 4)⟩,⟨some 6,none,.call 191 [(.t 5)]⟩]) (.cond (.t 6) (.seq (.reg [⟨some 7,none,.faddr 1 (.t 1)⟩,⟨some 8,none,.load false 1 (.t 7)⟩,⟨some 9,none,.len false (.t 8)⟩,⟨some 10,none,.bin .eql false (.t 9) (.c (.int .i64 0))⟩,⟨some 2,none,.mv (.t 10)⟩]) .ret) .skip)) (.seq (.seq (.reg [⟨some 11,none,.faddr 0 (.t 1)⟩,⟨some 12,none,.load false 1 (.t 11)⟩,⟨some 13,none,.call 265 [(.t 12)]⟩,⟨some 14,none,.un .not (.t 13)⟩,⟨some 15,none,.mv (.t 14)⟩,⟨(some 16),(some (15,false)),(.faddr 1 (.t 1))⟩,⟨(some 17),(some (15,false)),(.load false 1 (.t 16))⟩,⟨(some 18),(some (15,false)),(.len false (.t 17))⟩,⟨(some 19),(some (15,false)),(.bin .gtr false (.t 18) (.c (.int .i64 4)))⟩,⟨some 20,none,.pick (.t 15) (.c (.bool true)) (.t 19)⟩]) (.cond (.t 20) (.seq (.reg [⟨some 2,none,.mv (.c (.bool false))⟩]) .ret) .skip)) (.seq (.seq (.reg [⟨some 3,none,.mv (.c (.int .i64 0))⟩]) (.block 0 (.loop [0,1,0,1,0,0,0,0,0,0,0,0,0,0,0,0,0,0,0,0,0,0,0,0,0,0,0,0,0,0,0,0,0,0,0] (.seq (.seq (.reg [⟨some 21,none,.mv (.t 3)⟩,⟨some 22,none,.faddr 1 (.t 1)⟩,⟨some 23,none,.load false 1 (.t 22)⟩,⟨some 24,none,.len false (.t 23)⟩,⟨some 25,none,.bin .lss false (.t 21) (.t 24)⟩]) (.cond (.t 25) .skip (.exit 0))) (.seq (.block 1 (.seq (.reg [⟨some 28,none,.faddr 1 (.t 1)⟩,⟨some 29,none,.load false 1 (.t 28)⟩,⟨some 30,none,.mv (.t 3)⟩,⟨some 31,none,.iaddr 2 (.t 29) (.t 30)⟩,⟨some 32,none,.load true 2 (.t 31)⟩,⟨some 33,none,.call 264 [(.t 32)]⟩,⟨some 34,none,.un .not (.t 33)⟩]) (.cond (.t 34) (.seq (.reg [⟨some 2,none,.mv (.c (.bool false))⟩]) .ret) .skip))) (.reg [⟨some 26,none,.mv (.t 3)⟩,⟨some 27,none,.bin .add false (.t 26) (.c (.int .i64 1))⟩,⟨some 3,none,.mv (.t 27)⟩])))))) (.seq (.reg [⟨some 2,none,.mv (.c (.bool true))⟩]) .ret)))))
theorem El:codeOf Tryz.prog 264=some ⟨35,Dn,[(.tmp 2)]⟩:=by kernel_rfl
theorem AI:modes 264=⟨[],.asis,none,false⟩:=by unfold modes; rfl
theorem Ww (x:Tm) (hn:x.nodes≤1099511627776) (ih:∀ y∈x.args,E 264 [y.sv] []=some (.bool y.names,[])):E 264 [x.sv] []=some (.bool x.names,[]):=by
  have hl:=Tm.length_le x.args
  have hx:=Tm.nodes_eq x
  have h3:=Dx x.name
  have h4:=Ps x.name
  rw [Tm.HD]
  cases hv:AO x.name with
  | true =>
    rw [hv] at h3
    refine Ai El AI (of_decide_eq_true rfl) ?_
    simp (disch:=omega) only [Dn,go_sem,Ab,h3,Ak]
    rw [KG]; cases x.args <;> simp <;> omega
  | false =>
    rw [hv] at h3
    cases hs:Dd x.name with
    | false =>
      rw [hs] at h4
      refine Ai El AI (of_decide_eq_true rfl) ?_
      simp (disch:=omega) only [Dn,go_sem,Ab,h3,h4,Ak,Bh]
    | true =>
      rw [hs] at h4
      rcases yF 4 x.args.length with h5 | h5
      · refine Ai El AI (of_decide_eq_true rfl) ?_
        simp (disch:=omega) only [Dn,go_sem,Ab,h3,h4,Ak,Bh]
        simp; omega
      · refine Ai El AI (of_decide_eq_true rfl) ?_
        simp (disch:=omega) only [Dn,go_sem,Ab,h3,h4,Ak,Bh]
        refine go_loop (α:=Int) (fun a=>⟨slots 35 0 [(1,.ptr 0 0),(3,.int .i64 a)],[.box 33 [.str x.name,.arr (x.args.map Tm.d)]]⟩) (fun a=>∃ k:Nat,a=k∧k≤(x.args).length∧Tm.F1 (x.args.drop k)=Tm.F1 x.args) (fun a=>(x.args).length-(a).toNat) 0 ⟨0,rfl,zT _,by rw [yB]⟩ (by simp (disch:=omega) only [go_sem,Ab]) ?_
        rintro i ⟨k,hi,hk,hR⟩
        have hni:i.toNat=k:=by omega
        have hni1:(i+1).toNat=k+1:=by omega
        rcases yF k (x.args).length with hlt | hge
        · have hg:=get_at Tm.d hlt
          rw [Tm.d_eq] at hg
          have hc:=ih x.args[k] (zL hlt)
          rw [zW hlt,Tm.F1] at hR
          cases hp:x.args[k].names with
          | true =>
            rw [hp] at hc hR
            simp (disch:=omega) only [go_sem,Ab,hni,hg,hc,AI]
            exact ⟨i+1,⟨k+1,by omega,hlt,by simpa using hR⟩,by omega,by first | trivial | rfl⟩
          | false =>
            rw [hp] at hc hR
            simp (disch:=omega) only [go_sem,Ab,hni,hg,hc,AI]
            simp at hR ⊢; exact fun _=>hR
        · rw [z7 hge,Tm.F1] at hR
          simp (disch:=omega) only [go_sem,Ab,hni]
          simp [h5,← hR]
theorem JP (x:Tm) (hn:x.nodes≤1099511627776):E 264 [x.sv] []=some (.bool x.names,[]) :=
 Ww x hn fun y hy=>JP y (by have:=Tm.nodes_mem hy; have:=Tm.nodes_eq x; omega)
termination_by SizeOf.sizeOf x
decreasing_by exact Tm.lt_of_mem hy
end Go.Proofs.YtepbennkcbmgoaaGreatDoor
