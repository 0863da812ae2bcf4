/-
  This text holds, one behind the other: This text turns contracts of the kit's form into contracts by shadows, and holds small laws of lists. No condition.
  This text proves what the laws' text of a mark is. Condition: the number is from 1 to 2^40.
  This text proves what the functions on names compute: variables, symbols, bytes. Condition: a name has at most the greatest length.
  This text proves what the functions on symbols compute, the program's and the reference's. Condition: a name has at most the greatest length.
  This text proves what the reference's functions on names compute. Condition: a name has at most the greatest length.
  This text holds what the sorts of rows have in common: a row whose elements are put in another order; the order of bytes. No condition.
  This text lays a contract of the library at the seat: which functions and types of the program are those that it speaks of. No condition.
  This text tells what sorting a row of the call's own does: the library's sort by a comparison of keys. No condition.
  This text holds the order of terms and of literals, in plain Lean: it is total. No condition.
  This text says how the records lie in memory of the call's own. No condition.
  This text lays a contract of the library at the seat: which functions and types of the program are those that it speaks of. No condition.
  This text tells what sorting a row of literals of the call's own does: the library's sort by a comparison. No condition.
  This text walks the library's CompactFunc at rows of three cells. No condition.
  This text tells what putting equal neighbours of a row of literals together does, and that behind a sort it gives the one list without repeats. No condition.
  This text tells what the library's slices.Clone and slices.Grow do at literals: a row of the call's own. No condition.
  This text walks the library's slices.Delete at literals, one element taken out. No condition.
  This text lays a contract of the library at the seat: which functions and types of the program are those that it speaks of. No condition.
  This text tells the engine what strconv.Itoa answers: the decimal numeral. No condition.
  This text gives, for the seat's program, the steps by which code is run as a function, and the rule for loops. No condition.
  This text holds small laws for runs of code as functions. No condition.
  This text holds plain laws of terms: sizes, depths, names, validity. No condition.
  This text tells what the functions of terms answer in both packages: sizes, depths. No condition.
  This text tells what the functions of terms answer in both packages: depths, names. No condition.
  This text tells what the functions of terms answer in both packages: names, validity. No condition.
  This text tells what the functions of terms answer in both packages: valid terms and atoms. No condition.
  This text tells what the order of terms answers in both packages. No condition.
  This text tells what the comparisons of terms and literals answer in both packages. No condition.
  This text tells what the comparison of literals and the validity of clauses answer in both packages. No condition.
-/
import Derived.Test.YtibdknkacmimgaaGreatDoorK46a
import Derived.Test.YtibdknkacmimgaaGreatDoorK46b
import Derived.Laws.IdiomStrings
import Derived.Shelf.GgSortFunc.InsertionK
import Derived.Shelf.Sort.Plain
import Derived.Sort.EncStr
import Derived.Shelf.SlLaysF0
import Derived.Test.YtibdknkacmimgaaGreatDoorChecked
import Derived.Shelf.SlSortCmp.NoneTotal
import Derived.Lib.QuietBelow
import Derived.Deep.LoopGhost
import Derived.Lib.SliceRun
import Derived.Shelf.Abstract
import Derived.Shelf.Spec.SlicesGrow
import Derived.Shelf.RegionOpenPlain
import Derived.Deep.RegionLaw
import Derived.Shelf.LaysM
import Derived.Shelf.Strconv.Itoa3
set_option maxHeartbeats 16000000
set_option maxRecDepth 100000
set_option linter.unusedSimpArgs false
set_option linter.unusedVariables false
set_option linter.unusedSectionVars false
namespace Go.Proofs.YtibdknkacmimgaaGreatDoor
open Go.RowKit
instance flagNo:Flag:=⟨False⟩
abbrev Px:Flag:=⟨True⟩
abbrev QcK (P:Program) (f:FuncId) (xs:List SV) (ob:List Ob) (r:SV) (ob':List Ob):Prop:=@Fun Px P f xs ob r ob'
theorem Fun.X3 {f:FuncId} {args:List SV} {r:SV} {rv:Value} (hr:∀ (w:World) (I:Nat→Prop) (V:Nat→Option Value),RepV w I V r rv)
  (h:∀ (w:World) (I:Nat→Prop) (V:Nat→Option Value) (vs:List Value),RepVs w I V args vs→Calls Tryz.prog f vs.toArray w (Ret w rv)):Fun Tryz.prog f args [] r []:=by
 intro w I V B vs hwf hvs
 refine (h w I V vs hvs).mono ?_
 rintro e w' ⟨rfl,hb⟩
 refine ⟨rv,I,V,B,rfl,hr _ _ _,⟨⟨hb.os,⟨hb.tape,fun h=>False.elim h⟩,hb.output,hb.size,fun b hlt _=>hb.block b hlt⟩,fun _ h=>h,fun _ h=>.inl h,VLe.refl _,?_,fun g b hl=>by simp [Ao,Ob.live] at hl⟩⟩
 exact ⟨fun b hb'=>Nat.lt_of_lt_of_le (hwf.ilt b hb') hb.size,fun g hl=>by simp [Ao,Ob.live] at hl,fun g b hl=>by simp [Ao,Ob.live] at hl,fun g b hl=>by simp [Ao,Ob.live] at hl,fun g g' b hl=>by simp [Ao,Ob.live] at hl,fun g hf=>hwf.fr g rfl,hwf.gl.keep ⟨hb.size,fun b _ hlt=>hb.block b hlt⟩ fun _ h=>h⟩
theorem Fun.of_same {f:FuncId} {args:List SV} {r:SV} {rv:Value} (hr:∀ (w:World) (I:Nat→Prop) (V:Nat→Option Value),RepV w I V r rv)
  (h:∀ (w:World) (I:Nat→Prop) (V:Nat→Option Value) (vs:List Value),RepVs w I V args vs→Calls Tryz.prog f vs.toArray w (Same w rv)):Fun Tryz.prog f args [] r [] :=
 Fun.X3 hr fun w I V vs hvs=>Same.ret (h w I V vs hvs)
section
variable {w:World} {I:Nat→Prop} {V:Nat→Option Value} {vs:List Value}
theorem GI (h:RepVs w I V [] vs):vs=[]:=by simpa [RepVs] using h
theorem AT {x:SV} {xs:List SV} (h:RepVs w I V (x :: xs) vs):∃ v r,vs=v :: r∧RepV w I V x v∧RepVs w I V xs r:=by simpa only [RepVs] using h
theorem Py {s:ByteArray} {v:Value} (h:RepV w I V (.str s) v):v=.string s∧s.size≤9223372036854775807:=by simpa only [RepV] using h
theorem Zh {k:IntKind} {n:Int} {v:Value} (h:RepV w I V (.int k n) v):v=.int k n:=by simpa only [RepV] using h
end
section
variable {w:World} {I:Nat→Prop} {V:Nat→Option Value}
end
theorem QcL (xs:List ByteArray):OT.erss (xs.map fun s=>[OT.str s])=xs.map fun s=>[D.str s]:=by
 induction xs with
 | nil=>rfl
 | cons x r ih=>simp only [List.map_cons,OT.erss,OT.ers,OT.er,ih]
theorem QcM (xs:List Int):OT.erss (xs.map fun s=>[OT.int s])=xs.map fun s=>[D.int s]:=by
 induction xs with
 | nil=>rfl
 | cons x r ih=>simp only [List.map_cons,OT.erss,OT.ers,OT.er,ih]
theorem QcN (xs:List ByteArray):OT.Cq (xs.map fun s=>[OT.str s])=true:=by
 induction xs with
 | nil=>rfl
 | cons x r ih=>simp only [List.map_cons,OT.Cq,OT.EC,OT.noSh,ih,Bool.and_self]
theorem QcO (xs:List Int):OT.Cq (xs.map fun s=>[OT.int s])=true:=by
 induction xs with
 | nil=>rfl
 | cons x r ih=>simp only [List.map_cons,OT.Cq,OT.EC,OT.noSh,ih,Bool.and_self]
def szR (left:Int) (n:Nat):Int:=if (n:Int)≤left then left-n else -1
def mkT (k:Nat) (acc:List UInt8):List UInt8:=if h:k=0 then acc else mkT (k / 10) (UInt8.ofNat (48+k % 10) :: acc)
termination_by k
decreasing_by omega
def Hr (k:Int):ByteArray:=⟨(109 :: mkT k.toNat []).toArray⟩
theorem SW (a b:Array UInt8):(⟨a⟩++⟨b⟩:ByteArray)=⟨a++b⟩:=by apply ByteArray.ext; simp
theorem QcP (k:Nat) (acc:List UInt8):(mkT k acc).length≤acc.length+k:=by
  induction k using Nat.strongRecOn generalizing acc with
  | _ k ih =>
    unfold mkT
    split
    · omega
    · have:=ih (k / 10) (by omega) (UInt8.ofNat (48+k % 10) :: acc)
      simp only [List.length_cons] at this
      omega
theorem X4 {k:Int} (h:0≤k) (h1:k≤1099511627776):(Hr k).size≤9223372036854775807:=by
 have:=QcP k.toNat []
 show (109 :: mkT k.toNat []).toArray.size≤_
 simp only [List.size_toArray,List.length_cons,List.length_nil] at *
 omega
theorem TQ (K:Nat) (w:World) (h1:1≤K) (h2:(K:Int)≤1099511627776):Calls Tryz.prog 61 #[.int .i64 (K:Int)] w (Ret w (.string (Hr K))):=by
  go_enter Tryz.func61,Tryz.ntmps61
  go_wp2
  go_loopw [0,3] (fun n s wr=>∃ (k:Nat) (acc:List UInt8),n=.int .i64 k∧s=.string ⟨acc.toArray⟩∧acc.length+k≤K∧mkT k acc=mkT K []∧Below w.heap.size w wr) (fun n _ _=>(intOf n).toNat)
  case atStart=>exact ⟨K,[],rfl,rfl,by simp,rfl,Below.refl _ _⟩
  case round =>
    obtain ⟨k,acc,rfl,rfl,hle,hok,hbw⟩:=hrel
    have hzw:=hbw.size
    have Hok:=Lib.hid hok
    clear hok
    by_cases hlt:k=0
    · subst hlt
      go_wp2_with fail
      go_ret
      refine Ret.bel ?_ hbw
      have h0:=Hok.out
      rw [mkT,dif_pos rfl] at h0
      unfold Hr
      rw [Int.toNat_natCast,← h0]
      show Value.string (⟨#[109]⟩++⟨acc.toArray⟩)=_
      rw [SW]
      simp
    · have hk0:(0:Int)<k:=by omega
      have hr:(wr.alloc (.cells #[.int .u8 (48+(k:Int) % 10)] 5)).cell? ⟨wr.heap.size,0,none⟩=some (.int .u8 (48+(k:Int) % 10)):=by rw [World.cell?_alloc_at _ _ _ _ rfl]; rfl
      have hcv:=run_convert_bytes_back (P:=Tryz.prog) (wr.alloc (.cells #[.int .u8 (48+(k:Int) % 10)] 5)) 115 9 5 ⟨wr.heap.size,0,none⟩ 1 [UInt8.ofNat (48+k % 10)] Tryz.underlying115 Tryz.underlying5 Tryz.underlying9 (fun j hj=>by
        obtain rfl:j=0:=by simpa using hj
        rw [show (⟨wr.heap.size,0,none⟩:Addr).add 0=⟨wr.heap.size,0,none⟩ from rfl,hr]
        have:(UInt8.ofNat (48+k % 10)).toNat=48+k % 10:=by rw [UInt8.toNat_ofNat']; omega
        simp only [List.getElem_cons_zero,this]
        push_cast
        rfl)
      simp only [List.length_cons,List.length_nil,Nat.zero_add] at hcv
      clear hr
      go_wp2_with fail
      refine ⟨⟨k / 10,UInt8.ofNat (48+k % 10) :: acc,by go_num,?_,?_,?_,(by (repeat' first | (with_reducible exact Below.refl _ _) | (with_reducible refine Below.setCell ?_ ?_ _) | (with_reducible refine Below.alloc ?_ ?_ _) | (with_reducible refine Below.Qdz ?_ _) | (with_reducible refine Below.via ?_ (by assumption) ?_) | (with_reducible exact Nat.le_refl _) | (simp; done) | (simp; omega) | omega))⟩,?_⟩
      · rw [SW]; simp
      · simp only [List.length_cons]; omega
      · rw [←Hok.out,mkT.eq_def k acc,dif_neg hlt]
      · simp only [intOf]; omega
def TR (b:Int):Bool:=decide (97≤b)&&decide (b≤122)
def QcQ (b:Int):Bool:=decide (48≤b)&&decide (b≤57)
def Qp (b:Int):Bool:=decide (65≤b)&&decide (b≤90)
def inB (n lo hi:Int):Bool:=decide (lo≤n)&&decide (n≤hi)
theorem LV (n lo hi:Int) (w:World) :
  Calls Tryz.prog 86 #[.int .i64 n,.int .i64 lo,.int .i64 hi] w (Same w (.bool (inB n lo hi))):=by
 by_cases h1:lo≤n <;> by_cases h2:n≤hi
 all_goals
  go_enter Tryz.func86,Tryz.ntmps86
  go_wp2
  go_ret
  exact Same.mk' _ (by simp [inB,h1,h2])
theorem JZ (n lo hi:Int) (w:World) :
  Calls Tryz.prog 49 #[.int .i64 n,.int .i64 lo,.int .i64 hi] w (Same w (.bool (inB n lo hi))):=by
 by_cases h1:lo≤n <;> by_cases h2:n≤hi
 all_goals
  go_enter Tryz.func49,Tryz.ntmps49
  go_wp2
  go_ret
  exact Same.mk' _ (by simp [inB,h1,h2])
theorem OD (n:Int) (w:World):Calls Tryz.prog 176 #[.int .u8 n] w (Same w (.bool (TR n))):=by
 by_cases h1:97≤n <;> by_cases h2:n≤122
 all_goals
  go_enter Tryz.func176,Tryz.ntmps176
  go_wp2
  go_ret
  exact Same.mk' _ (by simp [TR,h1,h2])
theorem OE (n:Int) (w:World):Calls Tryz.prog 177 #[.int .u8 n] w (Same w (.bool (QcQ n))):=by
 by_cases h1:48≤n <;> by_cases h2:n≤57
 all_goals
  go_enter Tryz.func177,Tryz.ntmps177
  go_wp2
  go_ret
  exact Same.mk' _ (by simp [QcQ,h1,h2])
theorem VG (n:Int) (w:World):Calls Tryz.prog 129 #[.int .u8 n] w (Same w (.bool (Qp n))):=by
 by_cases h1:65≤n <;> by_cases h2:n≤90
 all_goals
  go_enter Tryz.func129,Tryz.ntmps129
  go_wp2
  go_ret
  exact Same.mk' _ (by simp [Qp,h1,h2])
def IX (n:Int):Bool:=TR n || QcQ n
theorem OF (n:Int) (w:World):Calls Tryz.prog 112 #[.int .u8 n] w (Same w (.bool (IX n))):=by
 by_cases h1:97≤n <;> by_cases h2:n≤122 <;> by_cases h3:48≤n <;> by_cases h4:n≤57 <;> first | (exfalso; omega) | skip
 all_goals
  go_enter Tryz.func112,Tryz.ntmps112
  go_wp2
  go_ret
  exact Same.mk' _ (by simp [IX,TR,QcQ,h1,h2,h3,h4])
def Jv (s:ByteArray) (k:Nat):Int:=((s.toList.getD k 0).toNat:Int)
theorem Fp {s:ByteArray} {k:Nat} (h:k<s.size):(s[k].toNat:Int)=Jv s k:=by
 have h':k<s.data.toList.length:=h
 unfold Jv
 rw [ByteArray.toList_eq,List.getD_eq_getElem?_getD,List.getElem?_eq_getElem h']
 rfl
def Ff (p:Nat→Int→Bool) (s:ByteArray) (k:Nat):Bool:=(List.range k).all fun j=>p j (Jv s j)
theorem GJ {p:Nat→Int→Bool} {s:ByteArray} {k:Nat}:Ff p s (k+1)=(Ff p s k&&p k (Jv s k)):=by
 unfold Ff
 rw [List.range_succ,List.all_append]
 simp
theorem IY {p:Nat→Int→Bool} {s:ByteArray} {k:Nat} (h:Ff p s k=true) (hk:p k (Jv s k)=true):Ff p s (k+1)=true:=by
 rw [GJ,h,hk]; rfl
theorem X5 {p:Nat→Int→Bool} {s:ByteArray} {k n:Nat} (h:Ff p s k=false) (hn:k≤n):Ff p s n=false:=by
  induction n with
  | zero =>
            have:k=0:=by omega
            subst this; exact h
  | succ n ih =>
    by_cases hk:k=n+1
    · subst hk; exact h
    · rw [GJ,ih (by omega)]; rfl
theorem Fq {p:Nat→Int→Bool} {s:ByteArray} {k:Nat} (hk:k<s.size) (h:p k (Jv s k)=false):Ff p s s.size=false :=
 X5 (k:=k+1) (by rw [GJ,h]; simp) (by omega)
def Ka (k:Nat) (b:Int):Bool:=(k != 0 || TR b)&&(IX b || b == 95)
def Jw (k:Nat) (b:Int):Bool:=(k != 0 || Qp b)&&(k == 0 || IX b)
def words:List (List UInt8):=[[116,114,117,101],[102,97,108,115,101],[116,114,117,116,104],[98,111,116,104],[101,105,116,104,101,114],[105,102],[97,108,108],[115,111,109,101]]
def Qbq (s:ByteArray):Bool:=QaJ (fun k=>s.toList == words.getD k []) 8
def EE (s:ByteArray):Bool:=Ff Ka s s.size&&inB s.size 1 6&&!Qbq s
def Aq (s:ByteArray):Bool:=Ff Jw s s.size&&inB s.size 1 4
theorem Qq (s:ByteArray) (w:World) (hs:s.size≤9223372036854775807):Calls Tryz.prog 162 #[.string s] w (Same w (.bool (Aq s))):=by
  go_enter Tryz.func162,Tryz.ntmps162
  go_wp2
  go_loopw [6] (fun i wr=>Cnt w s.size (fun k=>Ff Jw s k=true) i wr) (fun i _=>s.size-(intOf i).toNat)
  case atStart=>exact ⟨0,Nat.zero_le _,rfl,rfl,rfl⟩
  case round =>
    obtain ⟨k,hk,rfl,hok,rfl⟩:=hrel
    have Hok:=Lib.hid hok
    clear hok
    by_cases hlt:k<s.size
    · have Hb:=Lib.hid (Fp hlt)
      rcases Nat.eq_zero_or_pos k with rfl | hpos
      all_goals
        go_wp2_with (first
          | (go_at_call 176; refine (OD _ _).mono ?_; rintro e w' ⟨rfl,rfl⟩)
          | (go_at_call 129; refine (VG _ _).mono ?_; rintro e w' ⟨rfl,rfl⟩)
          | (go_at_call 177; refine (OE _ _).mono ?_; rintro e w' ⟨rfl,rfl⟩))
        all_goals first
          | (go_ret
             refine Same.mk' _ ?_
             unfold Aq
             rw [Fq hlt (by rw [←Hb.out]; simp_all [Jw,IX] <;> omega)]
             rfl)
          | (go_roundw
             case rel=>exact ⟨_,hlt,by go_num,IY Hok.out (by rw [←Hb.out]; simp_all [Jw,IX] <;> omega),rfl⟩
             case measure=>first | exact JI hlt | (simp [intOf]; omega))
    · obtain rfl:k=s.size:=by omega
      go_wp2_with (first
        | (go_at_call 86; refine (LV _ _ _ _).mono ?_; rintro e w' ⟨rfl,rfl⟩))
      go_ret
      exact Same.mk' _ (by unfold Aq; rw [Hok.out]; rfl)
theorem X6 (b n c:Nat) (f:Nat→ByteArray) (x:ByteArray) (w:World) (hn:n≤9223372036854775807)
   (hc:∀ k,k<n→w.cell? ⟨b,k,none⟩=some (.string (f k))):Calls Tryz.prog 179 #[.slice (some ⟨b,0,none⟩) n c,.string x] w (Same w (.int .i64 (UT (fun k=>x.toList == (f k).toList) n))):=by
  go_enter Tryz.func179,Tryz.ntmps179
  go_wp2
  go_loopw [8] (fun i wr=>Cnt w n (fun k=>∀ j,j<k→(x.toList == (f j).toList)=false) i wr) (fun i _=>n-(intOf i).toNat)
  case atStart=>exact ⟨0,Nat.zero_le _,rfl,fun j hj=>absurd hj (by omega),rfl⟩
  case round =>
    obtain ⟨k,hk,rfl,hok,rfl⟩:=hrel
    have Hok:=Lib.hid hok
    clear hok
    by_cases hlt:k<n
    · have hck:=hc k (by omega)
      go_wp2_with fail
      · go_ret
        exact Same.mk' _ (by rw [UU hlt Hok.out (by assumption)]; rfl)
      · go_roundw
        case rel=>exact ⟨_,hlt,by go_num,UV Hok.out (by assumption),rfl⟩
        case measure=>exact JI hlt
    · obtain rfl:k=n:=by omega
      go_wp2_with fail
      go_ret
      exact Same.mk' _ (by rw [Sz Hok.out]; rfl)
theorem RS (b n c:Nat) (f:Nat→ByteArray) (x:ByteArray) (w:World) (hn:n≤9223372036854775807)
  (hc:∀ k,k<n→w.cell? ⟨b,k,none⟩=some (.string (f k))):Calls Tryz.prog 157 #[.slice (some ⟨b,0,none⟩) n c,.string x] w (Same w (.bool (QaJ (fun k=>x.toList == (f k).toList) n))):=by
 have Hc:=Lib.hid hc
 clear hc
 go_enter Tryz.func157,Tryz.ntmps157
 go_wp2_with (first
  |(go_at_call 179; refine (X6 _ _ _ f _ _ hn Hc.out).mono ?_; rintro e w' ⟨rfl,rfl⟩))
 go_ret
 exact Same.mk' _ (by rw [←Qcu]; rfl)
theorem TS (w:World):Calls Tryz.prog 178 #[] w fun e w'=>e=.returned (.slice (some ⟨w.heap.size,0,none⟩) 8 8)∧w'=w.alloc (.cells ((words.map fun l=>Value.string ⟨l.toArray⟩).toArray) 9):=by
 go_enter Tryz.func178,Tryz.ntmps178
 go_wp2
 go_ret
 exact ⟨rfl,rfl⟩
theorem VH (w:World):∀ k,k<8→(w.alloc (.cells ((words.map fun l=>Value.string ⟨l.toArray⟩).toArray) 9)).cell? ⟨w.heap.size,k,none⟩=some (.string ⟨(words.getD k []).toArray⟩):=by
 intro k hk
 have hh:(w.alloc (.cells ((words.map fun l=>Value.string ⟨l.toArray⟩).toArray) 9)).heap[w.heap.size]?=some (.cells ((words.map fun l=>Value.string ⟨l.toArray⟩).toArray) 9):=heap_alloc_new w _
 unfold World.cell?
 rw [hh]
 match k,hk with
 | 0,_=>rfl
 | 1,_=>rfl
 | 2,_=>rfl
 | 3,_=>rfl
 | 4,_=>rfl
 | 5,_=>rfl
 | 6,_=>rfl
 | 7,_=>rfl
theorem TT (s:ByteArray) (w:World) (hs:s.size≤9223372036854775807):Calls Tryz.prog 153 #[.string s] w (Ret w (.bool (EE s))):=by
  go_enter Tryz.func153,Tryz.ntmps153
  go_wp2
  go_loopw [6] (fun i wr=>Cnt w s.size (fun k=>Ff Ka s k=true) i wr) (fun i _=>s.size-(intOf i).toNat)
  case atStart=>exact ⟨0,Nat.zero_le _,rfl,rfl,rfl⟩
  case round =>
    obtain ⟨k,hk,rfl,hok,rfl⟩:=hrel
    have Hok:=Lib.hid hok
    clear hok
    by_cases hlt:k<s.size
    · have Hb:=Lib.hid (Fp hlt)
      rcases Nat.eq_zero_or_pos k with rfl | hpos
      all_goals
        go_wp2_with (first
          | (go_at_call 176; refine (OD _ _).mono ?_; rintro e w' ⟨rfl,rfl⟩)
          | (go_at_call 177; refine (OE _ _).mono ?_; rintro e w' ⟨rfl,rfl⟩))
        all_goals first
          | (go_ret
             refine Ret.same _ ?_
             unfold EE
             rw [Fq hlt (by rw [←Hb.out]; simp_all [Ka,IX] <;> omega)]
             rfl)
          | (go_roundw
             case rel=>exact ⟨_,hlt,by go_num,IY Hok.out (by rw [←Hb.out]; simp_all [Ka,IX] <;> omega),rfl⟩
             case measure=>first | exact JI hlt | (simp [intOf]; omega))
    · obtain rfl:k=s.size:=by omega
      cases hin:inB s.size 1 6
      · go_wp2_with (first
          | (go_at_call 86; refine (LV _ _ _ _).mono ?_; rintro e w' ⟨rfl,rfl⟩))
        go_ret
        exact Ret.same _ (by unfold EE; rw [hin]; simp)
      · go_wp2_with (first
          | (go_at_call 86; refine (LV _ _ _ _).mono ?_; rintro e w' ⟨rfl,rfl⟩)
          | (go_at_call 178; refine (TS _).mono ?_; rintro e w' ⟨rfl,rfl⟩)
          | (go_at_call 157; refine (RS _ _ _ (fun k=>⟨(words.getD k []).toArray⟩) _ _ (by omega) (VH w)).mono ?_; rintro e w' ⟨rfl,rfl⟩))
        go_ret
        refine Ret.bel ?_ ((Below.refl _ _).alloc (Nat.le_refl _) _)
        unfold EE Qbq
        rw [hin,Hok.out]
        simp
theorem Qab (s : ByteArray) (w:World) (hs:s.size≤9223372036854775807):Calls Tryz.prog 77 #[.string s] w (Same w (.bool (Aq s))):=by
  cases hin:inB s.size 1 4
  · go_enter Tryz.func77,Tryz.ntmps77
    go_wp2_with (first
      | (go_at_call 49; refine (JZ _ _ _ _).mono ?_; rintro e w' ⟨rfl,rfl⟩))
    go_ret
    exact Same.mk' _ (by unfold Aq; rw [hin]; simp)
  · have hpos:0<s.size:=by simp [inB] at hin; omega
    have Hb:=Lib.hid (Fp hpos)
    go_enter Tryz.func77,Tryz.ntmps77
    go_wp2_with (first
      | (go_at_call 49; refine (JZ _ _ _ _).mono ?_; rintro e w' ⟨rfl,rfl⟩))
    all_goals first
      | (go_ret
         refine Same.mk' _ ?_
         unfold Aq
         rw [Fq hpos (by rw [←Hb.out]; simp [Jw,Qp]; omega)]
         rfl)
      | skip
    · go_loopw [3] (fun i wr=>Cnt w s.size (fun k=>1≤k∧Ff Jw s k=true) i wr) (fun i _=>s.size-(intOf i).toNat)
      case atStart=>exact ⟨1,hpos,rfl,⟨Nat.le_refl _,by rw [GJ,← Hb.out]; simp [Ff,Jw,Qp]; omega⟩,rfl⟩
      case round =>
        obtain ⟨k,hk,rfl,⟨hk1,hok⟩,rfl⟩:=hrel
        have Hok:=Lib.hid hok
        clear hok
        by_cases hlt:k<s.size
        · have Hbk:=Lib.hid (Fp hlt)
          have hk0:k≠0:=by omega
          go_wp2_with (first
            | (go_at_call 112; refine (OF _ _).mono ?_; rintro e w' ⟨rfl,rfl⟩))
          all_goals first
            | (go_ret
               refine Same.mk' _ ?_
               unfold Aq
               rw [Fq hlt (by rw [←Hbk.out]; simp_all [Jw] <;> omega)]
               rfl)
            | (go_roundw
               case rel=>exact ⟨_,hlt,by go_num,⟨by omega,IY Hok.out (by rw [←Hbk.out]; simp_all [Jw] <;> omega)⟩,rfl⟩
               case measure=>first | exact JI hlt | (simp [intOf]; omega))
        · obtain rfl:k=s.size:=by omega
          go_wp2_with fail
          go_ret
          exact Same.mk' _ (by unfold Aq; rw [Hok.out,hin]; rfl)
theorem Zi (s:ByteArray):Qbq s=(s.toList == [116,114,117,101] || s.toList == [102,97,108,115,101] || s.toList == [116,114,117,116,104] || s.toList == [98,111,116,104] || s.toList == [101,105,116,104,101,114] || s.toList == [105,102] || s.toList == [97,108,108] || s.toList == [115,111,109,101]):=by
 unfold Qbq QaJ words
 simp [List.range,List.range.loop,Bool.or_assoc]
theorem TU (s:ByteArray) (w:World) (hs:s.size≤9223372036854775807):Calls Tryz.prog 105 #[.string s] w (Same w (.bool (EE s))):=by
  cases hin:inB s.size 1 6
  · go_enter Tryz.func105,Tryz.ntmps105
    go_wp2_with (first
      | (go_at_call 49; refine (JZ _ _ _ _).mono ?_; rintro e w' ⟨rfl,rfl⟩))
    go_ret
    exact Same.mk' _ (by unfold EE; rw [hin]; simp)
  · have hpos:0<s.size:=by simp [inB] at hin; omega
    have Hb:=Lib.hid (Fp hpos)
    cases hres:Qbq s
    case true =>
      have Hres:=Lib.hid hres
      rw [Zi] at hres
      go_enter Tryz.func105,Tryz.ntmps105
      go_wp2_with (first
        | (go_at_call 49; refine (JZ _ _ _ _).mono ?_; rintro e w' ⟨rfl,rfl⟩))
      all_goals first
        | (go_ret
           refine Same.mk' _ ?_
           unfold EE
           rw [Hres.out]; simp)
        | (exfalso; simp_all; done)
    have Hres:=Lib.hid hres
    rw [Zi] at hres
    simp only [Bool.or_eq_false_iff] at hres
    obtain ⟨⟨⟨⟨⟨⟨⟨e1,e2⟩,e3⟩,e4⟩,e5⟩,e6⟩,e7⟩,e8⟩:=hres
    go_enter Tryz.func105,Tryz.ntmps105
    go_wp2_with (first
      | (go_at_call 49; refine (JZ _ _ _ _).mono ?_; rintro e w' ⟨rfl,rfl⟩))
    all_goals first
      | (go_ret
         refine Same.mk' _ ?_
         unfold EE
         rw [Fq hpos (by rw [←Hb.out]; simp [Ka,TR]; omega)]; rfl)
      | skip
    go_loopw [3] (fun i wr=>Cnt w s.size (fun k=>1≤k∧Ff Ka s k=true) i wr) (fun i _=>s.size-(intOf i).toNat)
    case atStart=>exact ⟨1,hpos,rfl,⟨Nat.le_refl _,by rw [GJ,← Hb.out]; simp [Ff,Ka,IX,TR]; omega⟩,rfl⟩
    case round =>
      obtain ⟨k,hk,rfl,⟨hk1,hok⟩,rfl⟩:=hrel
      have Hok:=Lib.hid hok
      clear hok
      by_cases hlt:k<s.size
      · have Hbk:=Lib.hid (Fp hlt)
        have hk0:k≠0:=by omega
        go_wp2_with (first
          | (go_at_call 112; refine (OF _ _).mono ?_; rintro e w' ⟨rfl,rfl⟩))
        all_goals first
          | (go_ret
             refine Same.mk' _ ?_
             unfold EE
             rw [Fq hlt (by rw [←Hbk.out]; simp_all [Ka] <;> omega)]
             rfl)
          | (go_roundw
             case rel=>exact ⟨_,hlt,by go_num,⟨by omega,IY Hok.out (by rw [←Hbk.out]; simp_all [Ka] <;> omega)⟩,rfl⟩
             case measure=>first | exact JI hlt | (simp [intOf]; omega))
      · obtain rfl:k=s.size:=by omega
        go_wp2_with fail
        go_ret
        exact Same.mk' _ (by unfold EE; rw [Hok.out,hin,Hres.out]; rfl)
end Go.Proofs.YtibdknkacmimgaaGreatDoor
set_option maxRecDepth 100000
set_option linter.unusedSimpArgs false
set_option linter.unusedVariables false
set_option linter.unusedSectionVars false
namespace Go.Proofs.YtibdknkacmimgaaGreatDoor
open Go.RowKit Go.Shelf Go.Lib Go.Sort
theorem Zj {w w':World} {I:Nat→Prop} {V:Nat→Option Value} {B:Nat→Nat→Prop} {t:TypeId} {sz:Nat} {es es':List (List OT)} {b cap:Nat} {cur cur':Array Value} (Sub:Nat→Nat→Nat→Prop)
  (hwf:Wf w I V B (Ao [.row t sz es])) (hv:V 0=some (.slice (some ⟨b,0,none⟩) es.length cap)) (hn:es'.length=es.length) (hs:B 0 b) (hb:w.heap[b]?=some (.cells cur t (0,0)))
  (h1:es.length≤cap) (h2:cap≤9223372036854775807) (h3:cur.size=cap*sz) (h4:∀ i (h:i<es'.length),es'[i].length=sz) (h5:∀ i j x,Sub i j x→B 0 x∧x≠b)
  (h6:∀ i j i' j' x,Sub i j x→Sub i' j' x→i=i'∧j=j')
  (hos:w'.os=w.os) (htape:TapeOk w w') (hout:w'.output=w.output) (hsz:w.heap.size≤w'.heap.size) (hblk:∀ x,x<w.heap.size→x≠b→w'.heap[x]?=w.heap[x]?)
  (hb':w'.heap[b]?=some (.cells cur' t (0,0))) (hcs:cur'.size=cur.size)
  (h7:∀ i j (h:i<es'.length) (h':j<es'[i].length),ORep w' I (Sub i j) (es'[i][j]) (cur'.getD (i*sz+j) undef)) :
  FunPost w I V B [.row t sz es] [.row t sz es'] w' I V B:=by
 have g0:∀ (e:List (List OT)),Ao [Ob.row t sz e] 0=.row t sz e:=fun _=>rfl
 have gS:∀ (e:List (List OT)) (g:Nat),Ao [Ob.row t sz e] (g+1)=.free:=fun _ _=>rfl
 have lv:∀ (e e':List (List OT)) (g:Nat),(Ao [Ob.row t sz e] g).live→(Ao [Ob.row t sz e'] g).live:=fun e e' g h=>by
  cases g with
  | zero=>trivial
  | succ g=>rw [gS] at h; exact h.elim
 have hbS:∀ x,B 0 x→HB B [Ob.row t sz es] x:=fun x hx=>⟨0,trivial,hx⟩
 refine ⟨⟨hos,htape,hout,hsz,fun x hx hn=>hblk x hx fun e=>hn (hbS x (e▸hs))⟩,fun _ h=>h,fun _ h=>.inl h,VLe.refl _,?_,fun g x hl hx=>.inl ⟨g,lv _ _ g hl,hx⟩⟩
 refine ⟨fun x hx=>Nat.lt_of_lt_of_le (hwf.ilt x hx) hsz,fun g hl=>?_,fun g x hl hx=>Nat.lt_of_lt_of_le (hwf.lt g x (lv _ _ g hl) hx) hsz,fun g x hl hx=>hwf.dI g x (lv _ _ g hl) hx,fun g g' x hl hl' hx hx'=>hwf.dO g g' x (lv _ _ g hl) (lv _ _ g' hl') hx hx',fun g hf=>?_,hwf.gl.keep ⟨hsz,fun x hx hlt=>hblk x hlt fun e=>hwf.dI 0 x trivial (e▸hs) hx⟩ fun _ h=>h⟩
 ·cases g with
  | zero =>
   refine ⟨_,hv,.inr ⟨b,cap,cur',Sub,by rw [hn],hs,hb',by rw [hn]; exact h1,h2,by rw [hcs]; exact h3,h4,h5,h6,h7⟩⟩
  | succ g=>rw [gS] at hl; exact hl.elim
 ·cases g with
  | zero=>cases hf
  | succ g=>exact hwf.fr (g+1) rfl
theorem Kb {w:World} {I:Nat→Prop} {V:Nat→Option Value} {B:Nat→Nat→Prop} {ob:List Ob} (hwf:Wf w I V B (Ao ob)):FunPost w I V B ob ob w I V B :=
 ⟨⟨rfl,TapeOk.mk' rfl rfl,rfl,Nat.le_refl _,fun _ _ _=>rfl⟩,fun _ h=>h,fun _ h=>.inl h,VLe.refl _,hwf,fun g b hl hb=>.inl ⟨g,hl,hb⟩⟩
theorem SY:∀ x:List UInt8,Op.bytesLess x x=false
 | []=>rfl
 | a :: x=>by simp [Op.bytesLess,SY x]
theorem Qr:∀ x y z:List UInt8,Op.bytesLess x y=true→Op.bytesLess y z=true→Op.bytesLess x z=true
  | [],_,[],_,h=>by cases ‹List UInt8› <;> simp [Op.bytesLess] at *
  | [],_,_ :: _,_,_=>rfl
  | _ :: _,[],_,h,_=>by simp [Op.bytesLess] at h
  | _ :: _,_ :: _,[],_,h=>by simp [Op.bytesLess] at h
  | a :: x,b :: y,c :: z,h,k=>by
    simp only [Op.bytesLess,Bool.or_eq_true,decide_eq_true_eq,Bool.and_eq_true,beq_iff_eq] at h k ⊢
    rcases h with h | ⟨rfl,h⟩
    · rcases k with k | ⟨rfl,k⟩
      · exact .inl (UInt8.lt_trans h k)
      · exact .inl h
    · rcases k with k | ⟨rfl,k⟩
      · exact .inl k
      · exact .inr ⟨rfl,Qr x y z h k⟩
theorem X7:∀ x y:List UInt8,Op.bytesLess x y=false→Op.bytesLess y x=false→x=y
  | [],[],_,_=>rfl
  | [],_ :: _,h,_=>by simp [Op.bytesLess] at h
  | _ :: _,[],_,h=>by simp [Op.bytesLess] at h
  | a :: x,b :: y,h,k=>by
    simp only [Op.bytesLess,Bool.or_eq_false_iff,decide_eq_false_iff_not] at h k
    have hab:a=b:=by
      have h1:=h.1; have h2:=k.1
      rw [UInt8.lt_iff_toNat_lt] at h1 h2
      exact UInt8.toNat_inj.1 (by omega)
    subst hab
    have h1:Op.bytesLess x y=false:=by simpa using h.2
    have h2:Op.bytesLess y x=false:=by simpa using k.2
    rw [X7 x y h1 h2]
theorem Qac (x y z:List UInt8) (h:Op.bytesLess x y=false) (k:Op.bytesLess y z=false):Op.bytesLess x z=false:=by
 cases hz:Op.bytesLess x z with
 | false=>rfl
 | true =>
  cases hyx:Op.bytesLess y x with
  | true=>rw [Qr y x z hyx hz] at k; cases k
  | false=>rw [X7 x y h hyx] at hz; rw [hz] at k; cases k
def cmpL (x y:List UInt8):Int:=if Op.bytesLess x y then -1 else if x == y then 0 else 1
def VI:List OT→ByteArray
 | .str s :: _=>s
 | _=>⟨#[]⟩
def rowLe (x y:List OT):Bool:=!Op.bytesLess (VI y).toList (VI x).toList
theorem ORep.oneCell {w:World} {I S:Nat→Prop} {o:OT} {v:Value} (h:ORep w I S o v):v.oneCell'=true:=by
 cases h with
 | int S n=>rfl
 | bool S b=>rfl
 | str S s h=>rfl
 | sh S es v h=>obtain ⟨a,c,rfl,_⟩:=h.slice_form; rfl
 | nil S=>rfl
 | hole S v h=>exact h
 | row S t sz es b cap cur Sub hS hb h1 h2 h3 h4 h5 h6 h7=>rfl
theorem ORep.strV {w:World} {I S:Nat→Prop} {s:ByteArray} {v:Value} (h:ORep w I S (.str s) v):v=.string s:=by cases h; rfl
theorem ORep.owV {w:World} {I S:Nat→Prop} {es:List (List OT)} {v:Value} (h:ORep w I S (.ow es) v):∃ a n c,v=.slice a n c:=by
 cases h with
 | nil=>exact ⟨_,_,_,rfl⟩
 | row=>exact ⟨_,_,_,rfl⟩
theorem IZ {α:Type} [Inhabited α] (enc:α→List Value) (k:Nat) (w:World) (b m:Nat) (dk:Array α) (os:Array Obj) (x:Nat) (hx:x<w.heap.size) :
  (sortWorldK enc k w b 0 m dk os).heap[x]?=if b=x then (w.heap[x]?).map (onCells (putCells id 0 (flatK enc k dk))) else w.heap[x]?:=by
 unfold sortWorldK grow putRowK putRow mapBlock Sort.ahead
 have hx':x<(w.heap.modify b (onCells (putCells id 0 (flatK enc k dk)))).size:=by simpa using hx
 simp only [Array.getElem?_append,Array.size_modify,hx,if_true,Array.getElem?_modify]
theorem OG {α:Type} [Inhabited α] (enc:α→List Value) (k:Nat) (w:World) (b m:Nat) (dk:Array α) (os:Array Obj) {cur:Array Value} {t:TypeId} {fr:Nat × Nat} (hb:w.heap[b]?=some (.cells cur t fr)) :
  (sortWorldK enc k w b 0 m dk os).heap[b]?=some (.cells (putCells id 0 (flatK enc k dk) cur) t fr):=by
 rw [IZ enc k w b m dk os b (Array.getElem?_eq_some_iff.1 hb).1,if_pos rfl,hb]
 rfl
theorem OH {α:Type} [Inhabited α] (enc:α→List Value) (k:Nat) (dk:Array α) (cur:Array Value) {i j:Nat} (hi:i<dk.size) (hj:j<k) (hc:dk.size*k≤cur.size) :
  (putCells id 0 (flatK enc k dk) cur).getD (i*k+j) undef=(enc dk[i]!)[j]!:=by
 have hlt:i*k+j<dk.size*k:=mul_lt hi hj
 have e1:(i*k+j) / k=i:=by rw [Nat.mul_comm,Nat.mul_add_div (by omega),Nat.div_eq_of_lt hj,Nat.add_zero]
 have e2:(i*k+j) % k=j:=by rw [Nat.mul_comm,Nat.mul_add_mod,Nat.mod_eq_of_lt hj]
 have h:=get_flatK enc k dk (i*k+j) hlt
 rw [e1,e2] at h
 have hlt2:i*k+j<cur.size:=Nat.lt_of_lt_of_le hlt hc
 simp only [putCells,Array.getD_eq_getD_getElem?,Array.getElem?_mapIdx,Array.getElem?_eq_getElem hlt2,Option.map_some,Option.getD_some,Nat.zero_le,true_and,size_flatK,Nat.zero_add,hlt,if_true,Nat.sub_zero,id]
 exact h
end Go.Proofs.YtibdknkacmimgaaGreatDoor
set_option maxRecDepth 100000
namespace Go.Proofs.YtibdknkacmimgaaGreatDoor
open Go.Shelf
def so_SortB_ren:Go.Shelf.Ren:=⟨fun | 6=>134 | 15=>167 | 14=>166 | 28=>192 | 29=>193 | 20=>184 | 21=>185 | 22=>186 | 23=>187 | 24=>188 | 25=>189 | 26=>190 | 27=>191 | 46=>200 | 47=>201 | 48=>202 | 49=>203 | 50=>204 | 57=>215 | n=>n,fun | 22=>74 | 24=>139 | 25=>144 | 3=>3 | 39=>164 | 0=>0 | 53=>187 | 55=>174 | 4=>4 | 46=>181 | 45=>180 | 50=>158 | 5=>5 | 9=>9 | 66=>193 | 70=>197 | 76=>204 | 77=>205 | n=>n,fun | n=>n⟩
theorem Qs:Go.Proofs.SlLaysF0.n6 Tryz.prog so_SortB_ren:={
 mixed:=by kernel_rfl,
 f6:=⟨Tryz.f134.name,by decide,Tryz.func134.trans (congrArg some (by kernel_rfl))⟩,
 f14:=⟨Tryz.f166.name,by decide,Tryz.func166.trans (congrArg some (by kernel_rfl))⟩,
 f15:=Tryz.func167.trans (congrArg some (by kernel_rfl)),
 f20:=⟨Tryz.f184.name,by decide,Tryz.func184.trans (congrArg some (by kernel_rfl))⟩,
 f21:=⟨Tryz.f185.name,by decide,Tryz.func185.trans (congrArg some (by kernel_rfl))⟩,
 f22:=⟨Tryz.f186.name,by decide,Tryz.func186.trans (congrArg some (by kernel_rfl))⟩,
 f23:=⟨Tryz.f187.name,by decide,Tryz.func187.trans (congrArg some (by kernel_rfl))⟩,
 f24:=⟨Tryz.f188.name,by decide,Tryz.func188.trans (congrArg some (by kernel_rfl))⟩,
 f25:=⟨Tryz.f189.name,by decide,Tryz.func189.trans (congrArg some (by kernel_rfl))⟩,
 f26:=⟨Tryz.f190.name,by decide,Tryz.func190.trans (congrArg some (by kernel_rfl))⟩,
 f27:=⟨Tryz.f191.name,by decide,Tryz.func191.trans (congrArg some (by kernel_rfl))⟩,
 f28:=Tryz.func192.trans (congrArg some (by kernel_rfl)),
 f29:=Tryz.func193.trans (congrArg some (by kernel_rfl)),
 f46:=⟨Tryz.f200.name,by decide,Tryz.func200.trans (congrArg some (by kernel_rfl))⟩,
 f47:=Tryz.func201.trans (congrArg some (by kernel_rfl)),
 f48:=Tryz.func202.trans (congrArg some (by kernel_rfl)),
 f49:=⟨Tryz.f203.name,by decide,Tryz.func203.trans (congrArg some (by kernel_rfl))⟩,
 f50:=⟨Tryz.f204.name,by decide,Tryz.func204.trans (congrArg some (by kernel_rfl))⟩,
 f57:=⟨Tryz.f215.name,by decide,Tryz.func215.trans (congrArg some (by kernel_rfl))⟩,
 t0:=Tryz.underlying0,
 a0:=Tryz.isAgg0,
 z0:=Tryz.sizeOf0,
 v0:=Tryz.zeroValue0,
 t3:=Tryz.underlying3,
 a3:=Tryz.isAgg3,
 z3:=Tryz.sizeOf3,
 v3:=Tryz.zeroValue3,
 t4:=Tryz.underlying4,
 a4:=Tryz.isAgg4,
 z4:=Tryz.sizeOf4,
 v4:=Tryz.zeroValue4,
 t5:=Tryz.underlying5,
 a5:=Tryz.isAgg5,
 z5:=Tryz.sizeOf5,
 v5:=Tryz.zeroValue5,
 t9:=Tryz.underlying9,
 a9:=Tryz.isAgg9,
 z9:=Tryz.sizeOf9,
 v9:=Tryz.zeroValue9,
 t22:=Tryz.underlying74,
 a22:=Tryz.isAgg74,
 z22:=Tryz.sizeOf74,
 v22:=Tryz.zeroValue74,
 t25:=Tryz.underlying144,
 a25:=Tryz.isAgg144,
 z25:=Tryz.sizeOf144,
 v25:=Tryz.zeroValue144,
 t39:=Tryz.underlying164,
 a39:=Tryz.isAgg164,
 z39:=Tryz.sizeOf164,
 v39:=Tryz.zeroValue164,
 t45:=Tryz.underlying180,
 a45:=Tryz.isAgg180,
 z45:=Tryz.sizeOf180,
 v45:=Tryz.zeroValue180,
 t46:=Tryz.underlying181,
 a46:=Tryz.isAgg181,
 z46:=Tryz.sizeOf181,
 v46:=Tryz.zeroValue181,
 t50:=Tryz.underlying158,
 a50:=Tryz.isAgg158,
 z50:=Tryz.sizeOf158,
 v50:=Tryz.zeroValue158,
 t53:=Tryz.underlying187,
 a53:=Tryz.isAgg187,
 z53:=Tryz.sizeOf187,
 v53:=Tryz.zeroValue187,
 t55:=Tryz.underlying174,
 a55:=Tryz.isAgg174,
 z55:=Tryz.sizeOf174,
 v55:=Tryz.zeroValue174,
 t66:=Tryz.underlying193,
 a66:=Tryz.isAgg193,
 z66:=Tryz.sizeOf193,
 v66:=Tryz.zeroValue193,
 t70:=Tryz.underlying197,
 a70:=Tryz.isAgg197,
 z70:=Tryz.sizeOf197,
 v70:=Tryz.zeroValue197,
 t76:=Tryz.underlying204,
 a76:=Tryz.isAgg204,
 z76:=Tryz.sizeOf204,
 v76:=Tryz.zeroValue204,
 t77:=Tryz.underlying205,
 a77:=Tryz.isAgg205,
 z77:=Tryz.sizeOf205,
 v77:=Tryz.zeroValue205 }
end Go.Proofs.YtibdknkacmimgaaGreatDoor
set_option maxRecDepth 100000
set_option linter.unusedSimpArgs false
set_option linter.unusedVariables false
set_option linter.unusedSectionVars false
namespace Go.Proofs.YtibdknkacmimgaaGreatDoor
open Go.RowKit Go.Shelf Go.Lib Go.Sort
theorem VJ (x:ByteArray) (w:World):Calls Tryz.prog 168 #[.string x] w (Same w (.bool false)):=by
 go_enter Tryz.func168,Tryz.ntmps168
 go_wp2
 go_ret
 exact Same.mk' _ (by simp)
theorem X8 (x y:ByteArray) (w:World):Calls Tryz.prog 136 #[.string x,.string y] w (Same w (.int .i64 (cmpL x.toList y.toList))):=by
  cases h1:Op.bytesLess x.toList y.toList
  · cases h2:(x.toList == y.toList)
    all_goals
      go_enter Tryz.func136,Tryz.ntmps136
      go_wp2_with (first
        | (go_at_call 168; refine (VJ _ _).mono ?_; rintro e w' ⟨rfl,rfl⟩))
      go_ret
      exact Same.mk' _ (by unfold cmpL; rw [h1,h2]; rfl)
  · go_enter Tryz.func136,Tryz.ntmps136
    go_wp2_with (first
      | (go_at_call 168; refine (VJ _ _).mono ?_; rintro e w' ⟨rfl,rfl⟩))
    go_ret
    exact Same.mk' _ (by unfold cmpL; rw [h1]; rfl)
theorem RT (s n s' n':ByteArray) (a a':Option Addr) (l c l' c':Nat) (W:World):Calls Tryz.prog 135 #[.agg #[.string s,.string n,.slice a l c],.agg #[.string s',.string n',.slice a' l' c']] W
  fun e w'=>e=.returned (.int .i64 (cmpL s.toList s'.toList))∧∃ q os',w'=Sort.grow (W.drewN q) os':=by
 generalize hr:cmpL s.toList s'.toList=r
 have hcon:∀ W',Calls Tryz.prog 136 #[.string s,.string s'] W' fun e w'=>e=.returned (.int .i64 r)∧w'=W':=fun W'=>(X8 s s' W').mono fun e w' h=>⟨by rw [←hr]; exact h.1,h.2.symm⟩
 clear hr
 go_enter Tryz.func135,Tryz.ntmps135
 go_wp2_with (go_at_call 136; refine (hcon _).mono ?_; rintro e w' ⟨rfl,rfl⟩)
 go_ret
 exact ⟨rfl,0,_,by rw [alloc_eq_grow,alloc_eq_grow,grow_grow]; rfl⟩
def keyed (es:List (List OT)):Prop:=(∀ e∈es,∃ s n us,e=[.str s,.str n,.ow us])∧(es.map VI).Nodup∧es.length≤1099511627776
noncomputable def Dh (xs:List SV) (ob:List Ob):Option (SV × List Ob) :=
 match xs,ob with
 | [.ref 0,.fn f []],[.row t sz es]=>bif dec (f=135∧sz=3∧keyed es) then some (.tup [],[.row t sz (es.mergeSort rowLe)]) else none
 | [.nil,.fn f []],[]=>bif dec (f=135) then some (.tup [],[]) else none
 | _,_=>none
theorem Qbr (a b:List UInt8):decide (cmpL a b<0)=Op.bytesLess a b:=by
 unfold cmpL
 cases h:Op.bytesLess a b with
 | true=>rfl
 | false =>
  simp only [Bool.false_eq_true,if_false]
  split <;> rfl
theorem M2 (n:Nat) (key:_root_.Fin n→List UInt8) (x y:_root_.Fin n):ltOf (fun x y=>cmpL (key x) (key y)) x y=Op.bytesLess (key x) (key y):=Qbr _ _
theorem Qek (n:Nat) (key:_root_.Fin n→List UInt8):SWO (ltOf fun x y=>cmpL (key x) (key y)):=by
 refine ⟨fun x=>by rw [M2]; exact SY _,fun x y z h k=>?_,fun x y z h k=>?_⟩
 ·rw [M2] at *; exact Qr _ _ _ h k
 ·rw [M2] at *; exact Qac _ _ _ h k
theorem NI {xs:List SV} {ob:List Ob} {r:SV} {ob':List Ob} (h:Dh xs ob=some (r,ob')):Fun Tryz.prog 134 xs ob r ob':=by
  unfold Dh at h
  split at h
  · rename_i f t sz es
    obtain ⟨h1,h2⟩:=Ap h
    obtain ⟨rfl,rfl,hk1,hk2,hk3⟩:=Au.1 h1
    simp only [Option.some.injEq,Prod.mk.injEq] at h2
    obtain ⟨rfl,rfl⟩:=h2
    intro w I V B vs hwf hvs
    obtain ⟨v,q,rfl,hv,hvs⟩:=AT hvs
    obtain ⟨v2,q,rfl,hv2,hvs⟩:=AT hvs
    obtain rfl:=GI hvs
    simp only [RepV] at hv hv2
    obtain ⟨vs2,rfl,hv2⟩:=hv2
    simp only [RepVs] at hv2
    subst hv2
    obtain ⟨val,hval,hrow⟩:=hwf.obj 0 trivial
    rw [hv.1] at hval
    obtain rfl:=Option.some.inj hval
    have hv0:=hv.1
    have hrow:RowR w I (B 0) t 3 es v:=hrow
    rcases Nat.eq_zero_or_pos es.length with h0 | h0
    · have he:es=[]:=List.eq_nil_of_length_eq_zero h0
      subst he
      obtain ⟨a,c,rfl,_⟩:=hrow.form
      have hcon:=AnyF.slices_SortFunc_none Qs a c (.func (.func 135) #[] #[]) w
      change Calls Tryz.prog 134 _ _ _ at hcon
      refine hcon.mono ?_
      rintro e w' ⟨rfl,rfl⟩
      rw [List.mergeSort_nil]
      exact ⟨_,I,V,B,rfl,by simp only [RepV,RepVs]; exact ⟨[],rfl,rfl⟩,Kb hwf⟩
    · rcases hrow with ⟨he,_⟩ | ⟨b,cap,cur,Sub,rfl,hs,hb,g1,g2,g3,g4,g5,g6,g7⟩
      · subst he; simp at h0
      have hblt:=(Array.getElem?_eq_some_iff.1 hb).1
      haveI:Inhabited (_root_.Fin es.length):=⟨⟨0,h0⟩⟩
      let cell:Nat→Nat→Value:=fun i j=>cur.getD (i*3+j) undef
      let enc:_root_.Fin es.length→List Value:=fun i=>[cell i 0,cell i 1,cell i 2]
      let key:_root_.Fin es.length→List UInt8:=fun i=>(VI es[i]).toList
      let d:Array (_root_.Fin es.length):=(List.finRange es.length).toArray
      have hdsz:d.size=es.length:=by simp [d]
      have hdget:∀ i (hi:i<es.length),d[i]! = ⟨i,hi⟩:=fun i hi=>by
        rw [getElem!_pos d i (by rw [hdsz]; exact hi)]
        simp [d]
      have lp:∀ i (hi:i<es.length) j (hj:j<3),ORep w I (Sub i j) (es[i][j]'(by rw [g4 i hi]; exact hj)) (cell i j):=fun i hi j hj=>g7 i j hi (by rw [g4 i hi]; exact hj)
      have forms:∀ i:_root_.Fin es.length,∃ (n:ByteArray) (a:Option Addr) (l c:Nat),enc i=[.string (VI es[i]),.string n,.slice a l c]:=fun i=>by
        obtain ⟨s,n,us,he⟩:=hk1 es[i] (List.getElem_mem _)
        have l0:=lp i i.2 0 (by omega)
        have l1:=lp i i.2 1 (by omega)
        have l2:=lp i i.2 2 (by omega)
        have he':es[i.val]'i.2=[.str s,.str n,.ow us]:=he
        simp only [he',List.getElem_cons_zero,List.getElem_cons_succ] at l0 l1 l2
        obtain ⟨a,l,c,e2⟩:=l2.owV
        refine ⟨n,a,l,c,?_⟩
        show [cell i 0,cell i 1,cell i 2]=_
        rw [l0.strV,l1.strV,e2,he]
        rfl
      have hlen:∀ x,(enc x).length=3:=fun _=>rfl
      have hone:∀ x,∀ v∈enc x,v.oneCell'=true:=fun x v hv=>by
        obtain ⟨n,a,l,c,e⟩:=forms x
        rw [e] at hv
        simp only [List.mem_cons,List.not_mem_nil,or_false] at hv
        rcases hv with rfl | rfl | rfl <;> rfl
      have hH:HoldsK enc 3 w b 0 d:=by
        intro j hj
        rw [size_flatK] at hj
        have hq:j / 3<d.size:=by omega
        have hq':j / 3<es.length:=by rw [←hdsz]; exact hq
        have hlt:j<cur.size:=by rw [g3]; have:=Nat.mul_le_mul_right 3 g1; omega
        refine ⟨?_,?_⟩
        · rw [Nat.zero_add,cell_of_row w b _ _ _ _ hb,get_flatK enc 3 d j hj,hdget _ hq']
          show cur[j]?=some ([cell (j / 3) 0,cell (j / 3) 1,cell (j / 3) 2][j % 3]!)
          have hm:j % 3=0∨j % 3=1∨j % 3=2:=by omega
          have e:cur[j]?=some (cell (j / 3) (j % 3)):=by
            show cur[j]?=some (cur.getD (j / 3*3+j % 3) undef)
            rw [show j / 3*3+j % 3=j by omega,Array.getElem?_eq_getElem hlt]
            simp [Array.getD_eq_getD_getElem?,hlt]
          rw [e]
          rcases hm with hm | hm | hm <;> rw [hm] <;> rfl
        · unfold World.frozen?
          rw [hb]
          simp
      have hcmp:CmpLays Tryz.prog 135 #[] enc 3 (fun x y=>cmpL (key x) (key y)) b 0 d.size w:=by
        intro m os dk _ x y
        obtain ⟨n,a,l,c,e⟩:=forms x
        obtain ⟨n',a',l',c',e'⟩:=forms y
        rw [e,e']
        exact RT _ n _ n' a a' l c l' c' _
      have eg:∀ args w,(callFunc 135 args).run Tryz.prog w=.ok (.enter 135 args) w:=enters_of Tryz.func135 (by kernel_rfl) rfl
      have hT:∀ x y,ltOf (fun x y=>cmpL (key x) (key y)) x y=false→ltOf (fun x y=>cmpL (key x) (key y)) y x=false→x=y:=fun x y h h'=>by
        rw [M2] at h h'
        have e:=NA (X7 _ _ h h')
        have hi:x.val<(es.map VI).length:=by simp
        have hi':y.val<(es.map VI).length:=by simp
        have:=(List.getElem_inj (h₀:=hi) (h₁:=hi') hk2).1 (by simpa using e)
        exact _root_.Fin.ext this
      have hcon:=AnyQ.slices_SortFunc_total Qs 3 Tryz.isAgg139 Tryz.sizeOf139 enc hlen hone (fun x y=>cmpL (key x) (key y)) (Qek _ key) 135 #[] b 0 cap d w eg hcmp hH hblt (by rw [hdsz]; omega) hT
      change Calls Tryz.prog 134 _ _ _ at hcon
      rw [hdsz] at hcon
      refine hcon.mono ?_
      rintro e w' ⟨rfl,m,os,rfl⟩
      refine ⟨_,I,V,B,rfl,by simp only [RepV,RepVs]; exact ⟨[],rfl,rfl⟩,?_⟩
      let L:List (_root_.Fin es.length):=d.toList.mergeSort fun x y=>!(ltOf fun x y=>cmpL (key x) (key y)) y x
      have hdl:d.toList=List.finRange es.length:=rfl
      have hLp:L.Perm (List.finRange es.length):=by rw [←hdl]; exact List.mergeSort_perm _ _
      have hLl:L.length=es.length:=by rw [hLp.length_eq]; simp
      have hLn:L.Nodup:=hLp.nodup_iff.2 (List.nodup_finRange _)
      have hes:es.mergeSort rowLe=L.map fun i=>es[i]:=by
        have e:es=(List.finRange es.length).map fun i=>es[i]:=by
          apply List.ext_getElem
          · simp
          · intro i h1 h2; simp
        have k:=List.map_mergeSort (r:=fun x y=>!(ltOf fun x y=>cmpL (key x) (key y)) y x) (s:=rowLe) (f:=fun i:_root_.Fin es.length=>es[i]) (l:=List.finRange es.length) (fun a _ b _=>by
          rw [M2]; rfl)
        rw [←e] at k
        exact k.symm
      rw [hes]
      have hg:∀ i (hi:i<L.length) (j:Nat),j<3→(putCells id 0 (flatK enc 3 L.toArray) cur).getD (i*3+j) undef=cell L[i] j:=fun i hi j hj=>by
        have:=OH enc 3 L.toArray cur (i:=i) (j:=j) (by simpa using hi) hj (by rw [g3]; simp only [List.size_toArray,hLl]; exact Nat.mul_le_mul_right 3 g1)
        rw [this,getElem!_pos L.toArray i (by simpa using hi)]
        simp only [List.getElem_toArray]
        show [cell L[i] 0,cell L[i] 1,cell L[i] 2][j]! = _
        have hm:j=0∨j=1∨j=2:=by omega
        rcases hm with rfl | rfl | rfl <;> rfl
      have hgrow:∀ x,x<w.heap.size→x≠b→(sortWorldK enc 3 w b 0 m L.toArray os).heap[x]?=w.heap[x]?:=fun x hx hne=>by
        rw [IZ enc 3 w b m _ os x hx,if_neg (fun e=>hne e.symm)]
      refine Zj (fun i j x=>∃ h:i<L.length,Sub (L[i]).val j x) hwf hv0 (by rw [List.length_map,hLl]) hs hb g1 g2 g3 (fun i hi=>by rw [List.getElem_map]; exact g4 _ _) (fun i j x h=>g5 _ _ _ h.2) (fun i j i' j' x h h'=>?_) rfl ⟨rfl,fun h=>False.elim h⟩ rfl (size_sortWorldK_c enc 3 w b 0 m _ os) hgrow (OG enc 3 w b m _ os hb) (by simp [putCells]) (fun i j hi hj=>?_)
      · obtain ⟨a1,a2⟩:=h
        obtain ⟨b1,b2⟩:=h'
        obtain ⟨c1,c2⟩:=g6 _ _ _ _ _ a2 b2
        exact ⟨(List.getElem_inj hLn).1 (_root_.Fin.ext c1),c2⟩
      · have hi':i<L.length:=by simpa using hi
        have hj':j<3:=by simpa [g4] using hj
        rw [hg i hi' j hj']
        have:=lp L[i] (L[i]).2 j hj'
        have hk:KeepS I w (sortWorldK enc 3 w b 0 m L.toArray os):=⟨size_sortWorldK_c enc 3 w b 0 m _ os,fun x hx hlt=>hgrow x hlt fun e=>hwf.dI 0 x trivial (e▸hs) hx⟩
        have h2:=(this.keep hk (fun _ h=>h) (fun x hx hlt=>hgrow x hlt (g5 _ _ _ hx).2)).up (S':=fun x=>∃ h:i<L.length,Sub (L[i]).val j x) (fun x hx=>⟨hi',hx⟩)
        simp only [List.getElem_map]
        exact h2
  · rename_i f
    obtain ⟨h1,h2⟩:=Ap h
    obtain rfl:=Au.1 h1
    simp only [Option.some.injEq,Prod.mk.injEq] at h2
    obtain ⟨rfl,rfl⟩:=h2
    intro w I V B vs hwf hvs
    obtain ⟨v,q,rfl,hv,hvs⟩:=AT hvs
    obtain ⟨v2,q,rfl,hv2,hvs⟩:=AT hvs
    obtain rfl:=GI hvs
    simp only [RepV] at hv hv2
    obtain ⟨vs2,rfl,hv2⟩:=hv2
    simp only [RepVs] at hv2
    subst hv2
    subst hv
    have hcon:=AnyF.slices_SortFunc_none Qs none 0 (.func (.func 135) #[] #[]) w
    change Calls Tryz.prog 134 _ _ _ at hcon
    refine hcon.mono ?_
    rintro e w' ⟨rfl,rfl⟩
    exact ⟨_,I,V,B,rfl,by simp only [RepV,RepVs]; exact ⟨[],rfl,rfl⟩,Kb hwf⟩
  · cases h
end Go.Proofs.YtibdknkacmimgaaGreatDoor
set_option maxRecDepth 100000
set_option linter.unusedSimpArgs false
set_option linter.unusedVariables false
set_option linter.unusedSectionVars false
namespace Go.Proofs.YtibdknkacmimgaaGreatDoor
open Go.RowKit
noncomputable def E8 (a b:ByteArray):Int:=bif strLt a b then -1 else bif dec (a=b) then 0 else 1
noncomputable def GK (a b:Int):Int:=bif dec (a<b) then -1 else bif dec (b<a) then 1 else 0
def orZ (x y:Int):Int:=if x=0 then y else x
mutual
noncomputable def Tm.cmp:Tm→Tm→Int
 | .mk n xs,y=>if Aq n&&!Aq y.name then -1 else if Aq y.name&&!Aq n then 1 else orZ (orZ (E8 n y.name) (GK xs.length y.args.length)) (Tm.cmpL xs y.args)
noncomputable def Tm.cmpL:List Tm→List Tm→Int
 | [],[]=>0
 | [],_ :: _=>-1
 | _ :: _,[]=>1
 | x :: xs,y :: ys=>orZ (Tm.cmp x y) (Tm.cmpL xs ys)
end
theorem Tm.TV (x y:Tm):x.cmp y=if Aq x.name&&!Aq y.name then -1 else if Aq y.name&&!Aq x.name then 1 else orZ (orZ (E8 x.name y.name) (GK x.args.length y.args.length)) (Tm.cmpL x.args y.args):=by
 obtain ⟨n,xs⟩:=x
 rw [Tm.cmp]; rfl
def Kc (s:ByteArray):Bool:=decide (0<s.size)&&(Qp (Jv s 0) == Aq s)
mutual
def Tm.cok:Tm→Bool
 | .mk n xs=>Kc n&&Tm.RU xs
def Tm.RU:List Tm→Bool
 | []=>true
 | x :: xs=>Tm.cok x&&Tm.RU xs
end
theorem Tm.Kd (x:Tm):x.cok=(Kc x.name&&Tm.RU x.args):=by
 obtain ⟨n,xs⟩:=x
 rw [Tm.cok]; rfl
theorem Tm.GM {xs:List Tm} (h:Tm.RU xs=true) {y:Tm} (hy:y∈xs):y.cok=true:=by
 induction xs with
 | nil=>cases hy
 | cons x xs ih =>
  rw [Tm.RU,Bool.and_eq_true] at h
  rcases List.mem_cons.1 hy with rfl | hy
  ·exact h.1
  ·exact ih h.2 hy
def GN (b:Bool):Int:=if b then 1 else 0
noncomputable def Lt.cmp (x y:Lt):Int:=orZ (x.atom.cmp y.atom) (GK (GN x.pos) (GN y.pos))
theorem NJ:∀ x:List UInt8,Op.bytesLess x x=false
 | []=>rfl
 | a :: x=>by simp [Op.bytesLess,NJ x]
theorem Qt:∀ x y z:List UInt8,Op.bytesLess x y=true→Op.bytesLess y z=true→Op.bytesLess x z=true
  | [],_,[],_,h=>by cases ‹List UInt8› <;> simp [Op.bytesLess] at *
  | [],_,_ :: _,_,_=>rfl
  | _ :: _,[],_,h,_=>by simp [Op.bytesLess] at h
  | _ :: _,_ :: _,[],_,h=>by simp [Op.bytesLess] at h
  | a :: x,b :: y,c :: z,h,k=>by
    simp only [Op.bytesLess,Bool.or_eq_true,decide_eq_true_eq,Bool.and_eq_true,beq_iff_eq] at h k ⊢
    rcases h with h | ⟨rfl,h⟩
    · rcases k with k | ⟨rfl,k⟩
      · exact .inl (UInt8.lt_trans h k)
      · exact .inl h
    · rcases k with k | ⟨rfl,k⟩
      · exact .inl k
      · exact .inr ⟨rfl,Qt x y z h k⟩
theorem Qbs:∀ x y:List UInt8,Op.bytesLess x y=false→Op.bytesLess y x=false→x=y
  | [],[],_,_=>rfl
  | [],_ :: _,h,_=>by simp [Op.bytesLess] at h
  | _ :: _,[],_,h=>by simp [Op.bytesLess] at h
  | a :: x,b :: y,h,k=>by
    simp only [Op.bytesLess,Bool.or_eq_false_iff,decide_eq_false_iff_not] at h k
    have hab:a=b:=by
      have h1:=h.1; have h2:=k.1
      rw [UInt8.lt_iff_toNat_lt] at h1 h2
      exact UInt8.toNat_inj.1 (by omega)
    subst hab
    have h1:Op.bytesLess x y=false:=by simpa using h.2
    have h2:Op.bytesLess y x=false:=by simpa using k.2
    rw [Qbs x y h1 h2]
theorem Qbt {a b:ByteArray} (h:a.toList=b.toList):a=b:=by
 rw [ByteArray.toList_eq,ByteArray.toList_eq] at h
 obtain ⟨⟨x⟩⟩:=a
 obtain ⟨⟨y⟩⟩:=b
 simp at h
 rw [h]
structure Ord3 {α:Type} (c:α→α→Int) (a b d:α):Prop where
 anti:c b a=- c a b
 zero:c a b=0 ↔ a=b
 trans:c a b<0→c b d<0→c a d<0
theorem Qu (a b d:ByteArray):Ord3 E8 a b d:=by
  have key:∀ x y:ByteArray,(E8 x y=-1∧strLt x y=true∧x≠y)∨(E8 x y=0∧x=y)∨(E8 x y=1∧strLt y x=true∧strLt x y=false∧x≠y):=by
    intro x y
    unfold E8
    cases h:strLt x y with
    | true =>
      refine .inl ⟨rfl,rfl,?_⟩
      rintro rfl
      unfold strLt at h
      rw [NJ] at h; cases h
    | false =>
      by_cases e:x=y
      · refine .inr (.inl ⟨?_,e⟩)
        rw [Ay e]; rfl
      · refine .inr (.inr ⟨?_,?_,rfl,e⟩)
        · rw [A8 e]; rfl
        · cases h2:strLt y x with
          | true=>rfl
          | false=>exact absurd (Qbt (Qbs _ _ h h2)) e
  have asy:∀ x y:ByteArray,strLt x y=true→strLt y x=true→False:=fun x y h k=>by
    have:=Qt _ _ _ h k
    rw [NJ] at this; cases this
  refine ⟨?_,?_,?_⟩
  · rcases key a b with ⟨h,h1,h2⟩ | ⟨h,rfl⟩ | ⟨h,h1,h2,h3⟩
    · rcases key b a with ⟨k,k1,k2⟩ | ⟨k,rfl⟩ | ⟨k,k1,k2,k3⟩
      · exact (asy _ _ h1 k1).elim
      · exact absurd rfl h2
      · rw [h,k]; rfl
    · rw [h]; rfl
    · rcases key b a with ⟨k,k1,k2⟩ | ⟨k,rfl⟩ | ⟨k,k1,k2,k3⟩
      · rw [h,k]
      · exact absurd rfl h3
      · exact (asy _ _ h1 k1).elim
  · rcases key a b with ⟨h,h1,h2⟩ | ⟨h,rfl⟩ | ⟨h,h1,h2,h3⟩
    · rw [h]; constructor
      · intro e; cases e
      · intro e; exact absurd e h2
    · rw [h]; simp
    · rw [h]; constructor
      · intro e; cases e
      · intro e; exact absurd e h3
  · intro h k
    rcases key a b with ⟨_,h1,h2⟩ | ⟨e,_⟩ | ⟨e,_⟩
    · rcases key b d with ⟨_,k1,k2⟩ | ⟨e,_⟩ | ⟨e,_⟩
      · have:=Qt _ _ _ h1 k1
        have e:strLt a d=true:=this
        unfold E8
        rw [e]; exact (by decide:(-1:Int)<0)
      · omega
      · omega
    · omega
    · omega
theorem EI (a b d:Int):Ord3 GK a b d:=by
 have key:∀ x y:Int,GK x y=if x<y then -1 else if y<x then 1 else 0:=fun x y=>by
  unfold GK
  by_cases h:x<y
  ·rw [Ay h,if_pos h]; rfl
  ·rw [A8 h,if_neg h]
   by_cases h2:y<x
   ·rw [Ay h2,if_pos h2]; rfl
   ·rw [A8 h2,if_neg h2]; rfl
 refine ⟨?_,?_,?_⟩ <;> simp only [key]
 ·split <;> split <;> omega
 ·split
  ·constructor <;> omega
  ·split <;> constructor <;> omega
 ·split <;> split <;> split <;> omega
theorem Ke {a b a' b':Int} (h:a'=-a) (k:b'=-b):orZ a' b'=- orZ a b:=by
 unfold orZ
 subst h k
 split <;> split <;> omega
theorem Kf {a b:Int}:orZ a b=0 ↔ a=0∧b=0:=by
 unfold orZ
 split
 ·rename_i h; simp [h]
 ·rename_i h; simp [h]
theorem Pz {a b:Int}:orZ a b<0 ↔ a<0∨(a=0∧b<0):=by
 unfold orZ
 split <;> omega
theorem M3 {α:Type} {c:α→α→Int} (hc:∀ a b d,Ord3 c a b d) {a b d:α} {p q r:Int} (hk:p<0→q<0→r<0) (h1:orZ (c a b) p<0) (h2:orZ (c b d) q<0):orZ (c a d) r<0:=by
 rw [Pz] at h1 h2 ⊢
 rcases h1 with h1 | ⟨h1,h3⟩
 ·rcases h2 with h2 | ⟨h2,h4⟩
  ·exact .inl ((hc a b d).trans h1 h2)
  ·have e:=(hc b d d).zero.1 h2
   subst e
   exact .inl h1
 ·have e:=(hc a b d).zero.1 h1
  subst e
  rcases h2 with h2 | ⟨h2,h4⟩
  ·exact .inl h2
  ·exact .inr ⟨h2,hk h3 h4⟩
def kvZ (n:ByteArray):Int:=if Aq n then 0 else 1
theorem Tm.NK (x y:Tm):x.cmp y=orZ (GK (kvZ x.name) (kvZ y.name)) (orZ (E8 x.name y.name) (orZ (GK x.args.length y.args.length) (Tm.cmpL x.args y.args))):=by
 rw [Tm.TV]
 have hI:∀ p q:Int,GK p q=if p<q then -1 else if q<p then 1 else 0:=fun x y=>by
  unfold GK
  by_cases h:x<y
  ·rw [Ay h,if_pos h]; rfl
  ·rw [A8 h,if_neg h]
   by_cases h2:y<x
   ·rw [Ay h2,if_pos h2]; rfl
   ·rw [A8 h2,if_neg h2]; rfl
 rw [hI (kvZ _) (kvZ _)]
 have e:∀ p q r:Int,orZ (orZ p q) r=orZ p (orZ q r):=fun p q r=>by
  unfold orZ
  by_cases h:p=0
  ·simp [h]
  ·simp [h]
 unfold kvZ
 cases Aq x.name <;> cases Aq y.name <;> simp [e] <;> rfl
mutual
theorem Tm.Qv:∀ x y:Tm,y.cmp x=- x.cmp y
 | .mk n xs,.mk m ys=>by
  rw [Tm.NK,Tm.NK (.mk n xs)]
  exact Ke (EI _ _ 0).anti (Ke (Qu _ _ m).anti (Ke (EI _ _ 0).anti (Tm.SZ xs ys)))
theorem Tm.SZ:∀ xs ys:List Tm,Tm.cmpL ys xs=- Tm.cmpL xs ys
 | [],[]=>rfl
 | [],y :: ys=>by rw [Tm.cmpL,Tm.cmpL]; rfl
 | x :: xs,[]=>by rw [Tm.cmpL,Tm.cmpL]
 | x :: xs,y :: ys=>by
  rw [Tm.cmpL,Tm.cmpL]
  exact Ke (Tm.Qv x y) (Tm.SZ xs ys)
end
mutual
theorem Tm.M4:∀ x y:Tm,x.cmp y=0 ↔ x=y
 | .mk n xs,.mk m ys=>by
  rw [Tm.NK,Kf,Kf,Kf,(EI _ _ 0).zero,(Qu _ _ m).zero,(EI _ _ 0).zero,show Tm.cmpL (Tm.mk n xs).args (Tm.mk m ys).args=0 ↔ xs=ys from Tm.Ta xs ys]
  constructor
  ·rintro ⟨_,h1,_,h2⟩
   have h1:n=m:=h1
   rw [h1,h2]
  ·intro h
   injection h with h1 h2
   subst h1 h2
   exact ⟨rfl,rfl,rfl,rfl⟩
theorem Tm.Ta:∀ xs ys:List Tm,Tm.cmpL xs ys=0 ↔ xs=ys
 | [],[]=>by rw [Tm.cmpL]; simp
 | [],y :: ys=>by rw [Tm.cmpL]; simp
 | x :: xs,[]=>by rw [Tm.cmpL]; simp
 | x :: xs,y :: ys=>by rw [Tm.cmpL,Kf,Tm.M4 x y,Tm.Ta xs ys,List.cons.injEq]
end
mutual
theorem Tm.Tc:∀ x y z:Tm,x.cmp y<0→y.cmp z<0→x.cmp z<0
  | .mk n xs,.mk m ys,.mk k zs=>by
    rw [Tm.NK,Tm.NK (.mk m ys),Tm.NK (.mk n xs)]
    exact M3 EI (M3 Qu (M3 EI (Tm.Qw xs ys zs)))
theorem Tm.Qw:∀ xs ys zs:List Tm,Tm.cmpL xs ys<0→Tm.cmpL ys zs<0→Tm.cmpL xs zs<0
  | [],[],zs=>by rw [Tm.cmpL]; intro h; omega
  | [],y :: ys,[]=>by intro _ h; rw [Tm.cmpL] at h; omega
  | [],y :: ys,z :: zs=>by intro _ _; rw [Tm.cmpL]; omega
  | x :: xs,[],zs=>by intro h; rw [Tm.cmpL] at h; omega
  | x :: xs,y :: ys,[]=>by intro _ h; rw [Tm.cmpL] at h; omega
  | x :: xs,y :: ys,z :: zs=>by
    rw [Tm.cmpL,Tm.cmpL,Tm.cmpL,Pz,Pz,Pz]
    intro h1 h2
    rcases h1 with h1 | ⟨h1,h3⟩
    · rcases h2 with h2 | ⟨h2,h4⟩
      · exact .inl (Tm.Tc x y z h1 h2)
      · obtain rfl:=(Tm.M4 y z).1 h2
        exact .inl h1
    · obtain rfl:=(Tm.M4 x y).1 h1
      rcases h2 with h2 | ⟨h2,h4⟩
      · exact .inl h2
      · exact .inr ⟨h2,Tm.Qw xs ys zs h3 h4⟩
end
theorem Tm.cmp_ord (x y z:Tm):Ord3 Tm.cmp x y z:=⟨Tm.Qv x y,Tm.M4 x y,Tm.Tc x y z⟩
theorem Qad {a b:Bool}:GN a=GN b ↔ a=b:=by cases a <;> cases b <;> decide
theorem Lt.cmp_ord (x y z:Lt):Ord3 Lt.cmp x y z:=by
 refine ⟨Ke (Tm.Qv _ _) (EI _ _ 0).anti,?_,?_⟩
 ·unfold Lt.cmp
  rw [Kf,(Tm.cmp_ord _ _ x.atom).zero,(EI _ _ 0).zero,Qad]
  cases x; cases y
  simp [and_comm]
 ·exact M3 Tm.cmp_ord fun h k=>(EI _ _ _).trans h k
abbrev Tm.sv (x:Tm):SV:=.agg [.str x.name,.arr (x.args.map Tm.d)]
mutual
def Tm.o:Tm→List OT
 | .mk name args=>[.str name,.ow (Tm.os args)]
def Tm.os:List Tm→List (List OT)
 | []=>[]
 | x :: xs=>Tm.o x :: Tm.os xs
end
theorem Tm.Qdv:∀ xs:List Tm,Tm.os xs=xs.map Tm.o
 | []=>rfl
 | x :: xs=>by rw [Tm.os,Tm.Qdv xs]; rfl
theorem Tm.o_eq (x:Tm):Tm.o x=[.str x.name,.ow (x.args.map Tm.o)]:=by
 obtain ⟨name,args⟩:=x
 rw [Tm.o,Tm.Qdv]; rfl
theorem Tm.X9:∀ xs:List Tm,(∀ x∈xs,OT.ers (Tm.o x)=Tm.d x)→OT.erss (xs.map Tm.o)=xs.map Tm.d
 | [],_=>rfl
 | x :: xs,h=>by
  simp only [List.map_cons,OT.erss]
  rw [h x (by simp),Tm.X9 xs fun y hy=>h y (by simp [hy])]
theorem Tm.er (x:Tm):OT.ers (Tm.o x)=Tm.d x:=by
 have h:=Tm.X9 x.args fun y hy=>Tm.er y
 rw [Tm.o_eq,Tm.d_eq]
 simp only [OT.ers,OT.er,h]
termination_by SizeOf.sizeOf x
decreasing_by exact Tm.Aw hy
theorem Tm.erss (xs:List Tm):OT.erss (xs.map Tm.o)=xs.map Tm.d:=Tm.X9 xs fun x _=>Tm.er x
theorem Tm.XA:∀ xs:List Tm,(∀ x∈xs,OT.EC (Tm.o x)=true)→OT.Cq (xs.map Tm.o)=true
 | [],_=>rfl
 | x :: xs,h=>by
  simp only [List.map_cons,OT.Cq]
  rw [h x (by simp),Tm.XA xs fun y hy=>h y (by simp [hy])]; rfl
theorem Tm.no (x:Tm):OT.EC (Tm.o x)=true:=by
 have h:=Tm.XA x.args fun y hy=>Tm.no y
 rw [Tm.o_eq]
 simp only [OT.EC,OT.noSh,h,Bool.and_self,Bool.and_true]
termination_by SizeOf.sizeOf x
decreasing_by exact Tm.Aw hy
theorem Tm.noss (xs:List Tm):OT.Cq (xs.map Tm.o)=true:=Tm.XA xs fun x _=>Tm.no x
abbrev Tm.osv (x:Tm):SV:=.agg [.str x.name,.ref 0]
abbrev Tm.obs (x:Tm):List Ob:=[.row 71 2 (x.args.map Tm.o)]
abbrev Lt.sv (x:Lt):SV:=.agg [.bool x.pos,.str x.atom.name,.arr (x.atom.args.map Tm.d)]
def Lt.o (x:Lt):List OT:=[.bool x.pos,.str x.atom.name,.ow (x.atom.args.map Tm.o)]
theorem Lt.o_eq (x:Lt):Lt.o x=[.bool x.pos,.str x.atom.name,.ow (x.atom.args.map Tm.o)]:=rfl
theorem Lt.er (x:Lt):OT.ers (Lt.o x)=Lt.d x:=by
 simp only [Lt.o,Lt.d,OT.ers,OT.er,Tm.erss]
theorem Lt.erss:∀ xs:List Lt,OT.erss (xs.map Lt.o)=xs.map Lt.d
 | []=>rfl
 | x :: xs=>by simp only [List.map_cons,OT.erss,Lt.er,Lt.erss xs]
theorem Lt.no (x:Lt):OT.EC (Lt.o x)=true:=by
 simp only [Lt.o,OT.EC,OT.noSh,Tm.noss,Bool.and_self,Bool.and_true]
theorem Lt.noss:∀ xs:List Lt,OT.Cq (xs.map Lt.o)=true
 | []=>rfl
 | x :: xs=>by simp only [List.map_cons,OT.Cq,Lt.no,Lt.noss xs,Bool.and_self]
abbrev Lt.osv (x:Lt):SV:=.agg [.bool x.pos,.str x.atom.name,.ref 0]
abbrev Lt.obs (x:Lt):List Ob:=[.row 71 2 (x.atom.args.map Tm.o)]
abbrev Cl.sv (x:Cl):SV:=.agg [.arr (x.lits.map Lt.d)]
def Cl.o (x:Cl):List OT:=[.ow (x.lits.map Lt.o)]
theorem Cl.er (x:Cl):OT.ers (Cl.o x)=Cl.d x:=by
 simp only [Cl.o,Cl.d,OT.ers,OT.er,Lt.erss]
theorem Cl.erss:∀ xs:List Cl,OT.erss (xs.map Cl.o)=xs.map Cl.d
 | []=>rfl
 | x :: xs=>by simp only [List.map_cons,OT.erss,Cl.er,Cl.erss xs]
theorem Cl.no (x:Cl):OT.EC (Cl.o x)=true:=by
 simp only [Cl.o,OT.EC,OT.noSh,Lt.noss,Bool.and_self,Bool.and_true]
theorem Cl.noss:∀ xs:List Cl,OT.Cq (xs.map Cl.o)=true
 | []=>rfl
 | x :: xs=>by simp only [List.map_cons,OT.Cq,Cl.no,Cl.noss xs,Bool.and_self]
abbrev Cl.osv (x:Cl):SV:=.agg [.ref 0]
abbrev Cl.obs (x:Cl):List Ob:=[.row 73 3 (x.lits.map Lt.o)]
abbrev Bd.sv (x:Bd):SV:=.agg [.str x.var,.str x.term.name,.arr (x.term.args.map Tm.d)]
def Bd.o (x:Bd):List OT:=[.str x.var,.str x.term.name,.ow (x.term.args.map Tm.o)]
theorem Bd.er (x:Bd):OT.ers (Bd.o x)=Bd.d x:=by
 simp only [Bd.o,Bd.d,OT.ers,OT.er,Tm.erss]
theorem Bd.erss:∀ xs:List Bd,OT.erss (xs.map Bd.o)=xs.map Bd.d
 | []=>rfl
 | x :: xs=>by simp only [List.map_cons,OT.erss,Bd.er,Bd.erss xs]
theorem Bd.no (x:Bd):OT.EC (Bd.o x)=true:=by
 simp only [Bd.o,OT.EC,OT.noSh,Tm.noss,Bool.and_self,Bool.and_true]
theorem Bd.noss:∀ xs:List Bd,OT.Cq (xs.map Bd.o)=true
 | []=>rfl
 | x :: xs=>by simp only [List.map_cons,OT.Cq,Bd.no,Bd.noss xs,Bool.and_self]
abbrev Sb.sv (x:Sb):SV:=.agg [.arr (x.binds.map Bd.d)]
def Sb.o (x:Sb):List OT:=[.ow (x.binds.map Bd.o)]
theorem Sb.er (x:Sb):OT.ers (Sb.o x)=Sb.d x:=by
 simp only [Sb.o,Sb.d,OT.ers,OT.er,Bd.erss]
theorem Sb.erss:∀ xs:List Sb,OT.erss (xs.map Sb.o)=xs.map Sb.d
 | []=>rfl
 | x :: xs=>by simp only [List.map_cons,OT.erss,Sb.er,Sb.erss xs]
theorem Sb.no (x:Sb):OT.EC (Sb.o x)=true:=by
 simp only [Sb.o,OT.EC,OT.noSh,Bd.noss,Bool.and_self,Bool.and_true]
theorem Sb.noss:∀ xs:List Sb,OT.Cq (xs.map Sb.o)=true
 | []=>rfl
 | x :: xs=>by simp only [List.map_cons,OT.Cq,Sb.no,Sb.noss xs,Bool.and_self]
abbrev Sb.osv (x:Sb):SV:=.agg [.ref 0]
abbrev Sb.obs (x:Sb):List Ob:=[.row 139 3 (x.binds.map Bd.o)]
end Go.Proofs.YtibdknkacmimgaaGreatDoor
set_option maxRecDepth 100000
namespace Go.Proofs.YtibdknkacmimgaaGreatDoor
open Go.Shelf
def so_SortL_ren:Go.Shelf.Ren:=⟨fun | 6=>170 | 15=>167 | 14=>194 | 28=>192 | 29=>193 | 20=>205 | 21=>206 | 22=>207 | 23=>208 | 24=>209 | 25=>210 | 26=>211 | 27=>212 | 46=>216 | 47=>201 | 48=>202 | 49=>217 | 50=>218 | 57=>219 | n=>n,fun | 22=>26 | 24=>73 | 25=>93 | 3=>3 | 39=>164 | 0=>0 | 53=>187 | 55=>174 | 4=>4 | 46=>181 | 45=>180 | 50=>158 | 5=>5 | 9=>9 | 66=>193 | 70=>197 | 76=>204 | 77=>205 | n=>n,fun | n=>n⟩
theorem Qx:Go.Proofs.SlLaysF0.n6 Tryz.prog so_SortL_ren:={
 mixed:=by kernel_rfl,
 f6:=⟨Tryz.f170.name,by decide,Tryz.func170.trans (congrArg some (by kernel_rfl))⟩,
 f14:=⟨Tryz.f194.name,by decide,Tryz.func194.trans (congrArg some (by kernel_rfl))⟩,
 f15:=Tryz.func167.trans (congrArg some (by kernel_rfl)),
 f20:=⟨Tryz.f205.name,by decide,Tryz.func205.trans (congrArg some (by kernel_rfl))⟩,
 f21:=⟨Tryz.f206.name,by decide,Tryz.func206.trans (congrArg some (by kernel_rfl))⟩,
 f22:=⟨Tryz.f207.name,by decide,Tryz.func207.trans (congrArg some (by kernel_rfl))⟩,
 f23:=⟨Tryz.f208.name,by decide,Tryz.func208.trans (congrArg some (by kernel_rfl))⟩,
 f24:=⟨Tryz.f209.name,by decide,Tryz.func209.trans (congrArg some (by kernel_rfl))⟩,
 f25:=⟨Tryz.f210.name,by decide,Tryz.func210.trans (congrArg some (by kernel_rfl))⟩,
 f26:=⟨Tryz.f211.name,by decide,Tryz.func211.trans (congrArg some (by kernel_rfl))⟩,
 f27:=⟨Tryz.f212.name,by decide,Tryz.func212.trans (congrArg some (by kernel_rfl))⟩,
 f28:=Tryz.func192.trans (congrArg some (by kernel_rfl)),
 f29:=Tryz.func193.trans (congrArg some (by kernel_rfl)),
 f46:=⟨Tryz.f216.name,by decide,Tryz.func216.trans (congrArg some (by kernel_rfl))⟩,
 f47:=Tryz.func201.trans (congrArg some (by kernel_rfl)),
 f48:=Tryz.func202.trans (congrArg some (by kernel_rfl)),
 f49:=⟨Tryz.f217.name,by decide,Tryz.func217.trans (congrArg some (by kernel_rfl))⟩,
 f50:=⟨Tryz.f218.name,by decide,Tryz.func218.trans (congrArg some (by kernel_rfl))⟩,
 f57:=⟨Tryz.f219.name,by decide,Tryz.func219.trans (congrArg some (by kernel_rfl))⟩,
 t0:=Tryz.underlying0,
 a0:=Tryz.isAgg0,
 z0:=Tryz.sizeOf0,
 v0:=Tryz.zeroValue0,
 t3:=Tryz.underlying3,
 a3:=Tryz.isAgg3,
 z3:=Tryz.sizeOf3,
 v3:=Tryz.zeroValue3,
 t4:=Tryz.underlying4,
 a4:=Tryz.isAgg4,
 z4:=Tryz.sizeOf4,
 v4:=Tryz.zeroValue4,
 t5:=Tryz.underlying5,
 a5:=Tryz.isAgg5,
 z5:=Tryz.sizeOf5,
 v5:=Tryz.zeroValue5,
 t9:=Tryz.underlying9,
 a9:=Tryz.isAgg9,
 z9:=Tryz.sizeOf9,
 v9:=Tryz.zeroValue9,
 t22:=Tryz.underlying26,
 a22:=Tryz.isAgg26,
 z22:=Tryz.sizeOf26,
 v22:=Tryz.zeroValue26,
 t25:=Tryz.underlying93,
 a25:=Tryz.isAgg93,
 z25:=Tryz.sizeOf93,
 v25:=Tryz.zeroValue93,
 t39:=Tryz.underlying164,
 a39:=Tryz.isAgg164,
 z39:=Tryz.sizeOf164,
 v39:=Tryz.zeroValue164,
 t45:=Tryz.underlying180,
 a45:=Tryz.isAgg180,
 z45:=Tryz.sizeOf180,
 v45:=Tryz.zeroValue180,
 t46:=Tryz.underlying181,
 a46:=Tryz.isAgg181,
 z46:=Tryz.sizeOf181,
 v46:=Tryz.zeroValue181,
 t50:=Tryz.underlying158,
 a50:=Tryz.isAgg158,
 z50:=Tryz.sizeOf158,
 v50:=Tryz.zeroValue158,
 t53:=Tryz.underlying187,
 a53:=Tryz.isAgg187,
 z53:=Tryz.sizeOf187,
 v53:=Tryz.zeroValue187,
 t55:=Tryz.underlying174,
 a55:=Tryz.isAgg174,
 z55:=Tryz.sizeOf174,
 v55:=Tryz.zeroValue174,
 t66:=Tryz.underlying193,
 a66:=Tryz.isAgg193,
 z66:=Tryz.sizeOf193,
 v66:=Tryz.zeroValue193,
 t70:=Tryz.underlying197,
 a70:=Tryz.isAgg197,
 z70:=Tryz.sizeOf197,
 v70:=Tryz.zeroValue197,
 t76:=Tryz.underlying204,
 a76:=Tryz.isAgg204,
 z76:=Tryz.sizeOf204,
 v76:=Tryz.zeroValue204,
 t77:=Tryz.underlying205,
 a77:=Tryz.isAgg205,
 z77:=Tryz.sizeOf205,
 v77:=Tryz.zeroValue205 }
end Go.Proofs.YtibdknkacmimgaaGreatDoor
set_option maxRecDepth 100000
set_option linter.unusedSimpArgs false
set_option linter.unusedVariables false
set_option linter.unusedSectionVars false
namespace Go.Proofs.YtibdknkacmimgaaGreatDoor
open Go.RowKit Go.Shelf Go.Lib Go.Sort
mutual
theorem Tm.o_inj:∀ x y:Tm,Tm.o x=Tm.o y→x=y
 | .mk n xs,.mk m ys,h=>by
  rw [Tm.o_eq,Tm.o_eq] at h
  simp only [List.cons.injEq,OT.str.injEq,OT.ow.injEq,and_true] at h
  have h1:n=m:=h.1
  rw [h1,Tm.os_inj xs ys h.2]
theorem Tm.os_inj:∀ xs ys:List Tm,xs.map Tm.o=ys.map Tm.o→xs=ys
 | [],[],_=>rfl
 | [],y :: ys,h=>by simp at h
 | x :: xs,[],h=>by simp at h
 | x :: xs,y :: ys,h=>by
  simp only [List.map_cons,List.cons.injEq] at h
  rw [Tm.o_inj x y h.1,Tm.os_inj xs ys h.2]
end
theorem Lt.o_inj (x y:Lt) (h:Lt.o x=Lt.o y):x=y:=by
 rw [Lt.o_eq,Lt.o_eq] at h
 simp only [List.cons.injEq,OT.bool.injEq,OT.str.injEq,OT.ow.injEq,and_true] at h
 obtain ⟨p,⟨n,xs⟩⟩:=x
 obtain ⟨q,⟨m,ys⟩⟩:=y
 obtain ⟨h1,h2,h3⟩:=h
 have h1:p=q:=h1
 have h2:n=m:=h2
 rw [h1,h2,Tm.os_inj xs ys h3]
theorem Lt.os_inj:∀ {xs ys:List Lt},xs.map Lt.o=ys.map Lt.o→xs=ys
 | [],[],_=>rfl
 | [],y :: ys,h=>by simp at h
 | x :: xs,[],h=>by simp at h
 | x :: xs,y :: ys,h=>by
  simp only [List.map_cons,List.cons.injEq] at h
  rw [Lt.o_inj x y h.1,Lt.os_inj h.2]
theorem XB:∀ xs:List Tm,(∀ x∈xs,OT.Dc (Tm.o x)=true)→OT.AN (xs.map Tm.o)=true
 | [],_=>rfl
 | x :: xs,h=>by
  simp only [List.map_cons,OT.AN]
  rw [h x (by simp),XB xs fun y hy=>h y (by simp [hy])]; rfl
theorem lfu (x:Tm):OT.Dc (Tm.o x)=true:=by
 have h:=XB x.args fun y hy=>lfu y
 rw [Tm.o_eq]
 simp only [OT.Dc,OT.full,h,Bool.and_self,Bool.and_true]
termination_by SizeOf.sizeOf x
decreasing_by exact Tm.Aw hy
noncomputable def unL (es:List (List OT)):List Lt:=match Classical.propDecidable (∃ xs:List Lt,es=xs.map Lt.o) with
 | .isTrue h=>Classical.choose h
 | .isFalse _=>[]
theorem P0 (xs:List Lt):unL (xs.map Lt.o)=xs:=by
 unfold unL
 split
 ·rename_i h _
  exact (Lt.os_inj (Classical.choose_spec h)).symm
 ·rename_i h _
  exact absurd ⟨xs,rfl⟩ h
theorem Lt.M5 {x y z:Lt} (h:x.cmp y≤0) (k:y.cmp z≤0):x.cmp z≤0:=by
 by_cases h0:x.cmp y=0
 ·rw [(Lt.cmp_ord x y z).zero.1 h0]; exact k
 ·by_cases k0:y.cmp z=0
  ·rw [←(Lt.cmp_ord y z z).zero.1 k0]; exact h
  ·have:=(Lt.cmp_ord x y z).trans (by omega) (by omega)
   omega
noncomputable def M6 (xs:List Lt):List Lt:=xs.mergeSort fun x y=>decide (x.cmp y≤0)
def M7 (xs:List Lt):Prop:=xs.Pairwise fun x y=>x.cmp y≤0
theorem M8:∀ {xs ys:List Lt},xs.Perm ys→M7 xs→M7 ys→xs=ys
  | [],ys,h,_,_=>(List.nil_perm.1 h).symm
  | x :: xs,[],h,_,_=>by simp at h
  | x :: xs,y :: ys,h,h1,h2=>by
    have hx:x.cmp y≤0:=by
      have hm:y∈x :: xs:=h.mem_iff.2 (by simp)
      rcases List.mem_cons.1 hm with e | hm
      · subst e
        have:=(Lt.cmp_ord y y y).zero.2 rfl
        omega
      · exact (List.pairwise_cons.1 h1).1 y hm
    have hy:y.cmp x≤0:=by
      have hm:x∈y :: ys:=h.mem_iff.1 (by simp)
      rcases List.mem_cons.1 hm with e | hm
      · subst e
        have:=(Lt.cmp_ord x x x).zero.2 rfl
        omega
      · exact (List.pairwise_cons.1 h2).1 x hm
    have ha:=(Lt.cmp_ord x y y).anti
    have e:x=y:=(Lt.cmp_ord x y y).zero.1 (by omega)
    subst e
    rw [M8 ((List.perm_cons x).1 h) (List.pairwise_cons.1 h1).2 (List.pairwise_cons.1 h2).2]
theorem G4 (xs:List Lt):(M6 xs).Perm xs:=List.mergeSort_perm _ _
theorem OI (xs:List Lt):M7 (M6 xs):=by
 have h:=List.pairwise_mergeSort (le:=fun x y:Lt=>decide (x.cmp y≤0)) (fun a b c h k=>by
  simp only [decide_eq_true_eq] at h k ⊢
  exact Lt.M5 h k) (fun a b=>by
  have:=(Lt.cmp_ord a b b).anti
  simp only [Bool.or_eq_true,decide_eq_true_eq]
  omega) xs
 exact h.imp fun h=>by simpa using h
theorem VK (g:Nat):¬ (Ao ([]:List Ob) g).live:=fun h=>by
 have e:Ao ([]:List Ob) g=.free:=rfl
 rw [e] at h
 exact h
theorem QcR {W:World} {J:Nat→Prop} (h:∀ b,J b→b<W.heap.size) (hg:GL W J):Wf W J (fun _=>none) (fun _ _=>False) (Ao []) :=
 ⟨h,fun g hl=>(VK g hl).elim,fun g b hl=>(VK g hl).elim,fun g b hl=>(VK g hl).elim,fun g g' b hl=>(VK g hl).elim,fun g _=>rfl,hg⟩
theorem grown_of {W w':World} (h:Below W.heap.size W w') (hd:W.drawn≤w'.drawn):∃ q os',w'=Sort.grow (W.drewN q) os':=by
 obtain ⟨⟨d,os⟩,e⟩:=regrown_of_below h
 refine ⟨d-W.drawn,os,?_⟩
 have hd':w'.drawn=d:=by rw [e]; rfl
 have e2:redrawn W d=W.drewN (d-W.drawn):=by
  unfold redrawn World.drewN
  rw [show W.drawn+(d-W.drawn)=d by omega]
 rw [e]
 show Sort.grow (redrawn W d) os=_
 rw [e2]
theorem Td [Flag] {f:FuncId} {x y z:SV} (hF:Fun Tryz.prog f [x,y] [] z []) {W:World} {J:Nat→Prop} (hJ:∀ b,J b→b<W.heap.size) (hg:GL W J) {vx vy:Value} (hx:RepV W J (fun _=>none) x vx) (hy:RepV W J (fun _=>none) y vy) :
  Calls Tryz.prog f #[vx,vy] W fun e w'=>(∃ v I' V',e=.returned v∧RepV w' I' V' z v)∧Below W.heap.size W w'∧(Flag.d→W.drawn≤w'.drawn):=by
 have h:=hF W J (fun _=>none) (fun _ _=>False) [vx,vy] (QcR hJ hg) (by simp only [RepVs]; exact ⟨vx,_,rfl,hx,vy,_,rfl,hy,rfl⟩)
 refine h.mono ?_
 rintro e w' ⟨v,I',V',B',rfl,hr,hp⟩
 exact ⟨⟨v,I',V',rfl,hr⟩,⟨hp.fr.os,hp.fr.tape.1,hp.fr.output,hp.fr.size,fun b hb=>hp.fr.block b hb fun ⟨g,hl,_⟩=>VK g hl⟩,hp.fr.tape.2⟩
theorem QcS {f:FuncId} {x y:SV} {z:Int} (hF:QcK Tryz.prog f [x,y] [] (.int .i64 z) []) {W:World} {J:Nat→Prop} (hJ:∀ b,J b→b<W.heap.size) (hg:GL W J) {vx vy:Value} (hx:RepV W J (fun _=>none) x vx) (hy:RepV W J (fun _=>none) y vy) :
  Calls Tryz.prog f #[vx,vy] W fun e w'=>e=.returned (.int .i64 z)∧∃ q os',w'=Sort.grow (W.drewN q) os':=by
 refine (@Td Px f x y _ hF W J hJ hg vx vy hx hy).mono ?_
 rintro e w' ⟨⟨v,I',V',rfl,hr⟩,hb,hd⟩
 simp only [RepV] at hr
 subst hr
 exact ⟨rfl,grown_of hb (hd trivial)⟩
theorem QdF {f:FuncId} {x y:SV} {z:Bool} (hF:Fun Tryz.prog f [x,y] [] (.bool z) []) {W:World} {J:Nat→Prop} (hJ:∀ b,J b→b<W.heap.size) (hg:GL W J) {vx vy:Value} (hx:RepV W J (fun _=>none) x vx) (hy:RepV W J (fun _=>none) y vy) :
  Calls Tryz.prog f #[vx,vy] W (Ret W (.bool z)):=by
 refine (Td hF hJ hg hx hy).mono ?_
 rintro e w' ⟨⟨v,I',V',rfl,hr⟩,hb,_⟩
 simp only [RepV] at hr
 subst hr
 exact ⟨rfl,hb⟩
theorem Zk {α:Type} (d:Array α) (n:Nat) (h:d.size=n):d.extract 0 n=d:=by
 subst h
 exact Array.extract_size
theorem Qbu {w:World} {I S:Nat→Prop} {b:Nat} {cur:Array Value} {Sub:Nat→Nat→Nat→Prop} {xs:List Lt}
    (h5:∀ i j x,Sub i j x→S x∧x≠b) (h7:∀ i j (h:i<(xs.map Lt.o).length) (h':j<(xs.map Lt.o)[i].length),ORep w I (Sub i j) ((xs.map Lt.o)[i][j]) (cur.getD (i*3+j) undef)) (i:Nat) (hi:i<xs.length) :
    ∃ (a:Option Addr) (l c:Nat),cur.getD (i*3+0) undef=.bool xs[i].pos∧cur.getD (i*3+1) undef=.string xs[i].atom.name∧cur.getD (i*3+2) undef=.slice a l c ∧
      RepV w (fun x=>I x∨(S x∧x≠b)) (fun _=>none) xs[i].sv (.agg #[.bool xs[i].pos,.string xs[i].atom.name,.slice a l c]):=by
  have hi':i<(xs.map Lt.o).length:=by simpa using hi
  have he:(xs.map Lt.o)[i]=[.bool xs[i].pos,.str xs[i].atom.name,.ow (xs[i].atom.args.map Tm.o)]:=by rw [List.getElem_map,Lt.o_eq]
  have l0:=h7 i 0 hi' (by rw [he]; simp)
  have l1:=h7 i 1 hi' (by rw [he]; simp)
  have l2:=h7 i 2 hi' (by rw [he]; simp)
  simp only [he,List.getElem_cons_zero,List.getElem_cons_succ] at l0 l1 l2
  obtain ⟨a,l,c,e2⟩:=l2.owV
  have e0:cur.getD (i*3+0) undef=.bool xs[i].pos:=by cases h:cur.getD (i*3+0) undef <;> rw [h] at l0 <;> cases l0 <;> rfl
  have e1:cur.getD (i*3+1) undef=.string xs[i].atom.name∧xs[i].atom.name.size≤9223372036854775807:=by
    cases h:cur.getD (i*3+1) undef <;> rw [h] at l1 <;> cases l1
    exact ⟨rfl,by assumption⟩
  refine ⟨a,l,c,e0,e1.1,e2,?_⟩
  rw [e2] at l2
  have hd:=l2.er (T:=fun x=>I x∨(S x∧x≠b)) (fun x hx=>.inr (h5 _ _ _ hx)) (fun x hx=>.inl hx) (by
    simp only [OT.full]
    exact XB _ fun y _=>lfu y)
  simp only [OT.er,Tm.erss] at hd
  simp only [RepV,RepVs]
  exact ⟨_,rfl,_,_,rfl,rfl,_,_,rfl,⟨rfl,e1.2⟩,_,_,rfl,hd,rfl⟩
noncomputable def Hs (xs:List SV) (ob:List Ob):Option (SV × List Ob) :=
 match xs,ob with
 | [.ref 0,.fn f []],[.row t sz es]=>bif dec (f=83∧sz=3∧es.length≤1099511627776∧∃ xs:List Lt,es=xs.map Lt.o∧∀ x∈xs,∀ y∈xs,QcK Tryz.prog f [x.sv,y.sv] [] (.int .i64 (x.cmp y)) []) then some (.tup [],[.row t sz ((M6 (unL es)).map Lt.o)]) else none
 | [.nil,.fn f []],[]=>bif dec (f=83) then some (.tup [],[]) else none
 | _,_=>none
theorem Qel (n:Nat) (key:_root_.Fin n→Lt):SWO (ltOf fun x y=>(key x).cmp (key y)):=by
 refine ⟨fun x=>?_,fun x y z h k=>?_,fun x y z h k=>?_⟩
 ·show decide ((key x).cmp (key x)<0)=false
  rw [(Lt.cmp_ord (key x) (key x) (key x)).zero.2 rfl]; rfl
 ·unfold ltOf at *
  simp only [decide_eq_true_eq] at *
  exact (Lt.cmp_ord _ _ _).trans h k
 ·unfold ltOf at *
  simp only [decide_eq_false_iff_not] at *
  have a1:=(Lt.cmp_ord (key x) (key y) (key y)).anti
  have a2:=(Lt.cmp_ord (key y) (key z) (key z)).anti
  have a3:=(Lt.cmp_ord (key x) (key z) (key z)).anti
  have:=Lt.M5 (x:=key z) (y:=key y) (z:=key x) (by omega) (by omega)
  omega
theorem TW {xs:List SV} {ob:List Ob} {r:SV} {ob':List Ob} (h:Hs xs ob=some (r,ob')):Fun Tryz.prog 170 xs ob r ob':=by
  unfold Hs at h
  split at h
  · rename_i f t sz es
    obtain ⟨h1,h2⟩:=Ap h
    obtain ⟨rfl,rfl,hk3,xs,rfl,hF⟩:=Au.1 h1
    simp only [Option.some.injEq,Prod.mk.injEq] at h2
    obtain ⟨rfl,rfl⟩:=h2
    rw [P0]
    rw [List.length_map] at hk3
    intro w I V B vs hwf hvs
    obtain ⟨v,q,rfl,hv,hvs⟩:=AT hvs
    obtain ⟨v2,q,rfl,hv2,hvs⟩:=AT hvs
    obtain rfl:=GI hvs
    simp only [RepV] at hv hv2
    obtain ⟨vs2,rfl,hv2⟩:=hv2
    simp only [RepVs] at hv2
    subst hv2
    obtain ⟨val,hval,hrow⟩:=hwf.obj 0 trivial
    rw [hv.1] at hval
    obtain rfl:=Option.some.inj hval
    have hv0:=hv.1
    have hrow:RowR w I (B 0) t 3 (xs.map Lt.o) v:=hrow
    rcases Nat.eq_zero_or_pos xs.length with h0 | h0
    · have he:xs=[]:=List.eq_nil_of_length_eq_zero h0
      subst he
      obtain ⟨a,c,rfl,_⟩:=hrow.form
      have hcon:=AnyF.slices_SortFunc_none Qx a c (.func (.func 83) #[] #[]) w
      change Calls Tryz.prog 170 _ _ _ at hcon
      refine hcon.mono ?_
      rintro e w' ⟨rfl,rfl⟩
      have e0:M6 []=[]:=List.mergeSort_nil
      rw [e0]
      exact ⟨_,I,V,B,rfl,by simp only [RepV,RepVs]; exact ⟨[],rfl,rfl⟩,Kb hwf⟩
    · rcases hrow with ⟨he,_⟩ | ⟨b,cap,cur,Sub,rfl,hs,hb,g1,g2,g3,g4,g5,g6,g7⟩
      · simp only [List.map_eq_nil_iff] at he
        subst he; simp at h0
      have hblt:=(Array.getElem?_eq_some_iff.1 hb).1
      have view:=fun i hi=>Qbu (xs:=xs) (S:=B 0) g5 g7 i hi
      rw [List.length_map] at g1
      haveI:Inhabited (_root_.Fin xs.length):=⟨⟨0,h0⟩⟩
      let cell:Nat→Nat→Value:=fun i j=>cur.getD (i*3+j) undef
      let enc:_root_.Fin xs.length→List Value:=fun i=>[cell i 0,cell i 1,cell i 2]
      let d:Array (_root_.Fin xs.length):=(List.finRange xs.length).toArray
      have hdsz:d.size=xs.length:=by simp [d]
      have hdget:∀ i (hi:i<xs.length),d[i]! = ⟨i,hi⟩:=fun i hi=>by
        rw [getElem!_pos d i (by rw [hdsz]; exact hi)]
        simp [d]
      have hJb:∀ x,(I x∨(B 0 x∧x≠b))→x≠b:=fun x hx=>by
        rcases hx with hx | hx
        · intro e; subst e; exact hwf.dI 0 x trivial hs hx
        · exact hx.2
      have hJl:∀ x,(I x∨(B 0 x∧x≠b))→x<w.heap.size:=fun x hx=>by
        rcases hx with hx | hx
        · exact hwf.ilt x hx
        · exact hwf.lt 0 x trivial hx.1
      have forms:∀ i:_root_.Fin xs.length,∃ (a:Option Addr) (l c:Nat),enc i=[.bool xs[i].pos,.string xs[i].atom.name,.slice a l c]∧RepV w (fun x=>I x∨(B 0 x∧x≠b)) (fun _=>none) xs[i].sv (.agg #[.bool xs[i].pos,.string xs[i].atom.name,.slice a l c]):=fun i=>by
        obtain ⟨a,l,c,e0,e1,e2,hr⟩:=view i i.2
        refine ⟨a,l,c,?_,hr⟩
        show [cell i 0,cell i 1,cell i 2]=_
        rw [show cell i 0=_ from e0,show cell i 1=_ from e1,show cell i 2=_ from e2]
        rfl
      have hlen:∀ x,(enc x).length=3:=fun _=>rfl
      have hone:∀ x,∀ v∈enc x,v.oneCell'=true:=fun x v hv=>by
        obtain ⟨a,l,c,e,_⟩:=forms x
        rw [e] at hv
        simp only [List.mem_cons,List.not_mem_nil,or_false] at hv
        rcases hv with rfl | rfl | rfl <;> rfl
      have hH:HoldsK enc 3 w b 0 d:=by
        intro j hj
        rw [size_flatK] at hj
        have hq:j / 3<d.size:=by omega
        have hq':j / 3<xs.length:=by rw [←hdsz]; exact hq
        have hlt:j<cur.size:=by rw [g3]; have:=Nat.mul_le_mul_right 3 g1; omega
        refine ⟨?_,?_⟩
        · rw [Nat.zero_add,cell_of_row w b _ _ _ _ hb,get_flatK enc 3 d j hj,hdget _ hq']
          show cur[j]?=some ([cell (j / 3) 0,cell (j / 3) 1,cell (j / 3) 2][j % 3]!)
          have hm:j % 3=0∨j % 3=1∨j % 3=2:=by omega
          have e:cur[j]?=some (cell (j / 3) (j % 3)):=by
            show cur[j]?=some (cur.getD (j / 3*3+j % 3) undef)
            rw [show j / 3*3+j % 3=j by omega,Array.getElem?_eq_getElem hlt]
            simp [Array.getD_eq_getD_getElem?,hlt]
          rw [e]
          rcases hm with hm | hm | hm <;> rw [hm] <;> rfl
        · unfold World.frozen?
          rw [hb]
          simp
      have hcmp:CmpLays Tryz.prog 83 #[] enc 3 (fun x y=>xs[x].cmp xs[y]) b 0 d.size w:=by
        intro m os dk _ x y
        obtain ⟨a,l,c,e,hrx⟩:=forms x
        obtain ⟨a',l',c',e',hry⟩:=forms y
        have hsz:=size_sortWorldK_c enc 3 w b 0 m dk os
        have hk:KeepS (fun x=>I x∨(B 0 x∧x≠b)) w (sortWorldK enc 3 w b 0 m dk os):=⟨hsz,fun x hx hlt=>by rw [IZ enc 3 w b m _ os x hlt,if_neg (fun e=>hJb x hx e.symm)]⟩
        have hc:=QcS (hF xs[x] (List.getElem_mem _) xs[y] (List.getElem_mem _)) (W:=sortWorldK enc 3 w b 0 m dk os) (J:=fun x=>I x∨(B 0 x∧x≠b)) (fun x hx=>Nat.lt_of_lt_of_le (hJl x hx) hsz) (hwf.gl.keep ⟨hsz,fun x hx hlt=>hk.block x (.inl hx) hlt⟩ fun x hx=>.inl hx) (RepV.mono hk (fun _ h=>h) (VLe.refl _) _ _ hrx) (RepV.mono hk (fun _ h=>h) (VLe.refl _) _ _ hry)
        rw [e,e']
        exact hc
      have eg:∀ args w,(callFunc 83 args).run Tryz.prog w=.ok (.enter 83 args) w:=enters_of Tryz.func83 (by kernel_rfl) rfl
      have hcon:=AnyQ.slices_SortFunc Qx 3 Tryz.isAgg73 Tryz.sizeOf73 enc hlen hone (fun x y=>xs[x].cmp xs[y]) (Qel _ fun i=>xs[i]) 83 #[] b 0 cap d w eg hcmp hH hblt (by rw [hdsz]; omega)
      change Calls Tryz.prog 170 _ _ _ at hcon
      rw [hdsz] at hcon
      rw [List.length_map]
      refine hcon.mono ?_
      rintro e w' ⟨rfl,d',m,os,hp,hsd,rfl⟩
      refine ⟨_,I,V,B,rfl,by simp only [RepV,RepVs]; exact ⟨[],rfl,rfl⟩,?_⟩
      obtain ⟨hp1,_,hp3⟩:=hp
      rw [hdsz] at hp1
      obtain ⟨L,rfl⟩:∃ L:List (_root_.Fin xs.length),d'=L.toArray:=⟨d'.toList,by simp⟩
      have hLp:L.Perm (List.finRange xs.length):=by
        rw [Zk _ _ hp1,Zk d _ hdsz] at hp3
        exact hp3
      have hLl:L.length=xs.length:=by rw [hLp.length_eq]; simp
      have hLn:L.Nodup:=hLp.nodup_iff.2 (List.nodup_finRange _)
      have hes:M6 xs=L.map fun i=>xs[i]:=by
        have e:(List.finRange xs.length).map (fun i=>xs[i])=xs:=by
          apply List.ext_getElem
          · simp
          · intro i h1 h2; simp
        refine (M8 ?_ ?_ (OI xs)).symm
        · refine List.Perm.trans (hLp.map _) ?_
          rw [e]
          exact (G4 xs).symm
        · unfold M7
          rw [List.pairwise_map,List.pairwise_iff_getElem]
          intro i j hi hj hij
          have:=hsd i j (Nat.zero_le _) hij (by omega)
          rw [getElem!_pos L.toArray i (by simpa using hi),getElem!_pos L.toArray j (by simpa using hj)] at this
          simp only [List.getElem_toArray,ltOf,decide_eq_false_iff_not] at this
          have a1:=(Lt.cmp_ord xs[L[i]] xs[L[j]] xs[L[j]]).anti
          omega
      rw [hes]
      have hg:∀ i (hi:i<L.length) (j:Nat),j<3→(putCells id 0 (flatK enc 3 L.toArray) cur).getD (i*3+j) undef=cell L[i] j:=fun i hi j hj=>by
        have:=OH enc 3 L.toArray cur (i:=i) (j:=j) (by simpa using hi) hj (by rw [g3]; simp only [List.size_toArray,hLl]; exact Nat.mul_le_mul_right 3 g1)
        rw [this,getElem!_pos L.toArray i (by simpa using hi)]
        simp only [List.getElem_toArray]
        show [cell L[i] 0,cell L[i] 1,cell L[i] 2][j]! = _
        have hm:j=0∨j=1∨j=2:=by omega
        rcases hm with rfl | rfl | rfl <;> rfl
      have hgrow:∀ x,x<w.heap.size→x≠b→(sortWorldK enc 3 w b 0 m L.toArray os).heap[x]?=w.heap[x]?:=fun x hx hne=>by
        rw [IZ enc 3 w b m _ os x hx,if_neg (fun e=>hne e.symm)]
      have hlx:∀ i:_root_.Fin xs.length,(Lt.o xs[i]).length=3:=fun i=>by rw [Lt.o_eq]; rfl
      refine Zj (es':=(L.map fun i=>xs[i]).map Lt.o) (fun i j x=>∃ h:i<L.length,Sub (L[i]).val j x) hwf hv0 (by rw [List.length_map,List.length_map,List.length_map,hLl]) hs hb (by rw [List.length_map]; exact g1) g2 g3 (fun i hi=>by rw [List.getElem_map,List.getElem_map]; exact hlx _) (fun i j x h=>g5 _ _ _ h.2) (fun i j i' j' x h h'=>?_) rfl ⟨rfl,fun h=>False.elim h⟩ rfl (size_sortWorldK_c enc 3 w b 0 m L.toArray os) hgrow (OG enc 3 w b m L.toArray os hb) (by simp [putCells]) (fun i j hi hj=>?_)
      · obtain ⟨a1,a2⟩:=h
        obtain ⟨b1,b2⟩:=h'
        obtain ⟨c1,c2⟩:=g6 _ _ _ _ _ a2 b2
        exact ⟨(List.getElem_inj hLn).1 (_root_.Fin.ext c1),c2⟩
      · have hi':i<L.length:=by simpa using hi
        have e1:((L.map fun i=>xs[i]).map Lt.o)[i]=(xs.map Lt.o)[(L[i]).val]'(by rw [List.length_map]; exact (L[i]).2):=by simp only [List.getElem_map]; rfl
        have hj':j<3:=by rw [e1] at hj; have:=g4 (L[i]).val (by rw [List.length_map]; exact (L[i]).2); omega
        rw [hg i hi' j hj']
        have:=g7 (L[i]).val j (by rw [List.length_map]; exact (L[i]).2) (by rw [g4]; exact hj')
        have hk:KeepS I w (sortWorldK enc 3 w b 0 m L.toArray os):=⟨size_sortWorldK_c enc 3 w b 0 m _ os,fun x hx hlt=>hgrow x hlt fun e=>hwf.dI 0 x trivial (e▸hs) hx⟩
        have h2:=(this.keep hk (fun _ h=>h) (fun x hx hlt=>hgrow x hlt (g5 _ _ _ hx).2)).up (S':=fun x=>∃ h:i<L.length,Sub (L[i]).val j x) (fun x hx=>⟨hi',hx⟩)
        simp only [e1]
        exact h2
  · rename_i f
    obtain ⟨h1,h2⟩:=Ap h
    obtain rfl:=Au.1 h1
    simp only [Option.some.injEq,Prod.mk.injEq] at h2
    obtain ⟨rfl,rfl⟩:=h2
    intro w I V B vs hwf hvs
    obtain ⟨v,q,rfl,hv,hvs⟩:=AT hvs
    obtain ⟨v2,q,rfl,hv2,hvs⟩:=AT hvs
    obtain rfl:=GI hvs
    simp only [RepV] at hv hv2
    obtain ⟨vs2,rfl,hv2⟩:=hv2
    simp only [RepVs] at hv2
    subst hv2 hv
    have hcon:=AnyF.slices_SortFunc_none Qx none 0 (.func (.func 83) #[] #[]) w
    change Calls Tryz.prog 170 _ _ _ at hcon
    refine hcon.mono ?_
    rintro e w' ⟨rfl,rfl⟩
    exact ⟨_,I,V,B,rfl,by simp only [RepV,RepVs]; exact ⟨[],rfl,rfl⟩,Kb hwf⟩
  · cases h
end Go.Proofs.YtibdknkacmimgaaGreatDoor
set_option maxRecDepth 100000
set_option linter.unusedSimpArgs false
set_option linter.unusedVariables false
set_option linter.unusedSectionVars false
namespace Go.Proofs.YtibdknkacmimgaaGreatDoor
open Go.RowKit Go.Shelf
def DE (eq:Nat→Nat→Bool) (i:Nat):Bool:=i == 0 || !eq i (i-1)
def kept (eq:Nat→Nat→Bool) (m:Nat):List Nat:=(List.range m).filter (DE eq)
theorem NL (eq:Nat→Nat→Bool) (m:Nat):kept eq (m+1)=if DE eq m then kept eq m++[m] else kept eq m:=by
 unfold kept
 rw [List.range_succ,List.filter_append]
 cases h:DE eq m <;> simp [h]
theorem Zl (eq:Nat→Nat→Bool) (m:Nat):(kept eq m).length≤m:=by
 have:=List.length_filter_le (DE eq) (List.range m)
 simpa [kept] using this
theorem Qy {eq:Nat→Nat→Bool} {m:Nat} (h:∀ i,i<m→DE eq i=true):kept eq m=List.range m:=by
 unfold kept
 exact List.filter_eq_self.2 fun i hi=>h i (List.mem_range.1 hi)
structure RowOnly (w:World) (b:Nat) (t:TypeId) (cur:Array Value) (w':World):Prop where
 os:w'.os=w.os
 tape:w'.tape=w.tape
 output:w'.output=w.output
 size:w.heap.size≤w'.heap.size
 block:∀ x,x<w.heap.size→x≠b→w'.heap[x]?=w.heap[x]?
 row:w'.heap[b]?=some (.cells cur t (0,0))
structure CompI (eq:Nat→Nat→Bool) (cur:Array Value) (m kk:Nat) (cur2:Array Value):Prop where
 len:kk=(kept eq m).length
 lt:kk<m
 size:cur2.size=cur.size
 low:∀ p (hp:p<(kept eq m).length) j,j<3→cur2.getD (p*3+j) undef=cur.getD ((kept eq m)[p]*3+j) undef
 high:∀ {q},kk*3≤q→cur2.getD q undef=cur.getD q undef
theorem CompI.start {eq:Nat→Nat→Bool} {cur:Array Value} {k:Nat} (h:kept eq (k+1)=List.range k):CompI eq cur (k+1) k cur :=
 ⟨by rw [h]; simp,by omega,rfl,fun p hp j hj=>by simp only [h,List.getElem_range],fun _=>rfl⟩
theorem CompI.skip {eq:Nat→Nat→Bool} {cur cur2:Array Value} {m kk:Nat} (h:CompI eq cur m kk cur2) (hk:DE eq m=false):CompI eq cur (m+1) kk cur2:=by
 have e:kept eq (m+1)=kept eq m:=by rw [NL,if_neg (by rw [hk]; simp)]
 exact ⟨by rw [e]; exact h.len,by have:=h.lt; omega,h.size,fun p hp j hj=>by simp only [e] at hp ⊢; exact h.low p hp j hj,h.high⟩
theorem RowOnly.below {w w1 w2:World} {b:Nat} {t:TypeId} {cur:Array Value} (h:RowOnly w b t cur w1) (k:Below w1.heap.size w1 w2) (hb:b<w1.heap.size):RowOnly w b t cur w2 :=
 ⟨k.os.trans h.os,k.tape.trans h.tape,k.output.trans h.output,Nat.le_trans h.size k.size,fun x hx hne=>by rw [k.block x (Nat.lt_of_lt_of_le hx h.size),h.block x hx hne],by rw [k.block b hb]; exact h.row⟩
theorem TX {w:World} {b:Nat} {cur:Array Value} {t:TypeId} (hb:w.heap[b]?=some (.cells cur t (0,0))) (o:Nat):w.frozen? ⟨b,o,none⟩=false:=by
 unfold World.frozen?
 rw [hb]
 simp
theorem Qbv {w:World} {b:Nat} {cur:Array Value} {t:TypeId} (hb:w.heap[b]?=some (.cells cur t (0,0))) {i j:Nat} (hlt:i*3+j<cur.size):w.cell? ⟨b,i*3+j,none⟩=some cur[i*3+j]:=by
 unfold World.cell?
 simp only [hb,Option.isSome_none,if_false]
 rw [Array.getElem?_eq_getElem hlt]
 rfl
theorem CompI.keep {eq:Nat→Nat→Bool} {cur cur2:Array Value} {m kk:Nat} (h:CompI eq cur m kk cur2) (hk:DE eq m=true) (hs:kk*3+2<cur2.size) {v0 v1 v2:Value} (e0:cur.getD (m*3+0) undef=v0) (e1:cur.getD (m*3+1) undef=v1) (e2:cur.getD (m*3+2) undef=v2) :
    CompI eq cur (m+1) (kk+1) (((cur2.setIfInBounds (kk*3) v0).setIfInBounds (kk*3+1) v1).setIfInBounds (kk*3+2) v2):=by
  have e:kept eq (m+1)=kept eq m++[m]:=by rw [NL,if_pos hk]
  have hl:=h.len
  have hget:∀ q,(((cur2.setIfInBounds (kk*3) v0).setIfInBounds (kk*3+1) v1).setIfInBounds (kk*3+2) v2).getD q undef=if q=kk*3+2 then v2 else if q=kk*3+1 then v1 else if q=kk*3 then v0 else cur2.getD q undef:=fun q=>by
    simp only [Array.getD_eq_getD_getElem?,Array.getElem?_setIfInBounds,Array.size_setIfInBounds]
    by_cases h2:kk*3+2=q
    · subst h2; simp [hs]
    · rw [if_neg h2,if_neg (show ¬ q=kk*3+2 from fun e=>h2 e.symm)]
      by_cases h1:kk*3+1=q
      · subst h1; simp [show kk*3+1<cur2.size by omega]
      · rw [if_neg h1,if_neg (show ¬ q=kk*3+1 from fun e=>h1 e.symm)]
        by_cases h0:kk*3=q
        · subst h0; simp [show kk*3<cur2.size by omega]
        · rw [if_neg h0,if_neg (show ¬ q=kk*3 from fun e=>h0 e.symm)]
  refine ⟨by rw [e]; simp [hl],by have:=h.lt; omega,by simp [h.size],fun p hp j hj=>?_,fun {q} hq=>?_⟩
  · simp only [e,List.length_append,List.length_singleton] at hp
    rw [hget]
    rcases Nat.lt_or_ge p (kept eq m).length with hlt | hge
    · rw [if_neg (by omega),if_neg (by omega),if_neg (by omega)]
      simp only [e,List.getElem_append_left hlt]
      exact h.low p hlt j hj
    · have hp2:p=kk:=by omega
      subst hp2
      have eg:(kept eq (m+1))[p]'(by rw [e]; simpa using hp)=m:=by
        simp only [e]
        rw [List.getElem_append_right (by omega)]
        simp [hl]
      rw [eg]
      have hj3:j=0∨j=1∨j=2:=by omega
      rcases hj3 with rfl | rfl | rfl
      · rw [if_neg (by omega),if_neg (by omega),if_pos (by omega),e0]
      · rw [if_neg (by omega),if_pos (by omega),e1]
      · rw [if_pos (by omega),e2]
  · rw [hget,if_neg (by omega),if_neg (by omega),if_neg (by omega)]
    exact h.high (by omega)
theorem RowOnly.set {w V:World} {b:Nat} {t:TypeId} {cur:Array Value} (h:RowOnly w b t cur V) (o:Nat) (v:Value):RowOnly w b t (cur.setIfInBounds o v) (V.setCell ⟨b,o,none⟩ v):=by
 refine ⟨h.os,h.tape,h.output,by simpa [World.setCell] using h.size,fun x hx hne=>?_,?_⟩
 ·simp only [World.setCell,Array.getElem?_modify]
  rw [if_neg (fun e=>hne e.symm)]
  exact h.block x hx hne
 ·simp only [World.setCell,Array.getElem?_modify,if_true,h.row,Option.map_some,Option.isSome_none,if_false]
  rfl
theorem RowOnly.setCells {w:World} {b:Nat} {t:TypeId}:∀ (vs:List Value) (o:Nat) {V:World} {cur:Array Value},RowOnly w b t cur V→∃ cur',RowOnly w b t cur' (V.setCells b o vs)∧cur'.size=cur.size∧∀ q,q<o→cur'.getD q undef=cur.getD q undef
 | [],o,V,cur,h=>⟨cur,h,rfl,fun _ _=>rfl⟩
 | v :: r,o,V,cur,h=>by
  obtain ⟨cur',h1,h2,h3⟩:=RowOnly.setCells r (o+1) (h.set o v)
  refine ⟨cur',h1,by simpa using h2,fun q hq=>?_⟩
  rw [h3 q (by omega)]
  simp only [Array.getD_eq_getD_getElem?,Array.getElem?_setIfInBounds]
  rw [if_neg (by omega)]
def Ga (n:Nat):List Value:=(Builtin.zeroCells #[.bool false,.string ⟨#[]⟩,.slice none 0 0] n).toList
theorem XC {n:Nat} {v:Value} (h:v∈Ga n):v.oneCell'=true:=by
 unfold Ga Builtin.zeroCells at h
 simp only [Array.toList_map,List.mem_map,Array.toList_range,List.mem_range] at h
 obtain ⟨i,_,rfl⟩:=h
 have hm:i % 3=0∨i % 3=1∨i % 3=2:=by omega
 show (#[Value.bool false,.string ⟨#[]⟩,.slice none 0 0][i % 3]!).oneCell'=true
 rcases hm with e | e | e <;> rw [e] <;> rfl
theorem Qz (n:Nat):(Ga n).length=n*3:=by
 unfold Ga Builtin.zeroCells
 simp
theorem Q0 (ty:TypeId) {w:World} {b:Nat} {cur:Array Value} {t:TypeId} {o n c:Nat} (hb:w.heap[b]?=some (.cells cur t (0,0))) (hn:0<n) (hl:o+n*3≤cur.size) :
  (Builtin.clear_ #[26] ty #[.slice (some ⟨b,o,none⟩) n c]).run Tryz.prog w=.ok (.tuple #[]) (w.setCells b o (Ga n)):=by
 have hv:=fun w=>Tryz.zeroValue73 w
 have hst:=run_storeCells_cells (P:=Tryz.prog) b o (Ga n) 0 w (fun j hj=>by
  rw [Qz] at hj
  have:o+j<cur.size:=by omega
  unfold World.cell?
  simp only [hb,Option.isSome_none,if_false,Nat.add_zero]
  rw [Array.getElem?_eq_getElem this]
  rfl) (fun j hj=>TX hb _) (fun v hv=>XC hv)
 simp only [Nat.add_zero] at hst
 obtain ⟨m,rfl⟩:∃ m,n=m+1:=⟨n-1,by omega⟩
 unfold Ga at hst ⊢
 simp [Builtin.clear_,Tryz.underlying26,hv,Value.cells,hst]
theorem Jx {w:World} {b:Nat} {cur:Array Value} {t:TypeId} (hb:w.heap[b]?=some (.cells cur t (0,0))) {i j:Nat} {v:Value} (hlt:i*3+j<cur.size) (hv:True) (h:cur.getD (i*3+j) undef=v):w.cell? ⟨b,i*3+j,none⟩=some v:=by
 unfold World.cell?
 simp only [hb,Option.isSome_none,if_false]
 rw [Array.getD_eq_getD_getElem?,Array.getElem?_eq_getElem hlt,Option.getD_some] at h
 rw [Array.getElem?_eq_getElem hlt,h]
 rfl
theorem Pd (n : Nat) (eq:Nat→Nat→Bool) (w:World) (b cap:Nat) (cur:Array Value) (t:TypeId) (hb:w.heap[b]?=some (.cells cur t (0,0))) (hsz:cur.size=cap*3) (hn:n≤cap) (hcap:cap≤9223372036854775807)
    (pB:Nat→Bool) (pS:Nat→ByteArray) (pA:Nat→Option Addr) (pL pC:Nat→Nat)
    (hc:∀ i,i<n→cur.getD (i*3+0) undef=.bool (pB i)∧cur.getD (i*3+1) undef=.string (pS i)∧cur.getD (i*3+2) undef=.slice (pA i) (pL i) (pC i))
    (hcall:∀ i j,i<n→j<n→∀ W,w.heap.size≤W.heap.size→(∀ x,x<w.heap.size→x≠b→W.heap[x]?=w.heap[x]?)→Calls Tryz.prog 101 #[.agg #[.bool (pB i),.string (pS i),.slice (pA i) (pL i) (pC i)],.agg #[.bool (pB j),.string (pS j),.slice (pA j) (pL j) (pC j)]] W (Ret W (.bool (eq i j)))) :
    Calls Tryz.prog 171 #[.slice (some ⟨b,0,none⟩) n cap,.func (.func 101) #[] #[]] w fun e w'=>e=.returned (.slice (some ⟨b,0,none⟩) (kept eq n).length cap)∧∃ cur',RowOnly w b t cur' w'∧cur'.size=cur.size∧∀ p (hp:p<(kept eq n).length) j,j<3→cur'.getD (p*3+j) undef=cur.getD ((kept eq n)[p]*3+j) undef:=by
  have hF:∀ (args:Array Value) (W:World),(callFunc 101 args).run Tryz.prog W=.ok (.enter 101 args) W:=enters_of Tryz.func101 (by kernel_rfl) rfl
  have hblt:=(Array.getElem?_eq_some_iff.1 hb).1
  have HC:=Lib.hid hcall
  clear hcall
  have HE:=Lib.hid hc
  clear hc
  by_cases h2:n<2
  · have hk:kept eq n=List.range n:=Qy fun i hi=>by
      have:i=0:=by omega
      subst this; rfl
    rw [hk]
    go_enter Tryz.func171,Tryz.ntmps171
    go_wp2
    go_ret
    refine ⟨by simp,cur,⟨rfl,rfl,rfl,Nat.le_refl _,fun _ _ _=>rfl,hb⟩,rfl,fun p hp j hj=>?_⟩
    simp
  · go_enter Tryz.func171,Tryz.ntmps171
    go_wp2
    go_loopg [5] n (fun g s5 wr=>∃ k:Nat,1≤k∧k≤n∧n-k≤g∧s5=.int .i64 k∧Below w.heap.size w wr∧∀ j,j<k→DE eq j=true)
    case atStart =>
      refine ⟨1,Nat.le_refl _,by omega,by omega,rfl,Below.refl _ _,fun j hj=>?_⟩
      obtain rfl:j=0:=by omega
      rfl
    case round =>
      have HB0:=Lib.hid hb
      obtain ⟨k,hk1,hk,hg,rfl,hbw,hall⟩:=hrel
      have HA:=Lib.hid hall
      clear hall
      have hzw:=hbw.size
      by_cases hlt:k<n
      · obtain ⟨e0,e1,e2⟩:=HE.out k hlt
        obtain ⟨d0,d1,d2⟩:=HE.out (k-1) (by omega)
        have hbr:wr.heap[b]?=some (.cells cur t (0,0)):=by rw [hbw.block b hblt]; exact hb
        have q0:=Jx hbr (i:=k) (j:=0) (by omega) trivial e0
        have q1:=Jx hbr (i:=k) (j:=1) (by omega) trivial e1
        have q2:=Jx hbr (i:=k) (j:=2) (by omega) trivial e2
        have r0:=Jx hbr (i:=k-1) (j:=0) (by omega) trivial d0
        have r1:=Jx hbr (i:=k-1) (j:=1) (by omega) trivial d1
        have r2:=Jx hbr (i:=k-1) (j:=2) (by omega) trivial d2
        have hbrz:b<wr.heap.size:=by omega
        simp only [Nat.add_zero] at q0 r0
        have z1:IntKind.i64.wrap ((k:Int)-1)=(k:Int)-1:=IntWalk.i64_in _ (by omega)
        have z2:(0:Int)≤(k:Int)-1:=by omega
        have z3:(1:Int)≤(k:Int):=by omega
        have z4:(k:Int)-1<(n:Int):=by omega
        have z5:((k:Int)-1).toNat=k-1:=by omega
        have HB:=Lib.hid hb
        clear hb hbr e0 e1 e2 d0 d1 d2
        go_wp2
        refine Flow.wp_region_flow 11 [(10,.fixed (.bool (eq k (k-1))))] [] (by kernel_rfl) (by kernel_rfl) (Mj rfl) ?_
        intro hgrow
        simp only [List.take_succ_cons,List.take_zero]
        repeat (first | ((with_reducible refine Flow.flow_quiet ?_ ?_ ?_); (focus (exact rfl)); (focus (exact rfl)); intro K hK; go_simp; refine hK _ ?_; clear hK K) | ((with_reducible refine Flow.flow_pass ?_); intro K hK; go_simp; (first | refine hK _ ?_ | (refine ⟨?_,hK _ ?_⟩; (focus (simp [undef]; done)))); clear hK K))
        refine Flow.flow_exact _ rfl (by go_simp) (fun W hW=>US (by go_simp) (HC.out k (k-1) hlt (by omega) _ (by have:=hW.size; omega) (fun x hx _=>by rw [hW.block x (by omega),hbw.block x hx]))) ?_
        repeat (first | ((with_reducible refine Flow.flow_quiet ?_ ?_ ?_); (focus (exact rfl)); (focus (exact rfl)); intro K hK; go_simp; refine hK _ ?_; clear hK K) | ((with_reducible refine Flow.flow_pass ?_); intro K hK; go_simp; (first | refine hK _ ?_ | (refine ⟨?_,hK _ ?_⟩; (focus (simp [undef]; done)))); clear hK K))
        with_reducible refine Flow.flow_nil ?_
        clear hgrow
        intro W hW _
        have hzW:=hW.size
        try simp at hzW
        obtain ⟨hcW,hfW⟩:=Qdr hW
        simp only [List.drop_succ_cons,List.drop_zero,List.drop_nil]
        have hWb:Below w.heap.size w W:=hbw.trans (hW.mono hzw)
        cases heq:eq k (k-1) with
        | false =>
          go_wp2
          go_roundg (n-(k+1))
          case measure=>omega
          case rel =>
            refine ⟨k+1,by omega,by omega,Nat.le_refl _,by go_num,hWb,fun j hj=>?_⟩
            by_cases e:j=k
            · subst e; unfold DE; rw [heq]; simp
            · exact HA.out j (by omega)
        | true =>
          have hkk:kept eq (k+1)=List.range k:=by
            rw [NL,Qy HA.out]
            unfold DE
            rw [heq]
            simp; omega
          have hb2:W.heap[b]?=some (.cells cur t (0,0)):=by rw [hWb.block b hblt]; exact HB.out
          clear q0 q1 q2 r0 r1 r2 z1 z2 z3 z4 z5 hcW hfW hzW hW
          go_wp2
          go_loopg [5,7] n (fun g s5 s7 wr2=>∃ (kk k2:Nat) (cur2:Array Value),s5=.int .i64 kk∧s7=.int .i64 k2∧1≤k2∧k+k2≤n∧n-(k+k2)≤g∧RowOnly w b t cur2 wr2∧CompI eq cur (k+k2) kk cur2)
          case atStart=>exact ⟨k,1,cur,rfl,rfl,Nat.le_refl _,by omega,by omega,⟨hWb.os,hWb.tape,hWb.output,hWb.size,fun x hx _=>hWb.block x hx,hb2⟩,CompI.start hkk⟩
          case round =>
            obtain ⟨kk,k2,cur2,rfl,rfl,hk2,hle,hg2,hro,hI⟩:=hrel
            have HI:=Lib.hid hI
            have HR:=Lib.hid hro
            have hkl:=hI.lt
            have hs2:=hI.size
            have hzr:=hro.size
            by_cases hlt2:k+k2<n
            · have hrow:=hro.row
              obtain ⟨e0,e1,e2⟩:=HE.out (k+k2) hlt2
              obtain ⟨d0,d1,d2⟩:=HE.out (k+k2-1) (by omega)
              rw [←hI.high (by omega)] at e0 e1 e2 d0 d1 d2
              have q0:=Jx hrow (i:=k+k2) (j:=0) (by omega) trivial e0
              have q1:=Jx hrow (i:=k+k2) (j:=1) (by omega) trivial e1
              have q2:=Jx hrow (i:=k+k2) (j:=2) (by omega) trivial e2
              have r0:=Jx hrow (i:=k+k2-1) (j:=0) (by omega) trivial d0
              have r1:=Jx hrow (i:=k+k2-1) (j:=1) (by omega) trivial d1
              have r2:=Jx hrow (i:=k+k2-1) (j:=2) (by omega) trivial d2
              rw [show (k+k2)*3=k*3+k2*3 by omega] at q0 q1 q2
              rw [show (k+k2-1)*3=k*3+(k2-1)*3 by omega] at r0 r1 r2
              simp only [Nat.add_zero] at q0 r0
              have hbz:b<wr.heap.size:=by omega
              have z1:IntKind.i64.wrap ((k2:Int)-1)=(k2:Int)-1:=IntWalk.i64_in _ (by omega)
              have z2:(0:Int)≤(k2:Int)-1:=by omega
              have z3:(1:Int)≤(k2:Int):=by omega
              have z4:(k2:Int)-1<((n-k:Nat):Int):=by omega
              have z5:((k2:Int)-1).toNat=k2-1:=by omega
              clear hI hro hrow e0 e1 e2 d0 d1 d2 hb2
              go_wp2
              refine Flow.wp_region_flow 12 [(10,.fixed (.bool (eq (k+k2) (k+k2-1))))] [] (by kernel_rfl) (by kernel_rfl) (Mj rfl) ?_
              intro hgrow
              simp only [List.take_succ_cons,List.take_zero]
              repeat (first | ((with_reducible refine Flow.flow_quiet ?_ ?_ ?_); (focus (exact rfl)); (focus (exact rfl)); intro K hK; go_simp; refine hK _ ?_; clear hK K) | ((with_reducible refine Flow.flow_pass ?_); intro K hK; go_simp; (first | refine hK _ ?_ | (refine ⟨?_,hK _ ?_⟩; (focus (simp [undef]; done)))); clear hK K))
              refine Flow.flow_exact _ rfl (by go_simp) (fun W hW=>US (by go_simp) (HC.out (k+k2) (k+k2-1) hlt2 (by omega) _ (by have:=hW.size; omega) (fun x hx hxb=>by rw [hW.block x (by omega),HR.out.block x hx hxb]))) ?_
              repeat (first | ((with_reducible refine Flow.flow_quiet ?_ ?_ ?_); (focus (exact rfl)); (focus (exact rfl)); intro K hK; go_simp; refine hK _ ?_; clear hK K) | ((with_reducible refine Flow.flow_pass ?_); intro K hK; go_simp; (first | refine hK _ ?_ | (refine ⟨?_,hK _ ?_⟩; (focus (simp [undef]; done)))); clear hK K))
              with_reducible refine Flow.flow_nil ?_
              clear hgrow
              intro V hV _
              have hzV:=hV.size
              try simp at hzV
              obtain ⟨hcV,hfV⟩:=Qdr hV
              simp only [List.drop_succ_cons,List.drop_zero,List.drop_nil]
              have hVR:RowOnly w b t cur2 V:=HR.out.below hV (by omega)
              have f0:∀ o,wr.frozen? ⟨b,o,none⟩=false:=fun o=>TX HR.out.row o
              cases heq2:eq (k+k2) (k+k2-1) with
              | true =>
                go_wp2
                go_roundg (n-(k+(k2+1)))
                case measure=>omega
                case rel=>exact ⟨kk,k2+1,cur2,rfl,by go_num,by omega,by omega,Nat.le_refl _,hVR,HI.out.skip (by unfold DE; rw [heq2]; simp; omega)⟩
              | false =>
                have w0:=Qbv HR.out.row (i:=kk) (j:=0) (by omega)
                have w1:=Qbv HR.out.row (i:=kk) (j:=1) (by omega)
                have w2:=Qbv HR.out.row (i:=kk) (j:=2) (by omega)
                simp only [Nat.add_zero] at w0
                have g0:=f0 (kk*3)
                have g1:=f0 (kk*3+1)
                have g2:=f0 (kk*3+2)
                have zz:kk<n:=by omega
                have HVR:=Lib.hid hVR
                clear hVR f0
                go_wp2
                go_roundg (n-(k+(k2+1)))
                case measure=>omega
                case rel =>
                  refine ⟨kk+1,k2+1,_,by go_num,by go_num,by omega,by omega,Nat.le_refl _,((HVR.out.set _ _).set _ _).set _ _,?_⟩
                  obtain ⟨e0,e1,e2⟩:=HE.out (k+k2) hlt2
                  exact HI.out.keep (by unfold DE; rw [heq2]; simp) (by omega) e0 e1 e2
            · have hend:k+k2=n:=by omega
              have hcl:∀ ty,(Builtin.clear_ #[26] ty #[.slice (some ⟨b,kk*3,none⟩) (n-kk) (cap-kk)]).run Tryz.prog wr=.ok (.tuple #[]) (wr.setCells b (kk*3) (Ga (n-kk))):=fun ty=>Q0 ty hro.row (by omega) (by omega)
              clear hI hro
              go_wp2
              go_ret
              have hI:=HI.out
              rw [hend] at hI
              obtain ⟨cur3,h1,h2,h3⟩:=HR.out.setCells (Ga (n-kk)) (kk*3)
              refine ⟨by rw [hI.len]; rfl,cur3,h1,by rw [h2,hI.size],fun p hp j hj=>?_⟩
              have:=hI.len
              rw [h3 _ (by omega)]
              exact hI.low p hp j hj
      · obtain rfl:k=n:=by omega
        have hk:kept eq k=List.range k:=Qy HA.out
        clear hb
        go_wp2
        go_ret
        rw [hk]
        refine ⟨by simp,cur,⟨hbw.os,hbw.tape,hbw.output,hbw.size,fun x hx _=>hbw.block x hx,by rw [hbw.block b hblt]; exact HB0.out⟩,rfl,fun p hp j hj=>?_⟩
        simp
end Go.Proofs.YtibdknkacmimgaaGreatDoor
set_option maxRecDepth 100000
set_option linter.unusedSimpArgs false
set_option linter.unusedVariables false
set_option linter.unusedSectionVars false
namespace Go.Proofs.YtibdknkacmimgaaGreatDoor
open Go.RowKit Go.Shelf
noncomputable def GO (xs:List Lt) (i j:Nat):Bool:=dec (xs[i]?=xs[j]?)
noncomputable def GP (xs:List Lt):List Lt:=(kept (GO xs) xs.length).filterMap fun i=>xs[i]?
theorem M9 {eq:Nat→Nat→Bool} {m i:Nat} (h:i∈kept eq m):i<m∧DE eq i=true:=by
 unfold kept at h
 rw [List.mem_filter,List.mem_range] at h
 exact h
theorem VL {eq:Nat→Nat→Bool} {m i:Nat} (h:i<m) (hk:DE eq i=true):i∈kept eq m:=by
 unfold kept
 rw [List.mem_filter,List.mem_range]
 exact ⟨h,hk⟩
theorem OJ (eq:Nat→Nat→Bool) (m:Nat):(kept eq m).Pairwise (· < ·):=(List.pairwise_lt_range (n:=m)).filter _
theorem XD (eq:Nat→Nat→Bool) (m:Nat):(kept eq m).Nodup:=(OJ eq m).imp fun h e=>absurd e (Nat.ne_of_lt h)
theorem HX (xs:List Lt):∀ l:List Nat,(∀ i∈l,i<xs.length)→(l.filterMap fun i=>xs[i]?).length=l.length∧∀ p i:Nat,l[p]?=some i→(l.filterMap fun i=>xs[i]?)[p]?=xs[i]?
  | [],_=>⟨rfl,fun p i h=>by simp at h⟩
  | i :: l,hl=>by
    have hi:=hl i (by simp)
    obtain ⟨h1,h2⟩:=HX xs l fun j hj=>hl j (by simp [hj])
    have e:((i :: l).filterMap fun i=>xs[i]?)=xs[i] :: l.filterMap fun i=>xs[i]?:=by
      rw [List.filterMap_cons,List.getElem?_eq_getElem hi]
    refine ⟨by rw [e]; simp [h1],fun p j hp=>?_⟩
    rw [e]
    cases p with
    | zero =>
      simp only [List.getElem?_cons_zero,Option.some.injEq] at hp ⊢
      subst hp
      exact (List.getElem?_eq_getElem hi).symm
    | succ p =>
      simp only [List.getElem?_cons_succ] at hp ⊢
      exact h2 p j hp
theorem NM (xs:List Lt):(GP xs).length=(kept (GO xs) xs.length).length:=(HX xs _ fun i hi=>(M9 hi).1).1
theorem NN (xs:List Lt) {p i:Nat} (h:(kept (GO xs) xs.length)[p]?=some i) (hp:p<(GP xs).length):∃ hi:i<xs.length,(GP xs)[p]=xs[i]:=by
 have hi:=(M9 (List.mem_of_getElem? h)).1
 have:=(HX xs _ fun i hi=>(M9 hi).1).2 p i h
 refine ⟨hi,?_⟩
 have e:(GP xs)[p]?=xs[i]?:=this
 rw [List.getElem?_eq_getElem hp,List.getElem?_eq_getElem hi] at e
 exact Option.some.inj e
def Dk (xs:List Lt):Prop:=xs.Pairwise fun x y=>x.cmp y<0
theorem Ja:∀ {xs ys:List Lt},Dk xs→Dk ys→(∀ z,z∈xs ↔ z∈ys)→xs=ys
  | [],[],_,_,_=>rfl
  | [],y :: ys,_,_,h=>by simpa using (h y).2 (by simp)
  | x :: xs,[],_,_,h=>by simpa using (h x).1 (by simp)
  | x :: xs,y :: ys,h1,h2,h=>by
    obtain ⟨a1,a2⟩:=List.pairwise_cons.1 h1
    obtain ⟨b1,b2⟩:=List.pairwise_cons.1 h2
    have irr:∀ z:Lt,¬ z.cmp z<0:=fun z hz=>by
      have:=(Lt.cmp_ord z z z).zero.2 rfl
      omega
    have e:x=y:=by
      rcases List.mem_cons.1 ((h x).1 (by simp)) with e | hx
      · exact e
      · rcases List.mem_cons.1 ((h y).2 (by simp)) with e | hy
        · exact e.symm
        · exact (irr x ((Lt.cmp_ord x y x).trans (a1 y hy) (b1 x hx))).elim
    subst e
    rw [Ja a2 b2 fun z=>?_]
    constructor
    · intro hz
      rcases List.mem_cons.1 ((h z).1 (by simp [hz])) with e | hz'
      · subst e; exact (irr _ (a1 _ hz)).elim
      · exact hz'
    · intro hz
      rcases List.mem_cons.1 ((h z).2 (by simp [hz])) with e | hz'
      · subst e; exact (irr _ (b1 _ hz)).elim
      · exact hz'
theorem TY {xs:List Lt} (hs:M7 xs):Dk (GP xs):=by
 unfold Dk
 rw [List.pairwise_iff_getElem]
 intro p q hp hq hpq
 have e1:=NM xs
 obtain ⟨i,hpi⟩:∃ i,(kept (GO xs) xs.length)[p]?=some i:=⟨_,List.getElem?_eq_getElem (by omega)⟩
 obtain ⟨j,hqj⟩:∃ j,(kept (GO xs) xs.length)[q]?=some j:=⟨_,List.getElem?_eq_getElem (by omega)⟩
 have hlt:=List.pairwise_iff_getElem.1 (OJ (GO xs) xs.length) p q (by omega) (by omega) hpq
 rw [(List.getElem?_eq_some_iff.1 hpi).2,(List.getElem?_eq_some_iff.1 hqj).2] at hlt
 obtain ⟨hi,e2⟩:=NN xs hpi hp
 obtain ⟨hj,e3⟩:=NN xs hqj hq
 rw [e2,e3]
 have hkq:=(M9 (List.mem_of_getElem? hqj)).2
 have hne:xs[j-1]≠xs[j]:=fun e=>by
  unfold DE GO at hkq
  rw [List.getElem?_eq_getElem hj,List.getElem?_eq_getElem (show j-1<xs.length by omega),e,Ay rfl] at hkq
  simp at hkq
  omega
 have h2:xs[j-1].cmp xs[j]≤0:=List.pairwise_iff_getElem.1 hs (j-1) j (by omega) hj (by omega)
 have h3:xs[j-1].cmp xs[j]<0:=by
  have:=(Lt.cmp_ord xs[j-1] xs[j] xs[j]).zero
  have:xs[j-1].cmp xs[j]≠0:=fun e=>hne (this.1 e)
  omega
 rcases Nat.lt_or_ge i (j-1) with h4 | h4
 ·have h5:xs[i].cmp xs[j-1]≤0:=List.pairwise_iff_getElem.1 hs i (j-1) (by omega) (by omega) h4
  by_cases h6:xs[i].cmp xs[j-1]=0
  ·rw [(Lt.cmp_ord xs[i] xs[j-1] xs[j]).zero.1 h6]; exact h3
  ·exact (Lt.cmp_ord xs[i] xs[j-1] xs[j]).trans (by omega) h3
 ·have:i=j-1:=by omega
  subst this
  exact h3
theorem Qae (xs:List Lt) (z:Lt):z∈GP xs ↔ z∈xs:=by
  constructor
  · intro h
    unfold GP at h
    obtain ⟨i,_,h2⟩:=List.mem_filterMap.1 h
    exact List.mem_of_getElem? h2
  · intro h
    obtain ⟨i,hi,rfl⟩:=List.getElem_of_mem h
    have key:∀ i (hi:i<xs.length),∃ j,j∈kept (GO xs) xs.length∧xs[j]?=some xs[i]:=by
      intro i
      induction i with
      | zero=>intro hi; exact ⟨0,VL hi rfl,List.getElem?_eq_getElem hi⟩
      | succ i ih =>
        intro hi
        cases hk:DE (GO xs) (i+1) with
        | true=>exact ⟨i+1,VL hi hk,List.getElem?_eq_getElem hi⟩
        | false =>
          obtain ⟨j,h1,h2⟩:=ih (by omega)
          refine ⟨j,h1,?_⟩
          unfold DE GO at hk
          simp only [Nat.add_sub_cancel,Bool.or_eq_false_iff,Bool.not_eq_false',Au] at hk
          rw [h2,← List.getElem?_eq_getElem,← List.getElem?_eq_getElem]
          exact hk.2.symm
    obtain ⟨j,h1,h2⟩:=key i hi
    exact List.mem_filterMap.2 ⟨j,h1,h2⟩
noncomputable def DF (xs:List SV) (ob:List Ob):Option (SV × List Ob) :=
 match xs,ob with
 | [.ref 0,.fn f []],[.row t sz es]=>bif dec (f=101∧sz=3∧es.length≤1099511627776∧∃ xs:List Lt,es=xs.map Lt.o∧∀ x∈xs,∀ y∈xs,Fun Tryz.prog f [x.sv,y.sv] [] (.bool (dec (x=y))) []) then some (.ref 1,[.gone,.row t sz ((GP (unL es)).map Lt.o)]) else none
 | [.nil,.fn f []],[]=>bif dec (f=101) then some (.nil,[]) else none
 | _,_=>none
def vB:Value→Bool
 | .bool b=>b
 | _=>false
def vS:Value→ByteArray
 | .string s=>s
 | _=>⟨#[]⟩
def vA:Value→Option Addr × Nat × Nat
 | .slice a n c=>(a,n,c)
 | _=>(none,0,0)
theorem Jy (w:World):Calls Tryz.prog 171 #[.slice none 0 0,.func (.func 101) #[] #[]] w fun e w'=>e=.returned (.slice none 0 0)∧w'=w:=by
 go_enter Tryz.func171,Tryz.ntmps171
 go_wp2
 go_ret
 exact ⟨rfl,rfl⟩
theorem Q1 {w w':World} {I:Nat→Prop} {V:Nat→Option Value} {B:Nat→Nat→Prop} {t:TypeId} {es es':List (List OT)} {v':Value} (hwf:Wf w I V B (Ao [.row t 3 es]))
    (hos:w'.os=w.os) (htape:TapeOk w w') (hout:w'.output=w.output) (hsz:w.heap.size≤w'.heap.size) (hblk:∀ x,x<w.heap.size→¬ B 0 x→w'.heap[x]?=w.heap[x]?) (hrow:RowR w' I (B 0) t 3 es' v') :
    FunPost w I V B [.row t 3 es] [.gone,.row t 3 es'] w' I (fun g=>if g=1 then some v' else V g) (fun g=>if g=1 then B 0 else B g):=by
  have hB0:∀ x,B 0 x→HB B [Ob.row t 3 es] x:=fun x hx=>⟨0,trivial,hx⟩
  have hlv:∀ g,(Ao [Ob.gone,.row t 3 es'] g).live→g=1:=fun g h=>by
    match g with
    | 0=>exact h.elim
    | 1=>rfl
    | g+2=>exact h.elim
  refine ⟨⟨hos,htape,hout,hsz,fun x hx hn=>hblk x hx fun h=>hn (hB0 x h)⟩,fun _ h=>h,fun _ h=>.inl h,fun g u hu=>?_,?_,fun g x hl hx=>?_⟩
  · by_cases e:g=1
    · subst e
      rw [hwf.fr 1 rfl] at hu; cases hu
    · simp only [e,if_false]; exact hu
  · refine ⟨fun x hx=>Nat.lt_of_lt_of_le (hwf.ilt x hx) hsz,fun g hl=>?_,fun g x hl hx=>?_,fun g x hl hx=>?_,fun g g' x hl hl' _ _=>by rw [hlv g hl,hlv g' hl'],fun g hf=>?_,hwf.gl.keep ⟨hsz,fun x hx hlt=>hblk x hlt fun h=>hwf.dI 0 x trivial h hx⟩ fun _ h=>h⟩
    · obtain rfl:=hlv g hl
      exact ⟨v',by simp,hrow⟩
    · obtain rfl:=hlv g hl
      simp only [if_true] at hx
      exact Nat.lt_of_lt_of_le (hwf.lt 0 x trivial hx) hsz
    · obtain rfl:=hlv g hl
      simp only [if_true] at hx
      exact hwf.dI 0 x trivial hx
    · match g with
      | 0=>cases hf
      | 1=>cases hf
      | g+2 =>
        have e:¬ g+2=1:=by omega
        simp only [e,if_false]
        exact hwf.fr (g+2) rfl
  · obtain rfl:=hlv g hl
    simp only [if_true] at hx
    exact .inl (hB0 x hx)
theorem Pe {xs:List SV} {ob:List Ob} {r:SV} {ob':List Ob} (h:DF xs ob=some (r,ob')):Fun Tryz.prog 171 xs ob r ob':=by
  unfold DF at h
  split at h
  · rename_i f t sz es
    obtain ⟨h1,h2⟩:=Ap h
    obtain ⟨rfl,rfl,hk3,xs,rfl,hF⟩:=Au.1 h1
    simp only [Option.some.injEq,Prod.mk.injEq] at h2
    obtain ⟨rfl,rfl⟩:=h2
    clear h h1
    rw [P0]
    rw [List.length_map] at hk3
    intro w I V B vs hwf hvs
    obtain ⟨v,q,rfl,hv,hvs⟩:=AT hvs
    obtain ⟨v2,q,rfl,hv2,hvs⟩:=AT hvs
    obtain rfl:=GI hvs
    simp only [RepV] at hv hv2
    obtain ⟨vs2,rfl,hv2⟩:=hv2
    simp only [RepVs] at hv2
    subst hv2
    obtain ⟨val,hval,hrow⟩:=hwf.obj 0 trivial
    rw [hv.1] at hval
    obtain rfl:=Option.some.inj hval
    have hv0:=hv.1
    have hrow:RowR w I (B 0) t 3 (xs.map Lt.o) v:=hrow
    have hrow0:=hrow
    rcases hrow with ⟨he,rfl⟩ | ⟨b,cap,cur,Sub,rfl,hs,hb,g1,g2,g3,g4,g5,g6,g7⟩
    · simp only [List.map_eq_nil_iff] at he
      subst he
      refine (Jy w).mono ?_
      rintro e w' ⟨rfl,rfl⟩
      have e0:GP []=[]:=rfl
      rw [e0]
      exact ⟨_,I,_,_,rfl,by simp only [RepV]; exact ⟨rfl,rfl⟩,Q1 hwf rfl (TapeOk.mk' rfl rfl) rfl (Nat.le_refl _) (fun _ _ _=>rfl) (.inl ⟨rfl,rfl⟩)⟩
    · have hblt:=(Array.getElem?_eq_some_iff.1 hb).1
      have view:=fun i hi=>Qbu (xs:=xs) (S:=B 0) g5 g7 i hi
      rw [List.length_map] at g1
      have hJb:∀ x,(I x∨(B 0 x∧x≠b))→x≠b:=fun x hx=>by
        rcases hx with hx | hx
        · intro e; subst e; exact hwf.dI 0 x trivial hs hx
        · exact hx.2
      have hJl:∀ x,(I x∨(B 0 x∧x≠b))→x<w.heap.size:=fun x hx=>by
        rcases hx with hx | hx
        · exact hwf.ilt x hx
        · exact hwf.lt 0 x trivial hx.1
      have hcon:=Pd xs.length (GO xs) w b cap cur t hb g3 g1 g2 (fun i=>vB (cur.getD (i*3+0) undef)) (fun i=>vS (cur.getD (i*3+1) undef)) (fun i=>(vA (cur.getD (i*3+2) undef)).1) (fun i=>(vA (cur.getD (i*3+2) undef)).2.1) (fun i=>(vA (cur.getD (i*3+2) undef)).2.2)
        (fun i hi=>by
          obtain ⟨a,l,c,e0,e1,e2,_⟩:=view i hi
          rw [e0,e1,e2]
          exact ⟨rfl,rfl,rfl⟩)
        (fun i j hi hj W hW1 hW2=>by
          obtain ⟨a,l,c,e0,e1,e2,hrx⟩:=view i hi
          obtain ⟨a',l',c',e0',e1',e2',hry⟩:=view j hj
          have hk:KeepS (fun x=>I x∨(B 0 x∧x≠b)) w W:=⟨hW1,fun x hx hlt=>hW2 x hlt (hJb x hx)⟩
          have hc:=QdF (hF xs[i] (List.getElem_mem _) xs[j] (List.getElem_mem _)) (W:=W) (J:=fun x=>I x∨(B 0 x∧x≠b)) (fun x hx=>Nat.lt_of_lt_of_le (hJl x hx) hW1) (hwf.gl.keep ⟨hW1,fun x hx hlt=>hk.block x (.inl hx) hlt⟩ fun x hx=>.inl hx) (RepV.mono hk (fun _ h=>h) (VLe.refl _) _ _ hrx) (RepV.mono hk (fun _ h=>h) (VLe.refl _) _ _ hry)
          rw [e0,e1,e2,e0',e1',e2']
          have e:GO xs i j=dec (xs[i]=xs[j]):=by
            unfold GO
            rw [List.getElem?_eq_getElem hi,List.getElem?_eq_getElem hj]
            by_cases h:xs[i]=xs[j]
            · rw [Ay h,Ay (by rw [h])]
            · rw [A8 h,A8 (fun e=>h (Option.some.inj e))]
          rw [e]
          exact hc)
      rw [List.length_map]
      refine hcon.mono ?_
      rintro e w' ⟨rfl,cur',hro,hcs,hcell⟩
      have c1:=NM xs
      have hkl:=Zl (GO xs) xs.length
      refine ⟨_,I,_,_,rfl,by simp only [RepV]; exact ⟨rfl,rfl⟩,Q1 hwf hro.os ⟨hro.tape,fun h=>False.elim h⟩ hro.output hro.size (fun x hx hn=>hro.block x hx fun e=>hn (e▸hs)) ?_⟩
      refine .inr ⟨b,cap,cur',fun p j x=>∃ h:p<(kept (GO xs) xs.length).length,Sub ((kept (GO xs) xs.length)[p]) j x,by rw [List.length_map,c1],hs,hro.row,by rw [List.length_map,c1]; omega,g2,by rw [hcs]; exact g3,fun i hi=>by rw [List.getElem_map,Lt.o_eq]; rfl,fun i j x h=>g5 _ _ _ h.2,fun i j i' j' x h h'=>?_,fun i j hi hj=>?_⟩
      · obtain ⟨a1,a2⟩:=h
        obtain ⟨b1,b2⟩:=h'
        obtain ⟨d1,d2⟩:=g6 _ _ _ _ _ a2 b2
        exact ⟨(List.getElem_inj (XD _ _)).1 d1,d2⟩
      · have hi':i<(kept (GO xs) xs.length).length:=by rw [←c1]; simpa using hi
        have hlt:=(M9 (List.getElem_mem hi')).1
        have e1:((GP xs).map Lt.o)[i]=(xs.map Lt.o)[(kept (GO xs) xs.length)[i]]'(by rw [List.length_map]; exact hlt):=by
          obtain ⟨_,c2⟩:=NN xs (List.getElem?_eq_getElem hi') (by rw [c1]; exact hi')
          rw [List.getElem_map,c2,List.getElem_map]
        have hj':j<3:=by rw [e1] at hj; have:=g4 _ (show (kept (GO xs) xs.length)[i]<(xs.map Lt.o).length by rw [List.length_map]; exact hlt); omega
        rw [hcell i hi' j hj']
        have h7:=g7 ((kept (GO xs) xs.length)[i]) j (by rw [List.length_map]; exact hlt) (by rw [g4]; exact hj')
        have hk:KeepS I w w':=⟨hro.size,fun x hx hlt=>hro.block x hlt fun e=>hwf.dI 0 x trivial (e▸hs) hx⟩
        have h2:=(h7.keep hk (fun _ h=>h) (fun x hx hlt=>hro.block x hlt (g5 _ _ _ hx).2)).up (S':=fun x=>∃ h:i<(kept (GO xs) xs.length).length,Sub ((kept (GO xs) xs.length)[i]) j x) (fun x hx=>⟨hi',hx⟩)
        simp only [e1]
        exact h2
  · rename_i f
    obtain ⟨h1,h2⟩:=Ap h
    obtain rfl:=Au.1 h1
    simp only [Option.some.injEq,Prod.mk.injEq] at h2
    obtain ⟨rfl,rfl⟩:=h2
    intro w I V B vs hwf hvs
    obtain ⟨v,q,rfl,hv,hvs⟩:=AT hvs
    obtain ⟨v2,q,rfl,hv2,hvs⟩:=AT hvs
    obtain rfl:=GI hvs
    simp only [RepV] at hv hv2
    obtain ⟨vs2,rfl,hv2⟩:=hv2
    simp only [RepVs] at hv2
    subst hv2 hv
    refine (Jy w).mono ?_
    rintro e w' ⟨rfl,rfl⟩
    exact ⟨_,I,V,B,rfl,by simp only [RepV],Kb hwf⟩
  · cases h
end Go.Proofs.YtibdknkacmimgaaGreatDoor
set_option maxRecDepth 100000
set_option linter.unusedSimpArgs false
set_option linter.unusedVariables false
set_option linter.unusedSectionVars false
namespace Go.Proofs.YtibdknkacmimgaaGreatDoor
open Go.RowKit Go.Shelf
theorem Te {w w':World} {I:Nat→Prop} {V:Nat→Option Value} {B:Nat→Nat→Prop} {t:TypeId} {sz:Nat} {es:List (List OT)} {v':Value} {S:Nat→Prop} (hwf:Wf w I V B (Ao []))
    (hos:w'.os=w.os) (htape:TapeOk w w') (hout:w'.output=w.output) (hsz:w.heap.size≤w'.heap.size) (hblk:∀ x,x<w.heap.size→w'.heap[x]?=w.heap[x]?) (hS:∀ x,S x→w.heap.size≤x∧x<w'.heap.size) (hrow:RowR w' I S t sz es v') :
    FunPost w I V B [] [.row t sz es] w' I (fun g=>if g=0 then some v' else V g) (fun g=>if g=0 then S else B g):=by
  have hlv:∀ g,(Ao [Ob.row t sz es] g).live→g=0:=fun g h=>by
    match g with
    | 0=>rfl
    | g+1=>exact h.elim
  refine ⟨⟨hos,htape,hout,hsz,fun x hx hn=>hblk x hx⟩,fun _ h=>h,fun _ h=>.inl h,fun g u hu=>?_,?_,fun g x hl hx=>?_⟩
  · rw [hwf.fr g rfl] at hu; cases hu
  · refine ⟨fun x hx=>Nat.lt_of_lt_of_le (hwf.ilt x hx) hsz,fun g hl=>?_,fun g x hl hx=>?_,fun g x hl hx hI=>?_,fun g g' x hl hl' _ _=>by rw [hlv g hl,hlv g' hl'],fun g hf=>?_,hwf.gl.keep ⟨hsz,fun x _ hlt=>hblk x hlt⟩ fun _ h=>h⟩
    · obtain rfl:=hlv g hl
      exact ⟨v',by simp,hrow⟩
    · obtain rfl:=hlv g hl
      simp only [if_true] at hx
      exact (hS x hx).2
    · obtain rfl:=hlv g hl
      simp only [if_true] at hx
      have:=hwf.ilt x hI
      have:=(hS x hx).1
      omega
    · match g with
      | 0=>cases hf
      | g+1 =>
        have e:¬ g+1=0:=by omega
        simp only [e,if_false]
        exact hwf.fr (g+1) rfl
  · obtain rfl:=hlv g hl
    simp only [if_true] at hx
    exact .inr (hS x hx).1
theorem QdG {w:World} {I S T:Nat→Prop} {d:D} {v:Value} (h:DRep false w T d v) (hT:∀ x,T x→I x):ORep w I S d.ot v:=by
 cases h with
 | int _ n=>exact .int S n
 | bool _ b=>exact .bool S b
 | str _ s h=>exact .str S s h
 | arr _ sz es a cap f Sub h1 h2 h3 h4 h5 h6 h7=>exact .sh S es _ ((DRep.arr _ sz es a cap f Sub h1 h2 h3 h4 h5 h6 h7).up hT)
theorem Q2:∃ (i:TypeInfo) (z:Value),Tryz.prog.info? 73=some i∧i.zero=some z∧i.size=3∧z.cells.size=3∧i.bytes=48:=by
 have h:(match Tryz.prog.info? 73 with
  | some i=>match i.zero with
   | some z=>i.size == 3&&z.cells.size == 3&&i.bytes == 48
   | none=>false
  | none=>false)=true:=by kernel_rfl
 split at h
 ·rename_i i hi
  split at h
  ·rename_i z hz
   rw [Bool.and_eq_true,Bool.and_eq_true,beq_iff_eq,beq_iff_eq,beq_iff_eq] at h
   exact ⟨i,z,hi,hz,h.1.1,h.1.2,h.2⟩
  ·cases h
 ·cases h
noncomputable def NO (xs:List SV) (ob:List Ob):Option (SV × List Ob) :=
 match xs,ob with
 | [.arr es],[]=>bif dec (es≠[]∧es.length≤1048576∧∀ e∈es,e.length=3) then some (.ref 0,[.row 73 3 (es.map fun e=>e.map D.ot)]) else none
 | _,_=>none
theorem XE (b off n c:Nat) (hn:0<n) (w w':World) (v':Value)
  (hap:∀ ty,(Builtin.append_ #[26,26] ty #[.slice (some ⟨w.heap.size,0,none⟩) 0 0,.slice (some ⟨b,off,none⟩) n c]).run Tryz.prog (w.alloc (.cells #[] 73))=.ok v' w') :
  Calls Tryz.prog 95 #[.slice (some ⟨b,off,none⟩) n c] w fun e w2=>e=.returned v'∧w2=w':=by
 have hq:∀ W,(binOp .eql 26 (.slice (some ⟨b,off,none⟩) n c) (.slice none 0 0)).run Tryz.prog W=.ok (.bool false) W:=fun W=>Lib.run_eql_slice_nil W _ _ _ n c 0 0 Tryz.underlying26
 go_enter Tryz.func95,Tryz.ntmps95
 go_wp2_with (at_builtin; refine Lib.wpList_append_run _ rfl _ _ _ _ rfl _ _ rfl rfl _ _ (hap _) ?_)
 go_ret
 exact ⟨rfl,rfl⟩
theorem XF (w:World):Calls Tryz.prog 99 #[.slice none 0 0,.int .i64 0] w fun e w'=>e=.returned (.slice none 0 0)∧w'=w:=by
 go_enter Tryz.func99,Tryz.ntmps99
 go_wp2
 go_ret
 exact ⟨rfl,rfl⟩
theorem XG (n:Nat) (hn:0<n) (hb:n≤1048576) (w:World):Calls Tryz.prog 99 #[.slice none 0 0,.int .i64 n] w fun e w'=>∃ (cs:Array Value) (G:Nat),e=.returned (.slice (some ⟨w.heap.size,0,none⟩) 0 G)∧w'=w.drew.alloc (.cells cs 73)∧cs.size=G*3∧G≤9223372036854775807:=by
 obtain ⟨i0,z,hi0,hz0,hs0,hzc,hby⟩:=Q2
 have hold:(Builtin.firstCells i0.size 0 (.slice none 0 0)).run Tryz.prog w.drew=.ok (List.toArray []) w.drew:=run_firstCells_none w.drew i0.size 0 0 0
 have hrz:∀ ty,(Builtin.append_ #[26,3] ty #[.slice none 0 0,.int .i64 (n:Int)]).run Tryz.prog w =
   .ok (.slice (some ⟨w.heap.size,0,none⟩) n (grownCap w n 0 73)) (w.drew.alloc (.cells (List.toArray []++Builtin.zeroCells z.cells n++Builtin.zeroCells z.cells (grownCap w n 0 73-n)) 73)):=fun ty=>by
  have h:=Lib.run_append_grow_zeros w 26 3 ty 73 i0 z .i64 .i64 Tryz.underlying26 Tryz.underlying3 hi0 hz0 none 0 0 [] hold n (by omega) (by omega) (by omega) (by omega)
   (by rw [hby]; omega) (by rw [Nat.zero_add]; exact growslice_fits (by omega) (by rw [hby]; omega))
  rw [Nat.zero_add] at h
  exact h
 have hGn:n≤grownCap w n 0 73:=grownCap_ge w _ _ _
 have hG63:=grownCap_le_maxLen w n 0 73 (by unfold maxLen; omega)
 obtain ⟨G,hG⟩:∃ G,G=grownCap w n 0 73:=⟨_,rfl⟩
 rw [←hG] at hrz hGn hG63
 have hG63':G≤9223372036854775807:=by unfold maxLen at hG63; omega
 obtain ⟨cs,hcs⟩:∃ cs,cs=List.toArray []++Builtin.zeroCells z.cells n++Builtin.zeroCells z.cells (G-n):=⟨_,rfl⟩
 rw [←hcs] at hrz
 have hcl:cs.size=G*3:=by
  rw [hcs]
  simp [Builtin.zeroCells,hzc]
  omega
 clear hG hcs hold hG63
 go_enter Tryz.func99,Tryz.ntmps99
 go_wp2_with (at_builtin; refine Lib.wpList_append_run _ rfl _ _ _ _ rfl _ _ rfl rfl _ _ (hrz _) ?_)
 all_goals (go_ret; exact ⟨cs,G,rfl,rfl,hcl,hG63'⟩)
noncomputable def Qbw (xs:List SV) (ob:List Ob):Option (SV × List Ob) :=
 match xs,ob with
 | [.nil,.int .i64 n],[]=>bif dec (n=0) then some (.nil,[]) else bif dec (0 < n∧n≤1048576) then some (.ref 0,[.row 73 3 []]) else none
 | _,_=>none
theorem XH {xs:List SV} {ob:List Ob} {r:SV} {ob':List Ob} (h:Qbw xs ob=some (r,ob')):Fun Tryz.prog 99 xs ob r ob':=by
 unfold Qbw at h
 split at h
 ·rename_i n
  intro w I V B vs hwf hvs
  obtain ⟨v,q,rfl,hv,hvs⟩:=AT hvs
  obtain ⟨v2,q,rfl,hv2,hvs⟩:=AT hvs
  obtain rfl:=GI hvs
  simp only [RepV] at hv hv2
  subst hv hv2
  cases hd:dec (n=0) with
  | true =>
   obtain rfl:=Au.1 hd
   rw [hd] at h
   simp only [cond_true,Option.some.injEq,Prod.mk.injEq] at h
   obtain ⟨rfl,rfl⟩:=h
   refine (XF w).mono ?_
   rintro e w' ⟨rfl,rfl⟩
   exact ⟨_,I,V,B,rfl,by simp only [RepV],⟨⟨rfl,TapeOk.mk' rfl rfl,rfl,Nat.le_refl _,fun _ _ _=>rfl⟩,fun _ h=>h,fun _ h=>.inl h,VLe.refl _,hwf,fun g b hl hb=>.inl ⟨g,hl,hb⟩⟩⟩
  | false =>
   rw [hd,cond_false] at h
   obtain ⟨h1,h2⟩:=Ap h
   obtain ⟨k1,k2⟩:=Au.1 h1
   simp only [Option.some.injEq,Prod.mk.injEq] at h2
   obtain ⟨rfl,rfl⟩:=h2
   obtain ⟨m,rfl⟩:∃ m:Nat,n=m:=⟨n.toNat,by omega⟩
   refine (XG m (by omega) (by omega) w).mono ?_
   rintro e w' ⟨cs,G,rfl,rfl,hcs,hG⟩
   have hnew:=heap_alloc_new w.drew (.cells cs 73)
   have hbl:∀ x,x<w.heap.size→(w.drew.alloc (.cells cs 73)).heap[x]?=w.heap[x]?:=fun x hx=>Below.heap_alloc w.drew _ x hx
   have hsz:(w.drew.alloc (.cells cs 73)).heap.size=w.heap.size+1:=Array.size_push _
   exact ⟨_,I,_,_,rfl,by simp only [RepV]; exact ⟨rfl,rfl⟩,Te (S:=fun x=>x=w.heap.size) hwf rfl (TapeOk.le rfl (Nat.le_succ _)) rfl (by omega) hbl (fun x hx=>by omega) (.inr ⟨w.heap.size,G,cs,fun _ _ _=>False,rfl,rfl,hnew,Nat.zero_le _,hG,hcs,fun i hi=>absurd hi (by simp),fun _ _ _ h=>h.elim,fun _ _ _ _ _ h=>h.elim,fun i j hi=>absurd hi (by simp)⟩)⟩
 ·cases h
theorem VM {xs:List SV} {ob:List Ob} {r:SV} {ob':List Ob} (h:NO xs ob=some (r,ob')):Fun Tryz.prog 95 xs ob r ob':=by
  unfold NO at h
  split at h
  · rename_i es
    obtain ⟨h1,h2⟩:=Ap h
    obtain ⟨k1,k2,k3⟩:=Au.1 h1
    simp only [Option.some.injEq,Prod.mk.injEq] at h2
    obtain ⟨rfl,rfl⟩:=h2
    intro w I V B vs hwf hvs
    obtain ⟨v,q,rfl,hv,hvs⟩:=AT hvs
    obtain rfl:=GI hvs
    simp only [RepV] at hv
    have hpos:0<es.length:=List.length_pos_iff.2 k1
    cases hv with
    | arr S sz es a cap f Sub g1 g2 g3 g4 g5 g6 g7 =>
      rcases g3 with g3 | ⟨b,off,rfl,hS,hlt,hc,_⟩
      · omega
      have hsz3:sz=3:=by rw [←g4 0 hpos]; exact k3 _ (List.getElem_mem hpos)
      subst hsz3
      obtain ⟨i0,z,hi0,hz0,hs0,hzc,hby⟩:=Q2
      obtain ⟨W0,hW0⟩:∃ W,W=w.alloc (.cells #[] 73):=⟨_,rfl⟩
      have hb0:W0.heap[w.heap.size]?=some (.cells #[] 73 (0,0)):=by rw [hW0]; exact heap_alloc_new w _
      have hbl0:∀ x,x<w.heap.size→W0.heap[x]?=w.heap[x]?:=fun x hx=>by rw [hW0]; exact Below.heap_alloc w _ x hx
      have hz0':W0.heap.size=w.heap.size+1:=by rw [hW0]; simp
      have hk0:KeepS I w W0:=⟨by omega,fun x _ hlt=>hbl0 x hlt⟩
      have hc0:∀ i j,i<es.length→j<3→W0.cell? ⟨b,off+i*3+j,none⟩=some (f i j):=fun i j hi hj=>by
        rw [←hc i j hi hj]
        unfold World.cell?
        rw [hbl0 b hlt]
      obtain ⟨v',w',S',hrun,hrow,hS',o1,o2,o3,o4,o5⟩:=LN (P:=Tryz.prog) (w:=W0) (I:=I) (S:=fun x=>x=w.heap.size) (T:=fun _=>False) (t:=73) (es:=[]) (new:=es.map fun e=>e.map D.ot) (tr:=26) (ty:=26) (val:=f) (Sub':=fun _ _ _=>False) (a:=some ⟨b,off,none⟩) (cp:=cap) (v:=.slice (some ⟨w.heap.size,0,none⟩) 0 0) Tryz.underlying26 hi0 hz0 hs0 hzc (by omega)
        (fun x hx hI=>by have:=hwf.ilt x hI; omega)
        (.inr ⟨w.heap.size,0,#[],fun _ _ _=>False,rfl,rfl,hb0,Nat.le_refl _,by omega,by simp,fun i hi=>absurd hi (by simp),fun _ _ _ h=>h.elim,fun _ _ _ _ _ h=>h.elim,fun i j hi=>absurd hi (by simp)⟩)
        (fun _=>⟨b,off,rfl,fun i j hi hj=>hc0 i j (by simpa using hi) hj⟩)
        (fun i hi=>by rw [List.getElem_map,List.length_map]; exact g4 i (by simpa using hi)) (fun _ _ _ h=>h.elim) (fun _ h=>h.elim) (fun _ _ h=>h.elim) (fun _ _ _ _ _ h=>h.elim)
        (fun i j hi hj=>by
          have hi':i<es.length:=by simpa using hi
          have hj':j<es[i].length:=by simpa using hj
          simp only [List.getElem_map]
          exact QdG ((g7 i j hi' hj').keep ⟨by omega,fun x _ hlt=>hbl0 x hlt⟩) fun x hx=>g5 i j x hx)
        (by simp; omega) (by rw [hby]; simp; omega)
      rw [List.length_map] at hrun
      rw [List.nil_append] at hrow
      have hcon:=XE b off es.length cap hpos w w' v' (fun ty=>by
        rw [←hW0]
        exact hrun)
      have hone:v'.oneCell'=true:=by
        obtain ⟨a,n,e,_⟩:=hrow.form
        rw [e]; rfl
      refine hcon.mono ?_
      rintro e w2 ⟨rfl,rfl⟩
      refine ⟨_,I,_,_,rfl,by simp only [RepV]; exact ⟨rfl,hone⟩,Te (S:=fun x=>w.heap.size≤x∧x<w2.heap.size) hwf (by rw [o1,hW0]; rfl) (TapeOk.trans o2 (by rw [hW0]; exact TapeOk.mk' rfl rfl)) (by rw [o3,hW0]; rfl) (by omega) (fun x hx=>by rw [o5 x (by omega) (by omega),hbl0 x hx]) (fun x hx=>hx) (hrow.up fun x hx=>?_)⟩
      have hw0:w.heap.size<w2.heap.size:=by omega
      rcases hS' x hx with h | h | h
      · omega
      · exact h.elim
      · omega
  · cases h
end Go.Proofs.YtibdknkacmimgaaGreatDoor
set_option maxRecDepth 100000
set_option linter.unusedSimpArgs false
set_option linter.unusedVariables false
set_option linter.unusedSectionVars false
namespace Go.Proofs.YtibdknkacmimgaaGreatDoor
open Go.RowKit Go.Shelf
theorem RowOnly.cells {w:World} {b:Nat} {t:TypeId}:∀ (vs:List Value) (o:Nat) {V:World} {cur:Array Value},RowOnly w b t cur V→o+vs.length≤cur.size→∃ cur',RowOnly w b t cur' (V.setCells b o vs)∧cur'.size=cur.size∧∀ q,cur'.getD q undef=if o≤q∧q<o+vs.length then vs.getD (q-o) undef else cur.getD q undef
  | [],o,V,cur,h,_=>⟨cur,h,rfl,fun q=>by
    have e:¬ (o≤q∧q<o+([]:List Value).length):=by simp only [List.length_nil]; omega
    rw [if_neg e]⟩
  | v :: r,o,V,cur,h,hl=>by
    simp only [List.length_cons] at hl
    obtain ⟨cur',h1,h2,h3⟩:=RowOnly.cells r (o+1) (h.set o v) (by simp; omega)
    refine ⟨cur',h1,by simpa using h2,fun q=>?_⟩
    rw [h3 q]
    simp only [List.length_cons]
    by_cases e:q=o
    · subst e
      rw [if_neg (by omega),if_pos (by omega),Nat.sub_self]
      simp [Array.getD_eq_getD_getElem?,Array.getElem?_setIfInBounds,show q<cur.size by omega]
    · by_cases h4:o+1≤q∧q<o+1+r.length
      · rw [if_pos h4,if_pos (by omega),show q-o=(q-(o+1))+1 by omega]; rfl
      · rw [if_neg h4,if_neg (by omega)]
        simp only [Array.getD_eq_getD_getElem?,Array.getElem?_setIfInBounds]
        rw [if_neg (fun h=>e h.symm)]
theorem Qdw {w:World} {b:Nat} {cur:Array Value} {t:TypeId} (hb:w.heap[b]?=some (.cells cur t (0,0))) {q:Nat} (hlt:q<cur.size):w.cell? ⟨b,q,none⟩=some (cur.getD q undef):=by
 unfold World.cell?
 simp only [hb,Option.isSome_none,if_false]
 rw [Array.getD_eq_getD_getElem?,Array.getElem?_eq_getElem hlt]
 rfl
theorem VN (n i:Nat) (hin:i<n) (w:World) (b cap:Nat) (cur:Array Value) (t:TypeId) (hb:w.heap[b]?=some (.cells cur t (0,0))) (hsz:cur.size=cap*3) (hn:n≤cap) (hcap:cap≤9223372036854775807)
    (hone:∀ q,q<n*3→(cur.getD q undef).oneCell'=true) :
    Calls Tryz.prog 94 #[.slice (some ⟨b,0,none⟩) n cap,.int .i64 (i:Int),.int .i64 ((i+1:Nat):Int)] w fun e w'=>e=.returned (.slice (some ⟨b,0,none⟩) (n-1) cap)∧∃ cur',RowOnly w b t cur' w'∧cur'.size=cur.size∧∀ p,p<n-1→∀ j,j<3→cur'.getD (p*3+j) undef=cur.getD ((if p<i then p else p+1)*3+j) undef:=by
  obtain ⟨i0,z,hi0,hz0,hs0,hzc,hby⟩:=Q2
  obtain ⟨m,hm⟩:∃ m,m=n-(i+1):=⟨_,rfl⟩
  obtain ⟨news,hnews⟩:∃ news,news=(List.range (m*3)).map fun q=>cur.getD ((i+1)*3+q) undef:=⟨_,rfl⟩
  have hlen:news.length=m*3:=by rw [hnews]; simp
  have hget:∀ q,q<m*3→news[q]?=some (cur.getD ((i+1)*3+q) undef):=fun q hq=>by
    rw [hnews,List.getElem?_map,List.getElem?_range hq]; rfl
  have hrowD:w.drew.heap[b]?=some (.cells cur t (0,0)):=hb
  obtain ⟨A,hA,hsrc⟩:∃ A:Addr,(if cap=i+1 then (some (⟨b,0,none⟩:Addr)) else some ⟨b,(i+1)*3,none⟩)=some A∧Hid (∀ q u,news[q]?=some u→w.drew.cell? (A.add q)=some u):=by
    by_cases h:cap=i+1
    · refine ⟨⟨b,0,none⟩,by simp [h],fun q u hu=>?_⟩
      have h0:news.length=0:=by rw [hlen]; omega
      rw [List.length_eq_zero_iff.1 h0] at hu
      simp at hu
    · refine ⟨⟨b,(i+1)*3,none⟩,by simp [h],fun q u hu=>?_⟩
      have hq:q<m*3:=by
        have:=(List.getElem?_eq_some_iff.1 hu).1
        rwa [hlen] at this
      rw [hget q hq] at hu
      rw [Addr.add_lit,← hu]
      exact Qdw hrowD (by omega)
  have s1:Hid (news.length=m*3):=hlen
  have s2:Hid (∀ u∈news,u.oneCell'=true):=by
    intro u hu
    rw [hnews] at hu
    obtain ⟨q,hq,rfl⟩:=List.mem_map.1 hu
    rw [List.mem_range] at hq
    exact hone _ (by omega)
  have s3:Hid (∀ q,q<news.length→(w.drew.cell? ⟨b,0+i*3+q,none⟩).isSome=true∧w.drew.frozen? ⟨b,0+i*3+q,none⟩=false):=by
    intro q hq
    rw [hlen] at hq
    refine ⟨?_,TX hrowD _⟩
    rw [Qdw hrowD (by omega)]; rfl
  obtain ⟨W1,hW1⟩:∃ W1,W1=w.drew.setCells b (0+i*3) news:=⟨_,rfl⟩
  have hr0:RowOnly w b t cur w.drew:=⟨rfl,rfl,rfl,Nat.le_refl _,fun _ _ _=>rfl,hb⟩
  obtain ⟨cur1,hr1,hz1,hg1⟩:=hr0.cells news (0+i*3) (by rw [hlen]; omega)
  rw [←hW1] at hr1
  have hcl:∀ ty,(Builtin.clear_ #[26] ty #[.slice (some ⟨b,(i+m)*3,none⟩) (n-(i+m)) (cap-(i+m))]).run Tryz.prog W1=.ok (.tuple #[]) (W1.setCells b ((i+m)*3) (Ga (n-(i+m)))):=fun ty=>Q0 ty hr1.row (by omega) (by omega)
  obtain ⟨cur2,hr2,hz2,hg2⟩:=hr1.cells (Ga (n-(i+m))) ((i+m)*3) (by rw [Qz]; omega)
  have hfin:Hid (∃ cur',RowOnly w b t cur' (W1.setCells b ((i+m)*3) (Ga (n-(i+m))))∧cur'.size=cur.size∧∀ p,p<n-1→∀ j,j<3→cur'.getD (p*3+j) undef=cur.getD ((if p<i then p else p+1)*3+j) undef):=by
    refine ⟨cur2,hr2,by rw [hz2,hz1],fun p hp j hj=>?_⟩
    rw [hg2,if_neg (by omega),hg1,hlen]
    by_cases h:p<i
    · rw [if_neg (by omega),if_pos h]
    · rw [if_pos (by omega),if_neg h,List.getD_eq_getElem?_getD,hget _ (by omega),Option.getD_some]
      congr 1
      omega
  have hW:Hid (W1=w.drew.setCells b (0+i*3) news):=hW1
  have hic:i≤cap:=by omega
  have hjc:i+1≤cap:=by omega
  have mixed:Tryz.prog.follows .mixedOrders=true:=by kernel_rfl
  have z1:(0:Int)≤(i:Int)+1:=by omega
  have z2:(i:Int)+1≤(n:Int):=by omega
  subst hm
  clear hW1 hr1 hr2 hr0 hg1 hg2 hget hnews hlen hrowD hone hz1 hz2 hb hsz
  go_enter Tryz.func94,Tryz.ntmps94
  go_wp2_with fail
  go_region_law_o (refine step_append_room rfl (.tmp 22) (.tmp 25) 26 rfl 73 i0 3 Tryz.underlying26 hi0 hs0 b 0 i cap (by simp [Act.eval,Act.put]) A (n-(i+1)) (cap-(i+1)) news (by simp [Act.eval,Act.put]) s1.out hsrc.out s2.out (by omega) s3.out ?_; rw [←hW.out])
  go_wp2
  go_ret
  refine ⟨by rw [show n-1=i+(n-(i+1)) by omega]; rfl,?_⟩
  exact hfin.out
noncomputable def KX (xs:List SV) (ob:List Ob):Option (SV × List Ob) :=
 match xs,ob with
 | [.ref 0,.int .i64 i,.int .i64 j],[.row t sz es]=>bif dec (sz=3∧0≤i∧i.toNat < es.length∧j=i+1∧es.length≤1099511627776) then some (.ref 1,[.gone,.row t sz (es.eraseIdx i.toNat)]) else none
 | _,_=>none
theorem TZ {xs:List SV} {ob:List Ob} {r:SV} {ob':List Ob} (h:KX xs ob=some (r,ob')):Fun Tryz.prog 94 xs ob r ob':=by
  unfold KX at h
  split at h
  · rename_i i j t sz es
    obtain ⟨h1,h2⟩:=Ap h
    obtain ⟨rfl,k1,k2,rfl,k3⟩:=Au.1 h1
    simp only [Option.some.injEq,Prod.mk.injEq] at h2
    obtain ⟨rfl,rfl⟩:=h2
    clear h h1
    obtain ⟨m,rfl⟩:∃ m:Nat,i=m:=⟨i.toNat,by omega⟩
    rw [Int.toNat_natCast] at k2 ⊢
    intro w I V B vs hwf hvs
    obtain ⟨v,q,rfl,hv,hvs⟩:=AT hvs
    obtain ⟨v2,q,rfl,hv2,hvs⟩:=AT hvs
    obtain ⟨v3,q,rfl,hv3,hvs⟩:=AT hvs
    obtain rfl:=GI hvs
    simp only [RepV] at hv hv2 hv3
    subst hv2 hv3
    obtain ⟨val,hval,hrow⟩:=hwf.obj 0 trivial
    rw [hv.1] at hval
    obtain rfl:=Option.some.inj hval
    have hrow:RowR w I (B 0) t 3 es v:=hrow
    rcases hrow with ⟨he,rfl⟩ | ⟨b,cap,cur,Sub,rfl,hs,hb,g1,g2,g3,g4,g5,g6,g7⟩
    · subst he; simp at k2
    · have hcon:=VN es.length m k2 w b cap cur t hb g3 g1 g2 (fun q hq=>by
        have hq1:q / 3<es.length:=by omega
        have:=g7 (q / 3) (q % 3) hq1 (by rw [g4 _ hq1]; omega)
        rw [show q / 3*3+q % 3=q by omega] at this
        exact this.oneCell)
      refine hcon.mono ?_
      rintro e w' ⟨rfl,cur',hro,hcs,hcell⟩
      have hlen:(es.eraseIdx m).length=es.length-1:=by rw [List.length_eraseIdx,if_pos k2]
      have eg:∀ p (hp:p<(es.eraseIdx m).length),∃ hq:(if p<m then p else p+1)<es.length,(es.eraseIdx m)[p]=es[if p<m then p else p+1]:=fun p hp=>by
        have hq:(if p<m then p else p+1)<es.length:=by split <;> omega
        refine ⟨hq,?_⟩
        rw [List.getElem_eraseIdx]
        split <;> simp only [*,if_true,if_false]
      refine ⟨_,I,_,_,rfl,by simp only [RepV]; exact ⟨rfl,rfl⟩,Q1 hwf hro.os ⟨hro.tape,fun h=>False.elim h⟩ hro.output hro.size (fun x hx hn=>hro.block x hx fun e=>hn (e▸hs)) ?_⟩
      refine .inr ⟨b,cap,cur',fun p j x=>Sub (if p<m then p else p+1) j x,by rw [hlen],hs,hro.row,by rw [hlen]; omega,g2,by rw [hcs]; exact g3,fun p hp=>by obtain ⟨hq,e⟩:=eg p hp; rw [e]; exact g4 _ hq,fun p j x h=>g5 _ _ _ h,fun p j p' j' x h h'=>?_,fun p j hp hj=>?_⟩
      · obtain ⟨c1,c2⟩:=g6 _ _ _ _ _ h h'
        refine ⟨?_,c2⟩
        revert c1
        split <;> split <;> omega
      · obtain ⟨hq,e⟩:=eg p hp
        have hj':j<3:=by rw [e] at hj; have:=g4 _ hq; omega
        rw [hcell p (by omega) j hj']
        have h7:=g7 _ j hq (by rw [g4 _ hq]; exact hj')
        have h2:=h7.keep (w':=w') ⟨hro.size,fun x hx hlt=>hro.block x hlt fun e=>hwf.dI 0 x trivial (e▸hs) hx⟩ (fun _ h=>h) (fun x hx hlt=>hro.block x hlt (g5 _ _ _ hx).2)
        simp only [e]
        exact h2
  · cases h
end Go.Proofs.YtibdknkacmimgaaGreatDoor
set_option maxRecDepth 100000
namespace Go.Proofs.YtibdknkacmimgaaGreatDoor
open Go.Shelf
def so_Itoa_ren:Go.Shelf.Ren:=⟨fun | 171=>85 | 243=>125 | 246=>158 | 283=>180 | 284=>181 | 285=>182 | 286=>183 | 129=>193 | 317=>196 | 318=>197 | 319=>198 | 320=>199 | 337=>213 | 338=>214 | n=>n,fun | 3=>3 | 9=>9 | 2=>2 | 4=>4 | 171=>173 | 0=>0 | 53=>174 | 37=>115 | 5=>5 | 173=>177 | 212=>191 | 51=>187 | 20=>20 | 213=>192 | 46=>164 | 232=>209 | 233=>210 | n=>n,fun | 17=>0 | 18=>1 | 19=>2 | n=>n⟩
theorem QcT:Go.Proofs.LaysM.n171 Tryz.prog so_Itoa_ren:={
 mixed:=by kernel_rfl,
 f129:=Tryz.func193.trans (congrArg some (by kernel_rfl)),
 f171:=Tryz.func85.trans (congrArg some (by kernel_rfl)),
 f243:=Tryz.func125.trans (congrArg some (by kernel_rfl)),
 f246:=Tryz.func158.trans (congrArg some (by kernel_rfl)),
 f283:=Tryz.func180.trans (congrArg some (by kernel_rfl)),
 f284:=Tryz.func181.trans (congrArg some (by kernel_rfl)),
 f285:=Tryz.func182.trans (congrArg some (by kernel_rfl)),
 f286:=Tryz.func183.trans (congrArg some (by kernel_rfl)),
 f317:=Tryz.func196.trans (congrArg some (by kernel_rfl)),
 f318:=Tryz.func197.trans (congrArg some (by kernel_rfl)),
 f319:=Tryz.func198.trans (congrArg some (by kernel_rfl)),
 f320:=Tryz.func199.trans (congrArg some (by kernel_rfl)),
 f337:=Tryz.func213.trans (congrArg some (by kernel_rfl)),
 f338:=Tryz.func214.trans (congrArg some (by kernel_rfl)),
 t0:=Tryz.underlying0,
 a0:=Tryz.isAgg0,
 z0:=Tryz.sizeOf0,
 v0:=Tryz.zeroValue0,
 t2:=Tryz.underlying2,
 a2:=Tryz.isAgg2,
 z2:=Tryz.sizeOf2,
 v2:=Tryz.zeroValue2,
 t3:=Tryz.underlying3,
 a3:=Tryz.isAgg3,
 z3:=Tryz.sizeOf3,
 v3:=Tryz.zeroValue3,
 t4:=Tryz.underlying4,
 a4:=Tryz.isAgg4,
 z4:=Tryz.sizeOf4,
 v4:=Tryz.zeroValue4,
 t5:=Tryz.underlying5,
 a5:=Tryz.isAgg5,
 z5:=Tryz.sizeOf5,
 v5:=Tryz.zeroValue5,
 t9:=Tryz.underlying9,
 a9:=Tryz.isAgg9,
 z9:=Tryz.sizeOf9,
 v9:=Tryz.zeroValue9,
 t20:=Tryz.underlying20,
 a20:=Tryz.isAgg20,
 z20:=Tryz.sizeOf20,
 v20:=Tryz.zeroValue20,
 t37:=Tryz.underlying115,
 a37:=Tryz.isAgg115,
 z37:=Tryz.sizeOf115,
 v37:=Tryz.zeroValue115,
 t46:=Tryz.underlying164,
 a46:=Tryz.isAgg164,
 z46:=Tryz.sizeOf164,
 v46:=Tryz.zeroValue164,
 t51:=Tryz.underlying187,
 a51:=Tryz.isAgg187,
 z51:=Tryz.sizeOf187,
 v51:=Tryz.zeroValue187,
 t53:=Tryz.underlying174,
 a53:=Tryz.isAgg174,
 z53:=Tryz.sizeOf174,
 v53:=Tryz.zeroValue174,
 t171:=Tryz.underlying173,
 a171:=Tryz.isAgg173,
 z171:=Tryz.sizeOf173,
 v171:=Tryz.zeroValue173,
 t173:=Tryz.underlying177,
 a173:=Tryz.isAgg177,
 z173:=Tryz.sizeOf177,
 v173:=Tryz.zeroValue177,
 t212:=Tryz.underlying191,
 a212:=Tryz.isAgg191,
 z212:=Tryz.sizeOf191,
 v212:=Tryz.zeroValue191,
 t213:=Tryz.underlying192,
 a213:=Tryz.isAgg192,
 z213:=Tryz.sizeOf192,
 t232:=Tryz.underlying209,
 a232:=Tryz.isAgg209,
 z232:=Tryz.sizeOf209,
 v232:=Tryz.zeroValue209,
 t233:=Tryz.underlying210,
 a233:=Tryz.isAgg210,
 z233:=Tryz.sizeOf210,
 v233:=Tryz.zeroValue210,
 g17:=by kernel_rfl,
 g18:=by kernel_rfl,
 g19:=by kernel_rfl,
 i0:=by kernel_rfl,
 i2:=by kernel_rfl,
 i3:=by kernel_rfl,
 i4:=by kernel_rfl,
 i5:=by kernel_rfl,
 i9:=by kernel_rfl,
 i20:=by kernel_rfl,
 i37:=by kernel_rfl,
 i46:=by kernel_rfl,
 i51:=by kernel_rfl,
 i53:=by kernel_rfl,
 i171:=by kernel_rfl,
 i173:=by kernel_rfl,
 i212:=by kernel_rfl,
 i232:=by kernel_rfl,
 i233:=by kernel_rfl,
 m17:=by kernel_rfl,
 m18:=by kernel_rfl,
 m19:=by kernel_rfl }
end Go.Proofs.YtibdknkacmimgaaGreatDoor
set_option maxRecDepth 100000
set_option linter.unusedSimpArgs false
set_option linter.unusedVariables false
set_option linter.unusedSectionVars false
namespace Go.Proofs.YtibdknkacmimgaaGreatDoor
open Go.RowKit
def Gv (n:Int):ByteArray:=⟨(Lib.itoa n).toArray⟩
noncomputable def Tf:List SV→Option SV
 | [.int .i64 n]=>bif dec (0≤n∧n≤1099511627776) then some (.str (Gv n)) else none
 | _=>none
theorem G5 {n:Int} (h0:0≤n) (h1:n≤1099511627776):(Gv n).size≤20:=by
 obtain ⟨u,rfl⟩:∃ u:Nat,n=u:=⟨n.toNat,by omega⟩
 show (Lib.itoa u).toArray.size≤20
 rw [Lib.itoa_nonneg,List.size_toArray,Lib.decDigits_length]
 rcases Nat.eq_zero_or_pos u with rfl | hu
 ·rw [Lib.nDigits_small (by omega)]; omega
 ·have:=Lib.numDigits_eq u hu (by omega)
  split at this <;> omega
theorem XI {xs:List SV} {r:SV} (h:Tf xs=some r):Fun Tryz.prog 85 xs [] r []:=by
 unfold Tf at h
 split at h
 ·rename_i n
  obtain ⟨h1,h2⟩:=Ap h
  obtain ⟨k1,k2⟩:=Au.1 h1
  obtain rfl:=Option.some.inj h2
  intro w I V B vs hwf hvs
  obtain ⟨v,q,rfl,hv,hvs⟩:=AT hvs
  obtain rfl:=GI hvs
  obtain rfl:=Zh hv
  have hcon:=Any.strconv_Itoa QcT n (by omega) (by omega) w hwf.gl.2.2
  change Calls Tryz.prog 85 _ _ _ at hcon
  refine hcon.mono ?_
  rintro e w' ⟨rfl,k,os,rfl⟩
  have hsz:w.heap.size≤(Sort.grow (w.drewN k) os).heap.size:=by simp [Sort.grow,World.drewN]
  have hbl:∀ x,x<w.heap.size→(Sort.grow (w.drewN k) os).heap[x]?=w.heap[x]?:=fun x hx=>by
   simp only [Sort.grow,World.drewN]
   rw [Array.getElem?_append_left hx]
  have hno:∀ g,¬ (Ao ([]:List Ob) g).live:=fun g h=>by
   have e:Ao ([]:List Ob) g=.free:=rfl
   rw [e] at h
   exact h
  refine ⟨_,I,V,B,rfl,?_,⟨⟨rfl,⟨rfl,fun h=>False.elim h⟩,rfl,hsz,fun x hx _=>hbl x hx⟩,fun _ h=>h,fun _ h=>.inl h,VLe.refl _,⟨fun x hx=>Nat.lt_of_lt_of_le (hwf.ilt x hx) hsz,fun g hl=>(hno g hl).elim,fun g x hl=>(hno g hl).elim,fun g x hl=>(hno g hl).elim,fun g g' x hl=>(hno g hl).elim,fun g hg=>hwf.fr g rfl,hwf.gl.keep ⟨hsz,fun x _ hx=>hbl x hx⟩ fun _ h=>h⟩,fun g x hl=>(hno g hl).elim⟩⟩
  have:=G5 k1 k2
  simp only [RepV]
  exact ⟨rfl,by omega⟩
 ·cases h
def Zm:List (Nat × FM)→Nat→FM
 | [],_=>⟨[],.asis,none,false⟩
 | (f,m) :: r,g=>bif f == g then m else Zm r g
theorem Qaf {l:List (Nat × FM)} {f:Nat} {g:List SV→List Ob→Option (SV × List Ob)} (h:(Zm l f).ext=some g):∃ m,(f,m)∈l∧m.ext=some g:=by
 induction l with
 | nil=>cases h
 | cons x r ih =>
  obtain ⟨f',m⟩:=x
  simp only [Zm] at h
  cases e:f' == f with
  | true =>
   rw [e] at h
   obtain rfl:f'=f:=by simpa using e
   exact ⟨m,by simp,h⟩
  | false =>
   rw [e] at h
   obtain ⟨m',h1,h2⟩:=ih h
   exact ⟨m',by simp [h1],h2⟩
noncomputable def Tg:List SV→Option SV
 | [.int .i64 k]=>bif dec (1≤k)&&dec (k≤1099511627776) then some (.str (Hr k)) else none
 | _=>none
theorem XJ {xs:List SV} {r:SV} (h:Tg xs=some r):Fun Tryz.prog 61 xs [] r []:=by
 unfold Tg at h
 split at h
 ·rename_i k
  obtain ⟨h1,h2⟩:=Ap h
  rw [Bool.and_eq_true,Au,Au] at h1
  obtain rfl:=Option.some.inj h2
  obtain ⟨n,rfl⟩:∃ n:Nat,k=n:=⟨k.toNat,by omega⟩
  refine Fun.X3 (rv:=.string (Hr n)) (fun w I V=>by simp only [RepV,true_and]; exact X4 (by omega) (by omega)) fun w I V vs h=>?_
  obtain ⟨v,r,rfl,h3,h⟩:=AT h
  obtain rfl:=GI h
  obtain rfl:=Zh h3
  exact TQ n w (by omega) (by omega)
 ·cases h
def Qbx:List SV→Option SV
 | [.str s]=>some (.bool (Aq s))
 | _=>none
theorem Qag {xs:List SV} {r:SV} (h:Qbx xs=some r):Fun Tryz.prog 162 xs [] r []:=by
 unfold Qbx at h
 split at h
 ·rename_i s
  obtain rfl:=Option.some.inj h
  refine Fun.of_same (rv:=.bool (Aq s)) (fun w I V=>by simp only [RepV]) fun w I V vs h=>?_
  obtain ⟨v,r,rfl,h3,h⟩:=AT h
  obtain rfl:=GI h
  obtain ⟨rfl,h4⟩:=Py h3
  exact Qq s w h4
 ·cases h
def Qby:List SV→Option SV
 | [.str s]=>some (.bool (Aq s))
 | _=>none
theorem Qah {xs:List SV} {r:SV} (h:Qby xs=some r):Fun Tryz.prog 77 xs [] r []:=by
 unfold Qby at h
 split at h
 ·rename_i s
  obtain rfl:=Option.some.inj h
  refine Fun.of_same (rv:=.bool (Aq s)) (fun w I V=>by simp only [RepV]) fun w I V vs h=>?_
  obtain ⟨v,r,rfl,h3,h⟩:=AT h
  obtain rfl:=GI h
  obtain ⟨rfl,h4⟩:=Py h3
  exact Qab s w h4
 ·cases h
def Qbz:List SV→Option SV
 | [.str s]=>some (.bool (EE s))
 | _=>none
theorem Qai {xs:List SV} {r:SV} (h:Qbz xs=some r):Fun Tryz.prog 153 xs [] r []:=by
 unfold Qbz at h
 split at h
 ·rename_i s
  obtain rfl:=Option.some.inj h
  refine Fun.X3 (rv:=.bool (EE s)) (fun w I V=>by simp only [RepV]) fun w I V vs h=>?_
  obtain ⟨v,r,rfl,h3,h⟩:=AT h
  obtain rfl:=GI h
  obtain ⟨rfl,h4⟩:=Py h3
  exact TT s w h4
 ·cases h
def Qb0:List SV→Option SV
 | [.str s]=>some (.bool (EE s))
 | _=>none
theorem Qaj {xs:List SV} {r:SV} (h:Qb0 xs=some r):Fun Tryz.prog 105 xs [] r []:=by
 unfold Qb0 at h
 split at h
 ·rename_i s
  obtain rfl:=Option.some.inj h
  refine Fun.of_same (rv:=.bool (EE s)) (fun w I V=>by simp only [RepV]) fun w I V vs h=>?_
  obtain ⟨v,r,rfl,h3,h⟩:=AT h
  obtain rfl:=GI h
  obtain ⟨rfl,h4⟩:=Py h3
  exact TU s w h4
 ·cases h
noncomputable def modes:FuncId→FM:=Zm [(61,⟨[],.asis,some (Lm Tg),false⟩),(162,⟨[],.asis,some (Lm Qbx),false⟩),(77,⟨[],.asis,some (Lm Qby),false⟩),(153,⟨[],.asis,some (Lm Qbz),false⟩),(105,⟨[],.asis,some (Lm Qb0),false⟩),(62,⟨[true],.asis,none,true⟩),(35,⟨[true],.asis,none,true⟩),(26,⟨[true],.asis,none,true⟩),(13,⟨[true],.asis,none,false⟩),(165,⟨[],.own [some (71,2)],none,false⟩),(126,⟨[],.own [none,some (71,2)],none,false⟩),(87,⟨[],.late,none,false⟩),(91,⟨[],.own [some (139,3),none],none,false⟩),(148,⟨[],.frz,none,false⟩),(111,⟨[],.frz,none,false⟩),(76,⟨[],.frz,none,false⟩),(132,⟨[],.frz,none,false⟩),(116,⟨[],.frz,none,false⟩),(150,⟨[],.frz,none,false⟩),(115,⟨[],.frz,none,false⟩),(173,⟨[],.frz,none,false⟩),(114,⟨[],.frz,none,false⟩),(134,⟨[true],.asis,some Dh,false⟩),(124,⟨[true],.asis,none,false⟩),(57,⟨[],.own [some (139,3),none],none,false⟩),(90,⟨[],.frz,none,false⟩),(78,⟨[],.frz,none,false⟩),(50,⟨[],.frz,none,false⟩),(140,⟨[],.frz,none,false⟩),(143,⟨[],.own [none,some (71,2)],none,false⟩),(142,⟨[],.frz,none,false⟩),(85,⟨[],.asis,some (Lm Tf),false⟩),(170,⟨[true],.asis,some Hs,false⟩),(171,⟨[true],.asis,some DF,false⟩),(169,⟨[],.own [none,none,some (71,2)],none,false⟩),(138,⟨[],.own [some (73,3)],none,false⟩),(139,⟨[],.own [some (73,3)],none,false⟩),(93,⟨[],.own [some (73,3)],none,false⟩),(98,⟨[],.own [some (73,3)],none,false⟩),(66,⟨[],.frz,none,false⟩),(137,⟨[true],.own [some (73,3),none],none,false⟩),(92,⟨[],.own [some (73,3),none],none,false⟩),(117,⟨[],.frl [10],none,false⟩),(79,⟨[],.frz,none,false⟩),(97,⟨[],.frz,none,false⟩),(80,⟨[],.frz,none,false⟩),(64,⟨[],.frz,none,false⟩),(95,⟨[],.asis,some NO,false⟩),(99,⟨[true],.asis,some Qbw,false⟩),(94,⟨[true],.asis,some KX,false⟩),(67,⟨[],.own [some (73,3)],none,false⟩),(59,⟨[],.own [some (73,3)],none,false⟩),(58,⟨[],.own [some (73,3),none],none,false⟩),(40,⟨[],.own [some (73,3),none],none,false⟩),(23,⟨[],.own [some (73,3),none],none,false⟩),(33,⟨[],.own [some (73,3),none],none,false⟩),(11,⟨[],.own [some (73,3),none],none,false⟩),(43,⟨[],.own [some (28,1),none],none,false⟩),(25,⟨[],.own [some (28,1),none],none,false⟩),(108,⟨[false,true],.asis,none,false⟩),(51,⟨[],.frz,none,false⟩),(37,⟨[],.frz,none,false⟩),(30,⟨[],.frz,none,false⟩),(9,⟨[],.frz,none,false⟩),(22,⟨[],.frz,none,false⟩),(41,⟨[],.frz,none,false⟩),(45,⟨[],.frz,none,false⟩),(24,⟨[],.frz,none,false⟩)]
theorem LW:M1 Tryz.prog modes:=by
 intro f g xs ob r ob' hg hx
 obtain ⟨m,h1,h2⟩:=Qaf hg
 rcases List.mem_cons.1 h1 with h1 | h1
 ·obtain ⟨rfl,rfl⟩:=Prod.mk.inj h1
  obtain rfl:=Option.some.inj h2
  exact G3 XJ hx
 rcases List.mem_cons.1 h1 with h1 | h1
 ·obtain ⟨rfl,rfl⟩:=Prod.mk.inj h1
  obtain rfl:=Option.some.inj h2
  exact G3 Qag hx
 rcases List.mem_cons.1 h1 with h1 | h1
 ·obtain ⟨rfl,rfl⟩:=Prod.mk.inj h1
  obtain rfl:=Option.some.inj h2
  exact G3 Qah hx
 rcases List.mem_cons.1 h1 with h1 | h1
 ·obtain ⟨rfl,rfl⟩:=Prod.mk.inj h1
  obtain rfl:=Option.some.inj h2
  exact G3 Qai hx
 rcases List.mem_cons.1 h1 with h1 | h1
 ·obtain ⟨rfl,rfl⟩:=Prod.mk.inj h1
  obtain rfl:=Option.some.inj h2
  exact G3 Qaj hx
 rcases List.mem_cons.1 h1 with h1 | h1
 ·obtain ⟨rfl,rfl⟩:=Prod.mk.inj h1
  cases h2
 rcases List.mem_cons.1 h1 with h1 | h1
 ·obtain ⟨rfl,rfl⟩:=Prod.mk.inj h1
  cases h2
 rcases List.mem_cons.1 h1 with h1 | h1
 ·obtain ⟨rfl,rfl⟩:=Prod.mk.inj h1
  cases h2
 rcases List.mem_cons.1 h1 with h1 | h1
 ·obtain ⟨rfl,rfl⟩:=Prod.mk.inj h1
  cases h2
 rcases List.mem_cons.1 h1 with h1 | h1
 ·obtain ⟨rfl,rfl⟩:=Prod.mk.inj h1
  cases h2
 rcases List.mem_cons.1 h1 with h1 | h1
 ·obtain ⟨rfl,rfl⟩:=Prod.mk.inj h1
  cases h2
 rcases List.mem_cons.1 h1 with h1 | h1
 ·obtain ⟨rfl,rfl⟩:=Prod.mk.inj h1
  cases h2
 rcases List.mem_cons.1 h1 with h1 | h1
 ·obtain ⟨rfl,rfl⟩:=Prod.mk.inj h1
  cases h2
 rcases List.mem_cons.1 h1 with h1 | h1
 ·obtain ⟨rfl,rfl⟩:=Prod.mk.inj h1
  cases h2
 rcases List.mem_cons.1 h1 with h1 | h1
 ·obtain ⟨rfl,rfl⟩:=Prod.mk.inj h1
  cases h2
 rcases List.mem_cons.1 h1 with h1 | h1
 ·obtain ⟨rfl,rfl⟩:=Prod.mk.inj h1
  cases h2
 rcases List.mem_cons.1 h1 with h1 | h1
 ·obtain ⟨rfl,rfl⟩:=Prod.mk.inj h1
  cases h2
 rcases List.mem_cons.1 h1 with h1 | h1
 ·obtain ⟨rfl,rfl⟩:=Prod.mk.inj h1
  cases h2
 rcases List.mem_cons.1 h1 with h1 | h1
 ·obtain ⟨rfl,rfl⟩:=Prod.mk.inj h1
  cases h2
 rcases List.mem_cons.1 h1 with h1 | h1
 ·obtain ⟨rfl,rfl⟩:=Prod.mk.inj h1
  cases h2
 rcases List.mem_cons.1 h1 with h1 | h1
 ·obtain ⟨rfl,rfl⟩:=Prod.mk.inj h1
  cases h2
 rcases List.mem_cons.1 h1 with h1 | h1
 ·obtain ⟨rfl,rfl⟩:=Prod.mk.inj h1
  cases h2
 rcases List.mem_cons.1 h1 with h1 | h1
 ·obtain ⟨rfl,rfl⟩:=Prod.mk.inj h1
  obtain rfl:=Option.some.inj h2
  exact NI hx
 rcases List.mem_cons.1 h1 with h1 | h1
 ·obtain ⟨rfl,rfl⟩:=Prod.mk.inj h1
  cases h2
 rcases List.mem_cons.1 h1 with h1 | h1
 ·obtain ⟨rfl,rfl⟩:=Prod.mk.inj h1
  cases h2
 rcases List.mem_cons.1 h1 with h1 | h1
 ·obtain ⟨rfl,rfl⟩:=Prod.mk.inj h1
  cases h2
 rcases List.mem_cons.1 h1 with h1 | h1
 ·obtain ⟨rfl,rfl⟩:=Prod.mk.inj h1
  cases h2
 rcases List.mem_cons.1 h1 with h1 | h1
 ·obtain ⟨rfl,rfl⟩:=Prod.mk.inj h1
  cases h2
 rcases List.mem_cons.1 h1 with h1 | h1
 ·obtain ⟨rfl,rfl⟩:=Prod.mk.inj h1
  cases h2
 rcases List.mem_cons.1 h1 with h1 | h1
 ·obtain ⟨rfl,rfl⟩:=Prod.mk.inj h1
  cases h2
 rcases List.mem_cons.1 h1 with h1 | h1
 ·obtain ⟨rfl,rfl⟩:=Prod.mk.inj h1
  cases h2
 rcases List.mem_cons.1 h1 with h1 | h1
 ·obtain ⟨rfl,rfl⟩:=Prod.mk.inj h1
  obtain rfl:=Option.some.inj h2
  exact G3 XI hx
 rcases List.mem_cons.1 h1 with h1 | h1
 ·obtain ⟨rfl,rfl⟩:=Prod.mk.inj h1
  obtain rfl:=Option.some.inj h2
  exact TW hx
 rcases List.mem_cons.1 h1 with h1 | h1
 ·obtain ⟨rfl,rfl⟩:=Prod.mk.inj h1
  obtain rfl:=Option.some.inj h2
  exact Pe hx
 rcases List.mem_cons.1 h1 with h1 | h1
 ·obtain ⟨rfl,rfl⟩:=Prod.mk.inj h1
  cases h2
 rcases List.mem_cons.1 h1 with h1 | h1
 ·obtain ⟨rfl,rfl⟩:=Prod.mk.inj h1
  cases h2
 rcases List.mem_cons.1 h1 with h1 | h1
 ·obtain ⟨rfl,rfl⟩:=Prod.mk.inj h1
  cases h2
 rcases List.mem_cons.1 h1 with h1 | h1
 ·obtain ⟨rfl,rfl⟩:=Prod.mk.inj h1
  cases h2
 rcases List.mem_cons.1 h1 with h1 | h1
 ·obtain ⟨rfl,rfl⟩:=Prod.mk.inj h1
  cases h2
 rcases List.mem_cons.1 h1 with h1 | h1
 ·obtain ⟨rfl,rfl⟩:=Prod.mk.inj h1
  cases h2
 rcases List.mem_cons.1 h1 with h1 | h1
 ·obtain ⟨rfl,rfl⟩:=Prod.mk.inj h1
  cases h2
 rcases List.mem_cons.1 h1 with h1 | h1
 ·obtain ⟨rfl,rfl⟩:=Prod.mk.inj h1
  cases h2
 rcases List.mem_cons.1 h1 with h1 | h1
 ·obtain ⟨rfl,rfl⟩:=Prod.mk.inj h1
  cases h2
 rcases List.mem_cons.1 h1 with h1 | h1
 ·obtain ⟨rfl,rfl⟩:=Prod.mk.inj h1
  cases h2
 rcases List.mem_cons.1 h1 with h1 | h1
 ·obtain ⟨rfl,rfl⟩:=Prod.mk.inj h1
  cases h2
 rcases List.mem_cons.1 h1 with h1 | h1
 ·obtain ⟨rfl,rfl⟩:=Prod.mk.inj h1
  cases h2
 rcases List.mem_cons.1 h1 with h1 | h1
 ·obtain ⟨rfl,rfl⟩:=Prod.mk.inj h1
  cases h2
 rcases List.mem_cons.1 h1 with h1 | h1
 ·obtain ⟨rfl,rfl⟩:=Prod.mk.inj h1
  obtain rfl:=Option.some.inj h2
  exact VM hx
 rcases List.mem_cons.1 h1 with h1 | h1
 ·obtain ⟨rfl,rfl⟩:=Prod.mk.inj h1
  obtain rfl:=Option.some.inj h2
  exact XH hx
 rcases List.mem_cons.1 h1 with h1 | h1
 ·obtain ⟨rfl,rfl⟩:=Prod.mk.inj h1
  obtain rfl:=Option.some.inj h2
  exact TZ hx
 rcases List.mem_cons.1 h1 with h1 | h1
 ·obtain ⟨rfl,rfl⟩:=Prod.mk.inj h1
  cases h2
 rcases List.mem_cons.1 h1 with h1 | h1
 ·obtain ⟨rfl,rfl⟩:=Prod.mk.inj h1
  cases h2
 rcases List.mem_cons.1 h1 with h1 | h1
 ·obtain ⟨rfl,rfl⟩:=Prod.mk.inj h1
  cases h2
 rcases List.mem_cons.1 h1 with h1 | h1
 ·obtain ⟨rfl,rfl⟩:=Prod.mk.inj h1
  cases h2
 rcases List.mem_cons.1 h1 with h1 | h1
 ·obtain ⟨rfl,rfl⟩:=Prod.mk.inj h1
  cases h2
 rcases List.mem_cons.1 h1 with h1 | h1
 ·obtain ⟨rfl,rfl⟩:=Prod.mk.inj h1
  cases h2
 rcases List.mem_cons.1 h1 with h1 | h1
 ·obtain ⟨rfl,rfl⟩:=Prod.mk.inj h1
  cases h2
 rcases List.mem_cons.1 h1 with h1 | h1
 ·obtain ⟨rfl,rfl⟩:=Prod.mk.inj h1
  cases h2
 rcases List.mem_cons.1 h1 with h1 | h1
 ·obtain ⟨rfl,rfl⟩:=Prod.mk.inj h1
  cases h2
 rcases List.mem_cons.1 h1 with h1 | h1
 ·obtain ⟨rfl,rfl⟩:=Prod.mk.inj h1
  cases h2
 rcases List.mem_cons.1 h1 with h1 | h1
 ·obtain ⟨rfl,rfl⟩:=Prod.mk.inj h1
  cases h2
 rcases List.mem_cons.1 h1 with h1 | h1
 ·obtain ⟨rfl,rfl⟩:=Prod.mk.inj h1
  cases h2
 rcases List.mem_cons.1 h1 with h1 | h1
 ·obtain ⟨rfl,rfl⟩:=Prod.mk.inj h1
  cases h2
 rcases List.mem_cons.1 h1 with h1 | h1
 ·obtain ⟨rfl,rfl⟩:=Prod.mk.inj h1
  cases h2
 rcases List.mem_cons.1 h1 with h1 | h1
 ·obtain ⟨rfl,rfl⟩:=Prod.mk.inj h1
  cases h2
 rcases List.mem_cons.1 h1 with h1 | h1
 ·obtain ⟨rfl,rfl⟩:=Prod.mk.inj h1
  cases h2
 rcases List.mem_cons.1 h1 with h1 | h1
 ·obtain ⟨rfl,rfl⟩:=Prod.mk.inj h1
  cases h2
 rcases List.mem_cons.1 h1 with h1 | h1
 ·obtain ⟨rfl,rfl⟩:=Prod.mk.inj h1
  cases h2
 cases h1
noncomputable def E:FEnv:=ev Tryz.prog modes
noncomputable def calls:CallF:=CQ modes E
theorem E_told {f:FuncId} {xs:List SV} {ob:List Ob} {r:SV} {ob':List Ob} (h:E f xs ob=some (r,ob')):Fun Tryz.prog f xs ob r ob':=Zg Qbe LW f xs ob r ob' h
noncomputable def run (n0:Nat):SC→St→Option (X × St):=fr Tryz.prog calls (IW n0)
def go (n0:Nat) (sc:SC) (st:St) (K:X→St→Prop):Prop:=∃ x st',run n0 sc st=some (x,st')∧K x st'
def Q3 (n0:Nat) (b:SC) (K:X→St→Prop):X→St→Prop
 | .normal,st=>go n0 b st K
 | .exit i,st=>K (.exit i) st
 | .ret,st=>K .ret st
def blk (id:Nat) (K:X→St→Prop):X→St→Prop
 | .normal,st=>K .normal st
 | .exit i,st=>if i=id then K .normal st else K (.exit i) st
 | .ret,st=>K .ret st
def Q4 (r:Option St) (k:X→St→Prop):Prop :=
 match r with
 | some st=>k .normal st
 | none=>False
def Q5 (anc:List (List Nat)) (r:Option (List Ent × St)) (k:X→St→Prop):Prop :=
 match r with
 | some (es,st)=>obB anc [] (Gt es) 0=true∧k .normal st
 | none=>False
def Ht (v:SV) (a b:Unit→Prop):Prop :=
 match v with
 | .bool true=>a ()
 | .bool false=>b ()
 | _=>False
noncomputable def LX (ops:List SOper) (st:St):Option St:=Pc Tryz.prog calls ops st
noncomputable def LY (ops:List SOper) (acc:List Ent) (st:St):Option (List Ent × St):=HV Tryz.prog calls ops acc st
section
variable {n0:Nat} {st:St} {K:X→St→Prop}
theorem go_skip:go n0 .skip st K=K .normal st:=by
 refine propext ⟨fun ⟨x,st',h,k⟩=>?_,fun k=>⟨_,_,rfl,k⟩⟩
 obtain ⟨rfl,rfl⟩:X.normal=x∧st=st':=by simpa [run,fr] using h
 exact k
theorem Ua {i:Nat}:go n0 (.exit i) st K=K (.exit i) st:=by
 refine propext ⟨fun ⟨x,st',h,k⟩=>?_,fun k=>⟨_,_,rfl,k⟩⟩
 obtain ⟨rfl,rfl⟩:X.exit i=x∧st=st':=by simpa [run,fr] using h
 exact k
theorem go_ret:go n0 .ret st K=K .ret st:=by
 refine propext ⟨fun ⟨x,st',h,k⟩=>?_,fun k=>⟨_,_,rfl,k⟩⟩
 obtain ⟨rfl,rfl⟩:X.ret=x∧st=st':=by simpa [run,fr] using h
 exact k
theorem XK {ops:List SOper}:go n0 (.reg ops) st K=Q4 (LX ops st) K:=by
 unfold Q4 LX
 refine propext ⟨fun ⟨x,st',h,k⟩=>?_,fun k=>?_⟩
 ·simp only [run,fr] at h
  split at h
  ·rename_i s hs
   simp only [Option.some.injEq,Prod.mk.injEq] at h
   obtain ⟨rfl,rfl⟩:=h
   first | exact k | (simp only [hs]; exact k)
  ·cases h
 ·split at k
  ·rename_i s hs
   exact ⟨.normal,s,by simp only [run,fr,hs],k⟩
  ·exact k.elim
theorem Ub {anc:List (List Nat)} {ops:List SOper}:go n0 (.dreg anc ops) st K=Q5 anc (LY ops [] st) K:=by
 unfold Q5 LY
 refine propext ⟨fun ⟨x,st',h,k⟩=>?_,fun k=>?_⟩
 ·simp only [run,fr] at h
  split at h
  ·rename_i es s hs
   obtain ⟨h1,h2⟩:=Ap h
   simp only [Option.some.injEq,Prod.mk.injEq] at h2
   obtain ⟨rfl,rfl⟩:=h2
   first | exact ⟨h1,k⟩ | (simp only [hs]; exact ⟨h1,k⟩)
  ·cases h
 ·split at k
  ·rename_i es s hs
   exact ⟨.normal,s,by simp only [run,fr,hs,k.1,cond_true],k.2⟩
  ·exact k.elim
theorem XL {a b:SC}:go n0 (.seq a b) st K=go n0 a st (Q3 n0 b K):=by
 refine propext ⟨fun ⟨x,st',h,k⟩=>?_,fun ⟨x,st',h,k⟩=>?_⟩
 ·simp only [run,fr,Cw] at h
  split at h
  ·rename_i s hs
   exact ⟨.normal,s,hs,x,st',h,k⟩
  ·rename_i i s hs
   simp only [Option.some.injEq,Prod.mk.injEq] at h
   obtain ⟨rfl,rfl⟩:=h
   exact ⟨_,_,hs,k⟩
  ·rename_i s hs
   simp only [Option.some.injEq,Prod.mk.injEq] at h
   obtain ⟨rfl,rfl⟩:=h
   exact ⟨_,_,hs,k⟩
  ·cases h
 ·simp only [run] at h
  cases x with
  | normal =>
   obtain ⟨x2,st2,h2,k2⟩:=k
   exact ⟨x2,st2,by simp only [run,fr,Cw,h]; exact h2,k2⟩
  | exit i=>exact ⟨_,st',by simp only [run,fr,Cw,h],k⟩
  | ret=>exact ⟨_,st',by simp only [run,fr,Cw,h],k⟩
theorem Q6 {id:Nat} {b:SC}:go n0 (.block id b) st K=go n0 b st (blk id K):=by
  refine propext ⟨fun ⟨x,st',h,k⟩=>?_,fun ⟨x,st',h,k⟩=>?_⟩
  · simp only [run,fr,EG] at h
    split at h
    · rename_i s hs
      simp only [Option.some.injEq,Prod.mk.injEq] at h
      obtain ⟨rfl,rfl⟩:=h
      exact ⟨.normal,s,hs,k⟩
    · rename_i i s hs
      refine ⟨.exit i,s,hs,?_⟩
      simp only [blk]
      by_cases hi:i=id
      · simp only [if_pos hi,Option.some.injEq,Prod.mk.injEq] at h ⊢
        obtain ⟨rfl,rfl⟩:=h
        exact k
      · simp only [if_neg hi,Option.some.injEq,Prod.mk.injEq] at h ⊢
        obtain ⟨rfl,rfl⟩:=h
        exact k
    · rename_i s hs
      simp only [Option.some.injEq,Prod.mk.injEq] at h
      obtain ⟨rfl,rfl⟩:=h
      exact ⟨_,s,hs,k⟩
    · cases h
  · simp only [run] at h
    cases x with
    | normal=>exact ⟨_,st',by simp only [run,fr,EG,h],k⟩
    | exit i =>
      simp only [blk] at k
      by_cases hi:i=id
      · simp only [if_pos hi] at k
        exact ⟨.normal,st',by simp only [run,fr,EG,h,if_pos hi],k⟩
      · simp only [if_neg hi] at k
        exact ⟨.exit i,st',by simp only [run,fr,EG,h,if_neg hi],k⟩
    | ret=>exact ⟨_,st',by simp only [run,fr,EG,h],k⟩
theorem Aa {q:SX} {a b:SC}:go n0 (.cond q a b) st K=Ht (A4 (gets st.sl) q) (fun _=>go n0 a st K) (fun _=>go n0 b st K):=by
 unfold Ht
 refine propext ⟨fun ⟨x,st',h,k⟩=>?_,fun k=>?_⟩
 ·simp only [run,fr] at h
  split at h
  ·rename_i t ht
   simp only [ht]
   cases t with
   | true=>exact ⟨x,st',h,k⟩
   | false=>exact ⟨x,st',h,k⟩
  ·cases h
 ·split at k
  ·rename_i ht
   obtain ⟨x,st',h,k⟩:=k
   exact ⟨x,st',by simp only [run,fr,ht,cond_true]; exact h,k⟩
  ·rename_i ht
   obtain ⟨x,st',h,k⟩:=k
   exact ⟨x,st',by simp only [run,fr,ht,cond_false]; exact h,k⟩
  ·exact k.elim
theorem Uc {a b:Unit→Prop}:Ht (.bool true) a b=a ():=rfl
theorem Ud {a b:Unit→Prop}:Ht (.bool false) a b=b ():=rfl
theorem Ue {t:Bool} {a b:Unit→Prop}:Ht (.bool (!t)) a b=Ht (.bool t) b a:=by cases t <;> rfl
theorem Qb1 {q:SX} {a b:SC} (h:A4 (gets st.sl) q=.bool true) (k:go n0 a st K):go n0 (.cond q a b) st K:=by rw [Aa,h]; exact k
theorem Qb2 {q:SX} {a b:SC} (h:A4 (gets st.sl) q=.bool false) (k:go n0 b st K):go n0 (.cond q a b) st K:=by rw [Aa,h]; exact k
theorem Di {t:Bool} {a b:Unit→Prop} (h1:t=true→a ()) (h2:t=false→b ()):Ht (.bool t) a b:=by
 cases t with
 | true=>exact h1 rfl
 | false=>exact h2 rfl
theorem XM {b:SC}:Q3 n0 b K .normal st=go n0 b st K:=rfl
theorem XN {b:SC} {i:Nat}:Q3 n0 b K (.exit i) st=K (.exit i) st:=rfl
theorem XO {b:SC}:Q3 n0 b K .ret st=K .ret st:=rfl
theorem Qb3 {id:Nat}:blk id K .normal st=K .normal st:=rfl
theorem Qb4 {id i:Nat}:blk id K (.exit i) st=if i=id then K .normal st else K (.exit i) st:=rfl
theorem Qb5 {id:Nat}:blk id K .ret st=K .ret st:=rfl
theorem Uf:Q4 (some st) K=K .normal st:=rfl
def quiet:List Ent→Bool
 | []=>true
 | ⟨_,_,[],_⟩ :: r=>quiet r
 | ⟨_,_,_ :: _,_⟩ :: _=>false
theorem GQ {anc:List (List Nat)} {rd:List Nat} {j:Nat}:∀ {l:List Ent} {i:Nat},quiet l=true→RK anc rd [] j (Gt l) i=true
 | [],i,_=>rfl
 | ⟨_,_,[],rdi⟩ :: r,i,h=>by
  have:=GQ (anc:=anc) (rd:=rd) (j:=j) (l:=r) (i:=i+1) h
  simp only [Gt,List.map_cons,List.map_nil] at this ⊢
  simp only [RK,this,Bool.and_true]
  have e1:meets [] (rd++[])=false:=rfl
  have e2:meets rdi []=false:=by cases rdi <;> simp [meets]
  rw [e1,e2]; rfl
theorem NP {l l':List Ent} (h:quiet l=true) (h':quiet l'=true):quiet (l++l')=true:=by
 induction l with
 | nil=>exact h'
 | cons x r ih =>
  obtain ⟨a,b,c,d⟩:=x
  cases c with
  | nil=>exact ih h
  | cons _ _=>cases h
theorem Ix {anc:List (List Nat)}:∀ {l pre:List Ent} {j:Nat},quiet pre=true→quiet l=true→obB anc (Gt pre) (Gt l) j=true
 | [],pre,j,_,_=>rfl
 | ⟨a,b,[],rd⟩ :: r,pre,j,hp,h=>by
  have e:=Ix (anc:=anc) (l:=r) (pre:=pre++[⟨a,b,[],rd⟩]) (j:=j+1) (NP hp rfl) h
  have e2:=GQ (anc:=anc) (rd:=rd) (j:=j) (i:=0) hp
  simp only [Gt,List.map_append,List.map_cons,List.map_nil] at e e2 ⊢
  simp only [obB,e2,e,Bool.and_self]
theorem Ug {anc:List (List Nat)} {es:List Ent}:Q5 anc (some (es,st)) K=match quiet es with
  | true=>K .normal st
  | false=>obB anc [] (Gt es) 0=true∧K .normal st:=by
 show (obB anc [] (Gt es) 0=true∧K .normal st)=_
 cases h:quiet es with
 | true=>exact propext ⟨fun h=>h.2,fun h'=>⟨Ix (pre:=[]) rfl h,h'⟩⟩
 | false=>rfl
noncomputable def XP (r:List SOper) (e:Option (Ent × St)):Option St :=
 match e with
 | some (_,st)=>LX r st
 | none=>none
noncomputable def XQ (r:List SOper) (acc:List Ent) (e:Option (Ent × St)):Option (List Ent × St) :=
 match e with
 | some (x,st)=>LY r (acc++[x]) st
 | none=>none
noncomputable def opF (so:SOp) (sl:List SV) (ob:List Ob):Option R3:=fOp Tryz.prog calls so sl ob
theorem Q7:LX [] st=some st:=rfl
theorem NQ {d:Option Tmp} {so:SOp} {r:List SOper} {sl:List SV} {ob:List Ob}:LX (⟨d,none,so⟩ :: r) ⟨sl,ob⟩=XP r (GC d ⟨sl,ob⟩ (opF so sl ob)):=rfl
noncomputable def gdF (d:Option Tmp) (so:SOp) (want:Bool) (sl:List SV) (ob:List Ob) (v:SV):Option (Ent × St) :=
 match v with
 | .bool b=>bif RN b want then GC d ⟨sl,ob⟩ (opF so sl ob) else some (⟨false,.tup [],[],[]⟩,⟨E6 sl d (.tup []),ob⟩)
 | .tup []=>some (⟨false,.tup [],[],[]⟩,⟨E6 sl d (.tup []),ob⟩)
 | _=>none
theorem Uh {d:Option Tmp} {k:Nat} {want:Bool} {so:SOp} {r:List SOper} {sl:List SV} {ob:List Ob}:LX (⟨d,some (k,want),so⟩ :: r) ⟨sl,ob⟩=XP r (gdF d so want sl ob (gets sl k)):=rfl
theorem Q8 {acc:List Ent}:LY [] acc st=some (acc,st):=rfl
theorem NR {d:Option Tmp} {so:SOp} {r:List SOper} {acc:List Ent} {sl:List SV} {ob:List Ob}:LY (⟨d,none,so⟩ :: r) acc ⟨sl,ob⟩=XQ r acc (GC d ⟨sl,ob⟩ (opF so sl ob)):=rfl
theorem Ui {d:Option Tmp} {k:Nat} {want:Bool} {so:SOp} {r:List SOper} {acc:List Ent} {sl:List SV} {ob:List Ob}:LY (⟨d,some (k,want),so⟩ :: r) acc ⟨sl,ob⟩=XQ r acc (gdF d so want sl ob (gets sl k)):=rfl
theorem XR {r:List SOper} {e:Ent}:XP r (some (e,st))=LX r st:=rfl
theorem XS {r:List SOper} {acc:List Ent} {e:Ent}:XQ r acc (some (e,st))=LY r (acc++[e]) st:=rfl
theorem Qb6 {d:Option Tmp} {so:SOp} {sl:List SV} {ob:List Ob}:gdF d so true sl ob (.bool true)=GC d ⟨sl,ob⟩ (opF so sl ob):=rfl
theorem XT {d:Option Tmp} {so:SOp} {sl:List SV} {ob:List Ob}:gdF d so false sl ob (.bool false)=GC d ⟨sl,ob⟩ (opF so sl ob):=rfl
theorem XU {d:Option Tmp} {so:SOp} {sl:List SV} {ob:List Ob}:gdF d so true sl ob (.bool false)=some (⟨false,.tup [],[],[]⟩,⟨E6 sl d (.tup []),ob⟩):=rfl
theorem XV {d:Option Tmp} {so:SOp} {sl:List SV} {ob:List Ob}:gdF d so false sl ob (.bool true)=some (⟨false,.tup [],[],[]⟩,⟨E6 sl d (.tup []),ob⟩):=rfl
theorem Qb7 {d:Option Tmp} {so:SOp} {want:Bool} {sl:List SV} {ob:List Ob}:gdF d so want sl ob (.tup [])=some (⟨false,.tup [],[],[]⟩,⟨E6 sl d (.tup []),ob⟩):=rfl
theorem XW {d:Option Tmp} {x:SV} {rd:List Nat}:GC d st (some (x,[],rd))=some (⟨true,x,[],rd⟩,⟨E6 st.sl d x,st.ob⟩):=rfl
theorem XX {d:Option Tmp} {x:SV} {q:Nat × Ob} {u:List (Nat × Ob)} {rd:List Nat}:GC d st (some (x,q :: u,rd))=bif V3 (Dd st.ob (q :: u)).length (q :: u) then some (⟨true,x,q :: u,rd⟩,⟨E6 st.sl d x,Dd st.ob (q :: u)⟩) else none:=rfl
def Kg (ob:List Ob) (xs:List SV) (sel:List Nat) (r:Option (SV × List Ob)) (n:Nat):Option R3 :=
 match r with
 | some (r,fob')=>bif decide (n≤fob'.length) then some (DX sel (Bh sel xs) ob.length r fob') else none
 | none=>none
def XY (hd:List Bool) (f:FuncId) (xs:List SV) (ob:List Ob) (sel:List Nat) (e:List SV→List Ob→Option (SV × List Ob)) (b:Option (List Ob)):Option R3 :=
 match b with
 | some fob=>bif nodupB sel&&HW ob.length sel&&F2 fob.length fob then Kg ob xs sel (e (Fe hd (Ao ob) sel xs) fob) fob.length else none
 | none=>none
def Q9 (hd:List Bool) (f:FuncId) (xs:List SV) (ob:List Ob) (sel:List Nat) (e:List SV→List Ob→Option (SV × List Ob)):Option R3:=XY hd f xs ob sel e (Ev sel ob sel)
theorem QA {f:FuncId} {xs:List SV} {ob:List Ob}:calls f xs ob=Ek (modes f).res (Q9 (modes f).hand f xs ob (reach ob 64 (FF (modes f).hand xs) []) (E f)):=rfl
theorem XZ {r:Option R3}:Ek .asis r=r:=rfl
theorem Ya {r:Option R3}:Ek .frz r=r:=rfl
theorem Yb {l:List (Option (Nat × Nat))} {r:Option R3}:Ek (.own l) r=r:=rfl
theorem Yc {l:List (Option (Nat × Nat))} {r:Option R3}:Ek (.tr l) r=r:=rfl
theorem Yd {l:List Nat} {r:Option R3}:Ek (.frl l) r=r:=rfl
theorem Ye {r:R3}:Ek .late (some r)=Qa r:=rfl
theorem E9:∀ u:List (Nat × Ob),CK [] u=u
 | []=>rfl
 | (g,o) :: u=>by rw [CK,E9 u]; rfl
theorem Yf {m:RM} {b:Bool} {u:List (Nat × Ob)} {rd:List Nat}:Ek m (some (.bool b,u,rd))=some (.bool b,u,rd):=by
 cases m <;> first | rfl | (show some (SV.bool b,CK [] u,rd)=_; rw [E9])
theorem Yg {m:RM} {k:IntKind} {n:Int} {u:List (Nat × Ob)} {rd:List Nat}:Ek m (some (.int k n,u,rd))=some (.int k n,u,rd):=by
 cases m <;> first | rfl | (show some (SV.int k n,CK [] u,rd)=_; rw [E9])
theorem NS {hd:List Bool} {f:FuncId} {xs:List SV} {ob:List Ob} {e:List SV→List Ob→Option (SV × List Ob)}:Q9 hd f xs ob [] e=Kg ob xs [] (e (Fe hd (Ao ob) [] xs) []) 0:=rfl
theorem LZ {hd:List Bool} {f:FuncId} {xs:List SV} {ob:List Ob} {g:Nat} {r:List Nat} {e:List SV→List Ob→Option (SV × List Ob)}:Q9 hd f xs ob (g :: r) e=XY hd f xs ob (g :: r) e (Ev (g :: r) ob (g :: r)):=rfl
theorem Uj {ob:List Ob} {xs:List SV} {r:SV} {fob':List Ob}:Kg ob xs [] (some (r,fob')) 0=some (DX [] (Bh [] xs) ob.length r fob'):=rfl
theorem Uk {ob:List Ob} {xs:List SV} {sel:List Nat} {r:SV} {fob':List Ob} {n:Nat}:Kg ob xs sel (some (r,fob')) n=bif decide (n≤fob'.length) then some (DX sel (Bh sel xs) ob.length r fob') else none:=rfl
theorem Yh {hd:List Bool} {f:FuncId} {xs:List SV} {ob:List Ob} {sel:List Nat} {fob:List Ob} {e:List SV→List Ob→Option (SV × List Ob)}:XY hd f xs ob sel e (some fob)=bif nodupB sel&&HW ob.length sel&&F2 fob.length fob then Kg ob xs sel (e (Fe hd (Ao ob) sel xs) fob) fob.length else none:=rfl
theorem NT {p:Nat} {r:SV}:DX [] [] p r []=(r.ren (sgp [] p),[],[]):=rfl
def DG {α:Type} (n0:Nat) (keep:List Nat) (H:α→St) (R:α→Prop) (μ:α→Nat) (a:α) (K:X→St→Prop):X→St→Prop
 | .normal,st'=>∃ y,R y∧μ y < μ a∧canon n0 keep st'=H y
 | .exit i,st'=>K (.exit i) st'
 | .ret,st'=>K .ret st'
theorem QB {α:Type} {keep:List Nat} {H:α→St} {R:α→Prop} {μ:α→Nat} {a:α} {st':St}:DG n0 keep H R μ a K .normal st'=∃ y,R y∧μ y < μ a∧canon n0 keep st'=H y:=rfl
theorem QC {α:Type} {keep:List Nat} {H:α→St} {R:α→Prop} {μ:α→Nat} {a:α} {i:Nat} {st':St}:DG n0 keep H R μ a K (.exit i) st'=K (.exit i) st':=rfl
theorem QD {α:Type} {keep:List Nat} {H:α→St} {R:α→Prop} {μ:α→Nat} {a:α} {st':St}:DG n0 keep H R μ a K .ret st'=K .ret st':=rfl
theorem go_loop {α:Type} {keep:List Nat} {b:SC} (H:α→St) (R:α→Prop) (μ:α→Nat) (a0:α) (hR:R a0) (h0:canon n0 keep st=H a0) (round:∀ a,R a→go n0 b (H a) (DG n0 keep H R μ a K)):go n0 (.loop keep b) st K:=by
  have key:∀ (n:Nat) (a:α) (st:St),μ a≤n→R a→canon n0 keep st=H a→∃ x st',Ql n0 keep (run n0 b) st=some (x,st')∧K x st':=by
    intro n
    induction n with
    | zero =>
      intro a st hn hR hc
      obtain ⟨x,st',h,k⟩:=round a hR
      cases x with
      | normal =>
        obtain ⟨y,_,h2,_⟩:=k
        omega
      | exit i=>exact ⟨_,st',by rw [El,hc,h]; rfl,k⟩
      | ret=>exact ⟨_,st',by rw [El,hc,h]; rfl,k⟩
    | succ n ih =>
      intro a st hn hR hc
      obtain ⟨x,st',h,k⟩:=round a hR
      cases x with
      | normal =>
        obtain ⟨y,h1,h2,h3⟩:=k
        obtain ⟨x2,st2,h4,k2⟩:=ih y st' (by omega) h1 h3
        exact ⟨x2,st2,by rw [El,hc,h]; exact h4,k2⟩
      | exit i=>exact ⟨_,st',by rw [El,hc,h]; rfl,k⟩
      | ret=>exact ⟨_,st',by rw [El,hc,h]; rfl,k⟩
  exact key (μ a0) a0 st (Nat.le_refl _) hR h0
def Jb (n0:Nat) (keep keepO:List Nat) (H:EL→St) (F:X × St) (p:EL):X→St→Prop
 | .normal,st'=>canon n0 keep st'=H p
 | .exit i,st'=>F=(.exit i,canon n0 keepO st')
 | .ret,st'=>F=(.ret,canon n0 keepO st')
def VO (n0:Nat) (keepO:List Nat) (F:X × St):X→St→Prop
 | .normal,_=>False
 | .exit i,st'=>F=(.exit i,canon n0 keepO st')
 | .ret,st'=>F=(.ret,canon n0 keepO st')
theorem NU {keep keepO:List Nat} {H:EL→St} {F:X × St} {p:EL} {st':St}:Jb n0 keep keepO H F p .normal st'=(canon n0 keep st'=H p):=rfl
theorem NV {keep keepO:List Nat} {H:EL→St} {F:X × St} {p:EL} {i:Nat} {st':St}:Jb n0 keep keepO H F p (.exit i) st'=(F=(.exit i,canon n0 keepO st')):=rfl
theorem NW {keep keepO:List Nat} {H:EL→St} {F:X × St} {p:EL} {st':St}:Jb n0 keep keepO H F p .ret st'=(F=(.ret,canon n0 keepO st')):=rfl
theorem Ul {keepO:List Nat} {F:X × St} {i:Nat} {st':St}:VO n0 keepO F (.exit i) st'=(F=(.exit i,canon n0 keepO st')):=rfl
theorem Um {keepO:List Nat} {F:X × St} {st':St}:VO n0 keepO F .ret st'=(F=(.ret,canon n0 keepO st')):=rfl
end
def slots:Nat→Nat→List (Nat × SV)→List SV
 | 0,_,_=>[]
 | n+1,k,[]=>.any :: slots n (k+1) []
 | n+1,k,(j,x) :: r=>bif j == k then x :: slots n (k+1) r else .any :: slots n (k+1) ((j,x) :: r)
def RV (res:RM) (n0:Nat) (rs:List RX) (out:SV × List Ob) (x:X) (st:St):Prop:=fin res n0 rs x st=some out
def Yi (res:RM) (n0:Nat) (r:Option (SV × List Ob)):Option (SV × List Ob) :=
 match r with
 | some (r,ob)=>order res n0 r ob
 | none=>none
def MA (res:RM) (n0:Nat) (ob:List Ob) (r:Option SV):Option (SV × List Ob) :=
 match r with
 | some r0=>Yi res n0 (gc n0 r0 ob)
 | none=>none
theorem Yj {res:RM} {n0:Nat} {rs:List RX} {out:SV × List Ob} {sl:List SV} {ob:List Ob}:RV res n0 rs out .ret ⟨sl,ob⟩=(MA res n0 ob (N9 ⟨sl,ob⟩ rs)=some out):=rfl
theorem Yk {res:RM} {n0:Nat} {rs:List RX} {out:SV × List Ob} {sl:List SV} {ob:List Ob}:RV res n0 rs out .normal ⟨sl,ob⟩=(MA res n0 ob (N9 ⟨sl,ob⟩ rs)=some out):=rfl
theorem Un {res:RM} {n0:Nat} {ob:List Ob} {r:SV}:MA res n0 ob (some r)=Yi res n0 (gc n0 r ob):=rfl
theorem Yl {n0:Nat} {r:SV} {ob:List Ob} {res:RM}:Yi res n0 (some (r,ob))=order res n0 r ob:=rfl
theorem Ah {f:FuncId} {fc:FC} {hand:List Bool} {res:RM} {tr:Bool} {xs:List SV} {ob:List Ob} {out:SV × List Ob} (hc:codeOf Tryz.prog f=some fc) (hr:modes f=⟨hand,res,none,tr⟩) (hn:xs.length≤fc.nt) (h:go ob.length (Hq res fc.sc) ⟨xs++Ll (fc.nt-xs.length),entry tr ob⟩ (RV res ob.length fc.rs out)):E f xs ob=some out:=by
 obtain ⟨x,st',h1,h2⟩:=h
 unfold E
 rw [Qbp]
 unfold GF
 rw [hc,hr]
 simp only
 rw [decide_eq_true hn,cond_true]
 have h1:fr Tryz.prog (CQ modes (ev Tryz.prog modes)) (IW ob.length) (Hq res fc.sc) ⟨xs++Ll (fc.nt-xs.length),entry tr ob⟩=some (x,st'):=h1
 rw [h1]
 exact h2
theorem Jc {f:FuncId} {g:List SV→List Ob→Option (SV × List Ob)} {xs:List SV} {ob:List Ob} (hg:(modes f).ext=some g):E f xs ob=g xs ob:=by
 unfold E
 rw [Qbp]
 unfold GF
 rw [hg]
theorem Th {f:FuncId} {g:List SV→Option SV} {xs:List SV} {r:SV} (hg:(modes f).ext=some (Lm g)) (h:g xs=some r):E f xs []=some (r,[]):=by
 rw [Jc hg]
 simp only [Lm,h]
theorem Ex:modes 61=⟨[],.asis,some (Lm Tg),false⟩:=by unfold modes; rfl
theorem Jd {k:Int} (h1:1≤k) (h2:k≤1099511627776):E 61 [.int .i64 k] []=some (.str (Hr k),[]):=by
 refine Th (g:=Tg) (by unfold modes; rfl) ?_
 simp only [Tg,Ay h1,Ay h2,Bool.and_self,cond_true]
theorem Bm:modes 162=⟨[],.asis,some (Lm Qbx),false⟩:=by unfold modes; rfl
theorem DY (s:ByteArray):E 162 [.str s] []=some (.bool (Aq s),[]):=Th (g:=Qbx) (congrArg FM.ext Bm) rfl
theorem Af:modes 77=⟨[],.asis,some (Lm Qby),false⟩:=by unfold modes; rfl
theorem Am (s:ByteArray):E 77 [.str s] []=some (.bool (Aq s),[]):=Th (g:=Qby) (congrArg FM.ext Af) rfl
theorem Bv:modes 153=⟨[],.asis,some (Lm Qbz),false⟩:=by unfold modes; rfl
theorem QE (s:ByteArray):E 153 [.str s] []=some (.bool (EE s),[]):=Th (g:=Qbz) (congrArg FM.ext Bv) rfl
theorem Bw:modes 105=⟨[],.asis,some (Lm Qb0),false⟩:=by unfold modes; rfl
theorem QF (s:ByteArray):E 105 [.str s] []=some (.bool (EE s),[]):=Th (g:=Qb0) (congrArg FM.ext Bw) rfl
theorem Zn {n:Int} (h1:-9223372036854775808≤n) (h2:n≤9223372036854775807):dec (inK .i64 n)=true:=Ay (QcH.2 ⟨h1,h2⟩)
theorem get_at {α β:Type} (f:α→β) {xs:List α} {k:Nat} (h:k<xs.length):(xs.map f)[k]?=some (f xs[k]):=by rw [List.getElem?_map,List.getElem?_eq_getElem h]; rfl
theorem BG (left:Int) (n:Nat):((n:Int)≤left∧szR left n=left-n)∨(left<n∧szR left n=-1):=by
 unfold szR; split <;> omega
mutual
def D.fit:D→Prop
 | .int _=>True
 | .bool _=>True
 | .str s=>s.size≤9223372036854775807
 | .arr es=>es.length≤9223372036854775807∧D.VP es
def D.fits:List D→Prop
 | []=>True
 | x :: r=>D.fit x∧D.fits r
def D.VP:List (List D)→Prop
 | []=>True
 | x :: r=>D.fits x∧D.VP r
end
theorem D.Zo:∀ {l:List D},(∀ (j:Nat) (h:j<l.length),D.fit l[j])→D.fits l
 | [],_=>trivial
 | x :: r,h=>⟨h 0 (by simp),D.Zo fun j hj=>h (j+1) (by simpa using hj)⟩
theorem D.VQ:∀ {es:List (List D)},(∀ (i:Nat) (h:i<es.length),D.fits es[i])→D.VP es
 | [],_=>trivial
 | x :: r,h=>⟨h 0 (by simp),D.VQ fun j hj=>h (j+1) (by simpa using hj)⟩
theorem D.NX {α:Type} {f:α→List D}:∀ {xs:List α},D.VP (xs.map f)→∀ x∈xs,D.fits (f x)
 | [],_,x,h=>by cases h
 | y :: r,h,x,hx=>by
  simp only [List.map_cons,D.VP] at h
  rcases List.mem_cons.1 hx with rfl | hx
  ·exact h.1
  ·exact D.NX h.2 x hx
theorem DRep.fit {own:Bool} {w:World} {S:Nat→Prop} {d:D} {v:Value} (h:DRep own w S d v):D.fit d:=by
 induction h with
 | int=>trivial
 | bool=>trivial
 | str S s h=>exact h
 | arr S sz es a cap f Sub h1 h2 h3 h4 h5 h6 h7 ih=>exact ⟨Nat.le_trans h1 h2,D.VQ fun i hi=>D.Zo fun j hj=>ih i j hi hj⟩
theorem Qb8:dec True=true:=Ay trivial
theorem Qb9:dec False=false:=A8 fun h=>h
attribute [go_sem] Fe SF SV.isNil Ob.idsB SV.idsB SV.Mu List.getElem?_cons_zero List.getElem?_cons_succ OT.AN OT.Dc OT.full entry toTree VA SM V9 FZ G0 EF YS PE Xp OT.erss OT.ers OT.er OT.Cq OT.EC OT.noSh quiet obB RK Gt meets IN go_skip Ua go_ret XK Ub XL Q6 Uc Ud Ue XM XN XO Qb3 Qb4 Qb5 Uf Ug Q7 NQ Uh Q8 NR Ui XR XS Qb6 XT XU XV Qb7 XW XX QA XZ Ya Yb Yc Yd Ye Yf Yg Qa SJ CK seen NS LZ Uj Uk Yh NT DX QB QC QD Yj Yk Un Yl order opF fOp Fh Vw Qbf Vu Vv YR IS eqK A4 gets Ao PP E6 Dd LO Pb AM V3 SV.cellsN SV.one JL splice Ee TF JK Lu DD B8 Cb B4 JM JN Va eOp.mkEs eOp.addS D.sv OT.sv D.ot HU nodupB reach SV.refs SV.PY SV.ptrs SV.PZ Ob.refs Ob.liveB FF Ev SV.back SV.Mw Ob.back HT Ir C8 Bh Bs HW F2 SV.ren SV.LQ Ob.ren mkU sgp gc My names LU YW YX YY ND ZV Za Zb Zc Zd Ze Zf SC.mark Qf FG slots N9 Vq rxV Ll SI SV.noSh SV.Mt Ob.noSh SV.own SV.RO FY cond_true cond_false List.length_cons List.length_nil List.map_cons List.map_nil List.drop_succ_cons List.drop_zero List.drop_nil List.take_succ_cons List.take_zero List.take_nil List.append_nil List.nil_append List.cons_append List.all_cons List.all_nil List.getD_cons_zero List.getD_cons_succ List.any_cons List.any_nil List.contains_cons List.contains_nil List.isEmpty_nil List.isEmpty_cons List.flatten_cons List.flatten_nil List.replicate_succ List.replicate_zero List.set_cons_zero List.set_cons_succ Nat.add_zero Nat.zero_add Nat.le_refl Nat.zero_le Bool.and_true Bool.true_and Bool.and_self Bool.or_false Bool.false_or Bool.true_or Bool.or_true Bool.not_true Bool.not_false Bool.false_and Bool.and_false decide_true decide_false beq_self_eq_true if_true if_false Option.map_some Option.map_none Option.some.injEq Option.getD_some Option.getD_none Int.toNat_natCast true_and and_true and_self eq_self_iff_true List.length_map Bool.false_eq_true Bool.true_eq_false Prod.mk.injEq SV.int.injEq SV.bool.injEq SV.str.injEq SV.agg.injEq SV.tup.injEq SV.arr.injEq List.cons.injEq St.mk.injEq Int.zero_add Qb8 Qb9 Zn Ay A8 QdB svK svD ZJ svM MV.sv UZ Vy PX Vz GA St.app TN MK.sv NU NV NW Ul Um
attribute [go_sem_proc] Nat.reduceAdd Nat.reduceSub Nat.reduceLT Nat.reduceLeDiff Nat.reduceEqDiff Nat.reduceBEq Nat.reduceBneDiff Nat.reduceMul Int.reduceToNat Int.reduceNeg Int.reduceAdd reduceCtorEq
attribute [go_sem_proc ↓] reduceIte
theorem Zp:∀ xs:List ByteArray,OT.AN (xs.map fun s=>[OT.str s])=true
 | []=>rfl
 | x :: xs=>by simp only [List.map_cons,OT.AN,OT.Dc,OT.full,Zp xs,Bool.and_self]
theorem Zq:∀ xs:List Int,OT.AN (xs.map fun n=>[OT.int n])=true
 | []=>rfl
 | x :: xs=>by simp only [List.map_cons,OT.AN,OT.Dc,OT.full,Zq xs,Bool.and_self]
theorem Tm.QbA:∀ xs:List Tm,(∀ x∈xs,OT.Dc (Tm.o x)=true)→OT.AN (xs.map Tm.o)=true
 | [],_=>rfl
 | x :: xs,h=>by
  simp only [List.map_cons,OT.AN]
  rw [h x (by simp),Tm.QbA xs fun y hy=>h y (by simp [hy])]; rfl
theorem Tm.fu (x:Tm):OT.Dc (Tm.o x)=true:=by
 have h:=Tm.QbA x.args fun y hy=>Tm.fu y
 rw [Tm.o_eq]
 simp only [OT.Dc,OT.full,h,Bool.and_self,Bool.and_true]
termination_by SizeOf.sizeOf x
decreasing_by exact Tm.Aw hy
theorem Tm.fus (xs:List Tm):OT.AN (xs.map Tm.o)=true:=Tm.QbA xs fun x _=>Tm.fu x
theorem Lt.fu (x:Lt):OT.Dc (Lt.o x)=true:=by
 simp only [Lt.o,OT.Dc,OT.full,Tm.fus,Bool.and_self,Bool.and_true]
theorem Lt.fus:∀ xs:List Lt,OT.AN (xs.map Lt.o)=true
 | []=>rfl
 | x :: xs=>by simp only [List.map_cons,OT.AN,Lt.fu,Lt.fus xs,Bool.and_self]
theorem Cl.fu (x:Cl):OT.Dc (Cl.o x)=true:=by
 simp only [Cl.o,OT.Dc,OT.full,Lt.fus,Bool.and_self,Bool.and_true]
theorem Cl.fus:∀ xs:List Cl,OT.AN (xs.map Cl.o)=true
 | []=>rfl
 | x :: xs=>by simp only [List.map_cons,OT.AN,Cl.fu,Cl.fus xs,Bool.and_self]
theorem Bd.fu (x:Bd):OT.Dc (Bd.o x)=true:=by
 simp only [Bd.o,OT.Dc,OT.full,Tm.fus,Bool.and_self,Bool.and_true]
theorem Bd.fus:∀ xs:List Bd,OT.AN (xs.map Bd.o)=true
 | []=>rfl
 | x :: xs=>by simp only [List.map_cons,OT.AN,Bd.fu,Bd.fus xs,Bool.and_self]
theorem Sb.fu (x:Sb):OT.Dc (Sb.o x)=true:=by
 simp only [Sb.o,OT.Dc,OT.full,Bd.fus,Bool.and_self,Bool.and_true]
theorem Sb.fus:∀ xs:List Sb,OT.AN (xs.map Sb.o)=true
 | []=>rfl
 | x :: xs=>by simp only [List.map_cons,OT.AN,Sb.fu,Sb.fus xs,Bool.and_self]
attribute [go_sem] Zp Zq QcL QcM QcN QcO Tm.fus Tm.erss Tm.noss Lt.fus Lt.erss Lt.noss Cl.fus Cl.erss Cl.noss Bd.fus Bd.erss Bd.noss Sb.fus Sb.erss Sb.noss
theorem OK {α β:Type} (f:α→β) (dn rest:List α) (x y:α) {k:Nat} (h:dn.length=k):((dn++x :: rest).map f).set k (f y)=((dn++[y])++rest).map f:=by
 subst h
 rw [List.map_append,List.set_append_right _ _ (by simp)]
 simp
theorem Dr {α:Type} (a:α):dec (a=a)=true:=Ay rfl
def FH {α β:Type} (f:α→β) (z:β) (xs:List α) (k:Nat):List β:=(xs.take k).map f++List.replicate (xs.length-k) z
section
variable {α β:Type} (f:α→β) (z:β) {xs:List α} {k:Nat}
theorem Je:FH f z xs 0=List.replicate xs.length z:=by simp [FH]
theorem KY:(FH f z xs k).length=xs.length:=by simp [FH]; omega
theorem KZ:FH f z xs xs.length=xs.map f:=by simp [FH]
theorem La (h:k<xs.length):(FH f z xs k)[k]?=some z:=by
 have hl:((xs.take k).map f).length=k:=by simp; omega
 unfold FH
 rw [List.getElem?_append_right (by omega),hl,Nat.sub_self,List.getElem?_replicate]
 simp; omega
theorem Lb (h:k<xs.length):(FH f z xs k).set k (f xs[k])=FH f z xs (k+1):=by
 have hl:((xs.take k).map f).length=k:=by simp; omega
 have e:List.take (k+1) xs=List.take k xs++[xs[k]]:=List.take_succ_eq_append_getElem h
 unfold FH
 rw [List.set_append_right _ _ (by omega),hl,Nat.sub_self,e,List.map_append,List.append_assoc]
 congr 1
 rw [show xs.length-k=(xs.length-(k+1))+1 by omega,List.replicate_succ,List.set_cons_zero]
 rfl
end
theorem QcU (a b:Int):(bif dec (a<b) then b else a)=max a b:=by
 by_cases h:a<b
 ·rw [Ay h,cond_true,Int.max_eq_right (by omega)]
 ·rw [A8 h,cond_false,Int.max_eq_left (by omega)]
def Fb {α:Type} (p:α→Bool):List α→Int→Int
 | [],_=>-1
 | x :: xs,i=>if p x then i else Fb p xs (i+1)
theorem QG {α:Type} (p:α→Bool):∀ (xs:List α),dec (0≤Fb p xs 0)=xs.any p:=by
 have key:∀ (xs:List α) (i:Int),0≤i→(0≤Fb p xs i ↔ xs.any p=true):=by
  intro xs
  induction xs with
  | nil=>intro i h; simp [Fb]
  | cons x xs ih =>
   intro i h
   simp only [Fb,List.any_cons,Bool.or_eq_true]
   by_cases hp:p x=true
   ·simp [hp,h]
   ·rw [if_neg hp,ih (i+1) (by omega)]; simp [hp]
 intro xs
 cases h:xs.any p with
 | true=>exact Ay ((key xs 0 (by omega)).2 h)
 | false=>exact A8 fun h'=>by rw [(key xs 0 (by omega)).1 h'] at h; cases h
theorem EJ {p q:Prop} (h:p ↔ q):dec p=dec q:=by rw [propext h]
mutual
def Tm.nodes:Tm→Nat
 | .mk _ args=>1+Tm.Bb args
def Tm.Bb:List Tm→Nat
 | []=>0
 | x :: xs=>Tm.nodes x+Tm.Bb xs
end
theorem Tm.An (x:Tm):x.nodes=1+Tm.Bb x.args:=by
 obtain ⟨name,args⟩:=x
 rw [Tm.nodes]; rfl
theorem Tm.Lc (x:Tm):1≤x.nodes:=by rw [Tm.An]; omega
theorem Tm.FI:∀ (xs:List Tm) (k:Nat) (h:k<xs.length),xs[k].nodes≤Tm.Bb xs
 | [],k,h=>absurd h (by simp)
 | x :: xs,0,_=>by rw [Tm.Bb]; simp
 | x :: xs,k+1,h=>by
  have:=Tm.FI xs k (by simpa using h)
  rw [Tm.Bb]; simp only [List.getElem_cons_succ]; omega
mutual
def Tm.deep:Tm→Nat
 | .mk _ args=>Tm.Ef args+1
def Tm.Ef:List Tm→Nat
 | []=>0
 | x :: xs=>max (Tm.deep x) (Tm.Ef xs)
end
theorem Tm.Le (x:Tm):x.deep=Tm.Ef x.args+1:=by
 obtain ⟨name,args⟩:=x
 rw [Tm.deep]; rfl
theorem Tm.Kh:∀ xs:List Tm,(∀ y∈xs,y.deep≤y.nodes)→Tm.Ef xs≤Tm.Bb xs
 | [],_=>by simp [Tm.Ef]
 | x :: xs,h=>by
  have h1:=h x (by simp)
  have h2:=Tm.Kh xs fun y hy=>h y (by simp [hy])
  rw [Tm.Ef,Tm.Bb]; omega
theorem Tm.HY (x:Tm):x.deep≤x.nodes:=by
 rw [Tm.Le,Tm.An]
 have:=Tm.Kh x.args fun y hy=>Tm.HY y
 omega
termination_by SizeOf.sizeOf x
decreasing_by exact Tm.Aw hy
mutual
def Tm.names:Tm→Bool
 | .mk name args=>if Aq name then args.length == 0 else EE name&&decide (args.length≤4)&&Tm.DH args
def Tm.DH:List Tm→Bool
 | []=>true
 | x :: xs=>Tm.names x&&Tm.DH xs
end
theorem Tm.Em (x:Tm):x.names=if Aq x.name then x.args.length == 0 else EE x.name&&decide (x.args.length≤4)&&Tm.DH x.args:=by
 obtain ⟨name,args⟩:=x
 rw [Tm.names]; rfl
theorem Tm.CX:∀ xs:List Tm,Tm.DH xs=xs.all Tm.names
 | []=>rfl
 | x :: xs=>by rw [Tm.DH,Tm.CX xs]; rfl
theorem Tm.length_le:∀ xs:List Tm,xs.length≤Tm.Bb xs
 | []=>Nat.le_refl _
 | x :: xs=>by
  have:=Tm.length_le xs
  have:=Tm.Lc x
  rw [Tm.Bb]; simp only [List.length_cons]; omega
theorem Tm.AU {xs:List Tm} {y:Tm} (h:y∈xs):y.nodes≤Tm.Bb xs:=by
 obtain ⟨k,hk,rfl⟩:=List.getElem_of_mem h
 exact Tm.FI xs k hk
def Tm.small (x:Tm):Bool:=decide (x.nodes≤30)&&decide (x.deep≤8)
def Tm.valid (x:Tm):Bool:=x.small&&x.names
noncomputable def Tm.eqn (x:Tm):Bool:=dec (x.name=⟨#[61]⟩)
noncomputable def Tm.atom (x:Tm):Bool:=if x.eqn then x.args.length == 2&&x.small&&Tm.DH x.args else EE x.name&&x.valid
theorem Ti {xs:List Tm} (h:xs.length=2):Tm.DH xs=((xs[0]'(by omega)).names&&(xs[1]'(by omega)).names):=by
 match xs,h with
 | [a,b],_=>simp [Tm.DH]
mutual
def Tm.cap:Tm→Int
 | .mk _ xs=>Tm.NY xs 1
def Tm.NY:List Tm→Int→Int
 | [],n=>n
 | x :: xs,n=>if 30 < n then n else Tm.NY xs (n+Tm.cap x)
end
theorem Tm.QbB (x:Tm):x.cap=Tm.NY x.args 1:=by
 obtain ⟨n,xs⟩:=x
 rw [Tm.cap]; rfl
theorem Tm.Tj:∀ (xs:List Tm) (n:Int),(∀ x∈xs,1≤x.cap∧x.cap≤x.nodes∧(x.cap≤30→x.cap=x.nodes))→1≤n→n≤Tm.NY xs n∧Tm.NY xs n≤n+Tm.Bb xs∧(Tm.NY xs n≤30→Tm.NY xs n=n+Tm.Bb xs)
  | [],n,_,h=>by simp [Tm.NY,Tm.Bb]
  | x :: xs,n,hx,h=>by
    rw [Tm.NY,Tm.Bb]
    have h1:=hx x (by simp)
    split
    · omega
    · have:=Tm.Tj xs (n+x.cap) (fun y hy=>hx y (by simp [hy])) (by omega)
      omega
theorem Tm.MB (x:Tm):1≤x.cap∧x.cap≤x.nodes∧(x.cap≤30→x.cap=x.nodes):=by
 rw [Tm.QbB,Tm.An]
 have:=Tm.Tj x.args 1 (fun y hy=>Tm.MB y) (by omega)
 omega
termination_by SizeOf.sizeOf x
decreasing_by exact Tm.Aw hy
mutual
def Tm.many:Tm→Int→Int
 | .mk _ xs,m=>Tm.Iy xs m 1
def Tm.Iy:List Tm→Int→Int→Int
 | [],_,n=>n
 | x :: xs,m,n=>if n≤m then Tm.Iy xs m (n+Tm.many x (m-n)) else n
end
theorem Tm.Zr (x:Tm) (m:Int):x.many m=Tm.Iy x.args m 1:=by
 obtain ⟨n,xs⟩:=x
 rw [Tm.many]; rfl
theorem Tm.QH (m:Int):∀ (xs:List Tm) (n:Int),(∀ x∈xs,∀ m,0≤m→1≤x.many m∧x.many m≤x.nodes∧(x.many m≤m→x.many m=x.nodes))→1≤n→n≤Tm.Iy xs m n∧Tm.Iy xs m n≤n+Tm.Bb xs∧(Tm.Iy xs m n≤m→Tm.Iy xs m n=n+Tm.Bb xs)
  | [],n,_,h=>by simp [Tm.Iy,Tm.Bb]
  | x :: xs,n,hx,h=>by
    rw [Tm.Iy,Tm.Bb]
    split
    · have h1:=hx x (by simp) (m-n) (by omega)
      have:=Tm.QH m xs (n+x.many (m-n)) (fun y hy=>hx y (by simp [hy])) (by omega)
      omega
    · omega
theorem Tm.Lf (x:Tm) (m:Int):1≤x.many m∧x.many m≤x.nodes∧(x.many m≤m→x.many m=x.nodes):=by
 rw [Tm.Zr,Tm.An]
 have:=Tm.QH m x.args 1 (fun y hy m _=>Tm.Lf y m) (by omega)
 omega
termination_by SizeOf.sizeOf x
decreasing_by exact Tm.Aw hy
def OL:SC:=(.seq (.reg [⟨some 1,none,.boxv 71 2 (.t 0)⟩,⟨some 2,none,.mv (.c (.int .i64 0))⟩]) (.seq (.reg [⟨some 3,none,.mv (.c (.int .i64 1))⟩]) (.seq (.seq (.reg [⟨some 6,none,.faddr 1 (.t 1)⟩,⟨some 7,none,.load false 1 (.t 6)⟩,⟨some 8,none,.len false (.t 7)⟩,⟨some 9,none,.mv (.c (.int .i64 0))⟩]) (.block 0 (.loop [0,0,0,1,0,0,0,1,1,1,0,0,0,0,0,0,0,0,0,0,0,0] (.seq (.reg [⟨some 10,none,.bin .lss false (.t 9) (.t 8)⟩]) (.seq (.cond (.t 10) .skip (.exit 0)) (.seq (.block 1 (.seq (.reg [⟨some 11,none,.iaddr 2 (.t 7) (.t 9)⟩,⟨some 12,none,.load true 2 (.t 11)⟩,⟨(some 5),none,(.alloc 71 [(.str ⟨#[]⟩),.nil])⟩,⟨none,none,(.store 2 (.t 5) (.t 12))⟩]) (.seq (.seq (.reg [⟨some 13,none,.mv (.t 3)⟩,⟨some 14,none,.bin .gtr false (.t 13) (.c (.int .i64 30))⟩]) (.cond (.t 14) (.seq (.reg [⟨some 15,none,.mv (.t 3)⟩,⟨some 2,none,.mv (.t 15)⟩]) .ret) .skip)) (.reg [⟨some 16,none,.mv (.t 3)⟩,⟨some 17,none,.load true 2 (.t 5)⟩,⟨some 18,none,.call 159 [(.t 17)]⟩,⟨some 19,none,.bin .add false (.t 16) (.t 18)⟩,⟨some 3,none,.mv (.t 19)⟩])))) (.reg [⟨some 20,none,.bin .add false (.t 9) (.c (.int .i64 1))⟩,⟨some 9,none,.mv (.t 20)⟩]))))))) (.seq (.reg [⟨some 21,none,.mv (.t 3)⟩,⟨some 2,none,.mv (.t 21)⟩]) .ret))))
theorem VR:codeOf Tryz.prog 159=some ⟨22,OL,[(.tmp 2)]⟩:=by kernel_rfl
theorem FJ:modes 159=⟨[],.asis,none,false⟩:=by unfold modes; rfl
theorem QcV (x:Tm) (hn:x.nodes≤1099511627776) (ih:∀ y∈x.args,E 159 [y.sv] []=some (.int .i64 y.cap,[])):E 159 [x.sv] []=some (.int .i64 x.cap,[]):=by
 have hl:=Tm.length_le x.args
 have hx:=Tm.An x
 rw [Tm.QbB]
 refine Ah VR FJ (of_decide_eq_true rfl) ?_
 simp (disch:=omega) only [OL,go_sem,Aa]
 refine go_loop (α:=Int × Int) (fun a=>⟨slots 22 0 [(3,.int .i64 a.2),(7,.arr (x.args.map Tm.d)),(8,.int .i64 x.args.length),(9,.int .i64 a.1)],[]⟩) (fun a=>∃ k:Nat,a.1=k∧k≤x.args.length∧1≤a.2∧a.2+Tm.Bb (x.args.drop k)≤x.nodes∧Tm.NY (x.args.drop k) a.2=Tm.NY x.args 1) (fun a=>x.args.length-a.1.toNat) (0,1) ⟨0,rfl,Nat.zero_le _,by dsimp only; omega,by rw [List.drop_zero]; dsimp only; omega,rfl⟩ (by simp (disch:=omega) only [go_sem,Aa]) ?_
 rintro ⟨i,n⟩ ⟨k,hi,hk,hn0,hn1,hs⟩
 dsimp only at hi hn0 hn1 hs
 have hni:i.toNat=k:=by omega
 rcases Nat.lt_or_ge k x.args.length with hlt | hge
 ·have hg:=get_at Tm.d hlt
  rw [Tm.d_eq] at hg
  have hd:x.args.drop k=x.args[k] :: x.args.drop (k+1):=List.drop_eq_getElem_cons hlt
  have hc:=ih x.args[k] (List.getElem_mem hlt)
  have hp:=Tm.MB x.args[k]
  rw [hd,Tm.NY] at hs
  rw [hd,Tm.Bb] at hn1
  rcases Int.lt_or_le 30 n with h30 | h30
  ·rw [if_pos h30] at hs
   simp (disch:=omega) only [go_sem,Aa,hni,hg,hc,FJ]
   exact hs
  ·rw [if_neg (by omega)] at hs
   simp (disch:=omega) only [go_sem,Aa,hni,hg,hc,FJ]
   refine ⟨(i+1,n+x.args[k].cap),⟨k+1,by dsimp only; omega,hlt,by dsimp only; omega,by dsimp only; omega,hs⟩,by dsimp only; omega,?_⟩
   simp only [and_self]
 ·have hd:x.args.drop k=[]:=List.drop_eq_nil_of_le hge
  rw [hd,Tm.NY] at hs
  simp (disch:=omega) only [go_sem,Aa,hni]
  exact hs
theorem QbC (x:Tm) (hn:x.nodes≤1099511627776):E 159 [x.sv] []=some (.int .i64 x.cap,[]) :=
 QcV x hn fun y hy=>QbC y (by have:=Tm.AU hy; have:=Tm.An x; omega)
termination_by SizeOf.sizeOf x
decreasing_by exact Tm.Aw hy
def Lx:SC:=(.seq (.reg [⟨some 2,none,.boxv 71 2 (.t 0)⟩,⟨some 4,none,.mv (.c (.int .i64 0))⟩]) (.seq (.reg [⟨some 5,none,.mv (.c (.int .i64 1))⟩]) (.seq (.seq (.reg [⟨some 6,none,.mv (.c (.int .i64 0))⟩]) (.block 0 (.loop [0,1,1,0,0,1,1,0,0,0,0,0,0,0,0,0,0,0,0,0,0,0,0,0,0,0,0,0,0,0,0] (.seq (.seq (.reg [⟨some 7,none,.mv (.t 6)⟩,⟨some 8,none,.faddr 1 (.t 2)⟩,⟨some 9,none,.load false 1 (.t 8)⟩,⟨some 10,none,.len false (.t 9)⟩,⟨some 11,none,.bin .lss false (.t 7) (.t 10)⟩,⟨some 12,none,.mv (.t 11)⟩,⟨(some 13),(some (12,true)),(.mv (.t 5))⟩,⟨(some 14),(some (12,true)),(.mv (.t 1))⟩,⟨(some 15),(some (12,true)),(.bin .leq false (.t 13) (.t 14))⟩,⟨some 16,none,.pick (.t 12) (.t 15) (.c (.bool false))⟩]) (.cond (.t 16) .skip (.exit 0))) (.seq (.block 1 (.reg [⟨some 19,none,.mv (.t 5)⟩,⟨some 20,none,.faddr 1 (.t 2)⟩,⟨some 21,none,.load false 1 (.t 20)⟩,⟨some 22,none,.mv (.t 6)⟩,⟨some 23,none,.iaddr 2 (.t 21) (.t 22)⟩,⟨some 24,none,.load true 2 (.t 23)⟩,⟨some 25,none,.mv (.t 1)⟩,⟨some 26,none,.mv (.t 5)⟩,⟨some 27,none,.bin .sub false (.t 25) (.t 26)⟩,⟨some 28,none,.call 144 [(.t 24),(.t 27)]⟩,⟨some 29,none,.bin .add false (.t 19) (.t 28)⟩,⟨some 5,none,.mv (.t 29)⟩])) (.reg [⟨some 17,none,.mv (.t 6)⟩,⟨some 18,none,.bin .add false (.t 17) (.c (.int .i64 1))⟩,⟨some 6,none,.mv (.t 18)⟩])))))) (.seq (.reg [⟨some 30,none,.mv (.t 5)⟩,⟨some 4,none,.mv (.t 30)⟩]) .ret))))
theorem RW:codeOf Tryz.prog 144=some ⟨31,Lx,[(.tmp 4)]⟩:=by kernel_rfl
theorem En:modes 144=⟨[],.asis,none,false⟩:=by unfold modes; rfl
theorem QcW (x:Tm) (m:Int) (hm:0≤m) (hm1:m≤1099511627776) (hn:x.nodes≤1099511627776) (ih:∀ y∈x.args,∀ m:Int,0≤m→m≤1099511627776→E 144 [y.sv,.int .i64 m] []=some (.int .i64 (y.many m),[])):E 144 [x.sv,.int .i64 m] []=some (.int .i64 (x.many m),[]):=by
 have hl:=Tm.length_le x.args
 have hx:=Tm.An x
 rw [Tm.Zr]
 refine Ah RW En (of_decide_eq_true rfl) ?_
 simp (disch:=omega) only [Lx,go_sem,Aa]
 refine go_loop (α:=Int × Int) (fun a=>⟨slots 31 0 [(1,.int .i64 m),(2,.ptr 0 0),(5,.int .i64 a.2),(6,.int .i64 a.1)],[.box 71 [.str x.name,.arr (x.args.map Tm.d)]]⟩) (fun a=>∃ k:Nat,a.1=k∧k≤x.args.length∧1≤a.2∧a.2+Tm.Bb (x.args.drop k)≤x.nodes∧Tm.Iy (x.args.drop k) m a.2=Tm.Iy x.args m 1) (fun a=>x.args.length-a.1.toNat) (0,1) ⟨0,rfl,Nat.zero_le _,by dsimp only; omega,by rw [List.drop_zero]; dsimp only; omega,rfl⟩ (by simp (disch:=omega) only [go_sem,Aa]) ?_
 rintro ⟨i,n⟩ ⟨k,hi,hk,hn0,hn1,hs⟩
 dsimp only at hi hn0 hn1 hs
 have hni:i.toNat=k:=by omega
 rcases Nat.lt_or_ge k x.args.length with hlt | hge
 ·have hg:=get_at Tm.d hlt
  rw [Tm.d_eq] at hg
  have hd:x.args.drop k=x.args[k] :: x.args.drop (k+1):=List.drop_eq_getElem_cons hlt
  rw [hd,Tm.Iy] at hs
  rw [hd,Tm.Bb] at hn1
  rcases Int.lt_or_le m n with h30 | h30
  ·rw [if_neg (by omega)] at hs
   simp (disch:=omega) only [go_sem,Aa,hni,hg,En]
   exact hs
  ·rw [if_pos h30] at hs
   have hc:=ih x.args[k] (List.getElem_mem hlt) (m-n) (by omega) (by omega)
   have hp:=Tm.Lf x.args[k] (m-n)
   simp (disch:=omega) only [go_sem,Aa,hni,hg,hc,En]
   refine ⟨(i+1,n+x.args[k].many (m-n)),⟨k+1,by dsimp only; omega,hlt,by dsimp only; omega,by dsimp only; omega,hs⟩,by dsimp only; omega,?_⟩
   simp only [and_self]
 ·have hd:x.args.drop k=[]:=List.drop_eq_nil_of_le hge
  rw [hd,Tm.Iy] at hs
  simp (disch:=omega) only [go_sem,Aa,hni]
  exact hs
theorem QbD (x:Tm) (m:Int) (hm:0≤m) (hm1:m≤1099511627776) (hn:x.nodes≤1099511627776):E 144 [x.sv,.int .i64 m] []=some (.int .i64 (x.many m),[]) :=
 QcW x m hm hm1 hn fun y hy m hm hm1=>QbD y m hm hm1 (by have:=Tm.AU hy; have:=Tm.An x; omega)
termination_by SizeOf.sizeOf x
decreasing_by exact Tm.Aw hy
def MC:SC:=(.seq (.reg [⟨some 1,none,.boxv 71 2 (.t 0)⟩,⟨some 2,none,.mv (.c (.int .i64 0))⟩]) (.seq (.reg [⟨some 3,none,.mv (.c (.int .i64 0))⟩]) (.seq (.seq (.reg [⟨some 6,none,.faddr 1 (.t 1)⟩,⟨some 7,none,.load false 1 (.t 6)⟩,⟨some 8,none,.len false (.t 7)⟩,⟨some 9,none,.mv (.c (.int .i64 0))⟩]) (.block 0 (.loop [0,0,0,1,0,0,0,1,1,1,0,0,0,0,0,0,0,0,0,0] (.seq (.reg [⟨some 10,none,.bin .lss false (.t 9) (.t 8)⟩]) (.seq (.cond (.t 10) .skip (.exit 0)) (.seq (.block 1 (.seq (.reg [⟨some 11,none,.iaddr 2 (.t 7) (.t 9)⟩,⟨some 12,none,.load true 2 (.t 11)⟩,⟨(some 5),none,(.alloc 71 [(.str ⟨#[]⟩),.nil])⟩,⟨none,none,(.store 2 (.t 5) (.t 12))⟩]) (.reg [⟨some 13,none,.mv (.t 3)⟩,⟨some 14,none,.load true 2 (.t 5)⟩,⟨some 15,none,.call 160 [(.t 14)]⟩,⟨some 16,none,.minmax true (.t 13) (.t 15)⟩,⟨some 3,none,.mv (.t 16)⟩]))) (.reg [⟨some 17,none,.bin .add false (.t 9) (.c (.int .i64 1))⟩,⟨some 9,none,.mv (.t 17)⟩]))))))) (.seq (.reg [⟨some 18,none,.mv (.t 3)⟩,⟨some 19,none,.bin .add false (.t 18) (.c (.int .i64 1))⟩,⟨some 2,none,.mv (.t 19)⟩]) .ret))))
theorem Uo:codeOf Tryz.prog 160=some ⟨20,MC,[(.tmp 2)]⟩:=by kernel_rfl
theorem Gw:modes 160=⟨[],.asis,none,false⟩:=by unfold modes; rfl
def Ly:SC:=(.seq (.reg [⟨some 4,none,.mv (.c (.int .i64 0))⟩]) (.seq (.seq (.reg [⟨some 5,none,.mv (.t 0)⟩,⟨some 6,none,.mv (.t 1)⟩,⟨some 7,none,.bin .gtr false (.t 5) (.t 6)⟩]) (.cond (.t 7) (.seq (.reg [⟨some 8,none,.mv (.t 0)⟩,⟨some 4,none,.mv (.t 8)⟩]) .ret) .skip)) (.seq (.reg [⟨some 9,none,.mv (.t 1)⟩,⟨some 4,none,.mv (.t 9)⟩]) .ret)))
theorem RY:codeOf Tryz.prog 172=some ⟨10,Ly,[(.tmp 4)]⟩:=by kernel_rfl
theorem Lz:modes 172=⟨[],.asis,none,false⟩:=by unfold modes; rfl
def Ki:SC:=(.seq (.reg [⟨some 1,none,.boxv 71 2 (.t 0)⟩,⟨some 2,none,.mv (.c (.int .i64 0))⟩]) (.seq (.reg [⟨some 3,none,.mv (.c (.int .i64 0))⟩]) (.seq (.seq (.reg [⟨some 4,none,.mv (.c (.int .i64 0))⟩]) (.block 0 (.loop [0,1,0,1,1,0,0,0,0,0,0,0,0,0,0,0,0,0,0,0,0,0] (.seq (.seq (.reg [⟨some 5,none,.mv (.t 4)⟩,⟨some 6,none,.faddr 1 (.t 1)⟩,⟨some 7,none,.load false 1 (.t 6)⟩,⟨some 8,none,.len false (.t 7)⟩,⟨some 9,none,.bin .lss false (.t 5) (.t 8)⟩]) (.cond (.t 9) .skip (.exit 0))) (.seq (.block 1 (.reg [⟨some 12,none,.mv (.t 3)⟩,⟨some 13,none,.faddr 1 (.t 1)⟩,⟨some 14,none,.load false 1 (.t 13)⟩,⟨some 15,none,.mv (.t 4)⟩,⟨some 16,none,.iaddr 2 (.t 14) (.t 15)⟩,⟨some 17,none,.load true 2 (.t 16)⟩,⟨some 18,none,.call 145 [(.t 17)]⟩,⟨some 19,none,.call 172 [(.t 12),(.t 18)]⟩,⟨some 3,none,.mv (.t 19)⟩])) (.reg [⟨some 10,none,.mv (.t 4)⟩,⟨some 11,none,.bin .add false (.t 10) (.c (.int .i64 1))⟩,⟨some 4,none,.mv (.t 11)⟩])))))) (.seq (.reg [⟨some 20,none,.mv (.t 3)⟩,⟨some 21,none,.bin .add false (.t 20) (.c (.int .i64 1))⟩,⟨some 2,none,.mv (.t 21)⟩]) .ret))))
theorem QI:codeOf Tryz.prog 145=some ⟨22,Ki,[(.tmp 2)]⟩:=by kernel_rfl
theorem EK:modes 145=⟨[],.asis,none,false⟩:=by unfold modes; rfl
theorem QbE (a b:Int):E 172 [.int .i64 a,.int .i64 b] []=some (.int .i64 (max a b),[]):=by
 refine Ah RY Lz (of_decide_eq_true rfl) ?_
 simp (disch:=omega) only [Ly,go_sem,Aa]
 repeat' (refine Di (fun hq=>?_) (fun hq=>?_) <;> (first | replace hq:=Au.1 hq | replace hq:=C7.1 hq) <;> (try simp (disch:=omega) only [go_sem,Aa]))
 all_goals omega
theorem QbF (x:Tm) (hn:x.nodes≤1099511627776) (ih:∀ y∈x.args,E 160 [y.sv] []=some (.int .i64 y.deep,[])):E 160 [x.sv] []=some (.int .i64 x.deep,[]):=by
 have hl:=Tm.length_le x.args
 have hx:=Tm.An x
 have hd1:=Tm.Le x
 have hd2:=Tm.HY x
 refine Ah Uo Gw (of_decide_eq_true rfl) ?_
 simp (disch:=omega) only [MC,go_sem,Aa]
 refine go_loop (α:=Int × (Int)) (fun a=>⟨slots 20 0 [(3,.int .i64 (a.2)),(7,.arr (x.args.map Tm.d)),(8,.int .i64 x.args.length),(9,.int .i64 (a.1))],[]⟩) (fun a=>∃ k:Nat,a.1=k∧k≤(x.args).length∧0≤(a.2)∧max (a.2) (Tm.Ef (x.args.drop k):Nat)=(Tm.Ef x.args:Nat)) (fun a=>(x.args).length-(a.1).toNat) (0,0) ⟨0,rfl,Nat.zero_le _,by dsimp only; omega,by rw [List.drop_zero]; dsimp only; omega⟩ (by simp (disch:=omega) only [go_sem,Aa]) ?_
 rintro ⟨i,n⟩ ⟨k,hi,hk,hR⟩
 dsimp only at hi hR
 have hni:i.toNat=k:=by omega
 have hni1:(i+1).toNat=k+1:=by omega
 rcases Nat.lt_or_ge k (x.args).length with hlt | hge
 ·have hg:=get_at Tm.d hlt
  rw [Tm.d_eq] at hg
  have hc:=ih x.args[k] (List.getElem_mem hlt)
  rw [List.drop_eq_getElem_cons hlt,Tm.Ef] at hR
  simp (disch:=omega) only [go_sem,Aa,hni,hg,hc,Gw,QcU]
  refine ⟨(i+1,max n (x.args[k].deep:Int)),⟨k+1,by dsimp only; omega,hlt,by dsimp only; omega⟩,by dsimp only; omega,?_⟩
  simp only [and_self]
 ·rw [List.drop_eq_nil_of_le hge,Tm.Ef] at hR
  simp (disch:=omega) only [go_sem,Aa,hni]
  omega
theorem Zs (x:Tm) (hn:x.nodes≤1099511627776):E 160 [x.sv] []=some (.int .i64 x.deep,[]) :=
 QbF x hn fun y hy=>Zs y (by have:=Tm.AU hy; have:=Tm.An x; omega)
termination_by SizeOf.sizeOf x
decreasing_by exact Tm.Aw hy
theorem Ym (x:Tm) (hn:x.nodes≤1099511627776) (ih:∀ y∈x.args,E 145 [y.sv] []=some (.int .i64 y.deep,[])):E 145 [x.sv] []=some (.int .i64 x.deep,[]):=by
 have hl:=Tm.length_le x.args
 have hx:=Tm.An x
 have hd1:=Tm.Le x
 have hd2:=Tm.HY x
 refine Ah QI EK (of_decide_eq_true rfl) ?_
 simp (disch:=omega) only [Ki,go_sem,Aa]
 refine go_loop (α:=Int × (Int)) (fun a=>⟨slots 22 0 [(1,.ptr 0 0),(3,.int .i64 (a.2)),(4,.int .i64 (a.1))],[.box 71 [.str x.name,.arr (x.args.map Tm.d)]]⟩) (fun a=>∃ k:Nat,a.1=k∧k≤(x.args).length∧0≤(a.2)∧max (a.2) (Tm.Ef (x.args.drop k):Nat)=(Tm.Ef x.args:Nat)) (fun a=>(x.args).length-(a.1).toNat) (0,0) ⟨0,rfl,Nat.zero_le _,by dsimp only; omega,by rw [List.drop_zero]; dsimp only; omega⟩ (by simp (disch:=omega) only [go_sem,Aa]) ?_
 rintro ⟨i,n⟩ ⟨k,hi,hk,hR⟩
 dsimp only at hi hR
 have hni:i.toNat=k:=by omega
 have hni1:(i+1).toNat=k+1:=by omega
 rcases Nat.lt_or_ge k (x.args).length with hlt | hge
 ·have hg:=get_at Tm.d hlt
  rw [Tm.d_eq] at hg
  have hc:=ih x.args[k] (List.getElem_mem hlt)
  rw [List.drop_eq_getElem_cons hlt,Tm.Ef] at hR
  simp (disch:=omega) only [go_sem,Aa,hni,hg,hc,EK,QbE,Lz]
  refine ⟨(i+1,max n (x.args[k].deep:Int)),⟨k+1,by dsimp only; omega,hlt,by dsimp only; omega⟩,by dsimp only; omega,?_⟩
  simp only [and_self]
 ·rw [List.drop_eq_nil_of_le hge,Tm.Ef] at hR
  simp (disch:=omega) only [go_sem,Aa,hni]
  omega
theorem Tk (x:Tm) (hn:x.nodes≤1099511627776):E 145 [x.sv] []=some (.int .i64 x.deep,[]) :=
 Ym x hn fun y hy=>Tk y (by have:=Tm.AU hy; have:=Tm.An x; omega)
termination_by SizeOf.sizeOf x
decreasing_by exact Tm.Aw hy
def Cg:SC:=(.seq (.reg [⟨some 4,none,.mv (.c (.int .i64 0))⟩]) (.seq (.seq (.reg [⟨some 6,none,.mv (.t 0)⟩,⟨some 7,none,.len false (.t 6)⟩,⟨some 8,none,.mv (.c (.int .i64 0))⟩]) (.block 0 (.loop [1,1,0,0,0,0,0,1,1,0,0,0,0,0,0,0,0,0,0] (.seq (.reg [⟨some 9,none,.bin .lss false (.t 8) (.t 7)⟩]) (.seq (.cond (.t 9) .skip (.exit 0)) (.seq (.block 1 (.seq (.reg [⟨some 10,none,.mv (.t 8)⟩,⟨some 5,none,.mv (.t 10)⟩]) (.seq (.reg [⟨some 11,none,.mv (.t 1)⟩,⟨some 12,none,.mv (.t 0)⟩,⟨some 13,none,.mv (.t 5)⟩,⟨some 14,none,.iaddr 2 (.t 12) (.t 13)⟩,⟨some 15,none,.load true 2 (.t 14)⟩,⟨some 16,none,.callv (.t 11) [(.t 15)]⟩]) (.cond (.t 16) (.seq (.reg [⟨some 17,none,.mv (.t 5)⟩,⟨some 4,none,.mv (.t 17)⟩]) .ret) .skip)))) (.reg [⟨some 18,none,.bin .add false (.t 8) (.c (.int .i64 1))⟩,⟨some 8,none,.mv (.t 18)⟩]))))))) (.seq (.reg [⟨some 4,none,.mv (.c (.int .i64 (-(0+1))))⟩]) .ret)))
theorem DI:codeOf Tryz.prog 195=some ⟨19,Cg,[(.tmp 4)]⟩:=by kernel_rfl
theorem Ch:modes 195=⟨[],.asis,none,false⟩:=by unfold modes; rfl
def BP:SC:=(.seq (.reg [⟨some 4,none,.mv (.c (.bool false))⟩]) (.seq (.reg [⟨some 5,none,.mv (.t 0)⟩,⟨some 6,none,.mv (.t 1)⟩,⟨some 7,none,.call 195 [(.t 5),(.t 6)]⟩,⟨some 8,none,.bin .geq false (.t 7) (.c (.int .i64 0))⟩,⟨some 4,none,.mv (.t 8)⟩]) .ret))
theorem Ds:codeOf Tryz.prog 174=some ⟨9,BP,[(.tmp 4)]⟩:=by kernel_rfl
theorem BQ:modes 174=⟨[],.asis,none,false⟩:=by unfold modes; rfl
theorem Pf (fid:Nat) (p:Tm→Bool) (xs:List Tm) (hl:xs.length≤1099511627776) (hg:Lk Tryz.prog fid=true) (hm:(modes fid).hand=[]) (hE:∀ x∈xs,E fid [x.sv] []=some (.bool (p x),[])):E 195 [.arr (xs.map Tm.d),.fn fid []] []=some (.int .i64 (Fb p xs 0),[]):=by
 refine Ah DI Ch (of_decide_eq_true rfl) ?_
 simp (disch:=omega) only [Cg,go_sem,Aa]
 refine go_loop (α:=Int) (fun a=>⟨slots 19 0 [(0,.arr (xs.map Tm.d)),(1,.fn fid []),(7,.int .i64 xs.length),(8,.int .i64 a)],[]⟩) (fun a=>∃ k:Nat,a=k∧k≤(xs).length∧Fb p (xs.drop k) a=Fb p xs 0) (fun a=>(xs).length-(a).toNat) 0 ⟨0,rfl,Nat.zero_le _,by rw [List.drop_zero]⟩ (by simp (disch:=omega) only [go_sem,Aa]) ?_
 rintro i ⟨k,hi,hk,hR⟩
 have hni:i.toNat=k:=by omega
 have hni1:(i+1).toNat=k+1:=by omega
 rcases Nat.lt_or_ge k (xs).length with hlt | hge
 ·have hg':=get_at Tm.d hlt
  rw [Tm.d_eq] at hg'
  have hc:=hE xs[k] (List.getElem_mem hlt)
  rw [List.drop_eq_getElem_cons hlt,Fb] at hR
  cases hp:p xs[k] with
  | true =>
   rw [hp] at hc hR
   simp (disch:=omega) only [go_sem,Aa,hni,hg',hc,hg,hm]
   simpa using hR
  | false =>
   rw [hp] at hc hR
   simp (disch:=omega) only [go_sem,Aa,hni,hg',hc,hg,hm]
   exact ⟨i+1,⟨k+1,by omega,hlt,by simpa using hR⟩,by omega,by first | trivial | rfl⟩
 ·rw [List.drop_eq_nil_of_le hge,Fb] at hR
  simp (disch:=omega) only [go_sem,Aa,hni]
  exact hR
theorem Ma (fid:Nat) (p:Tm→Bool) (xs:List Tm) (hl:xs.length≤1099511627776) (hg:Lk Tryz.prog fid=true) (hm:(modes fid).hand=[]) (hE:∀ x∈xs,E fid [x.sv] []=some (.bool (p x),[])):E 174 [.arr (xs.map Tm.d),.fn fid []] []=some (.bool (xs.any p),[]):=by
 have h:=Pf fid p xs hl hg hm hE
 refine Ah Ds BQ (of_decide_eq_true rfl) ?_
 simp (disch:=omega) only [BP,go_sem,Aa,h,Ch]
 rw [QG]
def Dt:SC:=(.seq (.reg [⟨some 1,none,.boxv 71 2 (.t 0)⟩,⟨some 2,none,.mv (.c (.bool false))⟩]) (.seq (.seq (.reg [⟨some 3,none,.faddr 0 (.t 1)⟩,⟨some 4,none,.load false 1 (.t 3)⟩,⟨some 5,none,.call 162 [(.t 4)]⟩]) (.cond (.t 5) (.seq (.reg [⟨some 6,none,.faddr 1 (.t 1)⟩,⟨some 7,none,.load false 1 (.t 6)⟩,⟨some 8,none,.len false (.t 7)⟩,⟨some 9,none,.bin .eql false (.t 8) (.c (.int .i64 0))⟩,⟨some 2,none,.mv (.t 9)⟩]) .ret) .skip)) (.seq (.reg [⟨some 10,none,.faddr 0 (.t 1)⟩,⟨some 11,none,.load false 1 (.t 10)⟩,⟨some 12,none,.call 153 [(.t 11)]⟩,⟨some 13,none,.mv (.t 12)⟩,⟨(some 14),(some (13,true)),(.faddr 1 (.t 1))⟩,⟨(some 15),(some (13,true)),(.load false 1 (.t 14))⟩,⟨(some 16),(some (13,true)),(.len false (.t 15))⟩,⟨(some 17),(some (13,true)),(.bin .leq false (.t 16) (.c (.int .i64 4)))⟩,⟨some 18,none,.pick (.t 13) (.t 17) (.c (.bool false))⟩,⟨some 19,none,.mv (.t 18)⟩,⟨(some 20),(some (19,true)),(.faddr 1 (.t 1))⟩,⟨(some 21),(some (19,true)),(.load false 1 (.t 20))⟩,⟨(some 22),(some (19,true)),(.call 174 [(.t 21),(.c (.fn 175 []))])⟩,⟨(some 23),(some (19,true)),(.un .not (.t 22))⟩,⟨some 24,none,.pick (.t 19) (.t 23) (.c (.bool false))⟩,⟨some 2,none,.mv (.t 24)⟩]) .ret)))
theorem Ey:codeOf Tryz.prog 152=some ⟨25,Dt,[(.tmp 2)]⟩:=by kernel_rfl
theorem AO:modes 152=⟨[],.asis,none,false⟩:=by unfold modes; rfl
def Hu:SC:=(.seq (.reg [⟨some 1,none,.boxv 71 2 (.t 0)⟩,⟨some 2,none,.mv (.c (.bool false))⟩]) (.seq (.reg [⟨some 3,none,.load true 2 (.t 1)⟩,⟨some 4,none,.call 152 [(.t 3)]⟩,⟨some 5,none,.un .not (.t 4)⟩,⟨some 2,none,.mv (.t 5)⟩]) .ret))
theorem MD:codeOf Tryz.prog 175=some ⟨6,Hu,[(.tmp 2)]⟩:=by kernel_rfl
theorem Hv:modes 175=⟨[],.asis,none,false⟩:=by unfold modes; rfl
theorem ME:Lk Tryz.prog 175=true:=by kernel_rfl
theorem Tm.QcX (xs:List Tm):(!xs.any fun y=>!y.names)=Tm.DH xs:=by
 rw [Tm.CX]
 induction xs with
 | nil=>rfl
 | cons x xs ih=>simp only [List.any_cons,List.all_cons,Bool.not_or,Bool.not_not,ih]
theorem VS (x:Tm) (hn:x.nodes≤1099511627776) (ih:∀ y∈x.args,E 152 [y.sv] []=some (.bool y.names,[])):E 152 [x.sv] []=some (.bool x.names,[]):=by
  have hl:=Tm.length_le x.args
  have hx:=Tm.An x
  have h1:∀ y∈x.args,E 175 [y.sv] []=some (.bool (!y.names),[]):=fun y hy=>by
    have h:=ih y hy
    refine Ah MD Hv (of_decide_eq_true rfl) ?_
    simp (disch:=omega) only [Hu,go_sem,Aa,h,AO]
  have h2:=Ma 175 (fun y=>!y.names) x.args (by omega) ME (by rw [Hv]) h1
  rw [Tm.Em,← Tm.QcX]
  cases hv:Aq x.name with
  | true =>
    have h3:=DY x.name
    rw [hv] at h3
    refine Ah Ey AO (of_decide_eq_true rfl) ?_
    simp (disch:=omega) only [Dt,go_sem,Aa,h3,Bm]
    rw [JS]; cases x.args <;> simp <;> omega
  | false =>
    have h3:=DY x.name
    rw [hv] at h3
    have h4:=QE x.name
    cases hs:EE x.name with
    | false =>
      rw [hs] at h4
      refine Ah Ey AO (of_decide_eq_true rfl) ?_
      simp (disch:=omega) only [Dt,go_sem,Aa,h2,h3,h4,Bm,Bv]
    | true =>
      rw [hs] at h4
      rcases Nat.lt_or_ge 4 x.args.length with h5 | h5
      · refine Ah Ey AO (of_decide_eq_true rfl) ?_
        simp (disch:=omega) only [Dt,go_sem,Aa,h2,h3,h4,Bm,Bv]
        simp; omega
      · refine Ah Ey AO (of_decide_eq_true rfl) ?_
        simp (disch:=omega) only [Dt,go_sem,Aa,h2,h3,h4,Bm,Bv,BQ]
        simp [h5]
theorem Jf (x:Tm) (hn:x.nodes≤1099511627776):E 152 [x.sv] []=some (.bool x.names,[]) :=
 VS x hn fun y hy=>Jf y (by have:=Tm.AU hy; have:=Tm.An x; omega)
termination_by SizeOf.sizeOf x
decreasing_by exact Tm.Aw hy
def DJ:SC:=(.seq (.reg [⟨some 1,none,.boxv 71 2 (.t 0)⟩,⟨some 2,none,.mv (.c (.bool false))⟩]) (.seq (.seq (.reg [⟨some 4,none,.faddr 0 (.t 1)⟩,⟨some 5,none,.load false 1 (.t 4)⟩,⟨some 6,none,.call 77 [(.t 5)]⟩]) (.cond (.t 6) (.seq (.reg [⟨some 7,none,.faddr 1 (.t 1)⟩,⟨some 8,none,.load false 1 (.t 7)⟩,⟨some 9,none,.len false (.t 8)⟩,⟨some 10,none,.bin .eql false (.t 9) (.c (.int .i64 0))⟩,⟨some 2,none,.mv (.t 10)⟩]) .ret) .skip)) (.seq (.seq (.reg [⟨some 11,none,.faddr 0 (.t 1)⟩,⟨some 12,none,.load false 1 (.t 11)⟩,⟨some 13,none,.call 105 [(.t 12)]⟩,⟨some 14,none,.un .not (.t 13)⟩,⟨some 15,none,.mv (.t 14)⟩,⟨(some 16),(some (15,false)),(.faddr 1 (.t 1))⟩,⟨(some 17),(some (15,false)),(.load false 1 (.t 16))⟩,⟨(some 18),(some (15,false)),(.len false (.t 17))⟩,⟨(some 19),(some (15,false)),(.bin .gtr false (.t 18) (.c (.int .i64 4)))⟩,⟨some 20,none,.pick (.t 15) (.c (.bool true)) (.t 19)⟩]) (.cond (.t 20) (.seq (.reg [⟨some 2,none,.mv (.c (.bool false))⟩]) .ret) .skip)) (.seq (.seq (.reg [⟨some 3,none,.mv (.c (.int .i64 0))⟩]) (.block 0 (.loop [0,1,0,1,0,0,0,0,0,0,0,0,0,0,0,0,0,0,0,0,0,0,0,0,0,0,0,0,0,0,0,0,0,0,0] (.seq (.seq (.reg [⟨some 21,none,.mv (.t 3)⟩,⟨some 22,none,.faddr 1 (.t 1)⟩,⟨some 23,none,.load false 1 (.t 22)⟩,⟨some 24,none,.len false (.t 23)⟩,⟨some 25,none,.bin .lss false (.t 21) (.t 24)⟩]) (.cond (.t 25) .skip (.exit 0))) (.seq (.block 1 (.seq (.reg [⟨some 28,none,.faddr 1 (.t 1)⟩,⟨some 29,none,.load false 1 (.t 28)⟩,⟨some 30,none,.mv (.t 3)⟩,⟨some 31,none,.iaddr 2 (.t 29) (.t 30)⟩,⟨some 32,none,.load true 2 (.t 31)⟩,⟨some 33,none,.call 104 [(.t 32)]⟩,⟨some 34,none,.un .not (.t 33)⟩]) (.cond (.t 34) (.seq (.reg [⟨some 2,none,.mv (.c (.bool false))⟩]) .ret) .skip))) (.reg [⟨some 26,none,.mv (.t 3)⟩,⟨some 27,none,.bin .add false (.t 26) (.c (.int .i64 1))⟩,⟨some 3,none,.mv (.t 27)⟩])))))) (.seq (.reg [⟨some 2,none,.mv (.c (.bool true))⟩]) .ret)))))
theorem EM:codeOf Tryz.prog 104=some ⟨35,DJ,[(.tmp 2)]⟩:=by kernel_rfl
theorem AP:modes 104=⟨[],.asis,none,false⟩:=by unfold modes; rfl
theorem Yn (x:Tm) (hn:x.nodes≤1099511627776) (ih:∀ y∈x.args,E 104 [y.sv] []=some (.bool y.names,[])):E 104 [x.sv] []=some (.bool x.names,[]):=by
  have hl:=Tm.length_le x.args
  have hx:=Tm.An x
  have h3:=Am x.name
  have h4:=QF x.name
  rw [Tm.Em]
  cases hv:Aq x.name with
  | true =>
    rw [hv] at h3
    refine Ah EM AP (of_decide_eq_true rfl) ?_
    simp (disch:=omega) only [DJ,go_sem,Aa,h3,Af]
    rw [JS]; cases x.args <;> simp <;> omega
  | false =>
    rw [hv] at h3
    cases hs:EE x.name with
    | false =>
      rw [hs] at h4
      refine Ah EM AP (of_decide_eq_true rfl) ?_
      simp (disch:=omega) only [DJ,go_sem,Aa,h3,h4,Af,Bw]
    | true =>
      rw [hs] at h4
      rcases Nat.lt_or_ge 4 x.args.length with h5 | h5
      · refine Ah EM AP (of_decide_eq_true rfl) ?_
        simp (disch:=omega) only [DJ,go_sem,Aa,h3,h4,Af,Bw]
        simp; omega
      · refine Ah EM AP (of_decide_eq_true rfl) ?_
        simp (disch:=omega) only [DJ,go_sem,Aa,h3,h4,Af,Bw]
        refine go_loop (α:=Int) (fun a=>⟨slots 35 0 [(1,.ptr 0 0),(3,.int .i64 a)],[.box 71 [.str x.name,.arr (x.args.map Tm.d)]]⟩) (fun a=>∃ k:Nat,a=k∧k≤(x.args).length∧Tm.DH (x.args.drop k)=Tm.DH x.args) (fun a=>(x.args).length-(a).toNat) 0 ⟨0,rfl,Nat.zero_le _,by rw [List.drop_zero]⟩ (by simp (disch:=omega) only [go_sem,Aa]) ?_
        rintro i ⟨k,hi,hk,hR⟩
        have hni:i.toNat=k:=by omega
        have hni1:(i+1).toNat=k+1:=by omega
        rcases Nat.lt_or_ge k (x.args).length with hlt | hge
        · have hg:=get_at Tm.d hlt
          rw [Tm.d_eq] at hg
          have hc:=ih x.args[k] (List.getElem_mem hlt)
          rw [List.drop_eq_getElem_cons hlt,Tm.DH] at hR
          cases hp:x.args[k].names with
          | true =>
            rw [hp] at hc hR
            simp (disch:=omega) only [go_sem,Aa,hni,hg,hc,AP]
            exact ⟨i+1,⟨k+1,by omega,hlt,by simpa using hR⟩,by omega,by first | trivial | rfl⟩
          | false =>
            rw [hp] at hc hR
            simp (disch:=omega) only [go_sem,Aa,hni,hg,hc,AP]
            simp at hR ⊢; exact fun _=>hR
        · rw [List.drop_eq_nil_of_le hge,Tm.DH] at hR
          simp (disch:=omega) only [go_sem,Aa,hni]
          simp [h5,← hR]
theorem Lg (x:Tm) (hn:x.nodes≤1099511627776):E 104 [x.sv] []=some (.bool x.names,[]) :=
 Yn x hn fun y hy=>Lg y (by have:=Tm.AU hy; have:=Tm.An x; omega)
termination_by SizeOf.sizeOf x
decreasing_by exact Tm.Aw hy
def GR:SC:=(.seq (.reg [⟨some 1,none,.boxv 71 2 (.t 0)⟩,⟨some 2,none,.mv (.c (.bool false))⟩]) (.seq (.reg [⟨some 3,none,.load true 2 (.t 1)⟩,⟨some 4,none,.call 159 [(.t 3)]⟩,⟨some 5,none,.bin .leq false (.t 4) (.c (.int .i64 30))⟩,⟨some 6,none,.mv (.t 5)⟩,⟨(some 7),(some (6,true)),(.load true 2 (.t 1))⟩,⟨(some 8),(some (6,true)),(.call 160 [(.t 7)])⟩,⟨(some 9),(some (6,true)),(.bin .leq false (.t 8) (.c (.int .i64 8)))⟩,⟨some 10,none,.pick (.t 6) (.t 9) (.c (.bool false))⟩,⟨some 2,none,.mv (.t 10)⟩]) .ret))
theorem Kj:codeOf Tryz.prog 127=some ⟨11,GR,[(.tmp 2)]⟩:=by kernel_rfl
theorem Bi:modes 127=⟨[],.asis,none,false⟩:=by unfold modes; rfl
def HZ:SC:=(.seq (.reg [⟨some 1,none,.boxv 71 2 (.t 0)⟩,⟨some 2,none,.mv (.c (.bool false))⟩]) (.seq (.reg [⟨some 3,none,.load true 2 (.t 1)⟩,⟨some 4,none,.call 144 [(.t 3),(.c (.int .i64 30))]⟩,⟨some 5,none,.bin .leq false (.t 4) (.c (.int .i64 30))⟩,⟨some 6,none,.mv (.t 5)⟩,⟨(some 7),(some (6,true)),(.load true 2 (.t 1))⟩,⟨(some 8),(some (6,true)),(.call 145 [(.t 7)])⟩,⟨(some 9),(some (6,true)),(.bin .leq false (.t 8) (.c (.int .i64 8)))⟩,⟨some 10,none,.pick (.t 6) (.t 9) (.c (.bool false))⟩,⟨some 2,none,.mv (.t 10)⟩]) .ret))
theorem L1:codeOf Tryz.prog 103=some ⟨11,HZ,[(.tmp 2)]⟩:=by kernel_rfl
theorem BE:modes 103=⟨[],.asis,none,false⟩:=by unfold modes; rfl
def EA:SC:=(.seq (.reg [⟨some 1,none,.boxv 71 2 (.t 0)⟩,⟨some 2,none,.mv (.c (.bool false))⟩]) (.seq (.reg [⟨some 3,none,.load true 2 (.t 1)⟩,⟨some 4,none,.call 127 [(.t 3)]⟩,⟨some 5,none,.mv (.t 4)⟩,⟨(some 6),(some (5,true)),(.load true 2 (.t 1))⟩,⟨(some 7),(some (5,true)),(.call 152 [(.t 6)])⟩,⟨some 8,none,.pick (.t 5) (.t 7) (.c (.bool false))⟩,⟨some 2,none,.mv (.t 8)⟩]) .ret))
theorem GS:codeOf Tryz.prog 154=some ⟨9,EA,[(.tmp 2)]⟩:=by kernel_rfl
theorem AI:modes 154=⟨[],.asis,none,false⟩:=by unfold modes; rfl
def Ia:SC:=(.seq (.reg [⟨some 1,none,.boxv 71 2 (.t 0)⟩,⟨some 2,none,.mv (.c (.bool false))⟩]) (.seq (.reg [⟨some 3,none,.load true 2 (.t 1)⟩,⟨some 4,none,.call 103 [(.t 3)]⟩,⟨some 5,none,.mv (.t 4)⟩,⟨(some 6),(some (5,true)),(.load true 2 (.t 1))⟩,⟨(some 7),(some (5,true)),(.call 104 [(.t 6)])⟩,⟨some 8,none,.pick (.t 5) (.t 7) (.c (.bool false))⟩,⟨some 2,none,.mv (.t 8)⟩]) .ret))
theorem L2:codeOf Tryz.prog 106=some ⟨9,Ia,[(.tmp 2)]⟩:=by kernel_rfl
theorem Be:modes 106=⟨[],.asis,none,false⟩:=by unfold modes; rfl
def Hw:SC:=(.seq (.reg [⟨some 1,none,.boxv 71 2 (.t 0)⟩,⟨some 2,none,.mv (.c (.bool false))⟩]) (.seq (.reg [⟨some 3,none,.faddr 0 (.t 1)⟩,⟨some 4,none,.load false 1 (.t 3)⟩,⟨(some 5),none,(.bin .eql false (.t 4) (.c (.str ⟨#[61]⟩)))⟩,⟨some 2,none,.mv (.t 5)⟩]) .ret))
theorem MG:codeOf Tryz.prog 151=some ⟨6,Hw,[(.tmp 2)]⟩:=by kernel_rfl
theorem BH:modes 151=⟨[],.asis,none,false⟩:=by unfold modes; rfl
def B6:SC:=(.seq (.reg [⟨some 1,none,.boxv 71 2 (.t 0)⟩,⟨some 2,none,.mv (.c (.bool false))⟩]) (.seq (.seq (.reg [⟨some 3,none,.load true 2 (.t 1)⟩,⟨some 4,none,.call 151 [(.t 3)]⟩]) (.cond (.t 4) (.seq (.reg [⟨some 5,none,.faddr 1 (.t 1)⟩,⟨some 6,none,.load false 1 (.t 5)⟩,⟨some 7,none,.len false (.t 6)⟩,⟨some 8,none,.bin .eql false (.t 7) (.c (.int .i64 2))⟩,⟨some 9,none,.mv (.t 8)⟩,⟨(some 10),(some (9,true)),(.load true 2 (.t 1))⟩,⟨(some 11),(some (9,true)),(.call 127 [(.t 10)])⟩,⟨some 12,none,.pick (.t 9) (.t 11) (.c (.bool false))⟩,⟨some 13,none,.mv (.t 12)⟩,⟨(some 14),(some (13,true)),(.faddr 1 (.t 1))⟩,⟨(some 15),(some (13,true)),(.load false 1 (.t 14))⟩,⟨(some 16),(some (13,true)),(.iaddr 2 (.t 15) (.c (.int .i64 0)))⟩,⟨(some 17),(some (13,true)),(.load true 2 (.t 16))⟩,⟨(some 18),(some (13,true)),(.call 152 [(.t 17)])⟩,⟨some 19,none,.pick (.t 13) (.t 18) (.c (.bool false))⟩,⟨some 20,none,.mv (.t 19)⟩,⟨(some 21),(some (20,true)),(.faddr 1 (.t 1))⟩,⟨(some 22),(some (20,true)),(.load false 1 (.t 21))⟩,⟨(some 23),(some (20,true)),(.iaddr 2 (.t 22) (.c (.int .i64 1)))⟩,⟨(some 24),(some (20,true)),(.load true 2 (.t 23))⟩,⟨(some 25),(some (20,true)),(.call 152 [(.t 24)])⟩,⟨some 26,none,.pick (.t 20) (.t 25) (.c (.bool false))⟩,⟨some 2,none,.mv (.t 26)⟩]) .ret) .skip)) (.seq (.reg [⟨some 27,none,.faddr 0 (.t 1)⟩,⟨some 28,none,.load false 1 (.t 27)⟩,⟨some 29,none,.call 153 [(.t 28)]⟩,⟨some 30,none,.mv (.t 29)⟩,⟨(some 31),(some (30,true)),(.load true 2 (.t 1))⟩,⟨(some 32),(some (30,true)),(.call 154 [(.t 31)])⟩,⟨some 33,none,.pick (.t 30) (.t 32) (.c (.bool false))⟩,⟨some 2,none,.mv (.t 33)⟩]) .ret)))
theorem BW:codeOf Tryz.prog 119=some ⟨34,B6,[(.tmp 2)]⟩:=by kernel_rfl
theorem B7:modes 119=⟨[],.asis,none,false⟩:=by unfold modes; rfl
def CL:SC:=(.seq (.reg [⟨some 1,none,.boxv 71 2 (.t 0)⟩,⟨some 2,none,.mv (.c (.bool false))⟩]) (.seq (.seq (.reg [⟨some 3,none,.faddr 0 (.t 1)⟩,⟨some 4,none,.load false 1 (.t 3)⟩,⟨(some 5),none,(.bin .eql false (.t 4) (.c (.str ⟨#[61]⟩)))⟩]) (.cond (.t 5) (.seq (.reg [⟨some 6,none,.faddr 1 (.t 1)⟩,⟨some 7,none,.load false 1 (.t 6)⟩,⟨some 8,none,.len false (.t 7)⟩,⟨some 9,none,.bin .eql false (.t 8) (.c (.int .i64 2))⟩,⟨some 10,none,.mv (.t 9)⟩,⟨(some 11),(some (10,true)),(.load true 2 (.t 1))⟩,⟨(some 12),(some (10,true)),(.call 103 [(.t 11)])⟩,⟨some 13,none,.pick (.t 10) (.t 12) (.c (.bool false))⟩,⟨some 14,none,.mv (.t 13)⟩,⟨(some 15),(some (14,true)),(.faddr 1 (.t 1))⟩,⟨(some 16),(some (14,true)),(.load false 1 (.t 15))⟩,⟨(some 17),(some (14,true)),(.iaddr 2 (.t 16) (.c (.int .i64 0)))⟩,⟨(some 18),(some (14,true)),(.load true 2 (.t 17))⟩,⟨(some 19),(some (14,true)),(.call 104 [(.t 18)])⟩,⟨some 20,none,.pick (.t 14) (.t 19) (.c (.bool false))⟩,⟨some 21,none,.mv (.t 20)⟩,⟨(some 22),(some (21,true)),(.faddr 1 (.t 1))⟩,⟨(some 23),(some (21,true)),(.load false 1 (.t 22))⟩,⟨(some 24),(some (21,true)),(.iaddr 2 (.t 23) (.c (.int .i64 1)))⟩,⟨(some 25),(some (21,true)),(.load true 2 (.t 24))⟩,⟨(some 26),(some (21,true)),(.call 104 [(.t 25)])⟩,⟨some 27,none,.pick (.t 21) (.t 26) (.c (.bool false))⟩,⟨some 2,none,.mv (.t 27)⟩]) .ret) .skip)) (.seq (.reg [⟨some 28,none,.faddr 0 (.t 1)⟩,⟨some 29,none,.load false 1 (.t 28)⟩,⟨some 30,none,.call 105 [(.t 29)]⟩,⟨some 31,none,.mv (.t 30)⟩,⟨(some 32),(some (31,true)),(.load true 2 (.t 1))⟩,⟨(some 33),(some (31,true)),(.call 106 [(.t 32)])⟩,⟨some 34,none,.pick (.t 31) (.t 33) (.c (.bool false))⟩,⟨some 2,none,.mv (.t 34)⟩]) .ret)))
theorem D2:codeOf Tryz.prog 72=some ⟨35,CL,[(.tmp 2)]⟩:=by kernel_rfl
theorem AS:modes 72=⟨[],.asis,none,false⟩:=by unfold modes; rfl
def Jg:SC:=(.seq (.reg [⟨some 1,none,.boxv 71 2 (.t 0)⟩,⟨some 2,none,.mv (.c (.bool false))⟩]) (.seq (.reg [⟨some 3,none,.load true 2 (.t 1)⟩,⟨some 4,none,.call 106 [(.t 3)]⟩,⟨some 5,none,.mv (.t 4)⟩,⟨(some 6),(some (5,false)),(.load true 2 (.t 1))⟩,⟨(some 7),(some (5,false)),(.call 72 [(.t 6)])⟩,⟨some 8,none,.pick (.t 5) (.c (.bool true)) (.t 7)⟩,⟨some 2,none,.mv (.t 8)⟩]) .ret))
theorem MH:codeOf Tryz.prog 110=some ⟨9,Jg,[(.tmp 2)]⟩:=by kernel_rfl
theorem EN:modes 110=⟨[],.asis,none,false⟩:=by unfold modes; rfl
theorem Lh (x:Tm) (hn:x.nodes≤1099511627776):E 127 [x.sv] []=some (.bool x.small,[]):=by
 have h1:=QbC x hn
 have h2:=Zs x hn
 have h3:=Tm.MB x
 have h4:=Tm.Lf x 30
 unfold Tm.small
 rcases Nat.lt_or_ge 30 x.nodes with h5 | h5
 ·rw [decide_eq_false (by omega),Bool.false_and]
  refine Ah Kj Bi (of_decide_eq_true rfl) ?_
  simp (disch:=omega) only [GR,go_sem,Aa,h1,h2,FJ,Gw]
 ·rw [decide_eq_true h5,Bool.true_and]
  refine Ah Kj Bi (of_decide_eq_true rfl) ?_
  simp (disch:=omega) only [GR,go_sem,Aa,h1,h2,FJ,Gw]
  rcases Nat.lt_or_ge 8 x.deep with h6 | h6
  ·rw [decide_eq_false (by omega),A8 (by omega)]
  ·rw [decide_eq_true h6,Ay (by omega)]
theorem VT (x:Tm) (hn:x.nodes≤1099511627776):E 103 [x.sv] []=some (.bool x.small,[]):=by
 have h1:=QbD x 30 (by omega) (by omega) hn
 have h2:=Tk x hn
 have h3:=Tm.MB x
 have h4:=Tm.Lf x 30
 unfold Tm.small
 rcases Nat.lt_or_ge 30 x.nodes with h5 | h5
 ·rw [decide_eq_false (by omega),Bool.false_and]
  refine Ah L1 BE (of_decide_eq_true rfl) ?_
  simp (disch:=omega) only [HZ,go_sem,Aa,h1,h2,En,EK]
 ·rw [decide_eq_true h5,Bool.true_and]
  refine Ah L1 BE (of_decide_eq_true rfl) ?_
  simp (disch:=omega) only [HZ,go_sem,Aa,h1,h2,En,EK]
  rcases Nat.lt_or_ge 8 x.deep with h6 | h6
  ·rw [decide_eq_false (by omega),A8 (by omega)]
  ·rw [decide_eq_true h6,Ay (by omega)]
theorem L3 (x:Tm) (hn:x.nodes≤1099511627776):E 154 [x.sv] []=some (.bool x.valid,[]):=by
 have h1:=Lh x hn
 have h2:=Jf x hn
 unfold Tm.valid
 cases h3:x.small <;> rw [h3] at h1
 ·refine Ah GS AI (of_decide_eq_true rfl) ?_
  simp (disch:=omega) only [EA,go_sem,Aa,h1,h2,Bi,AO]
 ·refine Ah GS AI (of_decide_eq_true rfl) ?_
  simp (disch:=omega) only [EA,go_sem,Aa,h1,h2,Bi,AO]
theorem QJ (x:Tm) (hn:x.nodes≤1099511627776):E 106 [x.sv] []=some (.bool x.valid,[]):=by
 have h1:=VT x hn
 have h2:=Lg x hn
 unfold Tm.valid
 cases h3:x.small <;> rw [h3] at h1
 ·refine Ah L2 Be (of_decide_eq_true rfl) ?_
  simp (disch:=omega) only [Ia,go_sem,Aa,h1,h2,BE,AP]
 ·refine Ah L2 Be (of_decide_eq_true rfl) ?_
  simp (disch:=omega) only [Ia,go_sem,Aa,h1,h2,BE,AP]
theorem MJ (x:Tm):E 151 [x.sv] []=some (.bool x.eqn,[]):=by
 unfold Tm.eqn
 refine Ah MG BH (of_decide_eq_true rfl) ?_
 simp (disch:=omega) only [Hw,go_sem,Aa]
theorem RZ (x:Tm) (hn:x.nodes≤1099511627776):E 119 [x.sv] []=some (.bool x.atom,[]):=by
  have hl:=Tm.length_le x.args
  have hx:=Tm.An x
  have h0:=MJ x
  have h1:=Lh x hn
  have h2:=QE x.name
  have h3:=L3 x hn
  have hE:dec (x.name=⟨#[61]⟩)=x.eqn:=rfl
  unfold Tm.atom
  cases he:x.eqn <;> rw [he] at h0 hE
  · rw [if_neg (by simp)]
    cases hs:EE x.name <;> rw [hs] at h2
    · refine Ah BW B7 (of_decide_eq_true rfl) ?_
      simp (disch:=omega) only [B6,go_sem,Aa,h0,h1,h2,h3,hE,Bi,AO,Bv,AI,BH]
    · refine Ah BW B7 (of_decide_eq_true rfl) ?_
      simp (disch:=omega) only [B6,go_sem,Aa,h0,h1,h2,h3,hE,Bi,AO,Bv,AI,BH]
  · rw [if_pos rfl]
    by_cases hc:x.args.length=2
    · have hlt0:0<x.args.length:=by omega
      have hlt1:1<x.args.length:=by omega
      have hg0:=get_at Tm.d hlt0
      have hg1:=get_at Tm.d hlt1
      rw [Tm.d_eq] at hg0 hg1
      have hb0:=Tm.FI x.args 0 hlt0
      have hb1:=Tm.FI x.args 1 hlt1
      have hn0:=Jf x.args[0] (by omega)
      have hn1:=Jf x.args[1] (by omega)
      rw [Ti hc,show (x.args.length == 2)=true by simpa using hc]
      cases hs:x.small <;> rw [hs] at h1
      · refine Ah BW B7 (of_decide_eq_true rfl) ?_
        simp (disch:=omega) only [B6,go_sem,Aa,h0,h1,h2,h3,hE,hg0,hg1,hn0,hn1,hc,Bi,AO,Bv,AI,BH]
        try simp
      · cases hq:(x.args[0]'hlt0).names <;> rw [hq] at hn0
        · refine Ah BW B7 (of_decide_eq_true rfl) ?_
          simp (disch:=omega) only [B6,go_sem,Aa,h0,h1,h2,h3,hE,hg0,hg1,hn0,hn1,hc,Bi,AO,Bv,AI,BH]
          try simp
        · refine Ah BW B7 (of_decide_eq_true rfl) ?_
          simp (disch:=omega) only [B6,go_sem,Aa,h0,h1,h2,h3,hE,hg0,hg1,hn0,hn1,hc,Bi,AO,Bv,AI,BH]
          try simp
    · refine Ah BW B7 (of_decide_eq_true rfl) ?_
      simp (disch:=omega) only [B6,go_sem,Aa,h0,h1,h2,h3,hE,Bi,AO,Bv,AI,BH]
      rw [show (x.args.length == 2)=false by simpa using hc]
      try simp
theorem QK (x:Tm) (hn:x.nodes≤1099511627776):E 72 [x.sv] []=some (.bool x.atom,[]):=by
  have hl:=Tm.length_le x.args
  have hx:=Tm.An x
  have h0:=MJ x
  have h1:=VT x hn
  have h2:=QF x.name
  have h3:=QJ x hn
  have hE:dec (x.name=⟨#[61]⟩)=x.eqn:=rfl
  unfold Tm.atom
  cases he:x.eqn <;> rw [he] at h0 hE
  · rw [if_neg (by simp)]
    cases hs:EE x.name <;> rw [hs] at h2
    · refine Ah D2 AS (of_decide_eq_true rfl) ?_
      simp (disch:=omega) only [CL,go_sem,Aa,h0,h1,h2,h3,hE,BE,AP,Bw,Be]
    · refine Ah D2 AS (of_decide_eq_true rfl) ?_
      simp (disch:=omega) only [CL,go_sem,Aa,h0,h1,h2,h3,hE,BE,AP,Bw,Be]
  · rw [if_pos rfl]
    by_cases hc:x.args.length=2
    · have hlt0:0<x.args.length:=by omega
      have hlt1:1<x.args.length:=by omega
      have hg0:=get_at Tm.d hlt0
      have hg1:=get_at Tm.d hlt1
      rw [Tm.d_eq] at hg0 hg1
      have hb0:=Tm.FI x.args 0 hlt0
      have hb1:=Tm.FI x.args 1 hlt1
      have hn0:=Lg x.args[0] (by omega)
      have hn1:=Lg x.args[1] (by omega)
      rw [Ti hc,show (x.args.length == 2)=true by simpa using hc]
      cases hs:x.small <;> rw [hs] at h1
      · refine Ah D2 AS (of_decide_eq_true rfl) ?_
        simp (disch:=omega) only [CL,go_sem,Aa,h0,h1,h2,h3,hE,hg0,hg1,hn0,hn1,hc,BE,AP,Bw,Be]
        try simp
      · cases hq:(x.args[0]'hlt0).names <;> rw [hq] at hn0
        · refine Ah D2 AS (of_decide_eq_true rfl) ?_
          simp (disch:=omega) only [CL,go_sem,Aa,h0,h1,h2,h3,hE,hg0,hg1,hn0,hn1,hc,BE,AP,Bw,Be]
          try simp
        · refine Ah D2 AS (of_decide_eq_true rfl) ?_
          simp (disch:=omega) only [CL,go_sem,Aa,h0,h1,h2,h3,hE,hg0,hg1,hn0,hn1,hc,BE,AP,Bw,Be]
          try simp
    · refine Ah D2 AS (of_decide_eq_true rfl) ?_
      simp (disch:=omega) only [CL,go_sem,Aa,h0,h1,h2,h3,hE,BE,AP,Bw,Be]
      rw [show (x.args.length == 2)=false by simpa using hc]
      try simp
theorem NZ {xs ys:List Tm} {k:Nat} (h:k<xs.length) (h':k<ys.length):Tm.cmpL (xs.drop k) (ys.drop k)=orZ (xs[k].cmp ys[k]) (Tm.cmpL (xs.drop (k+1)) (ys.drop (k+1))):=by
 rw [List.drop_eq_getElem_cons h,List.drop_eq_getElem_cons h',Tm.cmpL]
theorem QL {xs ys:List Tm} {k:Nat} (h:k<xs.length) (h':ys.length≤k):Tm.cmpL (xs.drop k) (ys.drop k)=1:=by
 rw [List.drop_eq_getElem_cons h,List.drop_eq_nil_of_le h',Tm.cmpL]
theorem VU {xs ys:List Tm} {k:Nat} (h:xs.length≤k) (h':k<ys.length):Tm.cmpL (xs.drop k) (ys.drop k)=-1:=by
 rw [List.drop_eq_getElem_cons h',List.drop_eq_nil_of_le h,Tm.cmpL]
theorem Oa {xs ys:List Tm} {k:Nat} (h:xs.length≤k) (h':ys.length≤k):Tm.cmpL (xs.drop k) (ys.drop k)=0:=by
 rw [List.drop_eq_nil_of_le h',List.drop_eq_nil_of_le h,Tm.cmpL]
theorem GT {p:Nat→Int→Bool} {s:ByteArray} (h:Ff p s s.size=true) (hs:0<s.size):p 0 (Jv s 0)=true:=by
 unfold Ff at h
 rw [List.all_eq_true] at h
 exact h 0 (List.mem_range.2 hs)
theorem Qak {s:ByteArray} (h:Aq s=true):Kc s=true:=by
 have h0:=h
 unfold Aq inB at h
 rw [Bool.and_eq_true,Bool.and_eq_true,decide_eq_true_eq,decide_eq_true_eq] at h
 have hs:0<s.size:=by omega
 have h1:=GT h.1 hs
 unfold Jw at h1
 unfold Kc
 rw [h0]
 simp at h1
 simp [hs,h1]
theorem Tl {s:ByteArray} (hs:0<s.size) (h:Qp (Jv s 0)=false):Kc s=true:=by
 have hv:Aq s=false:=by
  rw [Bool.eq_false_iff]
  intro hv
  unfold Aq at hv
  rw [Bool.and_eq_true] at hv
  have h1:=GT hv.1 hs
  unfold Jw at h1
  rw [h] at h1
  simp at h1
 unfold Kc
 rw [hv,h]
 simp [hs]
theorem Qal {s:ByteArray} (h:EE s=true):Kc s=true:=by
 unfold EE inB at h
 rw [Bool.and_eq_true,Bool.and_eq_true,Bool.and_eq_true,decide_eq_true_eq,decide_eq_true_eq] at h
 have hs:0<s.size:=by omega
 refine Tl hs ?_
 have h1:=GT h.1.1 hs
 unfold Ka at h1
 simp at h1
 have h2:=h1.1
 unfold TR at h2
 unfold Qp
 simp at h2 ⊢
 omega
theorem Qam {s:ByteArray} (h:s.toList=[61]):Kc s=true:=by
 have hs:s.size=1:=by
  have:=congrArg List.length h
  rw [ByteArray.toList_eq] at this
  simpa using this
 refine Tl (by omega) ?_
 unfold Jv
 rw [h]
 rfl
mutual
theorem Tm.Iz:∀ x:Tm,x.names=true→x.cok=true
  | .mk n xs,h=>by
    rw [Tm.names] at h
    rw [Tm.cok,Bool.and_eq_true]
    split at h
    · rename_i hv
      have:xs=[]:=by
        rw [beq_iff_eq] at h
        exact List.eq_nil_of_length_eq_zero h
      subst this
      exact ⟨Qak hv,rfl⟩
    · rw [Bool.and_eq_true,Bool.and_eq_true] at h
      exact ⟨Qal h.1.1,Tm.Mb xs h.2⟩
theorem Tm.Mb:∀ xs:List Tm,Tm.DH xs=true→Tm.RU xs=true
  | [],_=>rfl
  | x :: xs,h=>by
    rw [Tm.DH,Bool.and_eq_true] at h
    rw [Tm.RU,Bool.and_eq_true]
    exact ⟨Tm.Iz x h.1,Tm.Mb xs h.2⟩
end
theorem Tm.GU {x:Tm} (h:x.atom=true):x.cok=true:=by
 unfold Tm.atom at h
 rcases he:x.eqn with _ | _
 ·rw [he,if_neg (by simp),Bool.and_eq_true] at h
  unfold Tm.valid at h
  rw [Bool.and_eq_true] at h
  exact Tm.Iz x h.2.2
 ·rw [he,if_pos rfl,Bool.and_eq_true,Bool.and_eq_true] at h
  unfold Tm.eqn at he
  rw [Au] at he
  rw [Tm.Kd,Bool.and_eq_true]
  exact ⟨Qam (by rw [he,ByteArray.toList_eq]),Tm.Mb _ h.2⟩
theorem Qan {s:ByteArray} {k:Nat} (h:k<s.size):IO s k=Jv s k:=by
 rw [←Fp h]
 unfold IO
 rw [show s[k]?=some s[k] from getElem?_pos s k h]; rfl
theorem Tn {s:ByteArray} (h:Kc s=true):0<s.size∧(dec (65≤IO s 0)&&dec (IO s 0≤90))=Aq s:=by
 unfold Kc at h
 rw [Bool.and_eq_true,decide_eq_true_eq,beq_iff_eq] at h
 refine ⟨h.1,?_⟩
 rw [←h.2,Qan h.1,JS,JS]
 unfold Qp
 rfl
theorem GV (a:ByteArray):strLt a a=false:=by
 unfold strLt
 have key:∀ l:List UInt8,Op.bytesLess l l=false:=by
  intro l
  induction l with
  | nil=>rfl
  | cons x l ih=>simp [Op.bytesLess,ih]
 exact key _
def C0:SC:=(.seq (.reg [⟨some 2,none,.mv (.c (.bool false))⟩]) (.seq (.reg [⟨some 3,none,.mv (.t 0)⟩,⟨some 4,none,.mv (.t 0)⟩,⟨some 5,none,.bin .neq false (.t 3) (.t 4)⟩,⟨some 2,none,.mv (.t 5)⟩]) .ret))
theorem EB:codeOf Tryz.prog 168=some ⟨6,C0,[(.tmp 2)]⟩:=by kernel_rfl
theorem Bf:modes 168=⟨[],.asis,none,false⟩:=by unfold modes; rfl
def Du:SC:=(.seq (.reg [⟨some 2,none,.mv (.c (.bool false))⟩]) (.seq (.reg [⟨some 3,none,.mv (.t 0)⟩,⟨some 4,none,.mv (.t 0)⟩,⟨some 5,none,.bin .neq false (.t 3) (.t 4)⟩,⟨some 2,none,.mv (.t 5)⟩]) .ret))
theorem Gb:codeOf Tryz.prog 156=some ⟨6,Du,[(.tmp 2)]⟩:=by kernel_rfl
theorem B5:modes 156=⟨[],.asis,none,false⟩:=by unfold modes; rfl
def AQ:SC:=(.seq (.reg [⟨some 4,none,.mv (.c (.int .i64 0))⟩]) (.seq (.reg [⟨some 7,none,.mv (.t 0)⟩,⟨some 8,none,.call 168 [(.t 7)]⟩,⟨some 5,none,.mv (.t 8)⟩]) (.seq (.reg [⟨some 9,none,.mv (.t 1)⟩,⟨some 10,none,.call 168 [(.t 9)]⟩,⟨some 6,none,.mv (.t 10)⟩]) (.seq (.seq (.reg [⟨some 11,none,.mv (.t 5)⟩]) (.cond (.t 11) (.seq (.seq (.reg [⟨some 12,none,.mv (.t 6)⟩]) (.cond (.t 12) (.seq (.reg [⟨some 4,none,.mv (.c (.int .i64 0))⟩]) .ret) .skip)) (.seq (.reg [⟨some 4,none,.mv (.c (.int .i64 (-(0+1))))⟩]) .ret)) .skip)) (.seq (.seq (.reg [⟨some 13,none,.mv (.t 6)⟩]) (.cond (.t 13) (.seq (.reg [⟨some 4,none,.mv (.c (.int .i64 1))⟩]) .ret) .skip)) (.seq (.seq (.reg [⟨some 14,none,.mv (.t 0)⟩,⟨some 15,none,.mv (.t 1)⟩,⟨some 16,none,.bin .lss false (.t 14) (.t 15)⟩]) (.cond (.t 16) (.seq (.reg [⟨some 4,none,.mv (.c (.int .i64 (-(0+1))))⟩]) .ret) .skip)) (.seq (.seq (.reg [⟨some 17,none,.mv (.t 0)⟩,⟨some 18,none,.mv (.t 1)⟩,⟨some 19,none,.bin .gtr false (.t 17) (.t 18)⟩]) (.cond (.t 19) (.seq (.reg [⟨some 4,none,.mv (.c (.int .i64 1))⟩]) .ret) .skip)) (.seq (.reg [⟨some 4,none,.mv (.c (.int .i64 0))⟩]) .ret))))))))
theorem Bu:codeOf Tryz.prog 136=some ⟨20,AQ,[(.tmp 4)]⟩:=by kernel_rfl
theorem AA:modes 136=⟨[],.asis,none,false⟩:=by unfold modes; rfl
def Bn:SC:=(.seq (.reg [⟨some 4,none,.mv (.c (.int .i64 0))⟩]) (.seq (.reg [⟨some 7,none,.mv (.t 0)⟩,⟨some 8,none,.call 156 [(.t 7)]⟩,⟨some 5,none,.mv (.t 8)⟩]) (.seq (.reg [⟨some 9,none,.mv (.t 1)⟩,⟨some 10,none,.call 156 [(.t 9)]⟩,⟨some 6,none,.mv (.t 10)⟩]) (.seq (.seq (.reg [⟨some 11,none,.mv (.t 5)⟩]) (.cond (.t 11) (.seq (.seq (.reg [⟨some 12,none,.mv (.t 6)⟩]) (.cond (.t 12) (.seq (.reg [⟨some 4,none,.mv (.c (.int .i64 0))⟩]) .ret) .skip)) (.seq (.reg [⟨some 4,none,.mv (.c (.int .i64 (-(0+1))))⟩]) .ret)) .skip)) (.seq (.seq (.reg [⟨some 13,none,.mv (.t 6)⟩]) (.cond (.t 13) (.seq (.reg [⟨some 4,none,.mv (.c (.int .i64 1))⟩]) .ret) .skip)) (.seq (.seq (.reg [⟨some 14,none,.mv (.t 0)⟩,⟨some 15,none,.mv (.t 1)⟩,⟨some 16,none,.bin .lss false (.t 14) (.t 15)⟩]) (.cond (.t 16) (.seq (.reg [⟨some 4,none,.mv (.c (.int .i64 (-(0+1))))⟩]) .ret) .skip)) (.seq (.seq (.reg [⟨some 17,none,.mv (.t 0)⟩,⟨some 18,none,.mv (.t 1)⟩,⟨some 19,none,.bin .gtr false (.t 17) (.t 18)⟩]) (.cond (.t 19) (.seq (.reg [⟨some 4,none,.mv (.c (.int .i64 1))⟩]) .ret) .skip)) (.seq (.reg [⟨some 4,none,.mv (.c (.int .i64 0))⟩]) .ret))))))))
theorem BI:codeOf Tryz.prog 122=some ⟨20,Bn,[(.tmp 4)]⟩:=by kernel_rfl
theorem AH:modes 122=⟨[],.asis,none,false⟩:=by unfold modes; rfl
def EO:SC:=(.seq (.reg [⟨some 2,none,.mv (.c (.int .i64 0))⟩]) (.seq (.reg [⟨some 3,none,.mv (.c (.int .i64 0))⟩]) (.seq (.seq (.reg [⟨some 6,none,.mv (.t 0)⟩,⟨some 7,none,.len false (.t 6)⟩,⟨some 8,none,.mv (.c (.int .i64 0))⟩]) (.block 0 (.loop [0,0,0,1,0,0,1,1,1,0,0,0,0,0,0,0,0,0] (.seq (.reg [⟨some 9,none,.bin .lss false (.t 8) (.t 7)⟩]) (.seq (.cond (.t 9) .skip (.exit 0)) (.seq (.block 1 (.seq (.reg [⟨some 10,none,.iaddr 1 (.t 6) (.t 8)⟩,⟨some 11,none,.load false 1 (.t 10)⟩,⟨some 5,none,.mv (.t 11)⟩]) (.seq (.reg [⟨some 12,none,.mv (.t 5)⟩,⟨some 13,none,.mv (.t 3)⟩,⟨some 14,none,.bin .neq false (.t 12) (.t 13)⟩]) (.cond (.t 14) (.seq (.reg [⟨some 15,none,.mv (.t 5)⟩,⟨some 2,none,.mv (.t 15)⟩]) .ret) .skip)))) (.reg [⟨some 16,none,.bin .add false (.t 8) (.c (.int .i64 1))⟩,⟨some 8,none,.mv (.t 16)⟩]))))))) (.seq (.reg [⟨some 17,none,.mv (.t 3)⟩,⟨some 2,none,.mv (.t 17)⟩]) .ret))))
theorem Jh:codeOf Tryz.prog 120=some ⟨18,EO,[(.tmp 2)]⟩:=by kernel_rfl
theorem Cr:modes 120=⟨[],.asis,none,false⟩:=by unfold modes; rfl
theorem Kk (a:ByteArray):E 168 [.str a] []=some (.bool false,[]):=by
 refine Ah EB Bf (of_decide_eq_true rfl) ?_
 simp (disch:=omega) only [C0,go_sem,Aa]
theorem Kl (a:Int):E 156 [.int .i64 a] []=some (.bool false,[]):=by
 refine Ah Gb B5 (of_decide_eq_true rfl) ?_
 simp (disch:=omega) only [Du,go_sem,Aa]
theorem Ji (a b:ByteArray):E 136 [.str a,.str b] []=some (.int .i64 (E8 a b),[]):=by
 have h1:=Kk a
 have h2:=Kk b
 unfold E8
 cases h3:strLt a b
 ·cases h4:dec (a=b)
  ·refine Ah Bu AA (of_decide_eq_true rfl) ?_
   simp (disch:=omega) only [AQ,go_sem,Aa,h1,h2,h3,h4,Bf]
  ·refine Ah Bu AA (of_decide_eq_true rfl) ?_
   simp (disch:=omega) only [AQ,go_sem,Aa,h1,h2,h3,h4,Bf]
 ·refine Ah Bu AA (of_decide_eq_true rfl) ?_
  simp (disch:=omega) only [AQ,go_sem,Aa,h1,h2,h3,Bf]
theorem GW (a b:Int):E 122 [.int .i64 a,.int .i64 b] []=some (.int .i64 (GK a b),[]):=by
 have h1:=Kl a
 have h2:=Kl b
 unfold GK
 cases h3:dec (a<b)
 ·cases h4:dec (b<a)
  ·refine Ah BI AH (of_decide_eq_true rfl) ?_
   simp (disch:=omega) only [Bn,go_sem,Aa,h1,h2,h3,h4,B5]
  ·refine Ah BI AH (of_decide_eq_true rfl) ?_
   simp (disch:=omega) only [Bn,go_sem,Aa,h1,h2,h3,h4,B5]
 ·refine Ah BI AH (of_decide_eq_true rfl) ?_
  simp (disch:=omega) only [Bn,go_sem,Aa,h1,h2,h3,B5]
def orL:List Int→Int
 | []=>0
 | x :: xs=>if x=0 then orL xs else x
theorem QdH (xs:List Int) (hl:xs.length≤1099511627776):E 120 [.arr (xs.map fun n=>[D.int n])] []=some (.int .i64 (orL xs),[]):=by
 refine Ah Jh Cr (of_decide_eq_true rfl) ?_
 simp (disch:=omega) only [EO,go_sem,Aa]
 refine go_loop (α:=Int) (fun a=>⟨slots 18 0 [(3,.int .i64 0),(6,.arr (xs.map fun n=>[D.int n])),(7,.int .i64 xs.length),(8,.int .i64 a)],[]⟩) (fun a=>∃ k:Nat,a=k∧k≤(xs).length∧orL (xs.drop k)=orL xs) (fun a=>(xs).length-(a).toNat) 0 ⟨0,rfl,Nat.zero_le _,by rw [List.drop_zero]⟩ (by simp (disch:=omega) only [go_sem,Aa]) ?_
 rintro i ⟨k,hi,hk,hR⟩
 have hni:i.toNat=k:=by omega
 have hni1:(i+1).toNat=k+1:=by omega
 rcases Nat.lt_or_ge k (xs).length with hlt | hge
 ·have hg:=get_at (fun n=>[D.int n]) hlt
  rw [List.drop_eq_getElem_cons hlt,orL] at hR
  by_cases h0:xs[k]=0
  ·rw [if_pos h0] at hR
   simp (disch:=omega) only [go_sem,Aa,hni,hg,h0]
   exact ⟨i+1,⟨k+1,by omega,hlt,hR⟩,by omega,by first | trivial | rfl⟩
  ·rw [if_neg h0] at hR
   simp (disch:=omega) only [go_sem,Aa,hni,hg,h0]
   exact hR
 ·rw [List.drop_eq_nil_of_le hge,orL] at hR
  simp (disch:=omega) only [go_sem,Aa,hni]
  exact hR
theorem VV (a b:Int):E 120 [.arr [[.int a],[.int b]]] []=some (.int .i64 (orZ a b),[]):=by
 have h:=QdH [a,b] (by simp)
 have e:orL [a,b]=orZ a b:=by
  simp only [orL,orZ]
  split
  ·split <;> omega
  ·rfl
 rw [e] at h
 exact h
def C1:SC:=(.seq (.reg [⟨some 2,none,.mv (.c (.bool false))⟩]) (.seq (.reg [⟨some 3,none,.mv (.t 0)⟩,⟨some 4,none,.bin .geq false (.t 3) (.c (.int .u8 65))⟩,⟨some 5,none,.mv (.t 4)⟩,⟨(some 6),(some (5,true)),(.mv (.t 0))⟩,⟨(some 7),(some (5,true)),(.bin .leq false (.t 6) (.c (.int .u8 90)))⟩,⟨some 8,none,.pick (.t 5) (.t 7) (.c (.bool false))⟩,⟨some 2,none,.mv (.t 8)⟩]) .ret))
theorem DK:codeOf Tryz.prog 129=some ⟨9,C1,[(.tmp 2)]⟩:=by kernel_rfl
theorem C2:modes 129=⟨[],.asis,none,false⟩:=by unfold modes; rfl
def EP:SC:=(.seq (.reg [⟨some 1,none,.boxv 71 2 (.t 0)⟩,⟨some 2,none,.mv (.c (.bool false))⟩]) (.seq (.reg [⟨some 3,none,.faddr 0 (.t 1)⟩,⟨some 4,none,.load false 1 (.t 3)⟩,⟨some 5,none,.idx (.t 4) (.c (.int .i64 0))⟩,⟨some 6,none,.call 129 [(.t 5)]⟩,⟨some 2,none,.mv (.t 6)⟩]) .ret))
theorem Jj:codeOf Tryz.prog 89=some ⟨7,EP,[(.tmp 2)]⟩:=by kernel_rfl
theorem Ak:modes 89=⟨[],.asis,none,false⟩:=by unfold modes; rfl
theorem Oc (n:Int):E 129 [.int .u8 n] []=some (.bool (dec (65≤n)&&dec (n≤90)),[]):=by
 cases h1:dec (65≤n)
 ·refine Ah DK C2 (of_decide_eq_true rfl) ?_
  simp (disch:=omega) only [C1,go_sem,Aa,h1]
 ·refine Ah DK C2 (of_decide_eq_true rfl) ?_
  simp (disch:=omega) only [C1,go_sem,Aa,h1]
theorem CU (x:Tm) (h:x.cok=true):E 89 [x.sv] []=some (.bool (Aq x.name),[]):=by
 rw [Tm.Kd,Bool.and_eq_true] at h
 obtain ⟨h1,h2⟩:=Tn h.1
 have h3:=Oc (IO x.name 0)
 rw [h2] at h3
 refine Ah Jj Ak (of_decide_eq_true rfl) ?_
 simp (disch:=omega) only [EP,go_sem,Aa,h3,C2]
def As:SC:=(.seq (.reg [⟨some 6,none,.mv (.c (.int .i64 0))⟩]) (.seq (.seq (.reg [⟨some 11,none,.mv (.t 0)⟩,⟨some 12,none,.len false (.t 11)⟩,⟨some 13,none,.mv (.c (.int .i64 0))⟩]) (.block 0 (.loop [1,1,1,0,0,0,0,0,0,0,0,1,1,1,0,0,0,0,0,0,0,0,0,0,0,0,0,0,0,0,0,0,0,0,0,0,0,0,0] (.seq (.reg [⟨some 14,none,.bin .lss false (.t 13) (.t 12)⟩]) (.seq (.cond (.t 14) .skip (.exit 0)) (.seq (.block 1 (.seq (.reg [⟨some 15,none,.mv (.t 13)⟩,⟨some 16,none,.iaddr 2 (.t 11) (.t 13)⟩,⟨some 17,none,.load true 2 (.t 16)⟩,⟨(some 8),none,(.alloc 71 [(.str ⟨#[]⟩),.nil])⟩,⟨some 7,none,.mv (.t 15)⟩,⟨none,none,(.store 2 (.t 8) (.t 17))⟩]) (.seq (.seq (.reg [⟨some 18,none,.mv (.t 7)⟩,⟨some 19,none,.mv (.t 1)⟩,⟨some 20,none,.len false (.t 19)⟩,⟨some 21,none,.bin .geq false (.t 18) (.t 20)⟩]) (.cond (.t 21) (.seq (.reg [⟨some 6,none,.mv (.c (.int .i64 1))⟩]) .ret) .skip)) (.seq (.reg [⟨some 22,none,.mv (.t 1)⟩,⟨some 23,none,.mv (.t 7)⟩,⟨some 24,none,.iaddr 2 (.t 22) (.t 23)⟩,⟨some 25,none,.load true 2 (.t 24)⟩,⟨(some 9),none,(.alloc 71 [(.str ⟨#[]⟩),.nil])⟩,⟨none,none,(.store 2 (.t 9) (.t 25))⟩]) (.seq (.reg [⟨some 26,none,.mv (.t 2)⟩,⟨some 27,none,.load true 2 (.t 8)⟩,⟨some 28,none,.load true 2 (.t 9)⟩,⟨some 29,none,.callv (.t 26) [(.t 27),(.t 28)]⟩,⟨some 10,none,.mv (.t 29)⟩]) (.seq (.reg [⟨some 30,none,.mv (.t 10)⟩,⟨some 31,none,.bin .neq false (.t 30) (.c (.int .i64 0))⟩]) (.cond (.t 31) (.seq (.reg [⟨some 32,none,.mv (.t 10)⟩,⟨some 6,none,.mv (.t 32)⟩]) .ret) .skip))))))) (.reg [⟨some 33,none,.bin .add false (.t 13) (.c (.int .i64 1))⟩,⟨some 13,none,.mv (.t 33)⟩]))))))) (.seq (.seq (.reg [⟨some 34,none,.mv (.t 0)⟩,⟨some 35,none,.len false (.t 34)⟩,⟨some 36,none,.mv (.t 1)⟩,⟨some 37,none,.len false (.t 36)⟩,⟨some 38,none,.bin .lss false (.t 35) (.t 37)⟩]) (.cond (.t 38) (.seq (.reg [⟨some 6,none,.mv (.c (.int .i64 (-(0+1))))⟩]) .ret) .skip)) (.seq (.reg [⟨some 6,none,.mv (.c (.int .i64 0))⟩]) .ret))))
theorem AB:codeOf Tryz.prog 155=some ⟨39,As,[(.tmp 6)]⟩:=by kernel_rfl
theorem At:modes 155=⟨[],.asis,none,false⟩:=by unfold modes; rfl
def By:SC:=(.seq (.reg [⟨some 2,none,.boxv 71 2 (.t 0)⟩,⟨some 3,none,.boxv 71 2 (.t 1)⟩,⟨some 4,none,.mv (.c (.int .i64 0))⟩]) (.seq (.dreg [[],[0],[],[2,1,0],[1,0,3,2],[3,2,1,0,4]] [⟨some 8,none,.load true 2 (.t 2)⟩,⟨some 9,none,.call 89 [(.t 8)]⟩,⟨some 10,none,.load true 2 (.t 3)⟩,⟨some 11,none,.call 89 [(.t 10)]⟩,⟨some 5,none,.mv (.t 9)⟩,⟨some 6,none,.mv (.t 11)⟩]) (.seq (.block 0 (.seq (.reg [⟨some 13,none,.mv (.t 5)⟩,⟨some 14,none,.mv (.t 13)⟩,⟨(some 15),(some (14,true)),(.mv (.t 6))⟩,⟨(some 16),(some (14,true)),(.un .not (.t 15))⟩,⟨some 17,none,.pick (.t 14) (.t 16) (.c (.bool false))⟩,⟨some 12,none,.mv (.t 17)⟩]) (.cond (.t 12) (.seq (.reg [⟨some 4,none,.mv (.c (.int .i64 (-(0+1))))⟩]) .ret) (.seq (.reg [⟨some 19,none,.mv (.t 6)⟩,⟨some 20,none,.mv (.t 19)⟩,⟨(some 21),(some (20,true)),(.mv (.t 5))⟩,⟨(some 22),(some (20,true)),(.un .not (.t 21))⟩,⟨some 23,none,.pick (.t 20) (.t 22) (.c (.bool false))⟩,⟨some 18,none,.mv (.t 23)⟩]) (.cond (.t 18) (.seq (.reg [⟨some 4,none,.mv (.c (.int .i64 1))⟩]) .ret) .skip))))) (.seq (.seq (.dreg [[],[0],[],[2],[1,0,3,2],[],[5],[6,5],[],[8],[9,8],[7,6,5,10,9,8,4,1,0,3,2],[4,1,0,3,2,11,7,6,5,10,9,8],[12,4,1,0,3,2,11,7,6,5,10,9,8],[13,12,4,1,0,3,2,11,7,6,5,10,9,8]] [⟨some 24,none,.faddr 0 (.t 2)⟩,⟨some 25,none,.load false 1 (.t 24)⟩,⟨some 26,none,.faddr 0 (.t 3)⟩,⟨some 27,none,.load false 1 (.t 26)⟩,⟨some 28,none,.call 136 [(.t 25),(.t 27)]⟩,⟨some 29,none,.faddr 1 (.t 2)⟩,⟨some 30,none,.load false 1 (.t 29)⟩,⟨some 31,none,.len false (.t 30)⟩,⟨some 32,none,.faddr 1 (.t 3)⟩,⟨some 33,none,.load false 1 (.t 32)⟩,⟨some 34,none,.len false (.t 33)⟩,⟨some 35,none,.call 122 [(.t 31),(.t 34)]⟩,⟨some 36,none,.mkrow 3 1 [(.int .i64 0)] 2 [(0,(.t 28)),(1,(.t 35))]⟩,⟨some 37,none,.call 120 [(.t 36)]⟩,⟨some 7,none,.mv (.t 37)⟩]) (.seq (.reg [⟨some 38,none,.mv (.t 7)⟩,⟨some 39,none,.bin .neq false (.t 38) (.c (.int .i64 0))⟩]) (.cond (.t 39) (.seq (.reg [⟨some 40,none,.mv (.t 7)⟩,⟨some 4,none,.mv (.t 40)⟩]) .ret) .skip))) (.seq (.reg [⟨some 41,none,.faddr 1 (.t 2)⟩,⟨some 42,none,.load false 1 (.t 41)⟩,⟨some 43,none,.faddr 1 (.t 3)⟩,⟨some 44,none,.load false 1 (.t 43)⟩,⟨some 45,none,.call 155 [(.t 42),(.t 44),(.c (.fn 121 []))]⟩,⟨some 4,none,.mv (.t 45)⟩]) .ret)))))
theorem Cn:codeOf Tryz.prog 121=some ⟨46,By,[(.tmp 4)]⟩:=by kernel_rfl
theorem AW:modes 121=⟨[],.asis,none,false⟩:=by unfold modes; rfl
theorem Eh:Lk Tryz.prog 121=true:=by kernel_rfl
theorem Ib (fid:Nat) (xs ys:List Tm) (hl:xs.length≤1099511627776) (hl':ys.length≤1099511627776) (hg:Lk Tryz.prog fid=true) (hm:(modes fid).hand=[]) (hE:∀ x∈xs,∀ y∈ys,E fid [x.sv,y.sv] []=some (.int .i64 (x.cmp y),[])):E 155 [.arr (xs.map Tm.d),.arr (ys.map Tm.d),.fn fid []] []=some (.int .i64 (Tm.cmpL xs ys),[]):=by
  refine Ah AB At (of_decide_eq_true rfl) ?_
  simp (disch:=omega) only [As,go_sem,Aa]
  refine go_loop (α:=Int) (fun a=>⟨slots 39 0 [(0,.arr (xs.map Tm.d)),(1,.arr (ys.map Tm.d)),(2,.fn fid []),(11,.arr (xs.map Tm.d)),(12,.int .i64 xs.length),(13,.int .i64 a)],[]⟩) (fun a=>∃ k:Nat,a=k∧k≤(xs).length∧k≤ys.length∧Tm.cmpL (xs.drop k) (ys.drop k)=Tm.cmpL xs ys) (fun a=>(xs).length-(a).toNat) 0 ⟨0,rfl,Nat.zero_le _,Nat.zero_le _,by rw [List.drop_zero,List.drop_zero]⟩ (by simp (disch:=omega) only [go_sem,Aa]) ?_
  rintro i ⟨k,hi,hk,hR⟩
  have hni:i.toNat=k:=by omega
  have hni1:(i+1).toNat=k+1:=by omega
  rcases Nat.lt_or_ge k (xs).length with hlt | hge
  · obtain ⟨hk',hR⟩:=hR
    have hgx:=get_at Tm.d hlt
    rw [Tm.d_eq] at hgx
    rcases Nat.lt_or_ge k ys.length with hlt' | hge'
    · have hgy:=get_at Tm.d hlt'
      rw [Tm.d_eq] at hgy
      have hc:=hE xs[k] (List.getElem_mem hlt) ys[k] (List.getElem_mem hlt')
      rw [NZ hlt hlt'] at hR
      by_cases h0:xs[k].cmp ys[k]=0
      · rw [orZ,if_pos h0] at hR
        rw [h0] at hc
        simp (disch:=omega) only [go_sem,Aa,hni,hgx,hgy,hc,hg,hm]
        exact ⟨i+1,⟨k+1,by omega,hlt,hlt',hR⟩,by omega,by first | trivial | rfl⟩
      · rw [orZ,if_neg h0] at hR
        simp (disch:=omega) only [go_sem,Aa,hni,hgx,hgy,hc,hg,hm,h0]
        exact hR
    · rw [QL hlt hge'] at hR
      simp (disch:=omega) only [go_sem,Aa,hni,hgx]
      exact hR
  · obtain ⟨hk',hR⟩:=hR
    obtain rfl:k=xs.length:=by omega
    rcases Nat.lt_or_ge xs.length ys.length with hlt' | hge'
    · rw [VU (Nat.le_refl _) hlt'] at hR
      simp (disch:=omega) only [go_sem,Aa,hni]
      exact hR
    · rw [Oa (Nat.le_refl _) hge'] at hR
      simp (disch:=omega) only [go_sem,Aa,hni]
      exact hR
abbrev Sa (f:FuncId) (x y:Tm):Prop:=x.cok=true→y.cok=true→x.nodes≤1099511627776→y.nodes≤1099511627776→E f [x.sv,y.sv] []=some (.int .i64 (x.cmp y),[])
theorem Gc (x:Tm) (ih:∀ x'∈x.args,∀ y,Sa 121 x' y) (y:Tm):Sa 121 x y:=by
 intro hx hy hnx hny
 have lx:=Tm.length_le x.args
 have ly:=Tm.length_le y.args
 have nx:=Tm.An x
 have ny:=Tm.An y
 have h1:=CU x hx
 have h2:=CU y hy
 have h3:=Ji x.name y.name
 have h4:=GW x.args.length y.args.length
 have h5:=VV (E8 x.name y.name) (GK x.args.length y.args.length)
 rw [Tm.Kd,Bool.and_eq_true] at hx hy
 have h6:=Ib 121 x.args y.args (by omega) (by omega) Eh (by rw [AW]) fun x' hx' y' hy'=>ih x' hx' y' (Tm.GM hx.2 hx') (Tm.GM hy.2 hy') (by have:=Tm.AU hx'; omega) (by have:=Tm.AU hy'; omega)
 rw [Tm.TV]
 cases vx:Aq x.name <;> rw [vx] at h1 <;> cases vy:Aq y.name <;> rw [vy] at h2
 all_goals
  simp only [Bool.not_true,Bool.not_false,Bool.and_true,Bool.and_false,Bool.true_and,Bool.false_and,if_true,if_false,Bool.false_eq_true]
  by_cases h0:orZ (E8 x.name y.name) (GK x.args.length y.args.length)=0
  ·rw [h0] at h5
   try rw [h0]
   refine Ah Cn AW (of_decide_eq_true rfl) ?_
   simp (disch:=omega) only [By,go_sem,Aa,h1,h2,h3,h4,h5,h6,Ak,AA,AH,Cr,At]
   try rfl
  ·try rw [orZ.eq_1 (orZ _ _) _,if_neg h0]
   refine Ah Cn AW (of_decide_eq_true rfl) ?_
   simp (disch:=omega) only [By,go_sem,Aa,h0,h1,h2,h3,h4,h5,Ak,AA,AH,Cr]
theorem DL (x y:Tm):Sa 121 x y:=Gc x (fun x' hx' y'=>DL x' y') y
termination_by SizeOf.sizeOf x
decreasing_by exact Tm.Aw hx'
def F3:SC:=(.seq (.reg [⟨some 4,none,.mv (.c (.int .i64 0))⟩]) (.seq (.block 0 (.seq (.reg [⟨some 6,none,.mv (.t 0)⟩,⟨some 7,none,.mv (.t 1)⟩,⟨some 8,none,.bin .lss false (.t 6) (.t 7)⟩,⟨some 5,none,.mv (.t 8)⟩]) (.cond (.t 5) (.seq (.reg [⟨some 4,none,.mv (.c (.int .i64 (-(0+1))))⟩]) .ret) (.seq (.reg [⟨some 10,none,.mv (.t 0)⟩,⟨some 11,none,.mv (.t 1)⟩,⟨some 12,none,.bin .gtr false (.t 10) (.t 11)⟩,⟨some 9,none,.mv (.t 12)⟩]) (.cond (.t 9) (.seq (.reg [⟨some 4,none,.mv (.c (.int .i64 1))⟩]) .ret) .skip))))) (.seq (.reg [⟨some 4,none,.mv (.c (.int .i64 0))⟩]) .ret)))
theorem Ic:codeOf Tryz.prog 146=some ⟨13,F3,[(.tmp 4)]⟩:=by kernel_rfl
theorem F4:modes 146=⟨[],.asis,none,false⟩:=by unfold modes; rfl
def BX:SC:=(.seq (.reg [⟨some 2,none,.boxv 71 2 (.t 0)⟩,⟨some 3,none,.boxv 71 2 (.t 1)⟩,⟨some 4,none,.mv (.c (.int .i64 0))⟩]) (.seq (.dreg [[],[0],[1,0],[],[3],[4,3,2,1,0],[2,1,0,5,4,3],[5,4,3,2,1,0,6]] [⟨some 9,none,.faddr 0 (.t 2)⟩,⟨some 10,none,.load false 1 (.t 9)⟩,⟨some 11,none,.call 77 [(.t 10)]⟩,⟨some 12,none,.faddr 0 (.t 3)⟩,⟨some 13,none,.load false 1 (.t 12)⟩,⟨some 14,none,.call 77 [(.t 13)]⟩,⟨some 5,none,.mv (.t 11)⟩,⟨some 6,none,.mv (.t 14)⟩]) (.seq (.block 0 (.seq (.reg [⟨some 16,none,.mv (.t 5)⟩,⟨some 17,none,.mv (.t 16)⟩,⟨(some 18),(some (17,true)),(.mv (.t 6))⟩,⟨(some 19),(some (17,true)),(.un .not (.t 18))⟩,⟨some 20,none,.pick (.t 17) (.t 19) (.c (.bool false))⟩,⟨some 15,none,.mv (.t 20)⟩]) (.cond (.t 15) (.seq (.reg [⟨some 4,none,.mv (.c (.int .i64 (-(0+1))))⟩]) .ret) (.seq (.reg [⟨some 22,none,.mv (.t 5)⟩,⟨some 23,none,.un .not (.t 22)⟩,⟨some 24,none,.mv (.t 23)⟩,⟨(some 25),(some (24,true)),(.mv (.t 6))⟩,⟨some 26,none,.pick (.t 24) (.t 25) (.c (.bool false))⟩,⟨some 21,none,.mv (.t 26)⟩]) (.cond (.t 21) (.seq (.reg [⟨some 4,none,.mv (.c (.int .i64 1))⟩]) .ret) (.seq (.reg [⟨some 28,none,.faddr 0 (.t 2)⟩,⟨some 29,none,.load false 1 (.t 28)⟩,⟨some 30,none,.faddr 0 (.t 3)⟩,⟨some 31,none,.load false 1 (.t 30)⟩,⟨some 32,none,.bin .neq false (.t 29) (.t 31)⟩,⟨some 27,none,.mv (.t 32)⟩]) (.cond (.t 27) (.seq (.reg [⟨some 33,none,.faddr 0 (.t 2)⟩,⟨some 34,none,.load false 1 (.t 33)⟩,⟨some 35,none,.faddr 0 (.t 3)⟩,⟨some 36,none,.load false 1 (.t 35)⟩,⟨some 37,none,.call 146 [(.t 34),(.t 36)]⟩,⟨some 4,none,.mv (.t 37)⟩]) .ret) (.seq (.reg [⟨some 39,none,.faddr 1 (.t 2)⟩,⟨some 40,none,.load false 1 (.t 39)⟩,⟨some 41,none,.len false (.t 40)⟩,⟨some 42,none,.faddr 1 (.t 3)⟩,⟨some 43,none,.load false 1 (.t 42)⟩,⟨some 44,none,.len false (.t 43)⟩,⟨some 45,none,.bin .lss false (.t 41) (.t 44)⟩,⟨some 38,none,.mv (.t 45)⟩]) (.cond (.t 38) (.seq (.reg [⟨some 4,none,.mv (.c (.int .i64 (-(0+1))))⟩]) .ret) (.seq (.reg [⟨some 47,none,.faddr 1 (.t 2)⟩,⟨some 48,none,.load false 1 (.t 47)⟩,⟨some 49,none,.len false (.t 48)⟩,⟨some 50,none,.faddr 1 (.t 3)⟩,⟨some 51,none,.load false 1 (.t 50)⟩,⟨some 52,none,.len false (.t 51)⟩,⟨some 53,none,.bin .gtr false (.t 49) (.t 52)⟩,⟨some 46,none,.mv (.t 53)⟩]) (.cond (.t 46) (.seq (.reg [⟨some 4,none,.mv (.c (.int .i64 1))⟩]) .ret) .skip))))))))))) (.seq (.seq (.reg [⟨some 7,none,.mv (.c (.int .i64 0))⟩]) (.block 1 (.loop [0,0,1,1,0,0,0,1,0,0,0,0,0,0,0,0,0,0,0,0,0,0,0,0,0,0,0,0,0,0,0,0,0,0,0,0,0,0,0,0,0,0,0,0,0,0,0,0,0,0,0,0,0,0,0,0,0,0,0,0,0,0,0,0,0,0,0,0,0,0,0,0,0,0,0] (.seq (.seq (.reg [⟨some 54,none,.mv (.t 7)⟩,⟨some 55,none,.faddr 1 (.t 2)⟩,⟨some 56,none,.load false 1 (.t 55)⟩,⟨some 57,none,.len false (.t 56)⟩,⟨some 58,none,.bin .lss false (.t 54) (.t 57)⟩]) (.cond (.t 58) .skip (.exit 1))) (.seq (.block 2 (.seq (.dreg [[],[0],[],[1,0,2],[3,1,0,2],[],[5],[],[6,5,7],[8,6,5,7],[4,3,1,0,2,9,8,6,5,7],[10,4,3,1,0,2,9,8,6,5,7]] [⟨some 61,none,.faddr 1 (.t 2)⟩,⟨some 62,none,.load false 1 (.t 61)⟩,⟨some 63,none,.mv (.t 7)⟩,⟨some 64,none,.iaddr 2 (.t 62) (.t 63)⟩,⟨some 65,none,.load true 2 (.t 64)⟩,⟨some 66,none,.faddr 1 (.t 3)⟩,⟨some 67,none,.load false 1 (.t 66)⟩,⟨some 68,none,.mv (.t 7)⟩,⟨some 69,none,.iaddr 2 (.t 67) (.t 68)⟩,⟨some 70,none,.load true 2 (.t 69)⟩,⟨some 71,none,.call 107 [(.t 65),(.t 70)]⟩,⟨some 8,none,.mv (.t 71)⟩]) (.seq (.reg [⟨some 72,none,.mv (.t 8)⟩,⟨some 73,none,.bin .neq false (.t 72) (.c (.int .i64 0))⟩]) (.cond (.t 73) (.seq (.reg [⟨some 74,none,.mv (.t 8)⟩,⟨some 4,none,.mv (.t 74)⟩]) .ret) .skip)))) (.reg [⟨some 59,none,.mv (.t 7)⟩,⟨some 60,none,.bin .add false (.t 59) (.c (.int .i64 1))⟩,⟨some 7,none,.mv (.t 60)⟩])))))) (.seq (.reg [⟨some 4,none,.mv (.c (.int .i64 0))⟩]) .ret)))))
theorem Cx:codeOf Tryz.prog 107=some ⟨75,BX,[(.tmp 4)]⟩:=by kernel_rfl
theorem Bk:modes 107=⟨[],.asis,none,false⟩:=by unfold modes; rfl
theorem QbG (a b:ByteArray):E 146 [.str a,.str b] []=some (.int .i64 (E8 a b),[]):=by
 unfold E8
 cases h3:strLt a b
 ·cases h4:dec (a=b)
  ·refine Ah Ic F4 (of_decide_eq_true rfl) ?_
   simp (disch:=omega) only [F3,go_sem,Aa,h3,h4]
  ·refine Ah Ic F4 (of_decide_eq_true rfl) ?_
   simp (disch:=omega) only [F3,go_sem,Aa,h3,h4]
 ·refine Ah Ic F4 (of_decide_eq_true rfl) ?_
  simp (disch:=omega) only [F3,go_sem,Aa,h3]
theorem QcY {a b:ByteArray} (h:¬ a=b):E8 a b≠0:=by
 unfold E8
 rw [A8 h]
 cases strLt a b <;> simp
theorem QcZ (a:ByteArray):E8 a a=0:=by
 unfold E8
 rw [GV,Ay rfl]; rfl
theorem Up (x : Tm) (ih:∀ x'∈x.args,∀ y,Sa 107 x' y) (y:Tm):Sa 107 x y:=by
  intro hx hy hnx hny
  have lx:=Tm.length_le x.args
  have ly:=Tm.length_le y.args
  have nx:=Tm.An x
  have ny:=Tm.An y
  have h1:=Am x.name
  have h2:=Am y.name
  have h3:=QbG x.name y.name
  rw [Tm.Kd,Bool.and_eq_true] at hx hy
  rw [Tm.TV]
  cases vx:Aq x.name <;> rw [vx] at h1 <;> cases vy:Aq y.name <;> rw [vy] at h2
  case' false.true =>
                      refine Ah Cx Bk (of_decide_eq_true rfl) ?_
                      simp (disch:=omega) only [BX,go_sem,Aa,h1,h2,Af]
  case' true.false =>
                      refine Ah Cx Bk (of_decide_eq_true rfl) ?_
                      simp (disch:=omega) only [BX,go_sem,Aa,h1,h2,Af]
  case' false.false=>skip
  case' true.true=>skip
  all_goals (try trivial)
  all_goals
    simp only [Bool.not_true,Bool.not_false,Bool.and_true,Bool.and_false,Bool.true_and,Bool.false_and,if_true,if_false,Bool.false_eq_true]
    by_cases h0:x.name=y.name
    · rw [show E8 x.name y.name=0 by rw [h0]; exact QcZ _]
      unfold GK
      rcases Nat.lt_or_ge x.args.length y.args.length with h4 | h4
      · rw [Ay (by omega)]
        refine Ah Cx Bk (of_decide_eq_true rfl) ?_
        simp (disch:=omega) only [BX,go_sem,Aa,h0,h1,h2,Af]
        rfl
      · rcases Nat.lt_or_ge y.args.length x.args.length with h5 | h5
        · rw [A8 (by omega),Ay (by omega)]
          refine Ah Cx Bk (of_decide_eq_true rfl) ?_
          simp (disch:=omega) only [BX,go_sem,Aa,h0,h1,h2,Af]
          rfl
        · rw [A8 (by omega),A8 (by omega)]
          refine Ah Cx Bk (of_decide_eq_true rfl) ?_
          simp (disch:=omega) only [BX,go_sem,Aa,h0,h1,h2,Af]
          refine go_loop (α:=Int) (fun a=>⟨slots 75 0 [(2,.ptr 0 0),(3,.ptr 1 0),(7,.int .i64 a)],[.box 71 [.str x.name,.arr (x.args.map Tm.d)],.box 71 [.str y.name,.arr (y.args.map Tm.d)]]⟩) (fun a=>∃ k:Nat,a=k∧k≤(x.args).length∧Tm.cmpL (x.args.drop k) (y.args.drop k)=Tm.cmpL x.args y.args) (fun a=>(x.args).length-(a).toNat) 0 ⟨0,rfl,Nat.zero_le _,by rw [List.drop_zero,List.drop_zero]⟩ (by simp (disch:=omega) only [go_sem,Aa,h0]) ?_
          rintro i ⟨k,hi,hk,hR⟩
          have hni:i.toNat=k:=by omega
          have hni1:(i+1).toNat=k+1:=by omega
          rcases Nat.lt_or_ge k (x.args).length with hlt | hge
          · have hlt':k<y.args.length:=by omega
            have hgx:=get_at Tm.d hlt
            rw [Tm.d_eq] at hgx
            have hgy:=get_at Tm.d hlt'
            rw [Tm.d_eq] at hgy
            have hc:=ih x.args[k] (List.getElem_mem hlt) y.args[k] (Tm.GM hx.2 (List.getElem_mem hlt)) (Tm.GM hy.2 (List.getElem_mem hlt')) (by have:=Tm.FI x.args k hlt; omega) (by have:=Tm.FI y.args k hlt'; omega)
            rw [NZ hlt hlt'] at hR
            by_cases hz:x.args[k].cmp y.args[k]=0
            · rw [orZ,if_pos hz] at hR
              rw [hz] at hc
              simp (disch:=omega) only [go_sem,Aa,hni,hgx,hgy,hc,Bk]
              exact ⟨i+1,⟨k+1,by omega,hlt,hR⟩,by omega,by first | trivial | rfl | simp only [h0,and_self]⟩
            · rw [orZ,if_neg hz] at hR
              simp (disch:=omega) only [go_sem,Aa,hni,hgx,hgy,hc,hz,Bk]
              exact hR
          · rw [Oa hge (by omega)] at hR
            simp (disch:=omega) only [go_sem,Aa,hni]
            exact hR
    · have h6:=QcY h0
      rw [show orZ (orZ (E8 x.name y.name) (GK x.args.length y.args.length)) (Tm.cmpL x.args y.args)=E8 x.name y.name by unfold orZ; rw [if_neg h6,if_neg h6]]
      refine Ah Cx Bk (of_decide_eq_true rfl) ?_
      simp (disch:=omega) only [BX,go_sem,Aa,h0,h1,h2,h3,Af,F4]
theorem OM (x y:Tm):Sa 107 x y:=Up x (fun x' hx' y'=>OM x' y') y
termination_by SizeOf.sizeOf x
decreasing_by exact Tm.Aw hx'
noncomputable def Qao (xs:List Lt) (k:Nat):Bool:=match xs[k]? with
 | none=>true
 | some x=>x.atom.atom&&(match k with
  | 0=>true
  | j+1=>match xs[j]? with
   | none=>true
   | some y=>decide (y.cmp x < 0))
noncomputable def Gx (xs:List Lt):Nat→Bool
 | 0=>true
 | k+1=>Gx xs k&&Qao xs k
theorem Qap {xs:List Lt} {k n:Nat} (h:Gx xs k=false) (hn:k≤n):Gx xs n=false:=by
  induction n with
  | zero =>
            obtain rfl:k=0:=by omega
            exact h
  | succ n ih =>
    rcases Nat.lt_or_ge n k with h1 | h1
    · obtain rfl:k=n+1:=by omega
      exact h
    · rw [Gx,ih h1]; rfl
theorem G6 {xs:List Lt} (h:0<xs.length):Qao xs 0=xs[0].atom.atom:=by
 unfold Qao
 rw [List.getElem?_eq_getElem h]
 simp
theorem DZ {xs:List Lt} {j:Nat} (h:j+1<xs.length):Qao xs (j+1)=(xs[j+1].atom.atom&&decide (xs[j].cmp xs[j+1]<0)):=by
 unfold Qao
 rw [List.getElem?_eq_getElem h]
 simp only [List.getElem?_eq_getElem (show j<xs.length by omega)]
theorem Od {xs:List Lt} {k j:Nat} (h:Gx xs k=true) (hj:j<k) (hl:j<xs.length):xs[j].atom.atom=true:=by
  induction k with
  | zero=>omega
  | succ k ih =>
    rw [Gx,Bool.and_eq_true] at h
    rcases Nat.lt_or_ge j k with h1 | h1
    · exact ih h.1 h1
    · obtain rfl:j=k:=by omega
      cases j with
      | zero=>rw [←G6 hl]; exact h.2
      | succ j =>
        have:=h.2
        rw [DZ hl,Bool.and_eq_true] at this
        exact this.1
noncomputable def Cl.ok (x:Cl):Bool:=decide (x.lits.length≤8)&&Gx x.lits x.lits.length
theorem Cl.not_ok {x:Cl} {k:Nat} (h:Gx x.lits k=true) (h':Qao x.lits k=false) (hk:k<x.lits.length):x.ok=false:=by
 have:Gx x.lits x.lits.length=false:=Qap (k:=k+1) (by rw [Gx,h,h']; rfl) (by omega)
 unfold Cl.ok
 rw [this,Bool.and_false]
def Cl.tame (x:Cl):Prop:=x.lits.length≤1099511627776∧∀ y∈x.lits,y.atom.nodes≤1099511627776
theorem Cl.tame_at {x:Cl} (h:x.tame) {k:Nat} (hk:k<x.lits.length):x.lits[k].atom.nodes≤1099511627776:=h.2 _ (List.getElem_mem hk)
def DM:SC:=(.seq (.reg [⟨some 2,none,.mv (.c (.int .i64 0))⟩]) (.seq (.seq (.reg [⟨some 3,none,.mv (.t 0)⟩]) (.cond (.t 3) (.seq (.reg [⟨some 2,none,.mv (.c (.int .i64 1))⟩]) .ret) .skip)) (.seq (.reg [⟨some 2,none,.mv (.c (.int .i64 0))⟩]) .ret)))
theorem FK:codeOf Tryz.prog 123=some ⟨4,DM,[(.tmp 2)]⟩:=by kernel_rfl
theorem DN:modes 123=⟨[],.asis,none,false⟩:=by unfold modes; rfl
def BJ:SC:=(.seq (.reg [⟨some 2,none,.boxv 73 3 (.t 0)⟩,⟨some 3,none,.boxv 73 3 (.t 1)⟩,⟨some 4,none,.mv (.c (.int .i64 0))⟩]) (.seq (.dreg [[],[0],[],[2],[1,0,3,2],[],[5],[6,5,4,1,0,3,2],[],[8],[9,8,7,6,5,4,1,0,3,2],[7,6,5,4,1,0,3,2,10,9,8],[4,1,0,3,2,11,7,6,5,10,9,8],[12,4,1,0,3,2,11,7,6,5,10,9,8],[13,12,4,1,0,3,2,11,7,6,5,10,9,8]] [⟨some 5,none,.faddr 1 (.t 2)⟩,⟨some 6,none,.load true 2 (.t 5)⟩,⟨some 7,none,.faddr 1 (.t 3)⟩,⟨some 8,none,.load true 2 (.t 7)⟩,⟨some 9,none,.call 121 [(.t 6),(.t 8)]⟩,⟨some 10,none,.faddr 0 (.t 2)⟩,⟨some 11,none,.load false 1 (.t 10)⟩,⟨some 12,none,.call 123 [(.t 11)]⟩,⟨some 13,none,.faddr 0 (.t 3)⟩,⟨some 14,none,.load false 1 (.t 13)⟩,⟨some 15,none,.call 123 [(.t 14)]⟩,⟨some 16,none,.call 122 [(.t 12),(.t 15)]⟩,⟨some 17,none,.mkrow 3 1 [(.int .i64 0)] 2 [(0,(.t 9)),(1,(.t 16))]⟩,⟨some 18,none,.call 120 [(.t 17)]⟩,⟨some 4,none,.mv (.t 18)⟩]) .ret))
theorem Dl:codeOf Tryz.prog 83=some ⟨19,BJ,[(.tmp 4)]⟩:=by kernel_rfl
theorem Bg:modes 83=⟨[],.asis,none,false⟩:=by unfold modes; rfl
def EQ:SC:=(.seq (.reg [⟨some 2,none,.boxv 73 3 (.t 0)⟩,⟨some 3,none,.boxv 73 3 (.t 1)⟩,⟨some 4,none,.mv (.c (.int .i64 0))⟩]) (.seq (.reg [⟨some 6,none,.faddr 1 (.t 2)⟩,⟨some 7,none,.load true 2 (.t 6)⟩,⟨some 8,none,.faddr 1 (.t 3)⟩,⟨some 9,none,.load true 2 (.t 8)⟩,⟨some 10,none,.call 107 [(.t 7),(.t 9)]⟩,⟨some 5,none,.mv (.t 10)⟩]) (.seq (.block 0 (.seq (.reg [⟨some 12,none,.mv (.t 5)⟩,⟨some 13,none,.bin .neq false (.t 12) (.c (.int .i64 0))⟩,⟨some 11,none,.mv (.t 13)⟩]) (.cond (.t 11) (.seq (.reg [⟨some 14,none,.mv (.t 5)⟩,⟨some 4,none,.mv (.t 14)⟩]) .ret) (.seq (.reg [⟨some 16,none,.faddr 0 (.t 2)⟩,⟨some 17,none,.load false 1 (.t 16)⟩,⟨some 18,none,.un .not (.t 17)⟩,⟨some 19,none,.mv (.t 18)⟩,⟨(some 20),(some (19,true)),(.faddr 0 (.t 3))⟩,⟨(some 21),(some (19,true)),(.load false 1 (.t 20))⟩,⟨some 22,none,.pick (.t 19) (.t 21) (.c (.bool false))⟩,⟨some 15,none,.mv (.t 22)⟩]) (.cond (.t 15) (.seq (.reg [⟨some 4,none,.mv (.c (.int .i64 (-(0+1))))⟩]) .ret) (.seq (.reg [⟨some 24,none,.faddr 0 (.t 2)⟩,⟨some 25,none,.load false 1 (.t 24)⟩,⟨some 26,none,.mv (.t 25)⟩,⟨(some 27),(some (26,true)),(.faddr 0 (.t 3))⟩,⟨(some 28),(some (26,true)),(.load false 1 (.t 27))⟩,⟨(some 29),(some (26,true)),(.un .not (.t 28))⟩,⟨some 30,none,.pick (.t 26) (.t 29) (.c (.bool false))⟩,⟨some 23,none,.mv (.t 30)⟩]) (.cond (.t 23) (.seq (.reg [⟨some 4,none,.mv (.c (.int .i64 1))⟩]) .ret) .skip))))))) (.seq (.reg [⟨some 4,none,.mv (.c (.int .i64 0))⟩]) .ret))))
theorem Hx:codeOf Tryz.prog 73=some ⟨31,EQ,[(.tmp 4)]⟩:=by kernel_rfl
theorem Bo:modes 73=⟨[],.asis,none,false⟩:=by unfold modes; rfl
def Fg:SC:=(.seq (.reg [⟨some 1,none,.boxv 73 3 (.t 0)⟩,⟨some 2,none,.mv (.c (.bool false))⟩]) (.seq (.reg [⟨some 3,none,.faddr 1 (.t 1)⟩,⟨some 4,none,.load true 2 (.t 3)⟩,⟨some 5,none,.call 119 [(.t 4)]⟩,⟨some 2,none,.mv (.t 5)⟩]) .ret))
theorem JE:codeOf Tryz.prog 82=some ⟨6,Fg,[(.tmp 2)]⟩:=by kernel_rfl
theorem BU:modes 82=⟨[],.asis,none,false⟩:=by unfold modes; rfl
def FL:SC:=(.seq (.reg [⟨some 1,none,.boxv 28 1 (.t 0)⟩,⟨some 2,none,.mv (.c (.bool false))⟩]) (.seq (.seq (.reg [⟨some 5,none,.faddr 0 (.t 1)⟩,⟨some 6,none,.load false 1 (.t 5)⟩,⟨some 7,none,.len false (.t 6)⟩,⟨some 8,none,.mv (.c (.int .i64 0))⟩]) (.block 0 (.loop [0,1,0,0,0,0,1,1,1,0,0,0,0,0,0,0,0,0,0,0,0,0,0,0,0,0,0,0,0,0,0,0,0,0,0,0] (.seq (.reg [⟨some 9,none,.bin .lss false (.t 8) (.t 7)⟩]) (.seq (.cond (.t 9) .skip (.exit 0)) (.seq (.block 1 (.seq (.reg [⟨some 10,none,.mv (.t 8)⟩,⟨some 11,none,.iaddr 3 (.t 6) (.t 8)⟩,⟨some 12,none,.load true 3 (.t 11)⟩,⟨(some 4),none,(.alloc 73 [(.bool false),(.str ⟨#[]⟩),.nil])⟩,⟨some 3,none,.mv (.t 10)⟩,⟨none,none,(.store 3 (.t 4) (.t 12))⟩]) (.seq (.dreg [[],[0],[1,0],[2,1,0],[3,2,1,0],[4,3,2,1,0],[5,4,3,2,1,0],[6,5,4,3,2,1,0],[7,6,5,4,3,2,1,0],[6,5,4,3,2,1,0],[9,6,5,4,3,2,1,0],[8,7,6,5,4,3,2,1,0,10,9],[11,8,7,6,5,4,3,2,1,0,10,9],[6,5,4,3,2,1,0],[12,11,8,7,6,5,4,3,2,1,0,10,9,13],[14,12,11,8,7,6,5,4,3,2,1,0,10,9,13],[6,5,4,3,2,1,0,15,14,12,11,8,7,10,9,13],[3,2,1,0,16,6,5,4,15,14,12,11,8,7,10,9,13]] [⟨some 13,none,.load true 3 (.t 4)⟩,⟨some 14,none,.call 82 [(.t 13)]⟩,⟨some 15,none,.un .not (.t 14)⟩,⟨some 16,none,.mv (.t 15)⟩,⟨(some 17),(some (16,false)),(.mv (.t 3))⟩,⟨(some 18),(some (16,false)),(.bin .gtr false (.t 17) (.c (.int .i64 0)))⟩,⟨(some 19),(some (16,false)),(.mv (.t 18))⟩,⟨(some 20),(some (19,true)),(.faddr 0 (.t 1))⟩,⟨(some 21),(some (19,true)),(.load false 1 (.t 20))⟩,⟨(some 22),(some (19,true)),(.mv (.t 3))⟩,⟨(some 23),(some (19,true)),(.bin .sub false (.t 22) (.c (.int .i64 1)))⟩,⟨(some 24),(some (19,true)),(.iaddr 3 (.t 21) (.t 23))⟩,⟨(some 25),(some (19,true)),(.load true 3 (.t 24))⟩,⟨(some 26),(some (19,true)),(.load true 3 (.t 4))⟩,⟨(some 27),(some (19,true)),(.call 83 [(.t 25),(.t 26)])⟩,⟨(some 28),(some (19,true)),(.bin .geq false (.t 27) (.c (.int .i64 0)))⟩,⟨(some 29),(some (16,false)),(.pick (.t 19) (.t 28) (.c (.bool false)))⟩,⟨some 30,none,.pick (.t 16) (.c (.bool true)) (.t 29)⟩]) (.cond (.t 30) (.seq (.reg [⟨some 2,none,.mv (.c (.bool false))⟩]) .ret) .skip)))) (.reg [⟨some 31,none,.bin .add false (.t 8) (.c (.int .i64 1))⟩,⟨some 8,none,.mv (.t 31)⟩]))))))) (.seq (.reg [⟨some 32,none,.faddr 0 (.t 1)⟩,⟨some 33,none,.load false 1 (.t 32)⟩,⟨some 34,none,.len false (.t 33)⟩,⟨some 35,none,.bin .leq false (.t 34) (.c (.int .i64 8))⟩,⟨some 2,none,.mv (.t 35)⟩]) .ret)))
theorem Km:codeOf Tryz.prog 54=some ⟨36,FL,[(.tmp 2)]⟩:=by kernel_rfl
theorem Ci:modes 54=⟨[],.asis,none,false⟩:=by unfold modes; rfl
def Id:SC:=(.seq (.reg [⟨some 1,none,.boxv 28 1 (.t 0)⟩,⟨some 2,none,.mv (.c (.bool false))⟩]) (.seq (.seq (.reg [⟨some 4,none,.faddr 0 (.t 1)⟩,⟨some 5,none,.load false 1 (.t 4)⟩,⟨some 6,none,.len false (.t 5)⟩,⟨some 7,none,.bin .gtr false (.t 6) (.c (.int .i64 8))⟩]) (.cond (.t 7) (.seq (.reg [⟨some 2,none,.mv (.c (.bool false))⟩]) .ret) .skip)) (.seq (.seq (.reg [⟨some 3,none,.mv (.c (.int .i64 0))⟩]) (.block 0 (.loop [0,1,0,1,0,0,0,0,0,0,0,0,0,0,0,0,0,0,0,0,0,0,0,0,0,0,0,0,0,0,0,0,0,0,0,0,0,0,0,0,0,0] (.seq (.seq (.reg [⟨some 8,none,.mv (.t 3)⟩,⟨some 9,none,.faddr 0 (.t 1)⟩,⟨some 10,none,.load false 1 (.t 9)⟩,⟨some 11,none,.len false (.t 10)⟩,⟨some 12,none,.bin .lss false (.t 8) (.t 11)⟩]) (.cond (.t 12) .skip (.exit 0))) (.seq (.block 1 (.seq (.dreg [[],[0],[],[1,0,2],[3,1,0,2],[4,3,1,0,2],[5,4,3,1,0,2],[6,5,4,3,1,0,2],[7,6,5,4,3,1,0,2],[8,7,6,5,4,3,1,0,2],[9,8,7,6,5,4,3,1,0,2],[10,9,8,7,6,5,4,3,1,0,2],[11,10,9,8,7,6,5,4,3,1,0,2],[12,11,10,9,8,7,6,5,4,3,1,0,2],[11,10,9,8,7,6,5,4,3,1,0,2],[14,11,10,9,8,7,6,5,4,3,1,0,2],[13,12,11,10,9,8,7,6,5,4,3,1,0,2,15,14],[16,13,12,11,10,9,8,7,6,5,4,3,1,0,2,15,14],[11,10,9,8,7,6,5,4,3,1,0,2],[18,11,10,9,8,7,6,5,4,3,1,0,2],[11,10,9,8,7,6,5,4,3,1,0,2],[19,18,11,10,9,8,7,6,5,4,3,1,0,2,20],[21,19,18,11,10,9,8,7,6,5,4,3,1,0,2,20],[17,16,13,12,11,10,9,8,7,6,5,4,3,1,0,2,15,14,22,21,19,18,20],[23,17,16,13,12,11,10,9,8,7,6,5,4,3,1,0,2,15,14,22,21,19,18,20],[11,10,9,8,7,6,5,4,3,1,0,2,24,23,17,16,13,12,15,14,22,21,19,18,20],[8,7,6,5,4,3,1,0,2,25,11,10,9,24,23,17,16,13,12,15,14,22,21,19,18,20]] [⟨some 15,none,.faddr 0 (.t 1)⟩,⟨some 16,none,.load false 1 (.t 15)⟩,⟨some 17,none,.mv (.t 3)⟩,⟨some 18,none,.iaddr 3 (.t 16) (.t 17)⟩,⟨some 19,none,.faddr 1 (.t 18)⟩,⟨some 20,none,.load true 2 (.t 19)⟩,⟨some 21,none,.call 72 [(.t 20)]⟩,⟨some 22,none,.un .not (.t 21)⟩,⟨some 23,none,.mv (.t 22)⟩,⟨(some 24),(some (23,false)),(.mv (.t 3))⟩,⟨(some 25),(some (23,false)),(.bin .gtr false (.t 24) (.c (.int .i64 0)))⟩,⟨(some 26),(some (23,false)),(.mv (.t 25))⟩,⟨(some 27),(some (26,true)),(.faddr 0 (.t 1))⟩,⟨(some 28),(some (26,true)),(.load false 1 (.t 27))⟩,⟨(some 29),(some (26,true)),(.mv (.t 3))⟩,⟨(some 30),(some (26,true)),(.bin .sub false (.t 29) (.c (.int .i64 1)))⟩,⟨(some 31),(some (26,true)),(.iaddr 3 (.t 28) (.t 30))⟩,⟨(some 32),(some (26,true)),(.load true 3 (.t 31))⟩,⟨(some 33),(some (26,true)),(.faddr 0 (.t 1))⟩,⟨(some 34),(some (26,true)),(.load false 1 (.t 33))⟩,⟨(some 35),(some (26,true)),(.mv (.t 3))⟩,⟨(some 36),(some (26,true)),(.iaddr 3 (.t 34) (.t 35))⟩,⟨(some 37),(some (26,true)),(.load true 3 (.t 36))⟩,⟨(some 38),(some (26,true)),(.call 73 [(.t 32),(.t 37)])⟩,⟨(some 39),(some (26,true)),(.bin .geq false (.t 38) (.c (.int .i64 0)))⟩,⟨(some 40),(some (23,false)),(.pick (.t 26) (.t 39) (.c (.bool false)))⟩,⟨some 41,none,.pick (.t 23) (.c (.bool true)) (.t 40)⟩]) (.cond (.t 41) (.seq (.reg [⟨some 2,none,.mv (.c (.bool false))⟩]) .ret) .skip))) (.reg [⟨some 13,none,.mv (.t 3)⟩,⟨some 14,none,.bin .add false (.t 13) (.c (.int .i64 1))⟩,⟨some 3,none,.mv (.t 14)⟩])))))) (.seq (.reg [⟨some 2,none,.mv (.c (.bool true))⟩]) .ret))))
theorem L4:codeOf Tryz.prog 47=some ⟨42,Id,[(.tmp 2)]⟩:=by kernel_rfl
theorem Bz:modes 47=⟨[],.asis,none,false⟩:=by unfold modes; rfl
theorem QM (b:Bool):E 123 [.bool b] []=some (.int .i64 (GN b),[]):=by
 cases b
 ·refine Ah FK DN (of_decide_eq_true rfl) ?_
  simp (disch:=omega) only [DM,go_sem,Aa]
  rfl
 ·refine Ah FK DN (of_decide_eq_true rfl) ?_
  simp (disch:=omega) only [DM,go_sem,Aa]
  rfl
theorem compareLiterals_E (x y:Lt) (hx:x.atom.cok=true) (hy:y.atom.cok=true) (hnx:x.atom.nodes≤1099511627776) (hny:y.atom.nodes≤1099511627776):E 83 [x.sv,y.sv] []=some (.int .i64 (x.cmp y),[]):=by
 have h1:=DL x.atom y.atom hx hy hnx hny
 have h2:=QM x.pos
 have h3:=QM y.pos
 have h4:=GW (GN x.pos) (GN y.pos)
 have h5:=VV (x.atom.cmp y.atom) (GK (GN x.pos) (GN y.pos))
 unfold Lt.cmp
 refine Ah Dl Bg (of_decide_eq_true rfl) ?_
 simp (disch:=omega) only [BJ,go_sem,Aa,h1,h2,h3,h4,h5,AW,DN,AH,Cr]
theorem ML (x y:Lt) (hx:x.atom.cok=true) (hy:y.atom.cok=true) (hnx:x.atom.nodes≤1099511627776) (hny:y.atom.nodes≤1099511627776):E 73 [x.sv,y.sv] []=some (.int .i64 (x.cmp y),[]):=by
 have h1:=OM x.atom y.atom hx hy hnx hny
 unfold Lt.cmp
 by_cases h0:x.atom.cmp y.atom=0
 ·rw [h0] at h1 ⊢
  cases hp:x.pos <;> cases hq:y.pos
  all_goals
   simp only [GN,GK,orZ,if_true,if_false,Bool.false_eq_true]
   refine Ah Hx Bo (of_decide_eq_true rfl) ?_
   simp (disch:=omega) only [EQ,go_sem,Aa,h1,hp,hq,Bk]
 ·rw [orZ,if_neg h0]
  refine Ah Hx Bo (of_decide_eq_true rfl) ?_
  simp (disch:=omega) only [EQ,go_sem,Aa,h1,h0,Bk]
theorem Oe (x:Lt) (hn:x.atom.nodes≤1099511627776):E 82 [x.sv] []=some (.bool x.atom.atom,[]):=by
 have h:=RZ x.atom hn
 refine Ah JE BU (of_decide_eq_true rfl) ?_
 simp (disch:=omega) only [Fg,go_sem,Aa,h,B7]
theorem Gd (x:Cl) (hn:x.tame):E 54 [x.sv] []=some (.bool x.ok,[]):=by
  have hl:=hn.1
  refine Ah Km Ci (of_decide_eq_true rfl) ?_
  simp (disch:=omega) only [FL,go_sem,Aa]
  refine go_loop (α:=Int) (fun a=>⟨slots 36 0 [(1,.ptr 0 0),(6,.arr (x.lits.map Lt.d)),(7,.int .i64 x.lits.length),(8,.int .i64 a)],[.box 28 [.arr (x.lits.map Lt.d)]]⟩) (fun a=>∃ k:Nat,a=k∧k≤(x.lits).length∧Gx x.lits k=true) (fun a=>(x.lits).length-(a).toNat) 0 ⟨0,rfl,Nat.zero_le _,by rw [Gx]⟩ (by simp (disch:=omega) only [go_sem,Aa]) ?_
  rintro i ⟨k,hi,hk,hR⟩
  have hni:i.toNat=k:=by omega
  have hni1:(i+1).toNat=k+1:=by omega
  rcases Nat.lt_or_ge k (x.lits).length with hlt | hge
  · have hg:=get_at Lt.d hlt
    rw [Lt.d_eq] at hg
    have hv:=Oe x.lits[k] (Cl.tame_at hn hlt)
    cases ha:x.lits[k].atom.atom <;> rw [ha] at hv
    · have e:x.ok=false:=Cl.not_ok hR (by cases k with | zero=>rw [G6 hlt,ha] | succ j=>rw [DZ hlt,ha,Bool.false_and]) hlt
      rw [e]
      simp (disch:=omega) only [go_sem,Aa,hni,hg,hv,BU,Bg]
    · cases k with
      | zero =>
        obtain rfl:i=0:=hi
        simp (disch:=omega) only [go_sem,Aa,hni,hg,hv,BU,Bg]
        exact ⟨1,⟨1,rfl,hlt,by rw [Gx,hR,G6 hlt,ha]; rfl⟩,by omega,by first | trivial | rfl⟩
      | succ j =>
        have hj:j<x.lits.length:=by omega
        have hg2:=get_at Lt.d hj
        rw [Lt.d_eq] at hg2
        have hni2:(i-1).toNat=j:=by omega
        have hc:=compareLiterals_E x.lits[j] x.lits[j+1] (Tm.GU (Od hR (by omega) (by omega))) (Tm.GU ha) (Cl.tame_at hn hj) (Cl.tame_at hn hlt)
        rcases Int.lt_or_le (x.lits[j].cmp x.lits[j+1]) 0 with hq | hq
        · simp (disch:=omega) only [go_sem,Aa,hni,hg,hv,BU,Bg,hni2,hg2,hc]
          exact ⟨i+1,⟨j+1+1,by omega,hlt,by rw [Gx,hR,DZ hlt,ha,decide_eq_true hq]; rfl⟩,by omega,by first | trivial | rfl⟩
        · have e:x.ok=false:=Cl.not_ok hR (by rw [DZ hlt,ha,decide_eq_false (by omega)]; rfl) hlt
          rw [e]
          simp (disch:=omega) only [go_sem,Aa,hni,hg,hv,BU,Bg,hni2,hg2,hc]
  · obtain rfl:k=x.lits.length:=by omega
    simp (disch:=omega) only [go_sem,Aa,hni]
    unfold Cl.ok
    rw [hR,Bool.and_true,JS]
    exact decide_eq_decide.2 (by omega)
theorem QN (x:Cl) (hn:x.tame):E 47 [x.sv] []=some (.bool x.ok,[]):=by
  have hl:=hn.1
  rcases Nat.lt_or_ge 8 x.lits.length with h8 | h8
  · have e:x.ok=false:=by unfold Cl.ok; rw [decide_eq_false (by omega),Bool.false_and]
    rw [e]
    refine Ah L4 Bz (of_decide_eq_true rfl) ?_
    simp (disch:=omega) only [Id,go_sem,Aa]
  refine Ah L4 Bz (of_decide_eq_true rfl) ?_
  simp (disch:=omega) only [Id,go_sem,Aa]
  refine go_loop (α:=Int) (fun a=>⟨slots 42 0 [(1,.ptr 0 0),(3,.int .i64 a)],[.box 28 [.arr (x.lits.map Lt.d)]]⟩) (fun a=>∃ k:Nat,a=k∧k≤(x.lits).length∧Gx x.lits k=true) (fun a=>(x.lits).length-(a).toNat) 0 ⟨0,rfl,Nat.zero_le _,by rw [Gx]⟩ (by simp (disch:=omega) only [go_sem,Aa]) ?_
  rintro i ⟨k,hi,hk,hR⟩
  have hni:i.toNat=k:=by omega
  have hni1:(i+1).toNat=k+1:=by omega
  rcases Nat.lt_or_ge k (x.lits).length with hlt | hge
  · have hg:=get_at Lt.d hlt
    rw [Lt.d_eq] at hg
    have hv:=QK x.lits[k].atom (Cl.tame_at hn hlt)
    cases ha:x.lits[k].atom.atom <;> rw [ha] at hv
    · have e:x.ok=false:=Cl.not_ok hR (by cases k with | zero=>rw [G6 hlt,ha] | succ j=>rw [DZ hlt,ha,Bool.false_and]) hlt
      rw [e]
      simp (disch:=omega) only [go_sem,Aa,hni,hg,hv,AS,Bo]
    · cases k with
      | zero =>
        obtain rfl:i=0:=hi
        simp (disch:=omega) only [go_sem,Aa,hni,hg,hv,AS,Bo]
        exact ⟨1,⟨1,rfl,hlt,by rw [Gx,hR,G6 hlt,ha]; rfl⟩,by omega,by first | trivial | rfl⟩
      | succ j =>
        have hj:j<x.lits.length:=by omega
        have hg2:=get_at Lt.d hj
        rw [Lt.d_eq] at hg2
        have hni2:(i-1).toNat=j:=by omega
        have hc:=ML x.lits[j] x.lits[j+1] (Tm.GU (Od hR (by omega) (by omega))) (Tm.GU ha) (Cl.tame_at hn hj) (Cl.tame_at hn hlt)
        rcases Int.lt_or_le (x.lits[j].cmp x.lits[j+1]) 0 with hq | hq
        · simp (disch:=omega) only [go_sem,Aa,hni,hg,hv,AS,Bo,hni2,hg2,hc]
          exact ⟨i+1,⟨j+1+1,by omega,hlt,by rw [Gx,hR,DZ hlt,ha,decide_eq_true hq]; rfl⟩,by omega,by first | trivial | rfl⟩
        · have e:x.ok=false:=Cl.not_ok hR (by rw [DZ hlt,ha,decide_eq_false (by omega)]; rfl) hlt
          rw [e]
          simp (disch:=omega) only [go_sem,Aa,hni,hg,hv,AS,Bo,hni2,hg2,hc]
  · obtain rfl:k=x.lits.length:=by omega
    simp (disch:=omega) only [go_sem,Aa,hni]
    unfold Cl.ok
    rw [hR,decide_eq_true h8]; rfl
end Go.Proofs.YtibdknkacmimgaaGreatDoor
