/-
  Texts of this claim, one behind the other, each built on those ahead of it. No condition.
-/
import Derived.Test.YtalflgegedmmkaaGreatK33b
import Derived.Shelf.GgSortFunc.InsertionK
import Derived.Shelf.Sort.Plain
import Derived.Sort.EncStr
import Derived.Shelf.SlLaysF0
import Derived.Test.YtalflgegedmmkaaGreatChecked
import Derived.Shelf.SlSortCmp.NoneTotal
import Derived.Shelf.Lays
import Derived.Shelf.Slices.In.SortNone
set_option maxHeartbeats 16000000
open Bool renaming and_eq_true → zA, and_self → zL, and_false → zQ, and_true → zT, or_eq_false_iff → yG, false_and → yN, or_eq_true → yT, false_or → y0, true_and → xB
open List renaming map_cons → zB, length_replicate → zD, replicate → zE, getElem_mem → zF, map_nil → zG, eq_nil_of_length_eq_zero → zH, drop_eq_getElem_cons → zJ, length_map → zM, drop_eq_nil_of_le → zO, getElem?_eq_getElem → zR, drop_zero → zU, getElem_of_mem → zV, map_append → zW, eq_nil_or_concat → zY, getElem_map → zZ, mem_cons → z7, length_nil → yA, mergeSort_perm → yB, all_eq_true → yC, length_cons → yD, getElem_cons_zero → yE, cons_append → yJ, mergeSort_nil → yK, pairwise_cons → yL, getElem_cons_succ → yM, take_succ_eq_append_getElem → yP, getElem?_eq_none → yQ, finRange → yR, set_cons_zero → yW, set_cons_succ → yX, length_append → yY, append_assoc → yZ, getElem_inj → y2, mem_map → y5, append_nil → y7, nil_append → y8, take_zero → y9, any_cons → xA
open Nat renaming lt_or_ge → zC, eq_zero_or_pos → zK, zero_le → zP, le_refl → yF, zero_add → yU, lt_of_lt_of_le → yV, add_zero → y4
open Option.some renaming inj → zI, injEq → zN
open Prod.mk renaming injEq → zS, inj → yS
open Array renaming getElem?_eq_getElem → zX, getD_eq_getD_getElem? → z8, getElem?_eq_some_iff → yH
open Option renaming getD_some → yI, getD_none → y3, map_some → y6
open Int renaming toNat_natCast → yO
set_option maxRecDepth 100000
set_option linter.unusedSimpArgs false
set_option linter.unusedVariables false
set_option linter.unusedSectionVars false
namespace Go.Proofs.YtalflgegedmmkaaGreat
open Go.RowKit
theorem Qm (s:ByteArray) (w:World) (hs:s.size≤9223372036854775807):Calls Tryz.prog 43 #[.string s] w (Same w (.bool (Bi s))):=by
  cases hin:inB s.size 1 4
  · go_enter Tryz.func43,Tryz.ntmps43
    go_wp2_with (first
      | (go_at_call 67; refine (G1 _ _ _ _).mono ?_; rintro e w' ⟨rfl,rfl⟩))
    go_ret
    exact Same.mk' _ (by unfold Bi; rw [hin]; simp)
  · have hpos:0<s.size:=by simp [inB] at hin; omega
    have Hb:=Lib.hid (DN hpos)
    go_enter Tryz.func43,Tryz.ntmps43
    go_wp2_with (first
      | (go_at_call 67; refine (G1 _ _ _ _).mono ?_; rintro e w' ⟨rfl,rfl⟩))
    all_goals first
      | (go_ret
         refine Same.mk' _ ?_
         unfold Bi
         rw [DO hpos (by rw [←Hb.out]; simp [G2,M5]; omega)]
         rfl)
      | skip
    · go_loopw [3] (fun i wr=>Cnt w s.size (fun k=>1≤k∧DF G2 s k=true) i wr) (fun i _=>s.size-(intOf i).toNat)
      case atStart=>exact ⟨1,hpos,rfl,⟨yF _,by rw [EF,← Hb.out]; simp [DF,G2,M5]; omega⟩,rfl⟩
      case round =>
        obtain ⟨k,hk,rfl,⟨hk1,hok⟩,rfl⟩:=hrel
        have Hok:=Lib.hid hok
        clear hok
        by_cases hlt:k<s.size
        · have Hbk:=Lib.hid (DN hlt)
          have hk0:k≠0:=by omega
          go_wp2_with (first
            | (go_at_call 68; refine (Jv _ _).mono ?_; rintro e w' ⟨rfl,rfl⟩))
          all_goals first
            | (go_ret
               refine Same.mk' _ ?_
               unfold Bi
               rw [DO hlt (by rw [←Hbk.out]; simp_all [G2] <;> omega)]
               rfl)
            | (go_roundw
               case rel=>exact ⟨_,hlt,by go_num,⟨by omega,FY Hok.out (by rw [←Hbk.out]; simp_all [G2] <;> omega)⟩,rfl⟩
               case measure=>first | exact Gk hlt | (simp [intOf]; omega))
        · obtain rfl:k=s.size:=by omega
          go_wp2_with fail
          go_ret
          exact Same.mk' _ (by unfold Bi; rw [Hok.out,hin]; rfl)
theorem P6 (s:ByteArray):R0 s=(s.toList == [116,114,117,101] || s.toList == [102,97,108,115,101] || s.toList == [116,114,117,116,104] || s.toList == [98,111,116,104] || s.toList == [101,105,116,104,101,114] || s.toList == [105,102] || s.toList == [97,108,108] || s.toList == [115,111,109,101]):=by
 unfold R0 QM words
 simp [List.range,List.range.loop,Bool.or_assoc]
theorem M8 (s:ByteArray) (w:World) (hs:s.size≤9223372036854775807):Calls Tryz.prog 92 #[.string s] w (Same w (.bool (Ei s))):=by
  cases hin:inB s.size 1 6
  · go_enter Tryz.func92,Tryz.ntmps92
    go_wp2_with (first
      | (go_at_call 67; refine (G1 _ _ _ _).mono ?_; rintro e w' ⟨rfl,rfl⟩))
    go_ret
    exact Same.mk' _ (by unfold Ei; rw [hin]; simp)
  · have hpos:0<s.size:=by simp [inB] at hin; omega
    have Hb:=Lib.hid (DN hpos)
    cases hres:R0 s
    case true =>
      have Hres:=Lib.hid hres
      rw [P6] at hres
      go_enter Tryz.func92,Tryz.ntmps92
      go_wp2_with (first
        | (go_at_call 67; refine (G1 _ _ _ _).mono ?_; rintro e w' ⟨rfl,rfl⟩))
      all_goals first
        | (go_ret
           refine Same.mk' _ ?_
           unfold Ei
           rw [Hres.out]; simp)
        | (exfalso; simp_all; done)
    have Hres:=Lib.hid hres
    rw [P6] at hres
    simp only [yG] at hres
    obtain ⟨⟨⟨⟨⟨⟨⟨e1,e2⟩,e3⟩,e4⟩,e5⟩,e6⟩,e7⟩,e8⟩:=hres
    go_enter Tryz.func92,Tryz.ntmps92
    go_wp2_with (first
      | (go_at_call 67; refine (G1 _ _ _ _).mono ?_; rintro e w' ⟨rfl,rfl⟩))
    all_goals first
      | (go_ret
         refine Same.mk' _ ?_
         unfold Ei
         rw [DO hpos (by rw [←Hb.out]; simp [Hr,NG]; omega)]; rfl)
      | skip
    go_loopw [3] (fun i wr=>Cnt w s.size (fun k=>1≤k∧DF Hr s k=true) i wr) (fun i _=>s.size-(intOf i).toNat)
    case atStart=>exact ⟨1,hpos,rfl,⟨yF _,by rw [EF,← Hb.out]; simp [DF,Hr,FX,NG]; omega⟩,rfl⟩
    case round =>
      obtain ⟨k,hk,rfl,⟨hk1,hok⟩,rfl⟩:=hrel
      have Hok:=Lib.hid hok
      clear hok
      by_cases hlt:k<s.size
      · have Hbk:=Lib.hid (DN hlt)
        have hk0:k≠0:=by omega
        go_wp2_with (first
          | (go_at_call 68; refine (Jv _ _).mono ?_; rintro e w' ⟨rfl,rfl⟩))
        all_goals first
          | (go_ret
             refine Same.mk' _ ?_
             unfold Ei
             rw [DO hlt (by rw [←Hbk.out]; simp_all [Hr] <;> omega)]
             rfl)
          | (go_roundw
             case rel=>exact ⟨_,hlt,by go_num,⟨by omega,FY Hok.out (by rw [←Hbk.out]; simp_all [Hr] <;> omega)⟩,rfl⟩
             case measure=>first | exact Gk hlt | (simp [intOf]; omega))
      · obtain rfl:k=s.size:=by omega
        go_wp2_with fail
        go_ret
        exact Same.mk' _ (by unfold Ei; rw [Hok.out,hin,Hres.out]; rfl)
end Go.Proofs.YtalflgegedmmkaaGreat
set_option maxRecDepth 100000
set_option linter.unusedSimpArgs false
set_option linter.unusedVariables false
set_option linter.unusedSectionVars false
namespace Go.Proofs.YtalflgegedmmkaaGreat
open Go.RowKit Go.Shelf Go.Lib Go.Sort
theorem P7 {w w':World} {I:Nat→Prop} {V:Nat→Option Value} {B:Nat→Nat→Prop} {t:TypeId} {sz:Nat} {es es':List (List OT)} {b cap:Nat} {cur cur':Array Value} (Sub:Nat→Nat→Nat→Prop)
  (hwf:Wf w I V B (Ac [.row t sz es])) (hv:V 0=some (.slice (some ⟨b,0,none⟩) es.length cap)) (hn:es'.length=es.length) (hs:B 0 b) (hb:w.heap[b]?=some (.cells cur t (0,0)))
  (h1:es.length≤cap) (h2:cap≤9223372036854775807) (h3:cur.size=cap*sz) (h4:∀ i (h:i<es'.length),es'[i].length=sz) (h5:∀ i j x,Sub i j x→B 0 x∧x≠b)
  (h6:∀ i j i' j' x,Sub i j x→Sub i' j' x→i=i'∧j=j')
  (hos:w'.os=w.os) (htape:TapeOk w w') (hout:w'.output=w.output) (hsz:w.heap.size≤w'.heap.size) (hblk:∀ x,x<w.heap.size→x≠b→w'.heap[x]?=w.heap[x]?)
  (hb':w'.heap[b]?=some (.cells cur' t (0,0))) (hcs:cur'.size=cur.size)
  (h7:∀ i j (h:i<es'.length) (h':j<es'[i].length),ORep w' I (Sub i j) (es'[i][j]) (cur'.getD (i*sz+j) undef)) :
  FunPost w I V B [.row t sz es] [.row t sz es'] w' I V B:=by
 have g0:∀ (e:List (List OT)),Ac [Ob.row t sz e] 0=.row t sz e:=fun _=>rfl
 have gS:∀ (e:List (List OT)) (g:Nat),Ac [Ob.row t sz e] (g+1)=.free:=fun _ _=>rfl
 have lv:∀ (e e':List (List OT)) (g:Nat),(Ac [Ob.row t sz e] g).live→(Ac [Ob.row t sz e'] g).live:=fun e e' g h=>by
  cases g with
  | zero=>trivial
  | succ g=>rw [gS] at h; exact h.elim
 have hbS:∀ x,B 0 x→HB B [Ob.row t sz es] x:=fun x hx=>⟨0,trivial,hx⟩
 refine ⟨⟨hos,htape,hout,hsz,fun x hx hn=>hblk x hx fun e=>hn (hbS x (e▸hs))⟩,fun _ h=>h,fun _ h=>.inl h,VLe.refl _,?_,fun g x hl hx=>.inl ⟨g,lv _ _ g hl,hx⟩⟩
 refine ⟨fun x hx=>yV (hwf.ilt x hx) hsz,fun g hl=>?_,fun g x hl hx=>yV (hwf.lt g x (lv _ _ g hl) hx) hsz,fun g x hl hx=>hwf.dI g x (lv _ _ g hl) hx,fun g g' x hl hl' hx hx'=>hwf.dO g g' x (lv _ _ g hl) (lv _ _ g' hl') hx hx',fun g hf=>?_,hwf.gl.keep ⟨hsz,fun x hx hlt=>hblk x hlt fun e=>hwf.dI 0 x trivial (e▸hs) hx⟩ fun _ h=>h⟩
 ·cases g with
  | zero =>
   refine ⟨_,hv,.inr ⟨b,cap,cur',Sub,by rw [hn],hs,hb',by rw [hn]; exact h1,h2,by rw [hcs]; exact h3,h4,h5,h6,h7⟩⟩
  | succ g=>rw [gS] at hl; exact hl.elim
 ·cases g with
  | zero=>cases hf
  | succ g=>exact hwf.fr (g+1) rfl
theorem K3 {w:World} {I:Nat→Prop} {V:Nat→Option Value} {B:Nat→Nat→Prop} {ob:List Ob} (hwf:Wf w I V B (Ac ob)):FunPost w I V B ob ob w I V B :=
 ⟨⟨rfl,TapeOk.mk' rfl rfl,rfl,yF _,fun _ _ _=>rfl⟩,fun _ h=>h,fun _ h=>.inl h,VLe.refl _,hwf,fun g b hl hb=>.inl ⟨g,hl,hb⟩⟩
theorem LU:∀ x:List UInt8,Op.bytesLess x x=false
 | []=>rfl
 | a :: x=>by simp [Op.bytesLess,LU x]
theorem K4:∀ x y z:List UInt8,Op.bytesLess x y=true→Op.bytesLess y z=true→Op.bytesLess x z=true
 | [],_,[],_,h=>by cases ‹List UInt8› <;> simp [Op.bytesLess] at *
 | [],_,_ :: _,_,_=>rfl
 | _ :: _,[],_,h,_=>by simp [Op.bytesLess] at h
 | _ :: _,_ :: _,[],_,h=>by simp [Op.bytesLess] at h
 | a :: x,b :: y,c :: z,h,k=>by
  simp only [Op.bytesLess,yT,decide_eq_true_eq,zA,beq_iff_eq] at h k ⊢
  rcases h with h | ⟨rfl,h⟩
  ·rcases k with k | ⟨rfl,k⟩
   ·exact .inl (UInt8.lt_trans h k)
   ·exact .inl h
  ·rcases k with k | ⟨rfl,k⟩
   ·exact .inl k
   ·exact .inr ⟨rfl,K4 x y z h k⟩
theorem ON:∀ x y:List UInt8,Op.bytesLess x y=false→Op.bytesLess y x=false→x=y
 | [],[],_,_=>rfl
 | [],_ :: _,h,_=>by simp [Op.bytesLess] at h
 | _ :: _,[],_,h=>by simp [Op.bytesLess] at h
 | a :: x,b :: y,h,k=>by
  simp only [Op.bytesLess,yG,decide_eq_false_iff_not] at h k
  have hab:a=b:=by
   have h1:=h.1; have h2:=k.1
   rw [UInt8.lt_iff_toNat_lt] at h1 h2
   exact UInt8.toNat_inj.1 (by omega)
  subst hab
  have h1:Op.bytesLess x y=false:=by simpa using h.2
  have h2:Op.bytesLess y x=false:=by simpa using k.2
  rw [ON x y h1 h2]
theorem Qn (x y z:List UInt8) (h:Op.bytesLess x y=false) (k:Op.bytesLess y z=false):Op.bytesLess x z=false:=by
 cases hz:Op.bytesLess x z with
 | false=>rfl
 | true =>
  cases hyx:Op.bytesLess y x with
  | true=>rw [K4 y x z hyx hz] at k; cases k
  | false=>rw [ON x y h hyx] at hz; rw [hz] at k; cases k
def HF (x y:List UInt8):Int:=if Op.bytesLess x y then -1 else if x == y then 0 else 1
def HG:List OT→ByteArray
 | .str s :: _=>s
 | _=>⟨#[]⟩
def rowLe (x y:List OT):Bool:=!Op.bytesLess (HG y).toList (HG x).toList
theorem ORep.strV {w:World} {I S:Nat→Prop} {s:ByteArray} {v:Value} (h:ORep w I S (.str s) v):v=.string s:=by cases h; rfl
theorem ORep.owV {w:World} {I S:Nat→Prop} {es:List (List OT)} {v:Value} (h:ORep w I S (.ow es) v):∃ a n c,v=.slice a n c:=by
 cases h with
 | nil=>exact ⟨_,_,_,rfl⟩
 | row=>exact ⟨_,_,_,rfl⟩
theorem K5 {α:Type} [Inhabited α] (enc:α→List Value) (k:Nat) (w:World) (b m:Nat) (dk:Array α) (os:Array Obj) (x:Nat) (hx:x<w.heap.size) :
  (sortWorldK enc k w b 0 m dk os).heap[x]?=if b=x then (w.heap[x]?).map (onCells (putCells id 0 (flatK enc k dk))) else w.heap[x]?:=by
 unfold sortWorldK grow putRowK putRow mapBlock Sort.ahead
 have hx':x<(w.heap.modify b (onCells (putCells id 0 (flatK enc k dk)))).size:=by simpa using hx
 simp only [Array.getElem?_append,Array.size_modify,hx,if_true,Array.getElem?_modify]
theorem NJ {α:Type} [Inhabited α] (enc:α→List Value) (k:Nat) (w:World) (b m:Nat) (dk:Array α) (os:Array Obj) {cur:Array Value} {t:TypeId} {fr:Nat × Nat} (hb:w.heap[b]?=some (.cells cur t fr)) :
  (sortWorldK enc k w b 0 m dk os).heap[b]?=some (.cells (putCells id 0 (flatK enc k dk) cur) t fr):=by
 rw [K5 enc k w b m dk os b (yH.1 hb).1,if_pos rfl,hb]
 rfl
theorem NK {α:Type} [Inhabited α] (enc:α→List Value) (k:Nat) (dk:Array α) (cur:Array Value) {i j:Nat} (hi:i<dk.size) (hj:j<k) (hc:dk.size*k≤cur.size) :
  (putCells id 0 (flatK enc k dk) cur).getD (i*k+j) undef=(enc dk[i]!)[j]!:=by
 have hlt:i*k+j<dk.size*k:=mul_lt hi hj
 have e1:(i*k+j) / k=i:=by rw [Nat.mul_comm,Nat.mul_add_div (by omega),Nat.div_eq_of_lt hj,y4]
 have e2:(i*k+j) % k=j:=by rw [Nat.mul_comm,Nat.mul_add_mod,Nat.mod_eq_of_lt hj]
 have h:=get_flatK enc k dk (i*k+j) hlt
 rw [e1,e2] at h
 have hlt2:i*k+j<cur.size:=yV hlt hc
 simp only [putCells,z8,Array.getElem?_mapIdx,zX hlt2,y6,yI,zP,true_and,size_flatK,yU,hlt,if_true,Nat.sub_zero,id]
 exact h
end Go.Proofs.YtalflgegedmmkaaGreat
set_option maxRecDepth 100000
namespace Go.Proofs.YtalflgegedmmkaaGreat
open Go.Shelf
def so_SortB_ren:Go.Shelf.Ren:=⟨fun | 6=>40 | 15=>65 | 14=>64 | 28=>88 | 29=>89 | 20=>80 | 21=>81 | 22=>82 | 23=>83 | 24=>84 | 25=>85 | 26=>86 | 27=>87 | 46=>105 | 47=>106 | 48=>107 | 49=>108 | 50=>109 | 57=>114 | n=>n,fun | 22=>24 | 24=>55 | 25=>67 | 3=>3 | 39=>83 | 0=>0 | 53=>96 | 55=>44 | 4=>4 | 46=>90 | 45=>89 | 50=>74 | 5=>5 | 9=>9 | 66=>108 | 70=>112 | 76=>117 | 77=>118 | n=>n,fun | n=>n⟩
theorem K6:Go.Proofs.SlLaysF0.n6 Tryz.prog so_SortB_ren:={
 mixed:=by kernel_rfl,
 f6:=⟨Tryz.f40.name,by decide,Tryz.func40.trans (congrArg some (by kernel_rfl))⟩,
 f14:=⟨Tryz.f64.name,by decide,Tryz.func64.trans (congrArg some (by kernel_rfl))⟩,
 f15:=Tryz.func65.trans (congrArg some (by kernel_rfl)),
 f20:=⟨Tryz.f80.name,by decide,Tryz.func80.trans (congrArg some (by kernel_rfl))⟩,
 f21:=⟨Tryz.f81.name,by decide,Tryz.func81.trans (congrArg some (by kernel_rfl))⟩,
 f22:=⟨Tryz.f82.name,by decide,Tryz.func82.trans (congrArg some (by kernel_rfl))⟩,
 f23:=⟨Tryz.f83.name,by decide,Tryz.func83.trans (congrArg some (by kernel_rfl))⟩,
 f24:=⟨Tryz.f84.name,by decide,Tryz.func84.trans (congrArg some (by kernel_rfl))⟩,
 f25:=⟨Tryz.f85.name,by decide,Tryz.func85.trans (congrArg some (by kernel_rfl))⟩,
 f26:=⟨Tryz.f86.name,by decide,Tryz.func86.trans (congrArg some (by kernel_rfl))⟩,
 f27:=⟨Tryz.f87.name,by decide,Tryz.func87.trans (congrArg some (by kernel_rfl))⟩,
 f28:=Tryz.func88.trans (congrArg some (by kernel_rfl)),
 f29:=Tryz.func89.trans (congrArg some (by kernel_rfl)),
 f46:=⟨Tryz.f105.name,by decide,Tryz.func105.trans (congrArg some (by kernel_rfl))⟩,
 f47:=Tryz.func106.trans (congrArg some (by kernel_rfl)),
 f48:=Tryz.func107.trans (congrArg some (by kernel_rfl)),
 f49:=⟨Tryz.f108.name,by decide,Tryz.func108.trans (congrArg some (by kernel_rfl))⟩,
 f50:=⟨Tryz.f109.name,by decide,Tryz.func109.trans (congrArg some (by kernel_rfl))⟩,
 f57:=⟨Tryz.f114.name,by decide,Tryz.func114.trans (congrArg some (by kernel_rfl))⟩,
 t0:=Tryz.underlying0,
 a0:=Tryz.isAgg0,
 z0:=Tryz.sizeOf0,
 v0:=Tryz.zeroValue0,
 t3:=Tryz.underlying3,
 a3:=Tryz.isAgg3,
 z3:=Tryz.sizeOf3,
 v3:=Tryz.zeroValue3,
 t4:=Tryz.underlying4,
 a4:=Tryz.isAgg4,
 z4:=Tryz.sizeOf4,
 v4:=Tryz.zeroValue4,
 t5:=Tryz.underlying5,
 a5:=Tryz.isAgg5,
 z5:=Tryz.sizeOf5,
 v5:=Tryz.zeroValue5,
 t9:=Tryz.underlying9,
 a9:=Tryz.isAgg9,
 z9:=Tryz.sizeOf9,
 v9:=Tryz.zeroValue9,
 t22:=Tryz.underlying24,
 a22:=Tryz.isAgg24,
 z22:=Tryz.sizeOf24,
 v22:=Tryz.zeroValue24,
 t25:=Tryz.underlying67,
 a25:=Tryz.isAgg67,
 z25:=Tryz.sizeOf67,
 v25:=Tryz.zeroValue67,
 t39:=Tryz.underlying83,
 a39:=Tryz.isAgg83,
 z39:=Tryz.sizeOf83,
 v39:=Tryz.zeroValue83,
 t45:=Tryz.underlying89,
 a45:=Tryz.isAgg89,
 z45:=Tryz.sizeOf89,
 v45:=Tryz.zeroValue89,
 t46:=Tryz.underlying90,
 a46:=Tryz.isAgg90,
 z46:=Tryz.sizeOf90,
 v46:=Tryz.zeroValue90,
 t50:=Tryz.underlying74,
 a50:=Tryz.isAgg74,
 z50:=Tryz.sizeOf74,
 v50:=Tryz.zeroValue74,
 t53:=Tryz.underlying96,
 a53:=Tryz.isAgg96,
 z53:=Tryz.sizeOf96,
 v53:=Tryz.zeroValue96,
 t55:=Tryz.underlying44,
 a55:=Tryz.isAgg44,
 z55:=Tryz.sizeOf44,
 v55:=Tryz.zeroValue44,
 t66:=Tryz.underlying108,
 a66:=Tryz.isAgg108,
 z66:=Tryz.sizeOf108,
 v66:=Tryz.zeroValue108,
 t70:=Tryz.underlying112,
 a70:=Tryz.isAgg112,
 z70:=Tryz.sizeOf112,
 v70:=Tryz.zeroValue112,
 t76:=Tryz.underlying117,
 a76:=Tryz.isAgg117,
 z76:=Tryz.sizeOf117,
 v76:=Tryz.zeroValue117,
 t77:=Tryz.underlying118,
 a77:=Tryz.isAgg118,
 z77:=Tryz.sizeOf118,
 v77:=Tryz.zeroValue118 }
end Go.Proofs.YtalflgegedmmkaaGreat
set_option maxRecDepth 100000
set_option linter.unusedSimpArgs false
set_option linter.unusedVariables false
set_option linter.unusedSectionVars false
namespace Go.Proofs.YtalflgegedmmkaaGreat
open Go.RowKit Go.Shelf Go.Lib Go.Sort
theorem NL (x:ByteArray) (w:World):Calls Tryz.prog 66 #[.string x] w (Same w (.bool false)):=by
 go_enter Tryz.func66,Tryz.ntmps66
 go_wp2
 go_ret
 exact Same.mk' _ (by simp)
theorem OO (x y:ByteArray) (w:World):Calls Tryz.prog 42 #[.string x,.string y] w (Same w (.int .i64 (HF x.toList y.toList))):=by
 cases h1:Op.bytesLess x.toList y.toList
 ·cases h2:(x.toList == y.toList)
  all_goals
   go_enter Tryz.func42,Tryz.ntmps42
   go_wp2_with (first
    |(go_at_call 66; refine (NL _ _).mono ?_; rintro e w' ⟨rfl,rfl⟩))
   go_ret
   exact Same.mk' _ (by unfold HF; rw [h1,h2]; rfl)
 ·go_enter Tryz.func42,Tryz.ntmps42
  go_wp2_with (first
   |(go_at_call 66; refine (NL _ _).mono ?_; rintro e w' ⟨rfl,rfl⟩))
  go_ret
  exact Same.mk' _ (by unfold HF; rw [h1]; rfl)
theorem Lm (s n s' n':ByteArray) (a a':Option Addr) (l c l' c':Nat) (W:World):Calls Tryz.prog 41 #[.agg #[.string s,.string n,.slice a l c],.agg #[.string s',.string n',.slice a' l' c']] W
  fun e w'=>e=.returned (.int .i64 (HF s.toList s'.toList))∧∃ q os',w'=Sort.grow (W.drewN q) os':=by
 generalize hr:HF s.toList s'.toList=r
 have hcon:∀ W',Calls Tryz.prog 42 #[.string s,.string s'] W' fun e w'=>e=.returned (.int .i64 r)∧w'=W':=fun W'=>(OO s s' W').mono fun e w' h=>⟨by rw [←hr]; exact h.1,h.2.symm⟩
 clear hr
 go_enter Tryz.func41,Tryz.ntmps41
 go_wp2_with (go_at_call 42; refine (hcon _).mono ?_; rintro e w' ⟨rfl,rfl⟩)
 go_ret
 exact ⟨rfl,0,_,by rw [alloc_eq_grow,alloc_eq_grow,grow_grow]; rfl⟩
def keyed (es:List (List OT)):Prop:=(∀ e∈es,∃ s n us,e=[.str s,.str n,.ow us])∧(es.map HG).Nodup∧es.length≤1099511627776
noncomputable def C1 (xs:List SV) (ob:List Ob):Option (SV × List Ob) :=
 match xs,ob with
 | [.ref 0,.fn f []],[.row t sz es]=>bif dec (f=41∧sz=3∧keyed es) then some (.tup [],[.row t sz (es.mergeSort rowLe)]) else none
 | [.nil,.fn f []],[]=>bif dec (f=41) then some (.tup [],[]) else none
 | _,_=>none
theorem R1 (a b:List UInt8):decide (HF a b<0)=Op.bytesLess a b:=by
 unfold HF
 cases h:Op.bytesLess a b with
 | true=>rfl
 | false =>
  simp only [Bool.false_eq_true,if_false]
  split <;> rfl
theorem Ii (n:Nat) (key:_root_.Fin n→List UInt8) (x y:_root_.Fin n):ltOf (fun x y=>HF (key x) (key y)) x y=Op.bytesLess (key x) (key y):=R1 _ _
theorem V5 (n:Nat) (key:_root_.Fin n→List UInt8):SWO (ltOf fun x y=>HF (key x) (key y)):=by
 refine ⟨fun x=>by rw [Ii]; exact LU _,fun x y z h k=>?_,fun x y z h k=>?_⟩
 ·rw [Ii] at *; exact K4 _ _ _ h k
 ·rw [Ii] at *; exact Qn _ _ _ h k
theorem IR {xs:List SV} {ob:List Ob} {r:SV} {ob':List Ob} (h:C1 xs ob=some (r,ob')):Fun Tryz.prog 40 xs ob r ob':=by
 unfold C1 at h
 split at h
 ·rename_i f t sz es
  obtain ⟨h1,h2⟩:=Ak h
  obtain ⟨rfl,rfl,hk1,hk2,hk3⟩:=A5.1 h1
  simp only [zN,zS] at h2
  obtain ⟨rfl,rfl⟩:=h2
  intro w I V B vs hwf hvs
  obtain ⟨v,q,rfl,hv,hvs⟩:=CY hvs
  obtain ⟨v2,q,rfl,hv2,hvs⟩:=CY hvs
  obtain rfl:=K1 hvs
  simp only [RepV] at hv hv2
  obtain ⟨vs2,rfl,hv2⟩:=hv2
  simp only [RepVs] at hv2
  subst hv2
  obtain ⟨val,hval,hrow⟩:=hwf.obj 0 trivial
  rw [hv.1] at hval
  obtain rfl:=zI hval
  have hv0:=hv.1
  have hrow:RowR w I (B 0) t 3 es v:=hrow
  rcases zK es.length with h0 | h0
  ·have he:es=[]:=zH h0
   subst he
   obtain ⟨a,c,rfl,_⟩:=hrow.form
   have hcon:=AnyF.slices_SortFunc_none K6 a c (.func (.func 41) #[] #[]) w
   change Calls Tryz.prog 40 _ _ _ at hcon
   refine hcon.mono ?_
   rintro e w' ⟨rfl,rfl⟩
   rw [yK]
   exact ⟨_,I,V,B,rfl,by simp only [RepV,RepVs]; exact ⟨[],rfl,rfl⟩,K3 hwf⟩
  ·rcases hrow with ⟨he,_⟩ | ⟨b,cap,cur,Sub,rfl,hs,hb,g1,g2,g3,g4,g5,g6,g7⟩
   ·subst he; simp at h0
   have hblt:=(yH.1 hb).1
   haveI:Inhabited (_root_.Fin es.length):=⟨⟨0,h0⟩⟩
   let cell:Nat→Nat→Value:=fun i j=>cur.getD (i*3+j) undef
   let enc:_root_.Fin es.length→List Value:=fun i=>[cell i 0,cell i 1,cell i 2]
   let key:_root_.Fin es.length→List UInt8:=fun i=>(HG es[i]).toList
   let d:Array (_root_.Fin es.length):=(yR es.length).toArray
   have hdsz:d.size=es.length:=by simp [d]
   have hdget:∀ i (hi:i<es.length),d[i]! = ⟨i,hi⟩:=fun i hi=>by
    rw [getElem!_pos d i (by rw [hdsz]; exact hi)]
    simp [d]
   have lp:∀ i (hi:i<es.length) j (hj:j<3),ORep w I (Sub i j) (es[i][j]'(by rw [g4 i hi]; exact hj)) (cell i j):=fun i hi j hj=>g7 i j hi (by rw [g4 i hi]; exact hj)
   have forms:∀ i:_root_.Fin es.length,∃ (n:ByteArray) (a:Option Addr) (l c:Nat),enc i=[.string (HG es[i]),.string n,.slice a l c]:=fun i=>by
    obtain ⟨s,n,us,he⟩:=hk1 es[i] (zF _)
    have l0:=lp i i.2 0 (by omega)
    have l1:=lp i i.2 1 (by omega)
    have l2:=lp i i.2 2 (by omega)
    have he':es[i.val]'i.2=[.str s,.str n,.ow us]:=he
    simp only [he',yE,yM] at l0 l1 l2
    obtain ⟨a,l,c,e2⟩:=l2.owV
    refine ⟨n,a,l,c,?_⟩
    show [cell i 0,cell i 1,cell i 2]=_
    rw [l0.strV,l1.strV,e2,he]
    rfl
   have hlen:∀ x,(enc x).length=3:=fun _=>rfl
   have hone:∀ x,∀ v∈enc x,v.oneCell'=true:=fun x v hv=>by
    obtain ⟨n,a,l,c,e⟩:=forms x
    rw [e] at hv
    simp only [z7,List.not_mem_nil,or_false] at hv
    rcases hv with rfl | rfl | rfl <;> rfl
   have hH:HoldsK enc 3 w b 0 d:=by
    intro j hj
    rw [size_flatK] at hj
    have hq:j / 3<d.size:=by omega
    have hq':j / 3<es.length:=by rw [←hdsz]; exact hq
    have hlt:j<cur.size:=by rw [g3]; have:=Nat.mul_le_mul_right 3 g1; omega
    refine ⟨?_,?_⟩
    ·rw [yU,cell_of_row w b _ _ _ _ hb,get_flatK enc 3 d j hj,hdget _ hq']
     show cur[j]?=some ([cell (j / 3) 0,cell (j / 3) 1,cell (j / 3) 2][j % 3]!)
     have hm:j % 3=0∨j % 3=1∨j % 3=2:=by omega
     have e:cur[j]?=some (cell (j / 3) (j % 3)):=by
      show cur[j]?=some (cur.getD (j / 3*3+j % 3) undef)
      rw [show j / 3*3+j % 3=j by omega,zX hlt]
      simp [z8,hlt]
     rw [e]
     rcases hm with hm | hm | hm <;> rw [hm] <;> rfl
    ·unfold World.frozen?
     rw [hb]
     simp
   have hcmp:CmpLays Tryz.prog 41 #[] enc 3 (fun x y=>HF (key x) (key y)) b 0 d.size w:=by
    intro m os dk _ x y
    obtain ⟨n,a,l,c,e⟩:=forms x
    obtain ⟨n',a',l',c',e'⟩:=forms y
    rw [e,e']
    exact Lm _ n _ n' a a' l c l' c' _
   have eg:∀ args w,(callFunc 41 args).run Tryz.prog w=.ok (.enter 41 args) w:=enters_of Tryz.func41 (by kernel_rfl) rfl
   have hT:∀ x y,ltOf (fun x y=>HF (key x) (key y)) x y=false→ltOf (fun x y=>HF (key x) (key y)) y x=false→x=y:=fun x y h h'=>by
    rw [Ii] at h h'
    have e:=GY (ON _ _ h h')
    have hi:x.val<(es.map HG).length:=by simp
    have hi':y.val<(es.map HG).length:=by simp
    have:=(y2 (h₀:=hi) (h₁:=hi') hk2).1 (by simpa using e)
    exact _root_.Fin.ext this
   have hcon:=AnyQ.slices_SortFunc_total K6 3 Tryz.isAgg55 Tryz.sizeOf55 enc hlen hone (fun x y=>HF (key x) (key y)) (V5 _ key) 41 #[] b 0 cap d w eg hcmp hH hblt (by rw [hdsz]; omega) hT
   change Calls Tryz.prog 40 _ _ _ at hcon
   rw [hdsz] at hcon
   refine hcon.mono ?_
   rintro e w' ⟨rfl,m,os,rfl⟩
   refine ⟨_,I,V,B,rfl,by simp only [RepV,RepVs]; exact ⟨[],rfl,rfl⟩,?_⟩
   let L:List (_root_.Fin es.length):=d.toList.mergeSort fun x y=>!(ltOf fun x y=>HF (key x) (key y)) y x
   have hdl:d.toList=yR es.length:=rfl
   have hLp:L.Perm (yR es.length):=by rw [←hdl]; exact yB _ _
   have hLl:L.length=es.length:=by rw [hLp.length_eq]; simp
   have hLn:L.Nodup:=hLp.nodup_iff.2 (List.nodup_finRange _)
   have hes:es.mergeSort rowLe=L.map fun i=>es[i]:=by
    have e:es=(yR es.length).map fun i=>es[i]:=by
     apply List.ext_getElem
     ·simp
     ·intro i h1 h2; simp
    have k:=List.map_mergeSort (r:=fun x y=>!(ltOf fun x y=>HF (key x) (key y)) y x) (s:=rowLe) (f:=fun i:_root_.Fin es.length=>es[i]) (l:=yR es.length) (fun a _ b _=>by
     rw [Ii]; rfl)
    rw [←e] at k
    exact k.symm
   rw [hes]
   have hg:∀ i (hi:i<L.length) (j:Nat),j<3→(putCells id 0 (flatK enc 3 L.toArray) cur).getD (i*3+j) undef=cell L[i] j:=fun i hi j hj=>by
    have:=NK enc 3 L.toArray cur (i:=i) (j:=j) (by simpa using hi) hj (by rw [g3]; simp only [List.size_toArray,hLl]; exact Nat.mul_le_mul_right 3 g1)
    rw [this,getElem!_pos L.toArray i (by simpa using hi)]
    simp only [List.getElem_toArray]
    show [cell L[i] 0,cell L[i] 1,cell L[i] 2][j]! = _
    have hm:j=0∨j=1∨j=2:=by omega
    rcases hm with rfl | rfl | rfl <;> rfl
   have hgrow:∀ x,x<w.heap.size→x≠b→(sortWorldK enc 3 w b 0 m L.toArray os).heap[x]?=w.heap[x]?:=fun x hx hne=>by
    rw [K5 enc 3 w b m _ os x hx,if_neg (fun e=>hne e.symm)]
   refine P7 (fun i j x=>∃ h:i<L.length,Sub (L[i]).val j x) hwf hv0 (by rw [zM,hLl]) hs hb g1 g2 g3 (fun i hi=>by rw [zZ]; exact g4 _ _) (fun i j x h=>g5 _ _ _ h.2) (fun i j i' j' x h h'=>?_) rfl ⟨rfl,fun h=>False.elim h⟩ rfl (size_sortWorldK_c enc 3 w b 0 m _ os) hgrow (NJ enc 3 w b m _ os hb) (by simp [putCells]) (fun i j hi hj=>?_)
   ·obtain ⟨a1,a2⟩:=h
    obtain ⟨b1,b2⟩:=h'
    obtain ⟨c1,c2⟩:=g6 _ _ _ _ _ a2 b2
    exact ⟨(y2 hLn).1 (_root_.Fin.ext c1),c2⟩
   ·have hi':i<L.length:=by simpa using hi
    have hj':j<3:=by simpa [g4] using hj
    rw [hg i hi' j hj']
    have:=lp L[i] (L[i]).2 j hj'
    have hk:KeepS I w (sortWorldK enc 3 w b 0 m L.toArray os):=⟨size_sortWorldK_c enc 3 w b 0 m _ os,fun x hx hlt=>hgrow x hlt fun e=>hwf.dI 0 x trivial (e▸hs) hx⟩
    have h2:=(this.keep hk (fun _ h=>h) (fun x hx hlt=>hgrow x hlt (g5 _ _ _ hx).2)).up (S':=fun x=>∃ h:i<L.length,Sub (L[i]).val j x) (fun x hx=>⟨hi',hx⟩)
    simp only [zZ]
    exact h2
 ·rename_i f
  obtain ⟨h1,h2⟩:=Ak h
  obtain rfl:=A5.1 h1
  simp only [zN,zS] at h2
  obtain ⟨rfl,rfl⟩:=h2
  intro w I V B vs hwf hvs
  obtain ⟨v,q,rfl,hv,hvs⟩:=CY hvs
  obtain ⟨v2,q,rfl,hv2,hvs⟩:=CY hvs
  obtain rfl:=K1 hvs
  simp only [RepV] at hv hv2
  obtain ⟨vs2,rfl,hv2⟩:=hv2
  simp only [RepVs] at hv2
  subst hv2
  subst hv
  have hcon:=AnyF.slices_SortFunc_none K6 none 0 (.func (.func 41) #[] #[]) w
  change Calls Tryz.prog 40 _ _ _ at hcon
  refine hcon.mono ?_
  rintro e w' ⟨rfl,rfl⟩
  exact ⟨_,I,V,B,rfl,by simp only [RepV,RepVs]; exact ⟨[],rfl,rfl⟩,K3 hwf⟩
 ·cases h
end Go.Proofs.YtalflgegedmmkaaGreat
set_option maxRecDepth 100000
namespace Go.Proofs.YtalflgegedmmkaaGreat
open Go.Shelf
def so_SortS_ren:Go.Shelf.Ren:=⟨fun | 190=>53 | 125=>65 | 258=>77 | 128=>88 | 129=>89 | 302=>95 | 303=>96 | 304=>97 | 305=>98 | 306=>99 | 307=>100 | 308=>101 | 309=>102 | 310=>103 | 333=>111 | 329=>106 | 330=>107 | 334=>112 | 335=>113 | 336=>66 | 344=>115 | n=>n,fun | 31=>57 | 9=>9 | 3=>3 | 46=>83 | 0=>0 | 51=>96 | 53=>44 | 4=>4 | 183=>90 | 182=>89 | 131=>74 | 5=>5 | 218=>108 | 222=>112 | 228=>117 | 229=>118 | n=>n,fun | n=>n⟩
theorem NM:Go.Proofs.Lays.n190 Tryz.prog so_SortS_ren:={
 mixed:=by kernel_rfl,
 f125:=Tryz.func65.trans (congrArg some (by kernel_rfl)),
 f128:=Tryz.func88.trans (congrArg some (by kernel_rfl)),
 f129:=Tryz.func89.trans (congrArg some (by kernel_rfl)),
 f190:=Tryz.func53.trans (congrArg some (by kernel_rfl)),
 f258:=Tryz.func77.trans (congrArg some (by kernel_rfl)),
 f302:=Tryz.func95.trans (congrArg some (by kernel_rfl)),
 f303:=Tryz.func96.trans (congrArg some (by kernel_rfl)),
 f304:=Tryz.func97.trans (congrArg some (by kernel_rfl)),
 f305:=Tryz.func98.trans (congrArg some (by kernel_rfl)),
 f306:=Tryz.func99.trans (congrArg some (by kernel_rfl)),
 f307:=Tryz.func100.trans (congrArg some (by kernel_rfl)),
 f308:=Tryz.func101.trans (congrArg some (by kernel_rfl)),
 f309:=Tryz.func102.trans (congrArg some (by kernel_rfl)),
 f310:=Tryz.func103.trans (congrArg some (by kernel_rfl)),
 f329:=Tryz.func106.trans (congrArg some (by kernel_rfl)),
 f330:=Tryz.func107.trans (congrArg some (by kernel_rfl)),
 f333:=Tryz.func111.trans (congrArg some (by kernel_rfl)),
 f334:=Tryz.func112.trans (congrArg some (by kernel_rfl)),
 f335:=Tryz.func113.trans (congrArg some (by kernel_rfl)),
 f336:=Tryz.func66.trans (congrArg some (by kernel_rfl)),
 f344:=Tryz.func115.trans (congrArg some (by kernel_rfl)),
 t0:=Tryz.underlying0,
 a0:=Tryz.isAgg0,
 z0:=Tryz.sizeOf0,
 v0:=Tryz.zeroValue0,
 t3:=Tryz.underlying3,
 a3:=Tryz.isAgg3,
 z3:=Tryz.sizeOf3,
 v3:=Tryz.zeroValue3,
 t4:=Tryz.underlying4,
 a4:=Tryz.isAgg4,
 z4:=Tryz.sizeOf4,
 v4:=Tryz.zeroValue4,
 t5:=Tryz.underlying5,
 a5:=Tryz.isAgg5,
 z5:=Tryz.sizeOf5,
 v5:=Tryz.zeroValue5,
 t9:=Tryz.underlying9,
 a9:=Tryz.isAgg9,
 z9:=Tryz.sizeOf9,
 v9:=Tryz.zeroValue9,
 t31:=Tryz.underlying57,
 a31:=Tryz.isAgg57,
 z31:=Tryz.sizeOf57,
 v31:=Tryz.zeroValue57,
 t46:=Tryz.underlying83,
 a46:=Tryz.isAgg83,
 z46:=Tryz.sizeOf83,
 v46:=Tryz.zeroValue83,
 t51:=Tryz.underlying96,
 a51:=Tryz.isAgg96,
 z51:=Tryz.sizeOf96,
 v51:=Tryz.zeroValue96,
 t53:=Tryz.underlying44,
 a53:=Tryz.isAgg44,
 z53:=Tryz.sizeOf44,
 v53:=Tryz.zeroValue44,
 t131:=Tryz.underlying74,
 a131:=Tryz.isAgg74,
 z131:=Tryz.sizeOf74,
 v131:=Tryz.zeroValue74,
 t182:=Tryz.underlying89,
 a182:=Tryz.isAgg89,
 z182:=Tryz.sizeOf89,
 v182:=Tryz.zeroValue89,
 t183:=Tryz.underlying90,
 a183:=Tryz.isAgg90,
 z183:=Tryz.sizeOf90,
 v183:=Tryz.zeroValue90,
 t218:=Tryz.underlying108,
 a218:=Tryz.isAgg108,
 z218:=Tryz.sizeOf108,
 v218:=Tryz.zeroValue108,
 t222:=Tryz.underlying112,
 a222:=Tryz.isAgg112,
 z222:=Tryz.sizeOf112,
 v222:=Tryz.zeroValue112,
 t228:=Tryz.underlying117,
 a228:=Tryz.isAgg117,
 z228:=Tryz.sizeOf117,
 v228:=Tryz.zeroValue117,
 t229:=Tryz.underlying118,
 a229:=Tryz.isAgg118,
 z229:=Tryz.sizeOf118,
 v229:=Tryz.zeroValue118 }
end Go.Proofs.YtalflgegedmmkaaGreat
set_option maxRecDepth 100000
set_option linter.unusedSimpArgs false
set_option linter.unusedVariables false
set_option linter.unusedSectionVars false
namespace Go.Proofs.YtalflgegedmmkaaGreat
open Go.RowKit Go.Shelf Go.Lib Go.Sort
theorem LV (w:World) (b m:Nat) (ss:List (List UInt8)) (os:Array Obj) (x:Nat) (hx:x<w.heap.size) :
  (Sort.grow (putRow encStr (Sort.ahead w m) b 0 ss.toArray) os).heap[x]?=if b=x then (w.heap[x]?).map (onCells (putCells encStr 0 ss.toArray)) else w.heap[x]?:=by
 unfold Sort.grow putRow mapBlock Sort.ahead
 have hx':x<(w.heap.modify b (onCells (putCells encStr 0 ss.toArray))).size:=by simpa using hx
 simp only [Array.getElem?_append,Array.size_modify,hx,if_true,Array.getElem?_modify]
def srt (ss:List (List UInt8)):List (List UInt8):=ss.mergeSort fun x y=>decide (x≤y)
def P8 (l:List UInt8):List OT:=[.str ⟨l.toArray⟩]
noncomputable def sortStr (xs:List SV) (ob:List Ob):Option (SV × List Ob) :=
 match xs,ob with
 | [.ref 0],[.row t sz es]=>bif dec (sz=1∧(∀ e∈es,∃ s,e=[.str s])∧es.length≤1099511627776) then some (.tup [],[.row t sz ((srt (es.map fun e=>(HG e).toList)).map P8)]) else none
 | _,_=>none
theorem ORep.V6 {w:World} {I S:Nat→Prop} {s:ByteArray} {v:Value} (h:ORep w I S (.str s) v):v=.string s∧s.size≤9223372036854775807:=by
 cases h with
 | str _ _ hz=>exact ⟨rfl,hz⟩
theorem HH (s:ByteArray):(⟨s.toList.toArray⟩:ByteArray)=s:=GY (by rw [ByteArray.toList_eq])
theorem M9 {xs:List SV} {ob:List Ob} {r:SV} {ob':List Ob} (h:sortStr xs ob=some (r,ob')):Fun Tryz.prog 53 xs ob r ob':=by
 unfold sortStr at h
 split at h
 ·rename_i t sz es
  obtain ⟨h1,h2⟩:=Ak h
  obtain ⟨rfl,hk1,hk3⟩:=A5.1 h1
  simp only [zN,zS] at h2
  obtain ⟨rfl,rfl⟩:=h2
  intro w I V B vs hwf hvs
  obtain ⟨v,q,rfl,hv,hvs⟩:=CY hvs
  obtain rfl:=K1 hvs
  simp only [RepV] at hv
  obtain ⟨val,hval,hrow⟩:=hwf.obj 0 trivial
  rw [hv.1] at hval
  obtain rfl:=zI hval
  have hv0:=hv.1
  have hrow:RowR w I (B 0) t 1 es v:=hrow
  rcases zK es.length with h0 | h0
  ·have he:es=[]:=zH h0
   subst he
   obtain ⟨a,c,rfl,_⟩:=hrow.form
   have hcon:=Any.slices_Sort_string_none NM a c w
   change Calls Tryz.prog 53 _ _ _ at hcon
   refine hcon.mono ?_
   rintro e w' ⟨rfl,rfl⟩
   have e0:(srt ([].map fun e:List OT=>(HG e).toList)).map P8=[]:=by simp [srt]
   rw [e0]
   exact ⟨_,I,V,B,rfl,by simp only [RepV,RepVs]; exact ⟨[],rfl,rfl⟩,K3 hwf⟩
  ·rcases hrow with ⟨he,_⟩ | ⟨b,cap,cur,Sub,rfl,hs,hb,g1,g2,g3,g4,g5,g6,g7⟩
   ·subst he; simp at h0
   have hblt:=(yH.1 hb).1
   obtain ⟨ss,hss⟩:∃ ss,ss=es.map fun e=>(HG e).toList:=⟨_,rfl⟩
   have hsl:ss.length=es.length:=by rw [hss]; simp
   rw [←hss]
   have cellv:∀ i (hi:i<es.length),cur[i]?=some (.string (HG es[i]))∧(HG es[i]).size≤9223372036854775807:=fun i hi=>by
    obtain ⟨s,he⟩:=hk1 es[i] (zF hi)
    have hlt:i<cur.size:=by rw [g3]; omega
    have l0:=g7 i 0 hi (by rw [g4 i hi]; omega)
    simp only [he,yE,Nat.mul_one,y4,z8,zX hlt,yI] at l0
    rw [zX hlt,he]
    obtain ⟨z1,z2⟩:=ORep.V6 l0
    exact ⟨by rw [z1]; rfl,z2⟩
   have hH:Holds encStr w b 0 ss.toArray:=by
    intro j hj
    have hj1:j<ss.length:=by simpa using hj
    have hj':j<es.length:=by rw [←hsl]; exact hj1
    refine ⟨?_,?_⟩
    ·rw [yU,cell_of_row w b _ _ _ _ hb,(cellv j hj').1,getElem!_pos ss.toArray j hj]
     simp only [List.getElem_toArray,hss,zZ,encStr,HH]
    ·unfold World.frozen?
     rw [hb]
     simp
   have hcon:=Any.slices_Sort_string NM b 0 cap ss w hH hblt (by rw [hsl]; omega)
   change Calls Tryz.prog 53 _ _ _ at hcon
   rw [hsl] at hcon
   refine hcon.mono ?_
   rintro e w' ⟨rfl,m,os,rfl⟩
   refine ⟨_,I,V,B,rfl,by simp only [RepV,RepVs]; exact ⟨[],rfl,rfl⟩,?_⟩
   have hper:(srt ss).Perm ss:=yB _ _
   have hsl2:(srt ss).length=es.length:=by rw [hper.length_eq,hsl]
   have hgrow:∀ x,x<w.heap.size→x≠b→(Sort.grow (putRow encStr (Sort.ahead w m) b 0 (srt ss).toArray) os).heap[x]?=w.heap[x]?:=fun x hx hne=>by
    rw [LV w b m _ os x hx,if_neg (fun e=>hne e.symm)]
   have hbl:(Sort.grow (putRow encStr (Sort.ahead w m) b 0 (srt ss).toArray) os).heap[b]?=some (.cells (putCells encStr 0 (srt ss).toArray cur) t (0,0)):=by
    rw [LV w b m _ os b hblt,if_pos rfl,hb]; rfl
   have hsz:w.heap.size≤(Sort.grow (putRow encStr (Sort.ahead w m) b 0 (srt ss).toArray) os).heap.size:=by
    unfold Sort.grow
    simp [putRow,mapBlock,Sort.ahead]
   have hmem:∀ l∈ss,∃ e∈es,(HG e).toList=l:=by
    rw [hss]
    intro l h
    exact y5.1 h
   have hstr:∀ i (hi:i<(srt ss).length),(⟨(srt ss)[i].toArray⟩:ByteArray).size≤9223372036854775807:=fun i hi=>by
    obtain ⟨e,he,heq⟩:=hmem _ (hper.mem_iff.1 (zF hi))
    obtain ⟨k,hk,rfl⟩:=zV he
    have:=(cellv k hk).2
    rw [←heq,HH]
    exact this
   refine P7 (fun _ _ _=>False) hwf hv0 (by rw [zM,hsl2]) hs hb g1 g2 g3 (fun i hi=>by rw [zZ]; rfl) (fun i j x h=>h.elim) (fun i j i' j' x h h'=>h.elim) rfl ⟨rfl,fun h=>False.elim h⟩ rfl hsz hgrow hbl (by simp [putCells]) (fun i j hi hj=>?_)
   have hi':i<(srt ss).length:=by simpa using hi
   have hj':j<1:=by simpa [P8] using hj
   obtain rfl:j=0:=by omega
   have hlt:i<cur.size:=by rw [g3]; omega
   have hc:(putCells encStr 0 (srt ss).toArray cur).getD (i*1+0) undef=.string ⟨(srt ss)[i].toArray⟩:=by
    simp only [Nat.mul_one,y4,putCells,z8,Array.getElem?_mapIdx,zX hlt,y6,yI,zP,true_and,yU,List.size_toArray,hi',if_true,Nat.sub_zero]
    rw [getElem!_pos (srt ss).toArray i (by simpa using hi')]
    rfl
   rw [hc]
   simp only [zZ,P8,yE]
   exact .str _ _ (hstr i hi')
 ·cases h
end Go.Proofs.YtalflgegedmmkaaGreat
set_option maxRecDepth 100000
set_option linter.unusedSimpArgs false
set_option linter.unusedVariables false
set_option linter.unusedSectionVars false
namespace Go.Proofs.YtalflgegedmmkaaGreat
open Go.RowKit
def P9:List (Nat × FM)→Nat→FM
 | [],_=>⟨[],.asis,none,false⟩
 | (f,m) :: r,g=>bif f == g then m else P9 r g
theorem Qo {l:List (Nat × FM)} {f:Nat} {g:List SV→List Ob→Option (SV × List Ob)} (h:(P9 l f).ext=some g):∃ m,(f,m)∈l∧m.ext=some g:=by
 induction l with
 | nil=>cases h
 | cons x r ih =>
  obtain ⟨f',m⟩:=x
  simp only [P9] at h
  cases e:f' == f with
  | true =>
   rw [e] at h
   obtain rfl:f'=f:=by simpa using e
   exact ⟨m,by simp,h⟩
  | false =>
   rw [e] at h
   obtain ⟨m',h1,h2⟩:=ih h
   exact ⟨m',by simp [h1],h2⟩
noncomputable def V8:List SV→Option SV
 | [.int .i64 k]=>bif dec (1≤k)&&dec (k≤1099511627776) then some (.str (Vn k)) else none
 | _=>none
def R2:List SV→Option SV
 | [.str s]=>some (.bool (Bi s))
 | _=>none
theorem Qp {xs:List SV} {r:SV} (h:R2 xs=some r):Fun Tryz.prog 36 xs [] r []:=by
 unfold R2 at h
 split at h
 ·rename_i s
  obtain rfl:=zI h
  refine Fun.of_same (rv:=.bool (Bi s)) (fun w I V=>by simp only [RepV]) fun w I V vs h=>?_
  obtain ⟨v,r,rfl,h3,h⟩:=CY h
  obtain rfl:=K1 h
  obtain ⟨rfl,h4⟩:=JG h3
  exact K2 s w h4
 ·cases h
def R4:List SV→Option SV
 | [.str s]=>some (.bool (Bi s))
 | _=>none
theorem Qq {xs:List SV} {r:SV} (h:R4 xs=some r):Fun Tryz.prog 43 xs [] r []:=by
 unfold R4 at h
 split at h
 ·rename_i s
  obtain rfl:=zI h
  refine Fun.of_same (rv:=.bool (Bi s)) (fun w I V=>by simp only [RepV]) fun w I V vs h=>?_
  obtain ⟨v,r,rfl,h3,h⟩:=CY h
  obtain rfl:=K1 h
  obtain ⟨rfl,h4⟩:=JG h3
  exact Qm s w h4
 ·cases h
def R5:List SV→Option SV
 | [.str s]=>some (.bool (Ei s))
 | _=>none
theorem Qr {xs:List SV} {r:SV} (h:R5 xs=some r):Fun Tryz.prog 72 xs [] r []:=by
 unfold R5 at h
 split at h
 ·rename_i s
  obtain rfl:=zI h
  refine Fun.Rz (rv:=.bool (Ei s)) (fun w I V=>by simp only [RepV]) fun w I V vs h=>?_
  obtain ⟨v,r,rfl,h3,h⟩:=CY h
  obtain rfl:=K1 h
  obtain ⟨rfl,h4⟩:=JG h3
  exact M7 s w h4
 ·cases h
def R6:List SV→Option SV
 | [.str s]=>some (.bool (Ei s))
 | _=>none
theorem Qs {xs:List SV} {r:SV} (h:R6 xs=some r):Fun Tryz.prog 92 xs [] r []:=by
 unfold R6 at h
 split at h
 ·rename_i s
  obtain rfl:=zI h
  refine Fun.of_same (rv:=.bool (Ei s)) (fun w I V=>by simp only [RepV]) fun w I V vs h=>?_
  obtain ⟨v,r,rfl,h3,h⟩:=CY h
  obtain rfl:=K1 h
  obtain ⟨rfl,h4⟩:=JG h3
  exact M8 s w h4
 ·cases h
noncomputable def modes:FuncId→FM:=P9 [(36,⟨[],.asis,some (J4 R2),false⟩),(43,⟨[],.asis,some (J4 R4),false⟩),(72,⟨[],.asis,some (J4 R5),false⟩),(92,⟨[],.asis,some (J4 R6),false⟩),(53,⟨[true],.asis,some sortStr,false⟩),(40,⟨[true],.asis,some C1,false⟩),(63,⟨[],.own [some (31,2)],none,false⟩),(38,⟨[],.own [none,some (31,2)],none,false⟩),(24,⟨[],.own [none,some (31,2),none],none,false⟩),(10,⟨[],.own [none,some (31,2),none],none,false⟩),(20,⟨[],.own [some (55,3),none],none,false⟩),(8,⟨[],.own [some (55,3),none],none,false⟩),(71,⟨[],.frz,none,false⟩),(46,⟨[],.frz,none,false⟩),(28,⟨[],.frz,none,false⟩),(45,⟨[true],.half [some (55,3)],none,false⟩),(22,⟨[],.frz,none,false⟩),(9,⟨[],.frz,none,false⟩),(52,⟨[true],.asis,none,false⟩),(16,⟨[],.half [none,some (31,2)],none,false⟩),(35,⟨[],.half [none,some (31,2)],none,false⟩),(34,⟨[],.half [none,some (31,2)],none,false⟩),(17,⟨[],.half [none,some (31,2)],none,false⟩),(57,⟨[],.half [none,some (31,2)],none,false⟩),(32,⟨[],.half [none,some (31,2)],none,false⟩),(18,⟨[],.half [none,some (31,2)],none,false⟩),(29,⟨[],.half [some (55,3)],none,false⟩),(14,⟨[],.frz,none,false⟩),(5,⟨[],.frz,none,false⟩),(6,⟨[],.frz,none,false⟩),(7,⟨[],.frz,none,false⟩)]
theorem noExt {l:List (Nat × FM)} (h:(l.all fun p=>p.2.ext.isNone)=true) {f:Nat} {m:FM} {g:List SV→List Ob→Option (SV × List Ob)} (h1:(f,m)∈l) (h2:m.ext=some g):False:=by
 have h3:=yC.1 h _ h1
 rw [h2] at h3
 cases h3
theorem OP:JF Tryz.prog modes:=by
 intro f g xs ob r ob' hg hx
 obtain ⟨m,h1,h2⟩:=Qo hg
 rcases z7.1 h1 with h1 | h1
 ·obtain ⟨rfl,rfl⟩:=yS h1
  obtain rfl:=zI h2
  exact Ha Qp hx
 rcases z7.1 h1 with h1 | h1
 ·obtain ⟨rfl,rfl⟩:=yS h1
  obtain rfl:=zI h2
  exact Ha Qq hx
 rcases z7.1 h1 with h1 | h1
 ·obtain ⟨rfl,rfl⟩:=yS h1
  obtain rfl:=zI h2
  exact Ha Qr hx
 rcases z7.1 h1 with h1 | h1
 ·obtain ⟨rfl,rfl⟩:=yS h1
  obtain rfl:=zI h2
  exact Ha Qs hx
 rcases z7.1 h1 with h1 | h1
 ·obtain ⟨rfl,rfl⟩:=yS h1
  obtain rfl:=zI h2
  exact M9 hx
 rcases z7.1 h1 with h1 | h1
 ·obtain ⟨rfl,rfl⟩:=yS h1
  obtain rfl:=zI h2
  exact IR hx
 exact (noExt rfl h1 h2).elim
noncomputable def E:FEnv:=ev Tryz.prog modes
noncomputable def calls:CallF:=Cy modes E
theorem Us {f:FuncId} {xs:List SV} {ob:List Ob} {r:SV} {ob':List Ob} (h:E f xs ob=some (r,ob')):Fun Tryz.prog f xs ob r ob':=Tk Uo OP f xs ob r ob' h
noncomputable def run (n0:Nat):SC→St→Option (X × St):=fr Tryz.prog calls (HD n0)
def go (n0:Nat) (sc:SC) (st:St) (K:X→St→Prop):Prop:=∃ x st',run n0 sc st=some (x,st')∧K x st'
def Tr (n0:Nat) (b:SC) (K:X→St→Prop):X→St→Prop
 | .normal,st=>go n0 b st K
 | .exit i,st=>K (.exit i) st
 | .ret,st=>K .ret st
def blk (id:Nat) (K:X→St→Prop):X→St→Prop
 | .normal,st=>K .normal st
 | .exit i,st=>if i=id then K .normal st else K (.exit i) st
 | .ret,st=>K .ret st
def R7 (r:Option St) (k:X→St→Prop):Prop :=
 match r with
 | some st=>k .normal st
 | none=>False
def R8 (anc:List (List Nat)) (r:Option (List Ent × St)) (k:X→St→Prop):Prop :=
 match r with
 | some (es,st)=>obB anc [] (H1 es) 0=true∧k .normal st
 | none=>False
def K7 (v:SV) (a b:Unit→Prop):Prop :=
 match v with
 | .bool true=>a ()
 | .bool false=>b ()
 | _=>False
noncomputable def OQ (ops:List SOper) (st:St):Option St:=Kl Tryz.prog calls ops st
noncomputable def OR (ops:List SOper) (acc:List Ent) (st:St):Option (List Ent × St):=F5 Tryz.prog calls ops acc st
section
variable {n0:Nat} {st:St} {K:X→St→Prop}
theorem go_skip:go n0 .skip st K=K .normal st:=by
 refine propext ⟨fun ⟨x,st',h,k⟩=>?_,fun k=>⟨_,_,rfl,k⟩⟩
 obtain ⟨rfl,rfl⟩:X.normal=x∧st=st':=by simpa [run,fr] using h
 exact k
theorem Ts {i:Nat}:go n0 (.exit i) st K=K (.exit i) st:=by
 refine propext ⟨fun ⟨x,st',h,k⟩=>?_,fun k=>⟨_,_,rfl,k⟩⟩
 obtain ⟨rfl,rfl⟩:X.exit i=x∧st=st':=by simpa [run,fr] using h
 exact k
theorem go_ret:go n0 .ret st K=K .ret st:=by
 refine propext ⟨fun ⟨x,st',h,k⟩=>?_,fun k=>⟨_,_,rfl,k⟩⟩
 obtain ⟨rfl,rfl⟩:X.ret=x∧st=st':=by simpa [run,fr] using h
 exact k
theorem Ut {ops:List SOper}:go n0 (.reg ops) st K=R7 (OQ ops st) K:=by
 unfold R7 OQ
 refine propext ⟨fun ⟨x,st',h,k⟩=>?_,fun k=>?_⟩
 ·simp only [run,fr] at h
  split at h
  ·rename_i s hs
   simp only [zN,zS] at h
   obtain ⟨rfl,rfl⟩:=h
   first | exact k | (simp only [hs]; exact k)
  ·cases h
 ·split at k
  ·rename_i s hs
   exact ⟨.normal,s,by simp only [run,fr,hs],k⟩
  ·exact k.elim
theorem Tt {anc:List (List Nat)} {ops:List SOper}:go n0 (.dreg anc ops) st K=R8 anc (OR ops [] st) K:=by
 unfold R8 OR
 refine propext ⟨fun ⟨x,st',h,k⟩=>?_,fun k=>?_⟩
 ·simp only [run,fr] at h
  split at h
  ·rename_i es s hs
   obtain ⟨h1,h2⟩:=Ak h
   simp only [zN,zS] at h2
   obtain ⟨rfl,rfl⟩:=h2
   first | exact ⟨h1,k⟩ | (simp only [hs]; exact ⟨h1,k⟩)
  ·cases h
 ·split at k
  ·rename_i es s hs
   exact ⟨.normal,s,by simp only [run,fr,hs,k.1,cond_true],k.2⟩
  ·exact k.elim
theorem Uu {a b:SC}:go n0 (.seq a b) st K=go n0 a st (Tr n0 b K):=by
 refine propext ⟨fun ⟨x,st',h,k⟩=>?_,fun ⟨x,st',h,k⟩=>?_⟩
 ·simp only [run,fr,Co] at h
  split at h
  ·rename_i s hs
   exact ⟨.normal,s,hs,x,st',h,k⟩
  ·rename_i i s hs
   simp only [zN,zS] at h
   obtain ⟨rfl,rfl⟩:=h
   exact ⟨_,_,hs,k⟩
  ·rename_i s hs
   simp only [zN,zS] at h
   obtain ⟨rfl,rfl⟩:=h
   exact ⟨_,_,hs,k⟩
  ·cases h
 ·simp only [run] at h
  cases x with
  | normal =>
   obtain ⟨x2,st2,h2,k2⟩:=k
   exact ⟨x2,st2,by simp only [run,fr,Co,h]; exact h2,k2⟩
  | exit i=>exact ⟨_,st',by simp only [run,fr,Co,h],k⟩
  | ret=>exact ⟨_,st',by simp only [run,fr,Co,h],k⟩
theorem R9 {n:Nat} {b:SC}:go n0 (.ghost n b) st K=go n0 b (N9 n st) K:=by simp only [go,run,fr]
theorem RA {id:Nat} {b:SC}:go n0 (.block id b) st K=go n0 b st (blk id K):=by
 refine propext ⟨fun ⟨x,st',h,k⟩=>?_,fun ⟨x,st',h,k⟩=>?_⟩
 ·simp only [run,fr,FU] at h
  split at h
  ·rename_i s hs
   simp only [zN,zS] at h
   obtain ⟨rfl,rfl⟩:=h
   exact ⟨.normal,s,hs,k⟩
  ·rename_i i s hs
   refine ⟨.exit i,s,hs,?_⟩
   simp only [blk]
   by_cases hi:i=id
   ·simp only [if_pos hi,zN,zS] at h ⊢
    obtain ⟨rfl,rfl⟩:=h
    exact k
   ·simp only [if_neg hi,zN,zS] at h ⊢
    obtain ⟨rfl,rfl⟩:=h
    exact k
  ·rename_i s hs
   simp only [zN,zS] at h
   obtain ⟨rfl,rfl⟩:=h
   exact ⟨_,s,hs,k⟩
  ·cases h
 ·simp only [run] at h
  cases x with
  | normal=>exact ⟨_,st',by simp only [run,fr,FU,h],k⟩
  | exit i =>
   simp only [blk] at k
   by_cases hi:i=id
   ·simp only [if_pos hi] at k
    exact ⟨.normal,st',by simp only [run,fr,FU,h,if_pos hi],k⟩
   ·simp only [if_neg hi] at k
    exact ⟨.exit i,st',by simp only [run,fr,FU,h,if_neg hi],k⟩
  | ret=>exact ⟨_,st',by simp only [run,fr,FU,h],k⟩
theorem Aa {q:SX} {a b:SC}:go n0 (.cond q a b) st K=K7 (Az (gets st.sl) q) (fun _=>go n0 a st K) (fun _=>go n0 b st K):=by
 unfold K7
 refine propext ⟨fun ⟨x,st',h,k⟩=>?_,fun k=>?_⟩
 ·simp only [run,fr] at h
  split at h
  ·rename_i t ht
   simp only [ht]
   cases t with
   | true=>exact ⟨x,st',h,k⟩
   | false=>exact ⟨x,st',h,k⟩
  ·cases h
 ·split at k
  ·rename_i ht
   obtain ⟨x,st',h,k⟩:=k
   exact ⟨x,st',by simp only [run,fr,ht,cond_true]; exact h,k⟩
  ·rename_i ht
   obtain ⟨x,st',h,k⟩:=k
   exact ⟨x,st',by simp only [run,fr,ht,cond_false]; exact h,k⟩
  ·exact k.elim
theorem Tu {a b:Unit→Prop}:K7 (.bool true) a b=a ():=rfl
theorem Tv {a b:Unit→Prop}:K7 (.bool false) a b=b ():=rfl
theorem Tw {t:Bool} {a b:Unit→Prop}:K7 (.bool (!t)) a b=K7 (.bool t) b a:=by cases t <;> rfl
theorem NN {t:Bool} {a b:Unit→Prop} (h1:t=true→a ()) (h2:t=false→b ()):K7 (.bool t) a b:=by
 cases t with
 | true=>exact h1 rfl
 | false=>exact h2 rfl
theorem Uv {b:SC}:Tr n0 b K .normal st=go n0 b st K:=rfl
theorem Uw {b:SC} {i:Nat}:Tr n0 b K (.exit i) st=K (.exit i) st:=rfl
theorem Ux {b:SC}:Tr n0 b K .ret st=K .ret st:=rfl
theorem Vo {id:Nat}:blk id K .normal st=K .normal st:=rfl
theorem Vp {id i:Nat}:blk id K (.exit i) st=if i=id then K .normal st else K (.exit i) st:=rfl
theorem Vq {id:Nat}:blk id K .ret st=K .ret st:=rfl
theorem Tx:R7 (some st) K=K .normal st:=rfl
def quiet:List Ent→Bool
 | []=>true
 | ⟨_,_,[],_⟩ :: r=>quiet r
 | ⟨_,_,_ :: _,_⟩ :: _=>false
theorem K8 {anc:List (List Nat)} {rd:List Nat} {j:Nat}:∀ {l:List Ent} {i:Nat},quiet l=true→Ow anc rd [] j (H1 l) i=true
 | [],i,_=>rfl
 | ⟨_,_,[],rdi⟩ :: r,i,h=>by
  have:=K8 (anc:=anc) (rd:=rd) (j:=j) (l:=r) (i:=i+1) h
  simp only [H1,zB,zG] at this ⊢
  simp only [Ow,this,zT]
  have e1:meets [] (rd++[])=false:=rfl
  have e2:meets rdi []=false:=by cases rdi <;> simp [meets]
  rw [e1,e2]; rfl
theorem Qt {l l':List Ent} (h:quiet l=true) (h':quiet l'=true):quiet (l++l')=true:=by
 induction l with
 | nil=>exact h'
 | cons x r ih =>
  obtain ⟨a,b,c,d⟩:=x
  cases c with
  | nil=>exact ih h
  | cons _ _=>cases h
theorem LW {anc:List (List Nat)}:∀ {l pre:List Ent} {j:Nat},quiet pre=true→quiet l=true→obB anc (H1 pre) (H1 l) j=true
 | [],pre,j,_,_=>rfl
 | ⟨a,b,[],rd⟩ :: r,pre,j,hp,h=>by
  have e:=LW (anc:=anc) (l:=r) (pre:=pre++[⟨a,b,[],rd⟩]) (j:=j+1) (Qt hp rfl) h
  have e2:=K8 (anc:=anc) (rd:=rd) (j:=j) (i:=0) hp
  simp only [H1,zW,zB,zG] at e e2 ⊢
  simp only [obB,e2,e,zL]
theorem Ty {anc:List (List Nat)} {es:List Ent}:R8 anc (some (es,st)) K=match quiet es with
  | true=>K .normal st
  | false=>obB anc [] (H1 es) 0=true∧K .normal st:=by
 show (obB anc [] (H1 es) 0=true∧K .normal st)=_
 cases h:quiet es with
 | true=>exact propext ⟨fun h=>h.2,fun h'=>⟨LW (pre:=[]) rfl h,h'⟩⟩
 | false=>rfl
noncomputable def Uy (r:List SOper) (e:Option (Ent × St)):Option St :=
 match e with
 | some (_,st)=>OQ r st
 | none=>none
noncomputable def Uz (r:List SOper) (acc:List Ent) (e:Option (Ent × St)):Option (List Ent × St) :=
 match e with
 | some (x,st)=>OR r (acc++[x]) st
 | none=>none
noncomputable def opF (so:SOp) (sl:List SV) (ob:List Ob):Option R3:=fOp Tryz.prog calls so sl ob
theorem RB:OQ [] st=some st:=rfl
theorem Qu {d:Option Tmp} {so:SOp} {r:List SOper} {sl:List SV} {ob:List Ob}:OQ (⟨d,none,so⟩ :: r) ⟨sl,ob⟩=Uy r (Hh d ⟨sl,ob⟩ (opF so sl ob)):=rfl
noncomputable def gdF (d:Option Tmp) (so:SOp) (want:Bool) (sl:List SV) (ob:List Ob) (v:SV):Option (Ent × St) :=
 match v with
 | .bool b=>bif O8 b want then Hh d ⟨sl,ob⟩ (opF so sl ob) else some (⟨false,.tup [],[],[]⟩,⟨E6 sl d (.tup []),ob⟩)
 | .tup []=>some (⟨false,.tup [],[],[]⟩,⟨E6 sl d (.tup []),ob⟩)
 | _=>none
theorem Tz {d:Option Tmp} {k:Nat} {want:Bool} {so:SOp} {r:List SOper} {sl:List SV} {ob:List Ob}:OQ (⟨d,some (k,want),so⟩ :: r) ⟨sl,ob⟩=Uy r (gdF d so want sl ob (gets sl k)):=rfl
theorem RC {acc:List Ent}:OR [] acc st=some (acc,st):=rfl
theorem Qv {d:Option Tmp} {so:SOp} {r:List SOper} {acc:List Ent} {sl:List SV} {ob:List Ob}:OR (⟨d,none,so⟩ :: r) acc ⟨sl,ob⟩=Uz r acc (Hh d ⟨sl,ob⟩ (opF so sl ob)):=rfl
theorem T0 {d:Option Tmp} {k:Nat} {want:Bool} {so:SOp} {r:List SOper} {acc:List Ent} {sl:List SV} {ob:List Ob}:OR (⟨d,some (k,want),so⟩ :: r) acc ⟨sl,ob⟩=Uz r acc (gdF d so want sl ob (gets sl k)):=rfl
theorem U0 {r:List SOper} {e:Ent}:Uy r (some (e,st))=OQ r st:=rfl
theorem U1 {r:List SOper} {acc:List Ent} {e:Ent}:Uz r acc (some (e,st))=OR r (acc++[e]) st:=rfl
theorem Vr {d:Option Tmp} {so:SOp} {sl:List SV} {ob:List Ob}:gdF d so true sl ob (.bool true)=Hh d ⟨sl,ob⟩ (opF so sl ob):=rfl
theorem U2 {d:Option Tmp} {so:SOp} {sl:List SV} {ob:List Ob}:gdF d so false sl ob (.bool false)=Hh d ⟨sl,ob⟩ (opF so sl ob):=rfl
theorem U3 {d:Option Tmp} {so:SOp} {sl:List SV} {ob:List Ob}:gdF d so true sl ob (.bool false)=some (⟨false,.tup [],[],[]⟩,⟨E6 sl d (.tup []),ob⟩):=rfl
theorem U4 {d:Option Tmp} {so:SOp} {sl:List SV} {ob:List Ob}:gdF d so false sl ob (.bool true)=some (⟨false,.tup [],[],[]⟩,⟨E6 sl d (.tup []),ob⟩):=rfl
theorem Vs {d:Option Tmp} {so:SOp} {want:Bool} {sl:List SV} {ob:List Ob}:gdF d so want sl ob (.tup [])=some (⟨false,.tup [],[],[]⟩,⟨E6 sl d (.tup []),ob⟩):=rfl
theorem U5 {d:Option Tmp} {x:SV} {rd:List Nat}:Hh d st (some (x,[],rd))=some (⟨true,x,[],rd⟩,⟨E6 st.sl d x,st.ob⟩):=rfl
theorem U6 {d:Option Tmp} {x:SV} {q:Nat × Ob} {u:List (Nat × Ob)} {rd:List Nat}:Hh d st (some (x,q :: u,rd))=bif Qc (CN st.ob (q :: u)).length (q :: u) then some (⟨true,x,q :: u,rd⟩,⟨E6 st.sl d x,CN st.ob (q :: u)⟩) else none:=rfl
def NO (ob:List Ob) (xs:List SV) (sel:List Nat) (r:Option (SV × List Ob)) (n:Nat):Option R3 :=
 match r with
 | some (r,fob')=>bif decide (n≤fob'.length) then some (EZ sel (Ba sel xs) ob.length r fob') else none
 | none=>none
def U7 (hd:List Bool) (f:FuncId) (xs:List SV) (ob:List Ob) (sel:List Nat) (e:List SV→List Ob→Option (SV × List Ob)) (b:Option (List Ob)):Option R3 :=
 match b with
 | some fob=>bif Fp sel&&H9 ob.length sel&&FS fob.length fob then NO ob xs sel (e (EX hd (Ac ob) sel xs) fob) fob.length else none
 | none=>none
def RD (hd:List Bool) (f:FuncId) (xs:List SV) (ob:List Ob) (sel:List Nat) (e:List SV→List Ob→Option (SV × List Ob)):Option R3:=U7 hd f xs ob sel e (Es sel ob sel)
theorem RE {f:FuncId} {xs:List SV} {ob:List Ob}:calls f xs ob=E9 (modes f).res (RD (modes f).hand f xs ob (reach ob 64 (F9 (modes f).hand xs) []) (E f)):=rfl
theorem U8 {r:Option R3}:E9 .asis r=r:=rfl
theorem U9 {r:Option R3}:E9 .frz r=r:=rfl
theorem UA {l:List (Option (Nat × Nat))} {r:Option R3}:E9 (.own l) r=r:=rfl
theorem UC {l:List (Option (Nat × Nat))} {r:Option R3}:E9 (.half l) r=r:=rfl
theorem UD {l:List (Option (Nat × Nat))} {r:Option R3}:E9 (.tr l) r=r:=rfl
theorem UE {d n:Nat} {r:Option R3}:E9 (.frzg d n) r=r:=rfl
theorem UF {d n:Nat} {l:List (Option (Nat × Nat))} {r:Option R3}:E9 (.halfg d n l) r=r:=rfl
theorem UG {l:List Nat} {r:Option R3}:E9 (.frl l) r=r:=rfl
theorem UH {r:R3}:E9 .late (some r)=N4 r:=rfl
theorem HI:∀ u:List (Nat × Ob),Dd [] u=u
 | []=>rfl
 | (g,o) :: u=>by rw [Dd,HI u]; rfl
theorem UI {m:RM} {b:Bool} {u:List (Nat × Ob)} {rd:List Nat}:E9 m (some (.bool b,u,rd))=some (.bool b,u,rd):=by
 cases m <;> first | rfl | (show some (SV.bool b,Dd [] u,rd)=_; rw [HI])
theorem UJ {m:RM} {k:IntKind} {n:Int} {u:List (Nat × Ob)} {rd:List Nat}:E9 m (some (.int k n,u,rd))=some (.int k n,u,rd):=by
 cases m <;> first | rfl | (show some (SV.int k n,Dd [] u,rd)=_; rw [HI])
theorem Qw {hd:List Bool} {f:FuncId} {xs:List SV} {ob:List Ob} {e:List SV→List Ob→Option (SV × List Ob)}:RD hd f xs ob [] e=NO ob xs [] (e (EX hd (Ac ob) [] xs) []) 0:=rfl
theorem OS {hd:List Bool} {f:FuncId} {xs:List SV} {ob:List Ob} {g:Nat} {r:List Nat} {e:List SV→List Ob→Option (SV × List Ob)}:RD hd f xs ob (g :: r) e=U7 hd f xs ob (g :: r) e (Es (g :: r) ob (g :: r)):=rfl
theorem T1 {ob:List Ob} {xs:List SV} {r:SV} {fob':List Ob}:NO ob xs [] (some (r,fob')) 0=some (EZ [] (Ba [] xs) ob.length r fob'):=rfl
theorem T2 {ob:List Ob} {xs:List SV} {sel:List Nat} {r:SV} {fob':List Ob} {n:Nat}:NO ob xs sel (some (r,fob')) n=bif decide (n≤fob'.length) then some (EZ sel (Ba sel xs) ob.length r fob') else none:=rfl
theorem UK {hd:List Bool} {f:FuncId} {xs:List SV} {ob:List Ob} {sel:List Nat} {fob:List Ob} {e:List SV→List Ob→Option (SV × List Ob)}:U7 hd f xs ob sel e (some fob)=bif Fp sel&&H9 ob.length sel&&FS fob.length fob then NO ob xs sel (e (EX hd (Ac ob) sel xs) fob) fob.length else none:=rfl
theorem Qx {p:Nat} {r:SV}:EZ [] [] p r []=(r.ren (sgp [] p),[],[]):=rfl
def MA {α:Type} (n0:Nat) (keep:List Nat) (H:α→St) (R:α→Prop) (μ:α→Nat) (a:α) (K:X→St→Prop):X→St→Prop
 | .normal,st'=>∃ y,R y∧μ y < μ a∧canon n0 keep st'=H y
 | .exit i,st'=>K (.exit i) st'
 | .ret,st'=>K .ret st'
theorem RF {α:Type} {keep:List Nat} {H:α→St} {R:α→Prop} {μ:α→Nat} {a:α} {st':St}:MA n0 keep H R μ a K .normal st'=∃ y,R y∧μ y < μ a∧canon n0 keep st'=H y:=rfl
theorem RG {α:Type} {keep:List Nat} {H:α→St} {R:α→Prop} {μ:α→Nat} {a:α} {i:Nat} {st':St}:MA n0 keep H R μ a K (.exit i) st'=K (.exit i) st':=rfl
theorem RH {α:Type} {keep:List Nat} {H:α→St} {R:α→Prop} {μ:α→Nat} {a:α} {st':St}:MA n0 keep H R μ a K .ret st'=K .ret st':=rfl
theorem go_loop {α:Type} {keep:List Nat} {b:SC} (H:α→St) (R:α→Prop) (μ:α→Nat) (a0:α) (hR:R a0) (h0:canon n0 keep st=H a0) (round:∀ a,R a→go n0 b (H a) (MA n0 keep H R μ a K)):go n0 (.loop keep b) st K:=by
 have key:∀ (n:Nat) (a:α) (st:St),μ a≤n→R a→canon n0 keep st=H a→∃ x st',LQ n0 keep (run n0 b) st=some (x,st')∧K x st':=by
  intro n
  induction n with
  | zero =>
   intro a st hn hR hc
   obtain ⟨x,st',h,k⟩:=round a hR
   cases x with
   | normal =>
    obtain ⟨y,_,h2,_⟩:=k
    omega
   | exit i=>exact ⟨_,st',by rw [G0,hc,h]; rfl,k⟩
   | ret=>exact ⟨_,st',by rw [G0,hc,h]; rfl,k⟩
  | succ n ih =>
   intro a st hn hR hc
   obtain ⟨x,st',h,k⟩:=round a hR
   cases x with
   | normal =>
    obtain ⟨y,h1,h2,h3⟩:=k
    obtain ⟨x2,st2,h4,k2⟩:=ih y st' (by omega) h1 h3
    exact ⟨x2,st2,by rw [G0,hc,h]; exact h4,k2⟩
   | exit i=>exact ⟨_,st',by rw [G0,hc,h]; rfl,k⟩
   | ret=>exact ⟨_,st',by rw [G0,hc,h]; rfl,k⟩
 exact key (μ a0) a0 st (yF _) hR h0
def MB (n0:Nat) (keep keepO:List Nat) (H:EL→St) (F:X × St) (p:EL):X→St→Prop
 | .normal,st'=>canon n0 keep st'=H p
 | .exit i,st'=>F=(.exit i,canon n0 keepO st')
 | .ret,st'=>F=(.ret,canon n0 keepO st')
def TV (n0:Nat) (keepO:List Nat) (F:X × St):X→St→Prop
 | .normal,_=>False
 | .exit i,st'=>F=(.exit i,canon n0 keepO st')
 | .ret,st'=>F=(.ret,canon n0 keepO st')
theorem Qy {keep keepO:List Nat} {H:EL→St} {F:X × St} {p:EL} {st':St}:MB n0 keep keepO H F p .normal st'=(canon n0 keep st'=H p):=rfl
theorem Qz {keep keepO:List Nat} {H:EL→St} {F:X × St} {p:EL} {i:Nat} {st':St}:MB n0 keep keepO H F p (.exit i) st'=(F=(.exit i,canon n0 keepO st')):=rfl
theorem Q0 {keep keepO:List Nat} {H:EL→St} {F:X × St} {p:EL} {st':St}:MB n0 keep keepO H F p .ret st'=(F=(.ret,canon n0 keepO st')):=rfl
theorem T3 {keepO:List Nat} {F:X × St} {i:Nat} {st':St}:TV n0 keepO F (.exit i) st'=(F=(.exit i,canon n0 keepO st')):=rfl
theorem T4 {keepO:List Nat} {F:X × St} {st':St}:TV n0 keepO F .ret st'=(F=(.ret,canon n0 keepO st')):=rfl
end
def slots:Nat→Nat→List (Nat × SV)→List SV
 | 0,_,_=>[]
 | n+1,k,[]=>.any :: slots n (k+1) []
 | n+1,k,(j,x) :: r=>bif j == k then x :: slots n (k+1) r else .any :: slots n (k+1) ((j,x) :: r)
def T5 (res:RM) (n0:Nat) (rs:List RX) (out:SV × List Ob) (x:X) (st:St):Prop:=fin res n0 rs x st=some out
def UL (res:RM) (n0:Nat) (r:Option (SV × List Ob)):Option (SV × List Ob) :=
 match r with
 | some (r,ob)=>order res n0 r ob
 | none=>none
def NP (res:RM) (n0:Nat) (ob:List Ob) (r:Option SV):Option (SV × List Ob) :=
 match r with
 | some r0=>UL res n0 (gc n0 r0 ob)
 | none=>none
theorem UM {res:RM} {n0:Nat} {rs:List RX} {out:SV × List Ob} {sl:List SV} {ob:List Ob}:T5 res n0 rs out .ret ⟨sl,ob⟩=(NP res n0 ob (Lh ⟨sl,ob⟩ rs)=some out):=rfl
theorem UN {res:RM} {n0:Nat} {rs:List RX} {out:SV × List Ob} {sl:List SV} {ob:List Ob}:T5 res n0 rs out .normal ⟨sl,ob⟩=(NP res n0 ob (Lh ⟨sl,ob⟩ rs)=some out):=rfl
theorem T6 {res:RM} {n0:Nat} {ob:List Ob} {r:SV}:NP res n0 ob (some r)=UL res n0 (gc n0 r ob):=rfl
theorem UO {n0:Nat} {r:SV} {ob:List Ob} {res:RM}:UL res n0 (some (r,ob))=order res n0 r ob:=rfl
theorem Ab {f:FuncId} {fc:FC} {hand:List Bool} {res:RM} {tr:Bool} {xs:List SV} {ob:List Ob} {out:SV × List Ob} (hc:A1 Tryz.prog f=some fc) (hr:modes f=⟨hand,res,none,tr⟩) (hn:xs.length≤fc.nt) (h:go ob.length (Em res fc.sc) ⟨xs++If (fc.nt-xs.length),entry tr ob⟩ (T5 res ob.length fc.rs out)):E f xs ob=some out:=by
 obtain ⟨x,st',h1,h2⟩:=h
 unfold E
 rw [TT]
 unfold Fb
 rw [hc,hr]
 simp only
 rw [decide_eq_true hn,cond_true]
 have h1:fr Tryz.prog (Cy modes (ev Tryz.prog modes)) (HD ob.length) (Em res fc.sc) ⟨xs++If (fc.nt-xs.length),entry tr ob⟩=some (x,st'):=h1
 rw [h1]
 exact h2
theorem MC {f:FuncId} {g:List SV→List Ob→Option (SV × List Ob)} {xs:List SV} {ob:List Ob} (hg:(modes f).ext=some g):E f xs ob=g xs ob:=by
 unfold E
 rw [TT]
 unfold Fb
 rw [hg]
theorem PA {f:FuncId} {g:List SV→Option SV} {xs:List SV} {r:SV} (hg:(modes f).ext=some (J4 g)) (h:g xs=some r):E f xs []=some (r,[]):=by
 rw [MC hg]
 simp only [J4,h]
theorem AU:modes 36=⟨[],.asis,some (J4 R2),false⟩:=by unfold modes; rfl
theorem CZ (s:ByteArray):E 36 [.str s] []=some (.bool (Bi s),[]):=PA (g:=R2) (congrArg FM.ext AU) rfl
theorem Bm:modes 43=⟨[],.asis,some (J4 R4),false⟩:=by unfold modes; rfl
theorem Fc (s:ByteArray):E 43 [.str s] []=some (.bool (Bi s),[]):=PA (g:=R4) (congrArg FM.ext Bm) rfl
theorem Bf:modes 72=⟨[],.asis,some (J4 R5),false⟩:=by unfold modes; rfl
theorem K9 (s:ByteArray):E 72 [.str s] []=some (.bool (Ei s),[]):=PA (g:=R5) (congrArg FM.ext Bf) rfl
theorem Dt:modes 92=⟨[],.asis,some (J4 R6),false⟩:=by unfold modes; rfl
theorem OU (s:ByteArray):E 92 [.str s] []=some (.bool (Ei s),[]):=PA (g:=R6) (congrArg FM.ext Dt) rfl
abbrev Tm.sv (x:Tm):SV:=.agg [.str x.name,.arr (x.args.map Tm.d)]
mutual
def Tm.o:Tm→List OT
 | .mk name args=>[.str name,.ow (Tm.os args)]
def Tm.os:List Tm→List (List OT)
 | []=>[]
 | x :: xs=>Tm.o x :: Tm.os xs
end
theorem Tm.TW:∀ xs:List Tm,Tm.os xs=xs.map Tm.o
 | []=>rfl
 | x :: xs=>by rw [Tm.os,Tm.TW xs]; rfl
theorem Tm.KA (x:Tm):Tm.o x=[.str x.name,.ow (x.args.map Tm.o)]:=by
 obtain ⟨name,args⟩:=x
 rw [Tm.o,Tm.TW]; rfl
theorem Tm.OV:∀ xs:List Tm,(∀ x∈xs,OT.ers (Tm.o x)=Tm.d x)→OT.erss (xs.map Tm.o)=xs.map Tm.d
 | [],_=>rfl
 | x :: xs,h=>by
  simp only [zB,OT.erss]
  rw [h x (by simp),Tm.OV xs fun y hy=>h y (by simp [hy])]
theorem Tm.er (x:Tm):OT.ers (Tm.o x)=Tm.d x:=by
 have h:=Tm.OV x.args fun y hy=>Tm.er y
 rw [Tm.KA,Tm.d_eq]
 simp only [OT.ers,OT.er,h]
termination_by SizeOf.sizeOf x
decreasing_by exact Tm.AL hy
theorem Tm.erss (xs:List Tm):OT.erss (xs.map Tm.o)=xs.map Tm.d:=Tm.OV xs fun x _=>Tm.er x
theorem Tm.OW:∀ xs:List Tm,(∀ x∈xs,OT.El (Tm.o x)=true)→OT.BV (xs.map Tm.o)=true
 | [],_=>rfl
 | x :: xs,h=>by
  simp only [zB,OT.BV]
  rw [h x (by simp),Tm.OW xs fun y hy=>h y (by simp [hy])]; rfl
theorem Tm.no (x:Tm):OT.El (Tm.o x)=true:=by
 have h:=Tm.OW x.args fun y hy=>Tm.no y
 rw [Tm.KA]
 simp only [OT.El,OT.noSh,h,zL,zT]
termination_by SizeOf.sizeOf x
decreasing_by exact Tm.AL hy
theorem Tm.noss (xs:List Tm):OT.BV (xs.map Tm.o)=true:=Tm.OW xs fun x _=>Tm.no x
abbrev Tm.osv (x:Tm):SV:=.agg [.str x.name,.ref 0]
abbrev Tm.obs (x:Tm):List Ob:=[.row 31 2 (x.args.map Tm.o)]
abbrev Bd.sv (x:Bd):SV:=.agg [.str x.var,.str x.term.name,.arr (x.term.args.map Tm.d)]
def Bd.o (x:Bd):List OT:=[.str x.var,.str x.term.name,.ow (x.term.args.map Tm.o)]
theorem Bd.er (x:Bd):OT.ers (Bd.o x)=Bd.d x:=by
 simp only [Bd.o,Bd.d,OT.ers,OT.er,Tm.erss]
theorem Bd.erss:∀ xs:List Bd,OT.erss (xs.map Bd.o)=xs.map Bd.d
 | []=>rfl
 | x :: xs=>by simp only [zB,OT.erss,Bd.er,Bd.erss xs]
theorem Bd.no (x:Bd):OT.El (Bd.o x)=true:=by
 simp only [Bd.o,OT.El,OT.noSh,Tm.noss,zL,zT]
theorem Bd.noss:∀ xs:List Bd,OT.BV (xs.map Bd.o)=true
 | []=>rfl
 | x :: xs=>by simp only [zB,OT.BV,Bd.no,Bd.noss xs,zL]
abbrev Sb.sv (x:Sb):SV:=.agg [.arr (x.binds.map Bd.d)]
def Sb.o (x:Sb):List OT:=[.ow (x.binds.map Bd.o)]
theorem Sb.er (x:Sb):OT.ers (Sb.o x)=Sb.d x:=by
 simp only [Sb.o,Sb.d,OT.ers,OT.er,Bd.erss]
theorem Sb.erss:∀ xs:List Sb,OT.erss (xs.map Sb.o)=xs.map Sb.d
 | []=>rfl
 | x :: xs=>by simp only [zB,OT.erss,Sb.er,Sb.erss xs]
theorem Sb.no (x:Sb):OT.El (Sb.o x)=true:=by
 simp only [Sb.o,OT.El,OT.noSh,Bd.noss,zL,zT]
theorem Sb.noss:∀ xs:List Sb,OT.BV (xs.map Sb.o)=true
 | []=>rfl
 | x :: xs=>by simp only [zB,OT.BV,Sb.no,Sb.noss xs,zL]
abbrev Sb.osv (x:Sb):SV:=.agg [.ref 0]
abbrev Sb.obs (x:Sb):List Ob:=[.row 55 3 (x.binds.map Bd.o)]
theorem FZ {n:Int} (h1:-9223372036854775808≤n) (h2:n≤9223372036854775807):dec (inK .i64 n)=true:=Bs (SR.2 ⟨h1,h2⟩)
theorem get_at {α β:Type} (f:α→β) {xs:List α} {k:Nat} (h:k<xs.length):(xs.map f)[k]?=some (f xs[k]):=by rw [List.getElem?_map,zR h]; rfl
theorem Vt:dec True=true:=Bs trivial
theorem Vu:dec False=false:=BW fun h=>h
attribute [go_sem] Ti Th UF UE R9 N9 SC.CW Rw pfx DE Hp OT.BX OT.Ho OT.half UC Tf EX Nv SV.isNil Ob.idsB SV.idsB SV.Jm List.getElem?_cons_zero List.getElem?_cons_succ OT.AB OT.CJ OT.full entry toTree P4 N8 P3 Ed F8 DH Rj L3 Rs OT.erss OT.ers OT.er OT.BV OT.El OT.noSh quiet obB Ow H1 meets Gl go_skip Ts go_ret Ut Tt Uu RA Tu Tv Tw Uv Uw Ux Vo Vp Vq Tx Ty RB Qu Tz RC Qv T0 U0 U1 Vr U2 U3 U4 Vs U5 U6 RE U8 U9 UA UD UG UH UI UJ N4 N3 Dd seen Qw OS T1 T2 UK Qx EZ RF RG RH UM UN T6 UO order opF fOp Ec Pz SS Px Py Ri Gt eqK Az gets Ac Lg E6 CN HY Kd AF Qc SV.cellsN SV.one Hj splice Dj Nh Hi HW CV Bx BD Bu Fx Ge Oy eOp.mkEs eOp.addS D.sv OT.sv D.ot F3 Fp reach SV.refs SV.LF SV.ptrs SV.LG Ob.refs Ob.liveB F9 Es SV.back SV.Jn Ob.back F1 Gf Cb Ba AZ H9 FS SV.ren SV.Ic Ob.ren mkU sgp gc Jr names Ig SW SY SZ Ks Rt Ta Tc Td Te Tg Tj SC.mark LK EA slots Lh O6 rxV If N2 SV.noSh SV.Jj Ob.noSh SV.own SV.M2 Eh cond_true cond_false yD yA zB zG List.drop_succ_cons zU List.drop_nil List.take_succ_cons y9 List.take_nil y7 y8 yJ List.all_cons List.all_nil List.getD_cons_zero List.getD_cons_succ xA List.any_nil List.contains_cons List.contains_nil List.isEmpty_nil List.isEmpty_cons List.flatten_cons List.flatten_nil List.replicate_succ List.replicate_zero yW yX y4 yU yF zP zT xB zL Bool.or_false y0 Bool.true_or Bool.or_true Bool.not_true Bool.not_false yN zQ decide_true decide_false beq_self_eq_true if_true if_false y6 Option.map_none zN yI y3 yO true_and and_true and_self eq_self_iff_true zM Bool.false_eq_true Bool.true_eq_false zS SV.int.injEq SV.bool.injEq SV.str.injEq SV.agg.injEq SV.tup.injEq SV.arr.injEq List.cons.injEq St.mk.injEq Int.zero_add Vt Vu FZ Bs BW Vh svK svD QP svM MV.sv Pm Rk Rl Rm Fo St.app NB MK.sv Qy Qz Q0 T3 T4
attribute [go_sem_proc] Nat.reduceAdd Nat.reduceSub Nat.reduceLT Nat.reduceLeDiff Nat.reduceEqDiff Nat.reduceBEq Nat.reduceBneDiff Nat.reduceMul Int.reduceToNat Int.reduceNeg Int.reduceAdd reduceCtorEq
attribute [go_sem_proc ↓] reduceIte
theorem PB:∀ xs:List ByteArray,OT.AB (xs.map fun s=>[OT.str s])=true
 | []=>rfl
 | x :: xs=>by simp only [zB,OT.AB,OT.CJ,OT.full,PB xs,zL]
theorem PC:∀ xs:List Int,OT.AB (xs.map fun n=>[OT.int n])=true
 | []=>rfl
 | x :: xs=>by simp only [zB,OT.AB,OT.CJ,OT.full,PC xs,zL]
theorem Tm.RI:∀ xs:List Tm,(∀ x∈xs,OT.CJ (Tm.o x)=true)→OT.AB (xs.map Tm.o)=true
 | [],_=>rfl
 | x :: xs,h=>by
  simp only [zB,OT.AB]
  rw [h x (by simp),Tm.RI xs fun y hy=>h y (by simp [hy])]; rfl
theorem Tm.fu (x:Tm):OT.CJ (Tm.o x)=true:=by
 have h:=Tm.RI x.args fun y hy=>Tm.fu y
 rw [Tm.KA]
 simp only [OT.CJ,OT.full,h,zL,zT]
termination_by SizeOf.sizeOf x
decreasing_by exact Tm.AL hy
theorem Tm.fus (xs:List Tm):OT.AB (xs.map Tm.o)=true:=Tm.RI xs fun x _=>Tm.fu x
theorem Bd.fu (x:Bd):OT.CJ (Bd.o x)=true:=by
 simp only [Bd.o,OT.CJ,OT.full,Tm.fus,zL,zT]
theorem Bd.fus:∀ xs:List Bd,OT.AB (xs.map Bd.o)=true
 | []=>rfl
 | x :: xs=>by simp only [zB,OT.AB,Bd.fu,Bd.fus xs,zL]
theorem Sb.fu (x:Sb):OT.CJ (Sb.o x)=true:=by
 simp only [Sb.o,OT.CJ,OT.full,Bd.fus,zL,zT]
theorem Sb.fus:∀ xs:List Sb,OT.AB (xs.map Sb.o)=true
 | []=>rfl
 | x :: xs=>by simp only [zB,OT.AB,Sb.fu,Sb.fus xs,zL]
attribute [go_sem] PB PC Tl Tn To Tp Tm.fus Tm.erss Tm.noss Bd.fus Bd.erss Bd.noss Sb.fus Sb.erss Sb.noss
theorem RJ {α:Type} (a:α):dec (a=a)=true:=Bs rfl
def EG {α β:Type} (f:α→β) (z:β) (xs:List α) (k:Nat):List β:=(xs.take k).map f++zE (xs.length-k) z
section
variable {α β:Type} (f:α→β) (z:β) {xs:List α} {k:Nat}
theorem KB:EG f z xs 0=zE xs.length z:=by simp [EG]
theorem LX:(EG f z xs k).length=xs.length:=by simp [EG]; omega
theorem LY:EG f z xs xs.length=xs.map f:=by simp [EG]
theorem LZ (h:k<xs.length):(EG f z xs k)[k]?=some z:=by
 have hl:((xs.take k).map f).length=k:=by simp; omega
 unfold EG
 rw [List.getElem?_append_right (by omega),hl,Nat.sub_self,List.getElem?_replicate]
 simp; omega
theorem Ma (h:k<xs.length):(EG f z xs k).set k (f xs[k])=EG f z xs (k+1):=by
 have hl:((xs.take k).map f).length=k:=by simp; omega
 have e:List.take (k+1) xs=List.take k xs++[xs[k]]:=yP h
 unfold EG
 rw [List.set_append_right _ _ (by omega),hl,Nat.sub_self,e,zW,yZ]
 congr 1
 rw [show xs.length-k=(xs.length-(k+1))+1 by omega,List.replicate_succ,yW]
 rfl
end
theorem T7 (a b:Int):(bif dec (a<b) then b else a)=max a b:=by
 by_cases h:a<b
 ·rw [Bs h,cond_true,Int.max_eq_right (by omega)]
 ·rw [BW h,cond_false,Int.max_eq_left (by omega)]
def De {α:Type} (p:α→Bool):List α→Int→Int
 | [],_=>-1
 | x :: xs,i=>if p x then i else De p xs (i+1)
theorem Ij {α:Type} (p:α→Bool):∀ (xs:List α),dec (0≤De p xs 0)=xs.any p:=by
 have key:∀ (xs:List α) (i:Int),0≤i→(0≤De p xs i ↔ xs.any p=true):=by
  intro xs
  induction xs with
  | nil=>intro i h; simp [De]
  | cons x xs ih =>
   intro i h
   simp only [De,xA,yT]
   by_cases hp:p x=true
   ·simp [hp,h]
   ·rw [if_neg hp,ih (i+1) (by omega)]; simp [hp]
 intro xs
 cases h:xs.any p with
 | true=>exact Bs ((key xs 0 (by omega)).2 h)
 | false=>exact BW fun h'=>by rw [(key xs 0 (by omega)).1 h'] at h; cases h
mutual
def Tm.nodes:Tm→Nat
 | .mk _ args=>1+Tm.Bb args
def Tm.Bb:List Tm→Nat
 | []=>0
 | x :: xs=>Tm.nodes x+Tm.Bb xs
end
mutual
def Tm.deep:Tm→Nat
 | .mk _ args=>Tm.Fd args+1
def Tm.Fd:List Tm→Nat
 | []=>0
 | x :: xs=>max (Tm.deep x) (Tm.Fd xs)
end
mutual
def Tm.names:Tm→Bool
 | .mk name args=>if Bi name then args.length == 0 else Ei name&&decide (args.length≤4)&&Tm.Dm args
def Tm.Dm:List Tm→Bool
 | []=>true
 | x :: xs=>Tm.names x&&Tm.Dm xs
end
def Tm.small (x:Tm):Bool:=decide (x.nodes≤30)&&decide (x.deep≤8)
def Tm.valid (x:Tm):Bool:=x.small&&x.names
noncomputable def Tm.eqn (x:Tm):Bool:=dec (x.name=⟨#[61]⟩)
noncomputable def Tm.atom (x:Tm):Bool:=if x.eqn then x.args.length == 2&&x.small&&Tm.Dm x.args else Ei x.name&&x.valid
noncomputable def Tm.expr (x:Tm):Bool:=x.valid || x.atom
theorem MD {p q:Prop} (h:p ↔ q):dec p=dec q:=by rw [propext h]
theorem Tm.Ao (x:Tm):x.nodes=1+Tm.Bb x.args:=by
 obtain ⟨name,args⟩:=x
 rw [Tm.nodes]; rfl
theorem Tm.Mb (x:Tm):1≤x.nodes:=by rw [Tm.Ao]; omega
theorem Tm.Ik:∀ (xs:List Tm) (k:Nat) (h:k<xs.length),xs[k].nodes≤Tm.Bb xs
 | [],k,h=>absurd h (by simp)
 | x :: xs,0,_=>by rw [Tm.Bb]; simp
 | x :: xs,k+1,h=>by
  have:=Tm.Ik xs k (by simpa using h)
  rw [Tm.Bb]; simp only [yM]; omega
theorem Tm.ME (x:Tm):x.deep=Tm.Fd x.args+1:=by
 obtain ⟨name,args⟩:=x
 rw [Tm.deep]; rfl
theorem Tm.G3:∀ xs:List Tm,(∀ y∈xs,y.deep≤y.nodes)→Tm.Fd xs≤Tm.Bb xs
 | [],_=>by simp [Tm.Fd]
 | x :: xs,h=>by
  have h1:=h x (by simp)
  have h2:=Tm.G3 xs fun y hy=>h y (by simp [hy])
  rw [Tm.Fd,Tm.Bb]; omega
theorem Tm.Fq (x:Tm):x.deep≤x.nodes:=by
 rw [Tm.ME,Tm.Ao]
 have:=Tm.G3 x.args fun y hy=>Tm.Fq y
 omega
termination_by SizeOf.sizeOf x
decreasing_by exact Tm.AL hy
theorem Tm.EH (x:Tm):x.names=if Bi x.name then x.args.length == 0 else Ei x.name&&decide (x.args.length≤4)&&Tm.Dm x.args:=by
 obtain ⟨name,args⟩:=x
 rw [Tm.names]; rfl
theorem Tm.Ez:∀ xs:List Tm,Tm.Dm xs=xs.all Tm.names
 | []=>rfl
 | x :: xs=>by rw [Tm.Dm,Tm.Ez xs]; rfl
theorem Tm.length_le:∀ xs:List Tm,xs.length≤Tm.Bb xs
 | []=>yF _
 | x :: xs=>by
  have:=Tm.length_le xs
  have:=Tm.Mb x
  rw [Tm.Bb]; simp only [yD]; omega
theorem Tm.BU {xs:List Tm} {y:Tm} (h:y∈xs):y.nodes≤Tm.Bb xs:=by
 obtain ⟨k,hk,rfl⟩:=zV h
 exact Tm.Ik xs k hk
theorem Q1 {xs:List Tm} (h:xs.length=2):Tm.Dm xs=((xs[0]'(by omega)).names&&(xs[1]'(by omega)).names):=by
 match xs,h with
 | [a,b],_=>simp [Tm.Dm]
mutual
def Tm.cap:Tm→Int
 | .mk _ xs=>Tm.IS xs 1
def Tm.IS:List Tm→Int→Int
 | [],n=>n
 | x :: xs,n=>if 30 < n then n else Tm.IS xs (n+Tm.cap x)
end
theorem Tm.RK (x:Tm):x.cap=Tm.IS x.args 1:=by
 obtain ⟨n,xs⟩:=x
 rw [Tm.cap]; rfl
theorem Tm.Mc:∀ (xs:List Tm) (n:Int),(∀ x∈xs,1≤x.cap∧x.cap≤x.nodes∧(x.cap≤30→x.cap=x.nodes))→1≤n→n≤Tm.IS xs n∧Tm.IS xs n≤n+Tm.Bb xs∧(Tm.IS xs n≤30→Tm.IS xs n=n+Tm.Bb xs)
 | [],n,_,h=>by simp [Tm.IS,Tm.Bb]
 | x :: xs,n,hx,h=>by
  rw [Tm.IS,Tm.Bb]
  have h1:=hx x (by simp)
  split
  ·omega
  ·have:=Tm.Mc xs (n+x.cap) (fun y hy=>hx y (by simp [hy])) (by omega)
   omega
theorem Tm.Il (x:Tm):1≤x.cap∧x.cap≤x.nodes∧(x.cap≤30→x.cap=x.nodes):=by
 rw [Tm.RK,Tm.Ao]
 have:=Tm.Mc x.args 1 (fun y hy=>Tm.Il y) (by omega)
 omega
termination_by SizeOf.sizeOf x
decreasing_by exact Tm.AL hy
mutual
def Tm.many:Tm→Int→Int
 | .mk _ xs,m=>Tm.FB xs m 1
def Tm.FB:List Tm→Int→Int→Int
 | [],_,n=>n
 | x :: xs,m,n=>if n≤m then Tm.FB xs m (n+Tm.many x (m-n)) else n
end
theorem Tm.PD (x:Tm) (m:Int):x.many m=Tm.FB x.args m 1:=by
 obtain ⟨n,xs⟩:=x
 rw [Tm.many]; rfl
theorem Tm.KC (m:Int):∀ (xs:List Tm) (n:Int),(∀ x∈xs,∀ m,0≤m→1≤x.many m∧x.many m≤x.nodes∧(x.many m≤m→x.many m=x.nodes))→1≤n→n≤Tm.FB xs m n∧Tm.FB xs m n≤n+Tm.Bb xs∧(Tm.FB xs m n≤m→Tm.FB xs m n=n+Tm.Bb xs)
 | [],n,_,h=>by simp [Tm.FB,Tm.Bb]
 | x :: xs,n,hx,h=>by
  rw [Tm.FB,Tm.Bb]
  split
  ·have h1:=hx x (by simp) (m-n) (by omega)
   have:=Tm.KC m xs (n+x.many (m-n)) (fun y hy=>hx y (by simp [hy])) (by omega)
   omega
  ·omega
theorem Tm.He (x:Tm) (m:Int):1≤x.many m∧x.many m≤x.nodes∧(x.many m≤m→x.many m=x.nodes):=by
 rw [Tm.PD,Tm.Ao]
 have:=Tm.KC m x.args 1 (fun y hy m _=>Tm.He y m) (by omega)
 omega
termination_by SizeOf.sizeOf x
decreasing_by exact Tm.AL hy
def DP:SC:=(.seq (.reg [⟨some 2,none,.mv (.c .nil)⟩]) (.seq (.seq (.reg [⟨some 6,none,.mv (.t 0)⟩,⟨some 7,none,.len false (.t 6)⟩,⟨some 8,none,.bin .eql false (.t 7) (.c (.int .i64 0))⟩]) (.cond (.t 8) (.seq (.reg [⟨some 2,none,.mv (.c .nil)⟩]) .ret) .skip)) (.seq (.reg [⟨some 9,none,.mv (.t 0)⟩,⟨some 10,none,.len false (.t 9)⟩,⟨(some 11),none,(.mkslice 31 2 40 [(.str ⟨#[]⟩),.nil] (.t 10))⟩,⟨some 3,none,.mv (.t 11)⟩]) (.seq (.seq (.reg [⟨some 12,none,.mv (.t 0)⟩,⟨some 13,none,.len false (.t 12)⟩,⟨some 14,none,.mv (.c (.int .i64 0))⟩]) (.block 0 (.loop [0,0,0,1,0,0,0,0,0,0,0,0,1,1,1,0,0,0,0,0,0,0,0,0,0,0] (.seq (.reg [⟨some 15,none,.bin .lss false (.t 14) (.t 13)⟩]) (.seq (.cond (.t 15) .skip (.exit 0)) (.seq (.block 1 (.seq (.reg [⟨some 16,none,.mv (.t 14)⟩,⟨some 17,none,.iaddr 2 (.t 12) (.t 14)⟩,⟨some 18,none,.load true 2 (.t 17)⟩,⟨(some 5),none,(.alloc 31 [(.str ⟨#[]⟩),.nil])⟩,⟨some 4,none,.mv (.t 16)⟩,⟨none,none,(.store 2 (.t 5) (.t 18))⟩]) (.reg [⟨some 19,none,.mv (.t 3)⟩,⟨some 20,none,.mv (.t 4)⟩,⟨some 21,none,.load true 2 (.t 5)⟩,⟨some 22,none,.call 39 [(.t 21)]⟩,⟨some 23,none,.iaddr 2 (.t 19) (.t 20)⟩,⟨none,none,(.store 2 (.t 23) (.t 22))⟩]))) (.reg [⟨some 24,none,.bin .add false (.t 14) (.c (.int .i64 1))⟩,⟨some 14,none,.mv (.t 24)⟩]))))))) (.seq (.reg [⟨some 25,none,.mv (.t 3)⟩,⟨some 2,none,.mv (.t 25)⟩]) .ret)))))
theorem FD:A1 Tryz.prog 63=some ⟨26,DP,[(.tmp 2)]⟩:=by kernel_rfl
theorem DQ:modes 63=⟨[],.own [some (31,2)],none,false⟩:=by unfold modes; rfl
def Gg:SC:=(.seq (.reg [⟨some 1,none,.boxv 31 2 (.t 0)⟩,⟨(some 2),none,(.alloc 31 [(.str ⟨#[]⟩),.nil])⟩]) (.seq (.dreg [[],[0],[],[2],[3,2],[1,0,4,3,2],[5,1,0,4,3,2]] [⟨some 3,none,.faddr 0 (.t 1)⟩,⟨some 4,none,.load false 1 (.t 3)⟩,⟨some 5,none,.faddr 1 (.t 1)⟩,⟨some 6,none,.load false 1 (.t 5)⟩,⟨some 7,none,.call 63 [(.t 6)]⟩,⟨(some 8),none,(.build [(.str ⟨#[]⟩),.nil] [(0,(1,(.t 4))),(1,(1,(.t 7)))])⟩,⟨none,none,(.store 2 (.t 2) (.t 8))⟩]) .ret))
theorem J5:A1 Tryz.prog 39=some ⟨9,Gg,[(.cell 2 true 2)]⟩:=by kernel_rfl
theorem AR:modes 39=⟨[],.asis,none,false⟩:=by unfold modes; rfl
def Im:SC:=(.seq (.reg [⟨some 1,none,.boxv 31 2 (.t 0)⟩,⟨(some 2),none,(.alloc 31 [(.str ⟨#[]⟩),.nil])⟩]) (.seq (.reg [⟨some 5,none,.faddr 0 (.t 1)⟩,⟨some 6,none,.load false 1 (.t 5)⟩,⟨(some 7),none,(.build [(.str ⟨#[]⟩),.nil] [(0,(1,(.t 6)))])⟩,⟨(some 3),none,(.alloc 31 [(.str ⟨#[]⟩),.nil])⟩,⟨none,none,(.store 2 (.t 3) (.t 7))⟩]) (.seq (.seq (.reg [⟨some 4,none,.mv (.c (.int .i64 0))⟩]) (.block 0 (.loop [0,1,1,1,1,0,0,0,0,0,0,0,0,0,0,0,0,0,0,0,0,0,0,0,0,0,0] (.seq (.seq (.reg [⟨some 8,none,.mv (.t 4)⟩,⟨some 9,none,.faddr 1 (.t 1)⟩,⟨some 10,none,.load false 1 (.t 9)⟩,⟨some 11,none,.len false (.t 10)⟩,⟨some 12,none,.bin .lss false (.t 8) (.t 11)⟩]) (.cond (.t 12) .skip (.exit 0))) (.seq (.block 1 (.dreg [[],[0],[],[2],[],[3,2,4],[5,3,2,4],[6,5,3,2,4],[7,6,5,3,2,4],[1,0,8,7,6,5,3,2,4],[0,1,2,3,4,5,6,7,8,9],[10,0,1,2,3,4,5,6,7,8,9]] [⟨some 15,none,.faddr 1 (.t 3)⟩,⟨some 16,none,.load false 1 (.t 15)⟩,⟨some 17,none,.faddr 1 (.t 1)⟩,⟨some 18,none,.load false 1 (.t 17)⟩,⟨some 19,none,.mv (.t 4)⟩,⟨some 20,none,.iaddr 2 (.t 18) (.t 19)⟩,⟨some 21,none,.load true 2 (.t 20)⟩,⟨some 22,none,.call 71 [(.t 21)]⟩,⟨(some 23),none,(.mkrow 31 2 [(.str ⟨#[]⟩),.nil] 1 [(0,(.t 22))])⟩,⟨(some 24),none,(.append 31 2 40 [(.str ⟨#[]⟩),.nil] (.t 16) (.t 23))⟩,⟨some 25,none,.faddr 1 (.t 3)⟩,⟨none,none,(.store 1 (.t 25) (.t 24))⟩])) (.reg [⟨some 13,none,.mv (.t 4)⟩,⟨some 14,none,.bin .add false (.t 13) (.c (.int .i64 1))⟩,⟨some 4,none,.mv (.t 14)⟩])))))) (.seq (.reg [⟨some 26,none,.load true 2 (.t 3)⟩,⟨none,none,(.store 2 (.t 2) (.t 26))⟩]) .ret))))
theorem MG:A1 Tryz.prog 71=some ⟨27,Im,[(.cell 2 true 2)]⟩:=by kernel_rfl
theorem Ce:modes 71=⟨[],.frz,none,false⟩:=by unfold modes; rfl
theorem MH (xs:List Tm) (hl:xs.length≤1099511627776) (h:∀ x∈xs,E 39 [x.sv] []=some (x.osv,x.obs)):E 63 [.arr (xs.map Tm.d)] []=some (.ref 0,[.row 31 2 (xs.map Tm.o)]):=by
 cases xs with
 | nil =>
  refine Ab FD DQ (of_decide_eq_true rfl) ?_
  simp (disch:=omega) only [DP,go_sem,Aa]
 | cons x0 xs0 =>
 generalize hxs:x0 :: xs0=xs at *
 have hpos:0<xs.length:=by rw [←hxs]; simp
 refine Ab FD DQ (of_decide_eq_true rfl) ?_
 simp (disch:=omega) only [DP,go_sem,Aa]
 refine go_loop (α:=Int) (fun a=>⟨slots 26 0 [(3,.ref 0),(12,.arr (xs.map Tm.d)),(13,.int .i64 xs.length),(14,.int .i64 a)],[.row 31 2 (EG Tm.o [.str ⟨#[]⟩,.ow []] xs a.toNat)]⟩) (fun a=>∃ k:Nat,a=k∧k≤(xs).length) (fun a=>(xs).length-(a).toNat) 0 ⟨0,rfl,zP _⟩ (by simp (disch:=omega) only [go_sem,Aa,KB,Int.toNat_zero]) ?_
 rintro i ⟨k,hi,hk⟩
 have hni:i.toNat=k:=by omega
 have hni1:(i+1).toNat=k+1:=by omega
 rcases zC k (xs).length with hlt | hge
 ·have hg:=get_at Tm.d hlt
  rw [Tm.d_eq] at hg
  have hz:=LZ Tm.o [.str ⟨#[]⟩,.ow []] hlt
  have hc:=h xs[k] (zF hlt)
  have hs:=Ma Tm.o [.str ⟨#[]⟩,.ow []] hlt
  rw [Tm.KA] at hs
  simp (disch:=omega) only [go_sem,Aa,hni,hg,hc,hz,LX,AR,Tm.osv,Tm.obs]
  refine ⟨i+1,⟨k+1,by omega,hlt⟩,by omega,?_⟩
  simp (disch:=omega) only [go_sem,Aa,hni1,hs]
 ·obtain rfl:k=xs.length:=by omega
  simp (disch:=omega) only [go_sem,Aa,hni,LY]
theorem NQ (x:Tm) (h:E 63 [.arr (x.args.map Tm.d)] []=some (.ref 0,[.row 31 2 (x.args.map Tm.o)])):E 39 [x.sv] []=some (x.osv,x.obs):=by
 refine Ab J5 AR (of_decide_eq_true rfl) ?_
 simp (disch:=omega) only [Gg,go_sem,Aa,h,DQ]
theorem HJ (x:Tm) (hn:x.nodes≤1099511627776):E 39 [x.sv] []=some (x.osv,x.obs) :=
 NQ x (MH x.args (by have:=Tm.Ao x; have:=Tm.length_le x.args; omega) fun y hy=>HJ y (by have:=Tm.BU hy; have:=Tm.Ao x; omega))
termination_by SizeOf.sizeOf x
decreasing_by exact Tm.AL hy
def UP (res:RM) (n0:Nat) (rs:List RX) (Q:SV × List Ob→Prop) (x:X) (st:St):Prop:=∃ out,T5 res n0 rs out x st∧Q out
theorem exq {α:Type} {a:α} {Q:α→Prop}:(∃ out,some a=some out∧Q out)=Q a:=propext ⟨fun ⟨o,h,q⟩=>by obtain rfl:=zI h; exact q,fun q=>⟨a,rfl,q⟩⟩
theorem UQ {res:RM} {n0:Nat} {rs:List RX} {Q:SV × List Ob→Prop} {sl:List SV} {ob:List Ob}:UP res n0 rs Q .ret ⟨sl,ob⟩=∃ out,NP res n0 ob (Lh ⟨sl,ob⟩ rs)=some out∧Q out:=rfl
theorem UR {res:RM} {n0:Nat} {rs:List RX} {Q:SV × List Ob→Prop} {sl:List SV} {ob:List Ob}:UP res n0 rs Q .normal ⟨sl,ob⟩=∃ out,NP res n0 ob (Lh ⟨sl,ob⟩ rs)=some out∧Q out:=rfl
theorem AJ {f:FuncId} {fc:FC} {hand:List Bool} {res:RM} {tr:Bool} {xs:List SV} {ob:List Ob} {Q:SV × List Ob→Prop} (hc:A1 Tryz.prog f=some fc) (hr:modes f=⟨hand,res,none,tr⟩) (hn:xs.length≤fc.nt) (h:go ob.length (Em res fc.sc) ⟨xs++If (fc.nt-xs.length),entry tr ob⟩ (UP res ob.length fc.rs Q)):∃ out,E f xs ob=some out∧Q out:=by
 obtain ⟨x,st',h1,out,h2,h3⟩:=h
 exact ⟨out,Ab hc hr hn ⟨x,st',h1,h2⟩,h3⟩
attribute [go_sem] UQ UR exq
def Tm.osh (x:Tm):List OT:=[.str x.name,.sh (x.args.map Tm.d)]
theorem Tm.HK (x:Tm):x.osh=[.str x.name,.sh (x.args.map Tm.d)]:=rfl
theorem Tm.EI:∀ xs:List Tm,OT.AB (xs.map Tm.osh)=true
 | []=>rfl
 | x :: xs=>by rw [zB,Tm.HK]; simp [OT.AB,OT.CJ,OT.full,Tm.EI xs]
theorem Tm.G4:∀ xs:List Tm,OT.erss (xs.map Tm.osh)=xs.map Tm.d
 | []=>rfl
 | x :: xs=>by rw [zB,zB,Tm.HK,Tm.d_eq]; simp [OT.erss,OT.ers,OT.er,Tm.G4 xs]
theorem NR {α β:Type} (f:α→β) {xs:List α} {k:Nat} (h:k<xs.length):(xs.take k).map f++[f xs[k]]=(xs.take (k+1)).map f:=by
 rw [yP h,zW]; rfl
def D1:SC:=(.seq (.reg [⟨some 2,none,.mv (.c (.int .i64 0))⟩]) (.seq (.reg [⟨some 3,none,.mv (.c (.int .i64 0))⟩]) (.seq (.seq (.dreg [[],[0],[1,0],[2,1,0],[],[4],[5,4],[6,5,4],[7,6,5,4],[3,2,1,0,8,7,6,5,4]] [⟨some 4,none,.mv (.t 0)⟩,⟨some 5,none,.nilchk (.t 4)⟩,⟨some 6,none,.faddr 1 (.t 5)⟩,⟨some 7,none,.load false 1 (.t 6)⟩,⟨some 8,none,.mv (.t 0)⟩,⟨some 9,none,.nilchk (.t 8)⟩,⟨some 10,none,.faddr 0 (.t 9)⟩,⟨some 11,none,.load false 1 (.t 10)⟩,⟨some 12,none,.len false (.t 11)⟩,⟨some 13,none,.bin .lss false (.t 7) (.t 12)⟩]) (.cond (.t 13) (.dreg [[],[0],[1,0],[2,1,0],[],[4],[5,4],[6,5,4],[3,2,1,0,7,6,5,4],[8,3,2,1,0,7,6,5,4],[9,8,3,2,1,0,7,6,5,4],[10,9,8,3,2,1,0,7,6,5,4]] [⟨some 14,none,.mv (.t 0)⟩,⟨some 15,none,.nilchk (.t 14)⟩,⟨some 16,none,.faddr 0 (.t 15)⟩,⟨some 17,none,.load false 1 (.t 16)⟩,⟨some 18,none,.mv (.t 0)⟩,⟨some 19,none,.nilchk (.t 18)⟩,⟨some 20,none,.faddr 1 (.t 19)⟩,⟨some 21,none,.load false 1 (.t 20)⟩,⟨some 22,none,.iaddr 1 (.t 17) (.t 21)⟩,⟨some 23,none,.load false 1 (.t 22)⟩,⟨some 24,none,.conv .i64 (.t 23)⟩,⟨some 3,none,.mv (.t 24)⟩]) .skip)) (.seq (.reg [⟨some 25,none,.mv (.t 0)⟩,⟨some 26,none,.nilchk (.t 25)⟩,⟨some 27,none,.faddr 1 (.t 26)⟩,⟨some 28,none,.load false 1 (.t 27)⟩,⟨some 29,none,.bin .add false (.t 28) (.c (.int .i64 1))⟩,⟨some 30,none,.nilchk (.t 25)⟩,⟨some 31,none,.faddr 1 (.t 30)⟩,⟨none,none,(.store 1 (.t 31) (.t 29))⟩]) (.seq (.reg [⟨some 32,none,.mv (.t 0)⟩,⟨some 33,none,.mv (.t 0)⟩,⟨some 34,none,.nilchk (.t 33)⟩,⟨some 35,none,.faddr 2 (.t 34)⟩,⟨some 36,none,.load false 1 (.t 35)⟩,⟨some 37,none,.bin .mul false (.t 36) (.c (.int .u64 6364136223846793005))⟩,⟨some 38,none,.mv (.t 3)⟩,⟨some 39,none,.conv .u64 (.t 38)⟩,⟨some 40,none,.bin .add false (.t 37) (.t 39)⟩,⟨some 41,none,.bin .add false (.t 40) (.c (.int .u64 892892))⟩,⟨some 42,none,.nilchk (.t 32)⟩,⟨some 43,none,.faddr 2 (.t 42)⟩,⟨none,none,(.store 1 (.t 43) (.t 41))⟩]) (.seq (.seq (.dreg [[],[0],[1,0],[2,1,0],[],[4],[5,4],[6,5,4],[7,6,5,4],[3,2,1,0,8,7,6,5,4]] [⟨some 44,none,.mv (.t 0)⟩,⟨some 45,none,.nilchk (.t 44)⟩,⟨some 46,none,.faddr 1 (.t 45)⟩,⟨some 47,none,.load false 1 (.t 46)⟩,⟨some 48,none,.mv (.t 0)⟩,⟨some 49,none,.nilchk (.t 48)⟩,⟨some 50,none,.faddr 0 (.t 49)⟩,⟨some 51,none,.load false 1 (.t 50)⟩,⟨some 52,none,.len false (.t 51)⟩,⟨some 53,none,.bin .leq false (.t 47) (.t 52)⟩]) (.cond (.t 53) (.seq (.reg [⟨some 54,none,.mv (.t 3)⟩,⟨some 2,none,.mv (.t 54)⟩]) .ret) .skip)) (.seq (.reg [⟨some 55,none,.mv (.t 0)⟩,⟨some 56,none,.nilchk (.t 55)⟩,⟨some 57,none,.faddr 2 (.t 56)⟩,⟨some 58,none,.load false 1 (.t 57)⟩,⟨some 59,none,.bin .shr false (.t 58) (.c (.int .u64 40))⟩,⟨some 60,none,.bin .and false (.t 59) (.c (.int .u64 255))⟩,⟨some 61,none,.conv .i64 (.t 60)⟩,⟨some 2,none,.mv (.t 61)⟩]) .ret)))))))
theorem Fe:A1 Tryz.prog 56=some ⟨62,D1,[(.tmp 2)]⟩:=by kernel_rfl
theorem D2:modes 56=⟨[],.asis,none,false⟩:=by unfold modes; rfl
def D3:SC:=(.seq (.reg [⟨some 4,none,.mv (.c (.int .i64 0))⟩]) (.seq (.seq (.reg [⟨some 6,none,.mv (.t 1)⟩,⟨some 7,none,.bin .leq false (.t 6) (.c (.int .i64 1))⟩]) (.cond (.t 7) (.seq (.reg [⟨some 4,none,.mv (.c (.int .i64 0))⟩]) .ret) .skip)) (.seq (.reg [⟨some 8,none,.mv (.t 0)⟩,⟨some 9,none,.call 56 [(.t 8)]⟩,⟨some 5,none,.mv (.t 9)⟩]) (.seq (.seq (.reg [⟨some 10,none,.mv (.t 1)⟩,⟨some 11,none,.bin .gtr false (.t 10) (.c (.int .i64 200))⟩]) (.cond (.t 11) (.reg [⟨some 12,none,.mv (.t 5)⟩,⟨some 13,none,.bin .mul false (.t 12) (.c (.int .i64 256))⟩,⟨some 14,none,.mv (.t 0)⟩,⟨some 15,none,.call 56 [(.t 14)]⟩,⟨some 16,none,.bin .add false (.t 13) (.t 15)⟩,⟨some 5,none,.mv (.t 16)⟩]) .skip)) (.seq (.reg [⟨some 17,none,.mv (.t 5)⟩,⟨some 18,none,.mv (.t 1)⟩,⟨some 19,none,.bin .rem false (.t 17) (.t 18)⟩,⟨some 4,none,.mv (.t 19)⟩]) .ret)))))
theorem Ff:A1 Tryz.prog 30=some ⟨20,D3,[(.tmp 4)]⟩:=by kernel_rfl
theorem Ad:modes 30=⟨[],.asis,none,false⟩:=by unfold modes; rfl
def FE:SC:=(.seq (.reg [⟨some 4,none,.mv (.c (.bool false))⟩]) (.seq (.reg [⟨some 5,none,.mv (.t 0)⟩,⟨some 6,none,.mv (.t 1)⟩,⟨some 7,none,.call 30 [(.t 5),(.t 6)]⟩,⟨some 8,none,.bin .eql false (.t 7) (.c (.int .i64 0))⟩,⟨some 4,none,.mv (.t 8)⟩]) .ret))
theorem IT:A1 Tryz.prog 15=some ⟨9,FE,[(.tmp 4)]⟩:=by kernel_rfl
theorem Ar:modes 15=⟨[],.asis,none,false⟩:=by unfold modes; rfl
def Gh:SC:=(.seq (.reg [⟨(some 4),none,(.mv (.c (.str ⟨#[]⟩)))⟩]) (.seq (.reg [⟨some 5,none,.mv (.t 1)⟩,⟨some 6,none,.mv (.t 0)⟩,⟨some 7,none,.mv (.t 1)⟩,⟨some 8,none,.len false (.t 7)⟩,⟨some 9,none,.call 30 [(.t 6),(.t 8)]⟩,⟨some 10,none,.iaddr 1 (.t 5) (.t 9)⟩,⟨some 11,none,.load false 1 (.t 10)⟩,⟨some 4,none,.mv (.t 11)⟩]) .ret))
theorem J6:A1 Tryz.prog 31=some ⟨12,Gh,[(.tmp 4)]⟩:=by kernel_rfl
theorem Ay:modes 31=⟨[],.asis,none,false⟩:=by unfold modes; rfl
theorem V7 {α:Type} {a:α} {Q:α→Prop}:(∃ out,a=out∧Q out)=Q a:=propext ⟨fun ⟨o,h,q⟩=>by subst h; exact q,fun q=>⟨a,rfl,q⟩⟩
attribute [go_sem] V7
abbrev by_ (b:Int):List D:=[D.byte b]
def Bytes (l:List Int):Prop:=∀ b∈l,0≤b∧b≤255
abbrev cur (l:List Int) (p s:Int):Ob:=.box 46 [.arr (l.map by_),.int .i64 p,.int .u64 s]
theorem US (a:Int):0≤bits .and .u64 a 255∧bits .and .u64 a 255≤255:=by
 have h:(BitVec.ofInt 64 a &&& BitVec.ofInt 64 255).toNat≤255:=by
  rw [BitVec.toNat_and]
  exact Nat.and_le_right
 have e:bits .and .u64 a 255=(((BitVec.ofInt 64 a &&& BitVec.ofInt 64 255).toNat:Nat):Int):=by
  show IntKind.u64.wrap _=_
  refine JS ⟨?_,?_⟩
  ·show (0:Int)≤_; omega
  ·show _≤(18446744073709551615:Int)
   have:(BitVec.ofInt 64 a &&& BitVec.ofInt 64 255).toNat≤255:=h
   show (((BitVec.ofInt 64 a &&& BitVec.ofInt 64 255).toNat:Nat):Int)≤_
   omega
 rw [e]
 omega
theorem T8 (l:List Int) (hl:Bytes l) (hn:l.length≤1099511627776) (p s:Int) (hp0:0≤p) (hp:p≤1099511627776):∃ v s',E 56 [.ptr 0 0] [cur l p s]=some (.int .i64 v,[cur l (p+1) s'])∧0≤v∧v≤255:=by
 obtain ⟨Q,hQ⟩:∃ Q:SV × List Ob→Prop,Q=fun out=>∃ v s',out=(.int .i64 v,[cur l (p+1) s'])∧0≤v∧v≤255:=⟨_,rfl⟩
 suffices h:∃ out,E 56 [.ptr 0 0] [cur l p s]=some out∧Q out by
  obtain ⟨out,h1,h2⟩:=h
  rw [hQ] at h2
  obtain ⟨v,s',rfl,h3⟩:=h2
  exact ⟨v,s',h1,h3⟩
 by_cases hlt:p<l.length
 ·have hg:=get_at by_ (show p.toNat<l.length by omega)
  have hb:=hl _ (zF (show p.toNat<l.length by omega))
  have hi:dec (inK .i64 l[p.toNat])=true:=FZ (by omega) (by omega)
  have h1:(p<(l.length:Int))=True:=eq_true (by omega)
  have h2:(p+1≤(l.length:Int))=True:=eq_true (by omega)
  refine AJ Fe D2 (of_decide_eq_true rfl) ?_
  simp (disch:=omega) only [D1,go_sem,Aa,hg,hi,h1,h2]
  rw [hQ]
  exact ⟨_,_,rfl,hb⟩
 ·have h1:(p<(l.length:Int))=False:=eq_false (by omega)
  have h2:(p+1≤(l.length:Int))=False:=eq_false (by omega)
  have hb:=fun a=>US a
  have hi:∀ a,dec (inK .i64 (bits .and .u64 a 255))=true:=fun a=>FZ (by have:=hb a; omega) (by have:=hb a; omega)
  refine AJ Fe D2 (of_decide_eq_true rfl) ?_
  simp (disch:=omega) only [D1,go_sem,Aa,hi,h1,h2]
  rw [hQ]
  exact ⟨_,_,rfl,hb _⟩
theorem Ga (l:List Int) (hl:Bytes l) (hn:l.length≤1099511627776) (n:Int) (h1:1≤n) (h2:n≤200) (p s:Int) (hp0:0≤p) (hp:p≤1099511627776):∃ v p' s',E 30 [.ptr 0 0,.int .i64 n] [cur l p s]=some (.int .i64 v,[cur l p' s'])∧(0≤v∧v<n)∧p≤p'∧p'≤p+1:=by
 by_cases hn1:n≤1
 ·refine ⟨0,p,s,?_,by omega,by omega,by omega⟩
  have q1:(n≤1)=True:=eq_true hn1
  refine Ab Ff Ad (of_decide_eq_true rfl) ?_
  simp (disch:=omega) only [D3,go_sem,Aa,q1]
 ·obtain ⟨v,s',hv,hv1,hv2⟩:=T8 l hl hn p s hp0 hp
  have hm1:=Int.emod_nonneg v (show n≠0 by omega)
  have hm2:=Int.emod_lt_of_pos v (show 0<n by omega)
  have hm3:v.tmod n=v % n:=Int.tmod_eq_emod_of_nonneg hv1
  refine ⟨v.tmod n,p+1,s',?_,by omega,by omega,by omega⟩
  have q1:(n≤1)=False:=eq_false hn1
  have q2:(200<n)=False:=eq_false (by omega)
  have q3:(n=0)=False:=eq_false (by omega)
  refine Ab Ff Ad (of_decide_eq_true rfl) ?_
  simp (disch:=omega) only [D3,go_sem,Aa,q1,q2,q3,hv,D2]
theorem Jw (l:List Int) (hl:Bytes l) (hn:l.length≤1099511627776) (n:Int) (h1:1≤n) (h2:n≤200) (p s:Int) (hp0:0≤p) (hp:p≤1099511627776):∃ b p' s',E 15 [.ptr 0 0,.int .i64 n] [cur l p s]=some (.bool b,[cur l p' s'])∧p≤p'∧p'≤p+1:=by
 obtain ⟨v,p',s',hv,_,h3,h4⟩:=Ga l hl hn n h1 h2 p s hp0 hp
 refine ⟨dec (v=0),p',s',?_,h3,h4⟩
 refine Ab IT Ar (of_decide_eq_true rfl) ?_
 simp (disch:=omega) only [FE,go_sem,Aa,hv,Ad]
theorem RL (l:List Int) (hl:Bytes l) (hn:l.length≤1099511627776) (xs:List ByteArray) (h1:1≤xs.length) (h2:xs.length≤200) (p s:Int) (hp0:0≤p) (hp:p≤1099511627776):∃ x p' s',E 31 [.ptr 0 0,.arr (xs.map fun s=>[D.str s])] [cur l p s]=some (.str x,[cur l p' s'])∧x∈xs∧p≤p'∧p'≤p+1:=by
 obtain ⟨v,p',s',hv,⟨hv0,hv1⟩,h3,h4⟩:=Ga l hl hn xs.length (by omega) (by omega) p s hp0 hp
 have hg:=get_at (fun s=>[D.str s]) (show v.toNat<xs.length by omega)
 refine ⟨xs[v.toNat],p',s',?_,zF _,h3,h4⟩
 refine Ab J6 Ay (of_decide_eq_true rfl) ?_
 simp (disch:=omega) only [Gh,go_sem,Aa,hv,hg,Ad]
def BY:SC:=(.seq (.reg [⟨(some 4),none,(.alloc 31 [(.str ⟨#[]⟩),.nil])⟩]) (.seq (.seq (.reg [⟨some 5,none,.mv (.t 1)⟩,⟨some 6,none,.bin .leq false (.t 5) (.c (.int .i64 1))⟩,⟨some 7,none,.mv (.t 6)⟩,⟨(some 8),(some (7,false)),(.mv (.t 0))⟩,⟨(some 9),(some (7,false)),(.call 15 [(.t 8),(.c (.int .i64 3))])⟩,⟨some 10,none,.pick (.t 7) (.c (.bool true)) (.t 9)⟩]) (.cond (.t 10) (.seq (.reg [⟨some 11,none,.mv (.t 0)⟩,⟨(some 12),none,(.mkrow 9 1 [(.str ⟨#[]⟩)] 7 [(0,(.c (.str ⟨#[88]⟩))),(1,(.c (.str ⟨#[89]⟩))),(2,(.c (.str ⟨#[90]⟩))),(3,(.c (.str ⟨#[97]⟩))),(4,(.c (.str ⟨#[98]⟩))),(5,(.c (.str ⟨#[88]⟩))),(6,(.c (.str ⟨#[97]⟩)))])⟩,⟨some 13,none,.call 31 [(.t 11),(.t 12)]⟩,⟨(some 14),none,(.build [(.str ⟨#[]⟩),.nil] [(0,(1,(.t 13)))])⟩,⟨none,none,(.store 2 (.t 4) (.t 14))⟩]) .ret) .skip)) (.seq (.seq (.reg [⟨some 15,none,.mv (.t 0)⟩,⟨some 16,none,.call 15 [(.t 15),(.c (.int .i64 2))]⟩]) (.cond (.t 16) (.seq (.reg [⟨some 17,none,.mv (.t 0)⟩,⟨some 18,none,.mv (.t 1)⟩,⟨some 19,none,.bin .sub false (.t 18) (.c (.int .i64 1))⟩,⟨some 20,none,.call 16 [(.t 17),(.t 19)]⟩,⟨(some 21),none,(.mkrow 31 2 [(.str ⟨#[]⟩),.nil] 1 [(0,(.t 20))])⟩,⟨(some 22),none,(.build [(.str ⟨#[]⟩),.nil] [(0,(1,(.c (.str ⟨#[102]⟩)))),(1,(1,(.t 21)))])⟩,⟨none,none,(.store 2 (.t 4) (.t 22))⟩]) .ret) .skip)) (.seq (.reg [⟨some 23,none,.mv (.t 0)⟩,⟨some 24,none,.mv (.t 1)⟩,⟨some 25,none,.bin .sub false (.t 24) (.c (.int .i64 1))⟩,⟨some 26,none,.call 16 [(.t 23),(.t 25)]⟩,⟨some 27,none,.mv (.t 0)⟩,⟨some 28,none,.mv (.t 1)⟩,⟨some 29,none,.bin .sub false (.t 28) (.c (.int .i64 1))⟩,⟨some 30,none,.call 16 [(.t 27),(.t 29)]⟩,⟨(some 31),none,(.mkrow 31 2 [(.str ⟨#[]⟩),.nil] 2 [(0,(.t 26)),(1,(.t 30))])⟩,⟨(some 32),none,(.build [(.str ⟨#[]⟩),.nil] [(0,(1,(.c (.str ⟨#[103]⟩)))),(1,(1,(.t 31)))])⟩,⟨none,none,(.store 2 (.t 4) (.t 32))⟩]) .ret))))
theorem C3:A1 Tryz.prog 16=some ⟨33,BY,[(.cell 4 true 2)]⟩:=by kernel_rfl
theorem A8:modes 16=⟨[],.half [none,some (31,2)],none,false⟩:=by unfold modes; rfl
def Fg:SC:=(.seq (.reg [⟨(some 2),none,(.alloc 31 [(.str ⟨#[]⟩),.nil])⟩]) (.seq (.reg [⟨some 3,none,.mv (.t 0)⟩,⟨some 4,none,.mv (.t 0)⟩,⟨some 5,none,.call 30 [(.t 4),(.c (.int .i64 3))]⟩,⟨some 6,none,.bin .add false (.c (.int .i64 1)) (.t 5)⟩,⟨some 7,none,.call 16 [(.t 3),(.t 6)]⟩,⟨none,none,(.store 2 (.t 2) (.t 7))⟩]) .ret))
theorem Io:A1 Tryz.prog 35=some ⟨8,Fg,[(.cell 2 true 2)]⟩:=by kernel_rfl
theorem Ae:modes 35=⟨[],.half [none,some (31,2)],none,false⟩:=by unfold modes; rfl
def By:SC:=(.seq (.reg [⟨(some 2),none,(.alloc 31 [(.str ⟨#[]⟩),.nil])⟩]) (.seq (.seq (.reg [⟨some 3,none,.mv (.t 0)⟩,⟨some 4,none,.call 30 [(.t 3),(.c (.int .i64 8))]⟩]) (.block 0 (.seq (.seq (.reg [⟨some 6,none,.bin .eql false (.t 4) (.c (.int .i64 0))⟩,⟨some 5,none,.mv (.t 6)⟩]) (.cond (.t 5) .skip (.reg [⟨some 7,none,.bin .eql false (.t 4) (.c (.int .i64 1))⟩,⟨some 5,none,.mv (.t 7)⟩]))) (.cond (.t 5) (.seq (.reg [⟨some 8,none,.mv (.t 0)⟩,⟨some 9,none,.call 35 [(.t 8)]⟩,⟨some 10,none,.mv (.t 0)⟩,⟨some 11,none,.call 35 [(.t 10)]⟩,⟨(some 12),none,(.mkrow 31 2 [(.str ⟨#[]⟩),.nil] 2 [(0,(.t 9)),(1,(.t 11))])⟩,⟨(some 13),none,(.build [(.str ⟨#[]⟩),.nil] [(0,(1,(.c (.str ⟨#[61]⟩)))),(1,(1,(.t 12)))])⟩,⟨none,none,(.store 2 (.t 2) (.t 13))⟩]) .ret) (.seq (.reg [⟨some 15,none,.bin .eql false (.t 4) (.c (.int .i64 2))⟩,⟨some 14,none,.mv (.t 15)⟩]) (.cond (.t 14) (.seq (.reg [⟨(some 16),none,(.build [(.str ⟨#[]⟩),.nil] [(0,(1,(.c (.str ⟨#[114]⟩))))])⟩,⟨none,none,(.store 2 (.t 2) (.t 16))⟩]) .ret) (.seq (.seq (.reg [⟨some 18,none,.bin .eql false (.t 4) (.c (.int .i64 3))⟩,⟨some 17,none,.mv (.t 18)⟩]) (.cond (.t 17) .skip (.reg [⟨some 19,none,.bin .eql false (.t 4) (.c (.int .i64 4))⟩,⟨some 17,none,.mv (.t 19)⟩]))) (.cond (.t 17) (.seq (.reg [⟨some 20,none,.mv (.t 0)⟩,⟨some 21,none,.call 16 [(.t 20),(.c (.int .i64 2))]⟩,⟨some 22,none,.mv (.t 0)⟩,⟨some 23,none,.call 16 [(.t 22),(.c (.int .i64 2))]⟩,⟨(some 24),none,(.mkrow 31 2 [(.str ⟨#[]⟩),.nil] 2 [(0,(.t 21)),(1,(.t 23))])⟩,⟨(some 25),none,(.build [(.str ⟨#[]⟩),.nil] [(0,(1,(.c (.str ⟨#[113]⟩)))),(1,(1,(.t 24)))])⟩,⟨none,none,(.store 2 (.t 2) (.t 25))⟩]) .ret) .skip)))))))) (.seq (.reg [⟨some 26,none,.mv (.t 0)⟩,⟨some 27,none,.call 16 [(.t 26),(.c (.int .i64 2))]⟩,⟨(some 28),none,(.mkrow 31 2 [(.str ⟨#[]⟩),.nil] 1 [(0,(.t 27))])⟩,⟨(some 29),none,(.build [(.str ⟨#[]⟩),.nil] [(0,(1,(.c (.str ⟨#[112]⟩)))),(1,(1,(.t 28)))])⟩,⟨none,none,(.store 2 (.t 2) (.t 29))⟩]) .ret)))
theorem BK:A1 Tryz.prog 34=some ⟨30,By,[(.cell 2 true 2)]⟩:=by kernel_rfl
theorem AV:modes 34=⟨[],.half [none,some (31,2)],none,false⟩:=by unfold modes; rfl
def Tm.oh (x:Tm):List OT:=[.str x.name,.ow (x.args.map Tm.osh)]
theorem Tm.RN (x:Tm):x.oh=[.str x.name,.ow (x.args.map Tm.osh)]:=rfl
theorem Tm.NS:∀ xs:List Tm,OT.BX (xs.map Tm.osh)=xs.map Tm.osh
 | []=>rfl
 | x :: xs=>by rw [zB,Tm.HK]; simp only [OT.BX,OT.Ho,OT.half,Tm.NS xs]
theorem Tm.PE:∀ xs:List Tm,OT.AB (xs.map Tm.oh)=true
 | []=>rfl
 | x :: xs=>by rw [zB,Tm.RN]; simp only [OT.AB,OT.CJ,OT.full,Tm.EI,Tm.PE xs,zL]
theorem Tm.PF:∀ xs:List Tm,OT.BX (xs.map Tm.oh)=xs.map Tm.osh
 | []=>rfl
 | x :: xs=>by rw [zB,zB,Tm.RN,Tm.HK]; simp only [OT.BX,OT.Ho,OT.half,Tm.G4,Tm.PF xs]
theorem Tm.TX:∀ xs:List Tm,OT.erss (xs.map Tm.oh)=xs.map Tm.d
 | []=>rfl
 | x :: xs=>by rw [zB,zB,Tm.RN,Tm.d_eq]; simp only [OT.erss,OT.ers,OT.er,Tm.G4,Tm.TX xs]
theorem Tm.OX:∀ xs:List Tm,OT.BX (xs.map Tm.o)=xs.map Tm.osh
 | []=>rfl
 | x :: xs=>by rw [zB,zB,Tm.KA,Tm.HK]; simp only [OT.BX,OT.Ho,OT.half,Tm.erss,Tm.OX xs]
theorem OT.fullss_app:∀ a b:List (List OT),OT.AB (a++b)=(OT.AB a&&OT.AB b)
 | [],b=>by simp [OT.AB]
 | x :: a,b=>by simp only [yJ,OT.AB,OT.fullss_app a b,Bool.and_assoc]
theorem OT.KD:∀ a b:List (List OT),OT.BX (a++b)=OT.BX a++OT.BX b
 | [],b=>by simp [OT.BX]
 | x :: a,b=>by simp only [yJ,OT.BX,OT.KD a b]
theorem OT.erss_app:∀ a b:List (List OT),OT.erss (a++b)=OT.erss a++OT.erss b
 | [],b=>by simp [OT.erss]
 | x :: a,b=>by simp only [yJ,OT.erss,OT.erss_app a b]
theorem OT.KE:∀ {l:List (List OT)} {e:List OT} (k:Nat),OT.AB l=true→OT.CJ e=true→OT.AB (l.set k e)=true
 | [],_,_,_,_=>rfl
 | x :: l,e,0,h,he=>by
  simp only [OT.AB,zA] at h
  simp only [yW,OT.AB,he,h.2,zL]
 | x :: l,e,k+1,h,he=>by
  simp only [OT.AB,zA] at h
  simp only [yX,OT.AB,h.1,OT.KE k h.2 he,zL]
theorem OT.NT:∀ (l:List (List OT)) (e:List OT) (k:Nat),OT.erss (l.set k e)=(OT.erss l).set k (OT.ers e)
 | [],_,_=>rfl
 | x :: l,e,0=>rfl
 | x :: l,e,k+1=>by simp only [yX,OT.erss,OT.NT l e k]
attribute [go_sem] OT.fullss_app OT.KD OT.erss_app Tm.EI Tm.G4 Tm.NS Tm.PE Tm.TX Tm.PF Tm.OX
abbrev tmH (t:Tm) (g:Nat):SV:=.agg [.str t.name,.ref g]
abbrev IU (t:Tm):Ob:=.row 31 2 (t.args.map Tm.osh)
theorem Ip (l:List Int) (hl:Bytes l) (hn:l.length≤1099511627776):∀ (d:Nat) (m:Int),m=d→1≤d→d≤20→∀ p s:Int,0≤p→p+(4*2 ^ d:Nat)≤1099000000000→∃ t p' s',E 16 [.ptr 0 0,.int .i64 m] [cur l p s]=some (tmH t 1,[cur l p' s',IU t])∧(p≤p'∧p'+2≤p+(4*2 ^ d:Nat))∧t.nodes+1≤2 ^ d:=by
 intro d
 have leaf:∀ (p1 s1:Int),0≤p1→p1≤1099500000000→∃ x p2 s2,E 31 [.ptr 0 0,.arr [[D.str ⟨#[88]⟩],[D.str ⟨#[89]⟩],[D.str ⟨#[90]⟩],[D.str ⟨#[97]⟩],[D.str ⟨#[98]⟩],[D.str ⟨#[88]⟩],[D.str ⟨#[97]⟩]]] [cur l p1 s1]=some (.str x,[cur l p2 s2])∧p1≤p2∧p2≤p1+1:=fun p1 s1 a b=>by
  obtain ⟨x,p2,s2,ho,_,h2,h3⟩:=RL l hl hn [⟨#[88]⟩,⟨#[89]⟩,⟨#[90]⟩,⟨#[97]⟩,⟨#[98]⟩,⟨#[88]⟩,⟨#[97]⟩] (by decide) (by decide) p1 s1 a (by omega)
  simp only [zB,zG] at ho
  exact ⟨x,p2,s2,ho,h2,h3⟩
 have n1:∀ x,(Tm.mk x []).nodes=1:=fun x=>by rw [Tm.Ao]; rfl
 induction d with
 | zero=>exact fun _ _ h=>absurd h (by omega)
 | succ e ih =>
  intro m hm _ hd p s h0 h1
  have hpe:2 ^ (e+1)=2*2 ^ e:=by rw [Nat.pow_succ,Nat.mul_comm]
  have hp1:1≤2 ^ e:=Nat.one_le_two_pow
  have hp2:2 ^ e≤2 ^ 20:=Nat.pow_le_pow_right (by omega) (by omega)
  have hp3:(2:Nat) ^ 20=1048576:=by decide
  have ih:=fun h1e=>ih (m-1) (by omega) h1e (by omega)
  rw [hpe] at h1 ⊢
  generalize 2 ^ e=q at *
  generalize hq2:2*q=q2 at *
  obtain ⟨Q,hQ⟩:∃ Q:SV × List Ob→Prop,Q=fun out=>∃ t p' s',out=(tmH t 1,[cur l p' s',IU t])∧(p≤p'∧p'+2≤p+(4*q2:Nat))∧t.nodes+1≤q2:=⟨_,rfl⟩
  suffices hq0:∃ out,E 16 [.ptr 0 0,.int .i64 m] [cur l p s]=some out∧Q out by
   obtain ⟨out,hq1,hq2⟩:=hq0
   rw [hQ] at hq2
   obtain ⟨t,p',s',rfl,hq3⟩:=hq2
   exact ⟨t,p',s',hq1,hq3⟩
  by_cases hm1:m≤1
  ·have q1:(m≤1)=True:=eq_true hm1
   obtain ⟨x,p1,s1,ho,h2,h3⟩:=leaf p s h0 (by omega)
   refine AJ C3 A8 (of_decide_eq_true rfl) ?_
   simp (disch:=omega) only [BY,go_sem,Aa,ho,q1,Ay]
   rw [hQ]
   exact ⟨.mk x [],p1,s1,rfl,by omega,by rw [n1]; omega⟩
  ·have q1:(m≤1)=False:=eq_false hm1
   have ih:=ih (by omega)
   obtain ⟨b1,p1,s1,hb1,g1,g2⟩:=Jw l hl hn 3 (by omega) (by omega) p s h0 (by omega)
   cases b1 with
   | true =>
    obtain ⟨x,p2,s2,ho,h2,h3⟩:=leaf p1 s1 (by omega) (by omega)
    refine AJ C3 A8 (of_decide_eq_true rfl) ?_
    simp (disch:=omega) only [BY,go_sem,Aa,q1,hb1,ho,Ay,Ar]
    rw [hQ]
    exact ⟨.mk x [],p2,s2,rfl,by omega,by rw [n1]; omega⟩
   | false =>
    obtain ⟨b2,p2,s2,hb2,g3,g4⟩:=Jw l hl hn 2 (by omega) (by omega) p1 s1 (by omega) (by omega)
    obtain ⟨t3,p3,s3,h3,⟨g5,g6⟩,g7⟩:=ih p2 s2 (by omega) (by omega)
    cases b2 with
    | true =>
     have e1:(Tm.mk ⟨#[102]⟩ [t3]).nodes=1+(t3.nodes+0):=by rw [Tm.Ao]; rfl
     refine AJ C3 A8 (of_decide_eq_true rfl) ?_
     simp (disch:=omega) only [BY,go_sem,Aa,q1,hb1,hb2,h3,Ay,Ar,A8]
     rw [hQ]
     exact ⟨.mk ⟨#[102]⟩ [t3],p3,s3,rfl,by omega,by rw [e1]; omega⟩
    | false =>
     obtain ⟨t4,p4,s4,h4,⟨g8,g9⟩,g10⟩:=ih p3 s3 (by omega) (by omega)
     have e1:(Tm.mk ⟨#[103]⟩ [t3,t4]).nodes=1+(t3.nodes+(t4.nodes+0)):=by rw [Tm.Ao]; rfl
     refine AJ C3 A8 (of_decide_eq_true rfl) ?_
     simp (disch:=omega) only [BY,go_sem,Aa,q1,hb1,hb2,h3,h4,Ay,Ar,A8]
     rw [hQ]
     exact ⟨.mk ⟨#[103]⟩ [t3,t4],p4,s4,rfl,by omega,by rw [e1]; omega⟩
theorem G5 (l:List Int) (hl:Bytes l) (hn:l.length≤1099511627776) (p s:Int) (h0:0≤p) (h1:p≤1098000000000):∃ t p' s',E 35 [.ptr 0 0] [cur l p s]=some (tmH t 1,[cur l p' s',IU t])∧(p≤p'∧p'≤p+40)∧t.nodes≤7:=by
 obtain ⟨v,p1,s1,hv,⟨v0,v1⟩,g1,g2⟩:=Ga l hl hn 3 (by omega) (by omega) p s h0 (by omega)
 have hp3:(2:Nat) ^ (1+v).toNat≤2 ^ 3:=Nat.pow_le_pow_right (by omega) (by omega)
 obtain ⟨t,p2,s2,ht,⟨g3,g4⟩,g5⟩:=Ip l hl hn (1+v).toNat (1+v) (by omega) (by omega) (by omega) p1 s1 (by omega) (by omega)
 have hp4:(2:Nat) ^ 3=8:=by decide
 refine ⟨t,p2,s2,?_,by omega,by omega⟩
 have hi:dec (inK .i64 (1+v))=true:=FZ (by omega) (by omega)
 refine Ab Io Ae (of_decide_eq_true rfl) ?_
 simp (disch:=omega) only [Fg,go_sem,Aa,hv,ht,hi,Ad,A8]
theorem UT (l:List Int) (hl:Bytes l) (hn:l.length≤1099511627776) (p s:Int) (h0:0≤p) (h1:p≤1097000000000):∃ t p' s',E 34 [.ptr 0 0] [cur l p s]=some (tmH t 1,[cur l p' s',IU t])∧(p≤p'∧p'≤p+100)∧t.nodes≤15:=by
 obtain ⟨Q,hQ⟩:∃ Q:SV × List Ob→Prop,Q=fun out=>∃ t p' s',out=(tmH t 1,[cur l p' s',IU t])∧(p≤p'∧p'≤p+100)∧t.nodes≤15:=⟨_,rfl⟩
 suffices hq0:∃ out,E 34 [.ptr 0 0] [cur l p s]=some out∧Q out by
  obtain ⟨out,hq1,hq2⟩:=hq0
  rw [hQ] at hq2
  obtain ⟨t,p',s',rfl,hq3⟩:=hq2
  exact ⟨t,p',s',hq1,hq3⟩
 have hp4:(2:Nat) ^ 2=4:=by decide
 have e1:∀ x a,(Tm.mk x [a]).nodes=1+(a.nodes+0):=fun x a=>by rw [Tm.Ao]; rfl
 have e2:∀ x a b,(Tm.mk x [a,b]).nodes=1+(a.nodes+(b.nodes+0)):=fun x a b=>by rw [Tm.Ao]; rfl
 obtain ⟨v,p1,s1,hv,⟨v0,v1⟩,g1,g2⟩:=Ga l hl hn 8 (by omega) (by omega) p s h0 (by omega)
 obtain ⟨ta,p2,s2,ha,⟨a3,a4⟩,a5⟩:=G5 l hl hn p1 s1 (by omega) (by omega)
 obtain ⟨tb,p3,s3,hb,⟨b3,b4⟩,b5⟩:=G5 l hl hn p2 s2 (by omega) (by omega)
 obtain ⟨tc,p4,s4,hc,⟨c3,c4⟩,c5⟩:=Ip l hl hn 2 2 rfl (by omega) (by omega) p1 s1 (by omega) (by omega)
 obtain ⟨td,p5,s5,hd,⟨d3,d4⟩,d5⟩:=Ip l hl hn 2 2 rfl (by omega) (by omega) p4 s4 (by omega) (by omega)
 rw [hp4] at c4 c5 d4 d5
 rcases (show v=0∨v=1∨v=2∨v=3∨v=4∨(¬ v=0∧¬ v=1∧¬ v=2∧¬ v=3∧¬ v=4) by omega) with rfl | rfl | rfl | rfl | rfl | ⟨k0,k1,k2,k3,k4⟩
 ·refine AJ BK AV (of_decide_eq_true rfl) ?_
  simp (disch:=omega) only [By,go_sem,Aa,hv,ha,hb,hc,hd,Ad,A8,Ae]
  rw [hQ]
  exact ⟨.mk ⟨#[61]⟩ [ta,tb],p3,s3,rfl,by omega,by rw [e2]; omega⟩
 ·refine AJ BK AV (of_decide_eq_true rfl) ?_
  simp (disch:=omega) only [By,go_sem,Aa,hv,ha,hb,hc,hd,Ad,A8,Ae]
  rw [hQ]
  exact ⟨.mk ⟨#[61]⟩ [ta,tb],p3,s3,rfl,by omega,by rw [e2]; omega⟩
 ·refine AJ BK AV (of_decide_eq_true rfl) ?_
  simp (disch:=omega) only [By,go_sem,Aa,hv,ha,hb,hc,hd,Ad,A8,Ae]
  rw [hQ]
  exact ⟨.mk ⟨#[114]⟩ [],p1,s1,rfl,by omega,by rw [Tm.Ao]; show 1+0≤_; omega⟩
 ·refine AJ BK AV (of_decide_eq_true rfl) ?_
  simp (disch:=omega) only [By,go_sem,Aa,hv,ha,hb,hc,hd,Ad,A8,Ae]
  rw [hQ]
  exact ⟨.mk ⟨#[113]⟩ [tc,td],p5,s5,rfl,by omega,by rw [e2]; omega⟩
 ·refine AJ BK AV (of_decide_eq_true rfl) ?_
  simp (disch:=omega) only [By,go_sem,Aa,hv,ha,hb,hc,hd,Ad,A8,Ae]
  rw [hQ]
  exact ⟨.mk ⟨#[113]⟩ [tc,td],p5,s5,rfl,by omega,by rw [e2]; omega⟩
 ·have k0:=eq_false k0
  have k1:=eq_false k1
  have k2:=eq_false k2
  have k3:=eq_false k3
  have k4:=eq_false k4
  refine AJ BK AV (of_decide_eq_true rfl) ?_
  simp (disch:=omega) only [By,go_sem,Aa,hv,hc,k0,k1,k2,k3,k4,Ad,A8,Ae]
  rw [hQ]
  exact ⟨.mk ⟨#[112]⟩ [tc],p4,s4,rfl,by omega,by rw [e1]; omega⟩
def EJ:SC:=(.seq (.reg [⟨(some 4),none,(.alloc 31 [(.str ⟨#[]⟩),.nil])⟩]) (.seq (.reg [⟨some 6,none,.mv (.t 0)⟩,⟨(some 7),none,(.mkrow 9 1 [(.str ⟨#[]⟩)] 2 [(0,(.c (.str ⟨#[88]⟩))),(1,(.c (.str ⟨#[97]⟩)))])⟩,⟨some 8,none,.call 31 [(.t 6),(.t 7)]⟩,⟨(some 9),none,(.build [(.str ⟨#[]⟩),.nil] [(0,(1,(.t 8)))])⟩,⟨(some 5),none,(.alloc 31 [(.str ⟨#[]⟩),.nil])⟩,⟨none,none,(.store 2 (.t 5) (.t 9))⟩]) (.seq (.block 0 (.loop [0,1,0,0,1,1,0,0,0,0,0,0,0,0,0,0,0,0] (.seq (.seq (.reg [⟨some 10,none,.mv (.t 1)⟩,⟨some 11,none,.bin .gtr false (.t 10) (.c (.int .i64 1))⟩]) (.cond (.t 11) .skip (.exit 0))) (.seq (.block 1 (.reg [⟨some 14,none,.load true 2 (.t 5)⟩,⟨(some 15),none,(.mkrow 31 2 [(.str ⟨#[]⟩),.nil] 1 [(0,(.t 14))])⟩,⟨(some 16),none,(.build [(.str ⟨#[]⟩),.nil] [(0,(1,(.c (.str ⟨#[102]⟩)))),(1,(1,(.t 15)))])⟩,⟨none,none,(.store 2 (.t 5) (.t 16))⟩])) (.reg [⟨some 12,none,.mv (.t 1)⟩,⟨some 13,none,.bin .sub false (.t 12) (.c (.int .i64 1))⟩,⟨some 1,none,.mv (.t 13)⟩]))))) (.seq (.reg [⟨some 17,none,.load true 2 (.t 5)⟩,⟨none,none,(.store 2 (.t 4) (.t 17))⟩]) .ret))))
theorem HL:A1 Tryz.prog 17=some ⟨18,EJ,[(.cell 4 true 2)]⟩:=by kernel_rfl
theorem As:modes 17=⟨[],.half [none,some (31,2)],none,false⟩:=by unfold modes; rfl
def Fh:SC:=(.seq (.reg [⟨(some 2),none,(.alloc 31 [(.str ⟨#[]⟩),.nil])⟩]) (.seq (.reg [⟨(some 7),none,(.build [(.str ⟨#[]⟩),.nil] [(0,(1,(.c (.str ⟨#[103]⟩))))])⟩,⟨(some 3),none,(.alloc 31 [(.str ⟨#[]⟩),.nil])⟩,⟨none,none,(.store 2 (.t 3) (.t 7))⟩]) (.seq (.seq (.reg [⟨some 4,none,.mv (.c (.int .i64 0))⟩]) (.block 0 (.loop [1,0,1,1,1,0,0,0,0,0,0,0,0,0,0,0,0,0,0,0,0,0,0,0,0,0,0,0,0,0,0,0,0,0,0,0,0,0,0,0,0,0,0,0,0,0,0,0,0,0,0,0,0,0] (.seq (.seq (.reg [⟨some 8,none,.mv (.t 4)⟩,⟨some 9,none,.bin .lss false (.t 8) (.c (.int .i64 4))⟩]) (.cond (.t 9) .skip (.exit 0))) (.seq (.block 1 (.seq (.reg [⟨(some 12),none,(.build [(.str ⟨#[]⟩),.nil] [(0,(1,(.c (.str ⟨#[104]⟩))))])⟩,⟨(some 5),none,(.alloc 31 [(.str ⟨#[]⟩),.nil])⟩,⟨none,none,(.store 2 (.t 5) (.t 12))⟩]) (.seq (.seq (.reg [⟨some 6,none,.mv (.c (.int .i64 0))⟩]) (.block 2 (.loop [1,0,1,1,1,1,1,0,0,0,0,0,0,0,0,0,0,0,0,0,0,0,0,0,0,0,0,0,0,0,0,0,0,0,0,0,0,0,0,0,0,0,0,0,0,0,0,0,0,0,0,0,0,0] (.seq (.seq (.reg [⟨some 13,none,.mv (.t 6)⟩,⟨some 14,none,.bin .lss false (.t 13) (.c (.int .i64 4))⟩]) (.cond (.t 14) .skip (.exit 2))) (.seq (.block 3 (.reg [⟨some 17,none,.faddr 1 (.t 5)⟩,⟨some 18,none,.load false 1 (.t 17)⟩,⟨(some 19),none,(.build [(.str ⟨#[]⟩),.nil] [(0,(1,(.c (.str ⟨#[97]⟩))))])⟩,⟨(some 20),none,(.mkrow 31 2 [(.str ⟨#[]⟩),.nil] 1 [(0,(.t 19))])⟩,⟨(some 21),none,(.build [(.str ⟨#[]⟩),.nil] [(0,(1,(.c (.str ⟨#[102]⟩)))),(1,(1,(.t 20)))])⟩,⟨(some 22),none,(.mkrow 31 2 [(.str ⟨#[]⟩),.nil] 1 [(0,(.t 21))])⟩,⟨(some 23),none,(.append 31 2 40 [(.str ⟨#[]⟩),.nil] (.t 18) (.t 22))⟩,⟨some 24,none,.faddr 1 (.t 5)⟩,⟨none,none,(.store 1 (.t 24) (.t 23))⟩])) (.reg [⟨some 15,none,.mv (.t 6)⟩,⟨some 16,none,.bin .add false (.t 15) (.c (.int .i64 1))⟩,⟨some 6,none,.mv (.t 16)⟩])))))) (.reg [⟨some 25,none,.faddr 1 (.t 3)⟩,⟨some 26,none,.load false 1 (.t 25)⟩,⟨some 27,none,.load true 2 (.t 5)⟩,⟨(some 28),none,(.mkrow 31 2 [(.str ⟨#[]⟩),.nil] 1 [(0,(.t 27))])⟩,⟨(some 29),none,(.append 31 2 40 [(.str ⟨#[]⟩),.nil] (.t 26) (.t 28))⟩,⟨some 30,none,.faddr 1 (.t 3)⟩,⟨none,none,(.store 1 (.t 30) (.t 29))⟩])))) (.reg [⟨some 10,none,.mv (.t 4)⟩,⟨some 11,none,.bin .add false (.t 10) (.c (.int .i64 1))⟩,⟨some 4,none,.mv (.t 11)⟩])))))) (.seq (.seq (.reg [⟨some 31,none,.mv (.t 0)⟩,⟨some 32,none,.call 15 [(.t 31),(.c (.int .i64 2))]⟩]) (.cond (.t 32) (.reg [⟨some 33,none,.faddr 1 (.t 3)⟩,⟨some 34,none,.load false 1 (.t 33)⟩,⟨some 35,none,.slice false 2 (.t 34) none (some (.c (.int .i64 3)))⟩,⟨some 36,none,.faddr 1 (.t 3)⟩,⟨none,none,(.store 1 (.t 36) (.t 35))⟩]) .skip)) (.seq (.seq (.reg [⟨some 37,none,.mv (.t 0)⟩,⟨some 38,none,.call 15 [(.t 37),(.c (.int .i64 2))]⟩,⟨some 39,none,.mv (.t 38)⟩,⟨(some 40),(some (39,true)),(.faddr 1 (.t 3))⟩,⟨(some 41),(some (39,true)),(.load false 1 (.t 40))⟩,⟨(some 42),(some (39,true)),(.len false (.t 41))⟩,⟨(some 43),(some (39,true)),(.bin .eql false (.t 42) (.c (.int .i64 3)))⟩,⟨some 44,none,.pick (.t 39) (.t 43) (.c (.bool false))⟩]) (.cond (.t 44) (.reg [⟨some 45,none,.faddr 1 (.t 3)⟩,⟨some 46,none,.load false 1 (.t 45)⟩,⟨(some 47),none,(.build [(.str ⟨#[]⟩),.nil] [(0,(1,(.c (.str ⟨#[98]⟩))))])⟩,⟨(some 48),none,(.mkrow 31 2 [(.str ⟨#[]⟩),.nil] 1 [(0,(.t 47))])⟩,⟨(some 49),none,(.build [(.str ⟨#[]⟩),.nil] [(0,(1,(.c (.str ⟨#[102]⟩)))),(1,(1,(.t 48)))])⟩,⟨(some 50),none,(.mkrow 31 2 [(.str ⟨#[]⟩),.nil] 1 [(0,(.t 49))])⟩,⟨(some 51),none,(.append 31 2 40 [(.str ⟨#[]⟩),.nil] (.t 46) (.t 50))⟩,⟨some 52,none,.faddr 1 (.t 3)⟩,⟨none,none,(.store 1 (.t 52) (.t 51))⟩]) .skip)) (.seq (.reg [⟨some 53,none,.load true 2 (.t 3)⟩,⟨none,none,(.store 2 (.t 2) (.t 53))⟩]) .ret))))))
theorem Iq:A1 Tryz.prog 57=some ⟨54,Fh,[(.cell 2 true 2)]⟩:=by kernel_rfl
theorem Bj:modes 57=⟨[],.half [none,some (31,2)],none,false⟩:=by unfold modes; rfl
def AQ:SC:=(.seq (.reg [⟨(some 2),none,(.alloc 31 [(.str ⟨#[]⟩),.nil])⟩]) (.seq (.reg [⟨some 4,none,.mv (.t 0)⟩,⟨some 5,none,.call 35 [(.t 4)]⟩,⟨(some 3),none,(.alloc 31 [(.str ⟨#[]⟩),.nil])⟩,⟨none,none,(.store 2 (.t 3) (.t 5))⟩]) (.seq (.seq (.reg [⟨some 6,none,.mv (.t 0)⟩,⟨some 7,none,.call 30 [(.t 6),(.c (.int .i64 24))]⟩]) (.block 0 (.seq (.reg [⟨some 9,none,.bin .eql false (.t 7) (.c (.int .i64 0))⟩,⟨some 8,none,.mv (.t 9)⟩]) (.cond (.t 8) (.reg [⟨some 10,none,.mv (.t 0)⟩,⟨(some 11),none,(.mkrow 9 1 [(.str ⟨#[]⟩)] 14 [(0,(.c (.str ⟨#[]⟩))),(1,(.c (.str ⟨#[116,114,117,101]⟩))),(2,(.c (.str ⟨#[116,114,117,116,104]⟩))),(3,(.c (.str ⟨#[105,102]⟩))),(4,(.c (.str ⟨#[88,121,122,57]⟩))),(5,(.c (.str ⟨#[88,121,122,57,57]⟩))),(6,(.c (.str ⟨#[120,65]⟩))),(7,(.c (.str ⟨#[97,95,98]⟩))),(8,(.c (.str ⟨#[97,98,99,100,101,102]⟩))),(9,(.c (.str ⟨#[97,98,99,100,101,102,103]⟩))),(10,(.c (.str ⟨#[95,97]⟩))),(11,(.c (.str ⟨#[57]⟩))),(12,(.c (.str ⟨#[88,95]⟩))),(13,(.c (.str ⟨#[61]⟩)))])⟩,⟨some 12,none,.call 31 [(.t 10),(.t 11)]⟩,⟨some 13,none,.faddr 0 (.t 3)⟩,⟨none,none,(.store 1 (.t 13) (.t 12))⟩]) (.seq (.reg [⟨some 15,none,.bin .eql false (.t 7) (.c (.int .i64 1))⟩,⟨some 14,none,.mv (.t 15)⟩]) (.cond (.t 14) (.seq (.reg [⟨some 16,none,.mv (.t 0)⟩,⟨some 17,none,.mv (.t 0)⟩,⟨some 18,none,.call 30 [(.t 17),(.c (.int .i64 3))]⟩,⟨some 19,none,.bin .add false (.c (.int .i64 7)) (.t 18)⟩,⟨some 20,none,.call 17 [(.t 16),(.t 19)]⟩,⟨none,none,(.store 2 (.t 2) (.t 20))⟩]) .ret) (.seq (.reg [⟨some 22,none,.bin .eql false (.t 7) (.c (.int .i64 2))⟩,⟨some 21,none,.mv (.t 22)⟩]) (.cond (.t 21) (.seq (.reg [⟨some 23,none,.mv (.t 0)⟩,⟨some 24,none,.call 57 [(.t 23)]⟩,⟨none,none,(.store 2 (.t 2) (.t 24))⟩]) .ret) (.seq (.reg [⟨some 26,none,.bin .eql false (.t 7) (.c (.int .i64 3))⟩,⟨some 25,none,.mv (.t 26)⟩]) (.cond (.t 25) (.dreg [[],[0],[],[2],[],[4,3,2],[],[6,5,4,3,2],[3,2,5,4,7,6],[1,0,8,3,2,5,4,7,6],[0,1,2,3,4,5,6,7,8,9],[10,0,1,2,3,4,5,6,7,8,9]] [⟨some 27,none,.faddr 1 (.t 3)⟩,⟨some 28,none,.load false 1 (.t 27)⟩,⟨some 29,none,.mv (.t 0)⟩,⟨some 30,none,.call 35 [(.t 29)]⟩,⟨some 31,none,.mv (.t 0)⟩,⟨some 32,none,.call 35 [(.t 31)]⟩,⟨some 33,none,.mv (.t 0)⟩,⟨some 34,none,.call 35 [(.t 33)]⟩,⟨(some 35),none,(.mkrow 31 2 [(.str ⟨#[]⟩),.nil] 3 [(0,(.t 30)),(1,(.t 32)),(2,(.t 34))])⟩,⟨(some 36),none,(.append 31 2 40 [(.str ⟨#[]⟩),.nil] (.t 28) (.t 35))⟩,⟨some 37,none,.faddr 1 (.t 3)⟩,⟨none,none,(.store 1 (.t 37) (.t 36))⟩]) (.seq (.reg [⟨some 39,none,.bin .eql false (.t 7) (.c (.int .i64 4))⟩,⟨some 38,none,.mv (.t 39)⟩]) (.cond (.t 38) (.seq (.reg [⟨some 40,none,.faddr 1 (.t 3)⟩,⟨some 41,none,.load false 1 (.t 40)⟩,⟨some 42,none,.len false (.t 41)⟩,⟨some 43,none,.bin .gtr false (.t 42) (.c (.int .i64 0))⟩]) (.cond (.t 43) (.dreg [[],[0],[],[],[2,3],[],[5],[6,5],[7,6,5],[8,7,6,5],[4,2,3,9,8,7,6,5],[1,0,2,3,4,5,6,7,8,9,10],[11,1,0,2,3,4,5,6,7,8,9,10]] [⟨some 44,none,.faddr 1 (.t 3)⟩,⟨some 45,none,.load false 1 (.t 44)⟩,⟨some 46,none,.mv (.t 0)⟩,⟨(some 47),none,(.mkrow 9 1 [(.str ⟨#[]⟩)] 4 [(0,(.c (.str ⟨#[61]⟩))),(1,(.c (.str ⟨#[]⟩))),(2,(.c (.str ⟨#[81,49]⟩))),(3,(.c (.str ⟨#[98,50]⟩)))])⟩,⟨some 48,none,.call 31 [(.t 46),(.t 47)]⟩,⟨some 49,none,.faddr 1 (.t 3)⟩,⟨some 50,none,.load false 1 (.t 49)⟩,⟨some 51,none,.iaddr 2 (.t 50) (.c (.int .i64 0))⟩,⟨some 52,none,.faddr 1 (.t 51)⟩,⟨some 53,none,.load false 1 (.t 52)⟩,⟨(some 54),none,(.build [(.str ⟨#[]⟩),.nil] [(0,(1,(.t 48))),(1,(1,(.t 53)))])⟩,⟨some 55,none,.iaddr 2 (.t 45) (.c (.int .i64 0))⟩,⟨none,none,(.store 2 (.t 55) (.t 54))⟩]) .skip)) .skip)))))))))))) (.seq (.reg [⟨some 56,none,.load true 2 (.t 3)⟩,⟨none,none,(.store 2 (.t 2) (.t 56))⟩]) .ret))))
theorem Be:A1 Tryz.prog 32=some ⟨57,AQ,[(.cell 2 true 2)]⟩:=by kernel_rfl
theorem Ah:modes 32=⟨[],.half [none,some (31,2)],none,false⟩:=by unfold modes; rfl
def BL:SC:=(.seq (.reg [⟨(some 2),none,(.alloc 31 [(.str ⟨#[]⟩),.nil])⟩]) (.seq (.seq (.reg [⟨some 4,none,.mv (.t 0)⟩,⟨some 5,none,.call 15 [(.t 4),(.c (.int .i64 3))]⟩]) (.cond (.t 5) (.seq (.reg [⟨some 6,none,.mv (.t 0)⟩,⟨some 7,none,.call 34 [(.t 6)]⟩,⟨(some 3),none,(.alloc 31 [(.str ⟨#[]⟩),.nil])⟩,⟨none,none,(.store 2 (.t 3) (.t 7))⟩]) (.seq (.seq (.reg [⟨some 8,none,.mv (.t 0)⟩,⟨some 9,none,.call 15 [(.t 8),(.c (.int .i64 12))]⟩]) (.cond (.t 9) (.dreg [[],[0],[],[2],[3,2],[1,0,4,3,2],[0,1,2,3,4,5],[6,0,1,2,3,4,5]] [⟨some 10,none,.faddr 1 (.t 3)⟩,⟨some 11,none,.load false 1 (.t 10)⟩,⟨some 12,none,.mv (.t 0)⟩,⟨some 13,none,.call 35 [(.t 12)]⟩,⟨(some 14),none,(.mkrow 31 2 [(.str ⟨#[]⟩),.nil] 1 [(0,(.t 13))])⟩,⟨(some 15),none,(.append 31 2 40 [(.str ⟨#[]⟩),.nil] (.t 11) (.t 14))⟩,⟨some 16,none,.faddr 1 (.t 3)⟩,⟨none,none,(.store 1 (.t 16) (.t 15))⟩]) .skip)) (.seq (.reg [⟨some 17,none,.load true 2 (.t 3)⟩,⟨none,none,(.store 2 (.t 2) (.t 17))⟩]) .ret))) .skip)) (.seq (.reg [⟨some 18,none,.mv (.t 0)⟩,⟨some 19,none,.call 32 [(.t 18)]⟩,⟨none,none,(.store 2 (.t 2) (.t 19))⟩]) .ret)))
theorem Cw:A1 Tryz.prog 18=some ⟨20,BL,[(.cell 2 true 2)]⟩:=by kernel_rfl
theorem Bt:modes 18=⟨[],.half [none,some (31,2)],none,false⟩:=by unfold modes; rfl
def twr (x:ByteArray):Nat→Tm
 | 0=>.mk x []
 | k+1=>.mk ⟨#[102]⟩ [twr x k]
theorem Md (x:ByteArray):∀ k,(twr x k).nodes=k+1
 | 0=>by rw [twr,Tm.Ao]; rfl
 | k+1=>by
  have:(twr x (k+1)).nodes=1+((twr x k).nodes+0):=by rw [twr,Tm.Ao]; rfl
  rw [this,Md x k]; omega
theorem TY (x:ByteArray):[[OT.str x,OT.ow []]]=[Tm.mk x []].map Tm.o:=by rw [zB,zG,Tm.KA]; rfl
theorem Vv (x:ByteArray) (l:List Tm):[[OT.str x,OT.ow (l.map Tm.o)]]=[Tm.mk x l].map Tm.o:=by rw [zB,zG,Tm.KA]; rfl
theorem Tm.T9 (x:Tm):OT.Ho x.o=x.osh:=by
 have:=Tm.OX [x]
 simp only [zB,zG,OT.BX,List.cons.injEq,and_true] at this
 exact this
theorem Tm.TA (x:Tm):OT.CJ x.o=true:=by
 have:=Tm.fus [x]
 simp only [zB,zG,OT.AB,zT] at this
 exact this
theorem Tm.En (x:Tm):x.o.length=2:=by rw [Tm.KA]; rfl
abbrev tZ:Ob:=.box 31 [.str ⟨#[]⟩,.nil]
theorem MJ (l:List Int) (hl:Bytes l) (hn:l.length≤1099511627776) (m:Int) (hm:1≤m) (hm2:m≤100) (p s:Int) (h0:0≤p) (h1:p≤1099000000000):∃ t p' s',E 17 [.ptr 0 0,.int .i64 m] [cur l p s]=some (tmH t 1,[cur l p' s',IU t])∧(p≤p'∧p'≤p+1)∧t.nodes≤150:=by
 obtain ⟨Q,hQ⟩:∃ Q:SV × List Ob→Prop,Q=fun out=>∃ t p' s',out=(tmH t 1,[cur l p' s',IU t])∧(p≤p'∧p'≤p+1)∧t.nodes≤150:=⟨_,rfl⟩
 suffices hq0:∃ out,E 17 [.ptr 0 0,.int .i64 m] [cur l p s]=some out∧Q out by
  obtain ⟨out,hq1,hq2⟩:=hq0
  rw [hQ] at hq2
  obtain ⟨t,p',s',rfl,hq3⟩:=hq2
  exact ⟨t,p',s',hq1,hq3⟩
 obtain ⟨x,p1,s1,ho,_,g1,g2⟩:=RL l hl hn [⟨#[88]⟩,⟨#[97]⟩] (by decide) (by decide) p s h0 (by omega)
 simp only [zB,zG] at ho
 refine AJ HL As (of_decide_eq_true rfl) ?_
 simp (disch:=omega) only [EJ,go_sem,Aa,ho,Ay]
 refine go_loop (α:=Nat) (fun k=>⟨slots 18 0 [(1,.int .i64 (m-(k:Nat))),(4,.ptr 1 0),(5,.ptr 2 0)],(if k=0 then [cur l p1 s1,tZ,.box 31 [.str x,.nil]] else [cur l p1 s1,tZ,.box 31 [.str ⟨#[102]⟩,.ref 3],.row 31 2 ([twr x (k-1)].map Tm.o)])⟩) (fun k=>(k:Int)≤m-1) (fun k=>(m-k).toNat) 0 (by omega) (by simp (disch:=omega) only [go_sem,Aa,eq_self,if_true,Int.natCast_zero,Int.sub_zero]) ?_
 intro k hk
 by_cases hlt:1<m-(k:Int)
 ·have q1:(1<m-(k:Int))=True:=eq_true hlt
  have hi:dec (inK .i64 (m-(k:Int)-1))=true:=FZ (by omega) (by omega)
  have q4:m-(k:Int)-1=m-((k+1:Nat):Int):=by omega
  have q5:(k+1=0)=False:=by simp
  have q6:k+1-1=k:=by omega
  rcases zK k with hk0 | hk0
  ·subst hk0
   have hs:=TY x
   have q7:m-((0:Nat):Int)-1=m-((0+1:Nat):Int):=by omega
   simp (disch:=omega) only [go_sem,Aa,q1,hi,eq_self,if_true]
   refine ⟨0+1,by omega,by omega,?_⟩
   simp (disch:=omega) only [go_sem,Aa,q5,if_false,q7]
   first | rfl | (rw [hs]; rfl)
  ·obtain ⟨j,rfl⟩:∃ j,k=j+1:=⟨k-1,by omega⟩
   have hs:=Vv ⟨#[102]⟩ [twr x j]
   have q8:(j+1=0)=False:=by simp
   have q9:j+1-1=j:=by omega
   simp (disch:=omega) only [go_sem,Aa,q1,hi,q8,q9,if_false]
   refine ⟨j+1+1,by omega,by omega,?_⟩
   simp (disch:=omega) only [go_sem,Aa,q5,q6,if_false,q4]
   first | rfl | (rw [hs]; rfl)
 ·have q1:(1<m-(k:Int))=False:=eq_false hlt
  have hnd:=Md x k
  rcases zK k with hk0 | hk0
  ·subst hk0
   simp (disch:=omega) only [go_sem,Aa,q1,eq_self,if_true]
   rw [hQ]
   exact ⟨twr x 0,p1,s1,rfl,by omega,by omega⟩
  ·obtain ⟨j,rfl⟩:∃ j,k=j+1:=⟨k-1,by omega⟩
   have q8:(j+1=0)=False:=by simp
   have q9:j+1-1=j:=by omega
   have hh:=Tm.T9 (twr x j)
   have hf:=Tm.TA (twr x j)
   simp (disch:=omega) only [go_sem,Aa,q1,q8,q9,if_false,hh,hf]
   rw [hQ]
   exact ⟨twr x (j+1),p1,s1,rfl,by omega,by omega⟩
def wdF:Tm:=.mk ⟨#[102]⟩ [.mk ⟨#[97]⟩ []]
def wdP:Tm:=.mk ⟨#[104]⟩ (zE 4 wdF)
theorem Eo:[OT.str ⟨#[102]⟩,OT.ow [[OT.str ⟨#[97]⟩,OT.ow []]]]=wdF.o:=by
 rw [wdF,Tm.KA]
 show _=[OT.str ⟨#[102]⟩,OT.ow ([Tm.mk ⟨#[97]⟩ []].map Tm.o)]
 rw [←TY]
theorem Ep:[OT.str ⟨#[104]⟩,OT.ow [wdF.o,wdF.o,wdF.o,wdF.o]]=wdP.o:=by rw [wdP,Tm.KA]; rfl
theorem KF {α β:Type} (f:α→β) (x:α) (n:Nat):(zE n x).map f++[f x]=(zE (n+1) x).map f:=by
 rw [List.replicate_succ',zW]; rfl
theorem Q2:wdF.nodes=2:=by rw [wdF,Tm.Ao]; show 1+((Tm.mk _ []).nodes+0)=2; rw [Tm.Ao]; rfl
theorem IV:wdP.nodes=9:=by
 rw [wdP,Tm.Ao]
 show 1+(wdF.nodes+(wdF.nodes+(wdF.nodes+(wdF.nodes+0))))=9
 rw [Q2]
theorem UU (l:List Int) (hl:Bytes l) (hn:l.length≤1099511627776) (p s:Int) (h0:0≤p) (h1:p≤1099000000000):∃ t p' s',E 57 [.ptr 0 0] [cur l p s]=some (tmH t 1,[cur l p' s',IU t])∧(p≤p'∧p'≤p+2)∧t.nodes≤150:=by
 obtain ⟨Q,hQ⟩:∃ Q:SV × List Ob→Prop,Q=fun out=>∃ t p' s',out=(tmH t 1,[cur l p' s',IU t])∧(p≤p'∧p'≤p+2)∧t.nodes≤150:=⟨_,rfl⟩
 suffices hq0:∃ out,E 57 [.ptr 0 0] [cur l p s]=some out∧Q out by
  obtain ⟨out,hq1,hq2⟩:=hq0
  rw [hQ] at hq2
  obtain ⟨t,p',s',rfl,hq3⟩:=hq2
  exact ⟨t,p',s',hq1,hq3⟩
 have h10:((1:Int)=0)=False:=by simp
 refine AJ Iq Bj (of_decide_eq_true rfl) ?_
 simp (disch:=omega) only [Fh,go_sem,Aa]
 refine go_loop (α:=Int) (fun i=>⟨slots 54 0 [(0,.ptr 0 0),(2,.ptr 1 0),(3,.ptr 2 0),(4,.int .i64 i)],(if i=0 then [cur l p s,tZ,.box 31 [.str ⟨#[103]⟩,.nil]] else [cur l p s,tZ,.box 31 [.str ⟨#[103]⟩,.ref 3],.row 31 2 ((zE i.toNat wdP).map Tm.o)])⟩) (fun i=>∃ k:Nat,i=k∧k≤4) (fun i=>(4-i).toNat) 0 ⟨0,rfl,by omega⟩ (by simp (disch:=omega) only [go_sem,Aa,eq_self,if_true]) ?_
 rintro i ⟨k,hi,hk⟩
 have hni:i.toNat=k:=by omega
 have hni1:(i+1).toNat=k+1:=by omega
 rcases zC k 4 with hlt | hge
 ·have q1:(i<4)=True:=eq_true (by omega)
  have hi1:(i+1=0)=False:=by simp; omega
  have hsP:=KF Tm.o wdP k
  rcases zK k with hk0 | hk0
  ·subst hk0
   obtain rfl:i=0:=hi
   simp (disch:=omega) only [go_sem,Aa,q1,eq_self,if_true,Eo,Ep,zD,Tm.En]
   refine go_loop (α:=Int) (fun j=>⟨slots 54 0 [(0,.ptr 0 0),(2,.ptr 1 0),(3,.ptr 2 0),(4,.int .i64 0),(5,.ptr 3 0),(6,.int .i64 j)],(if (0:Int)=0 then (if j=0 then [cur l p s,tZ,.box 31 [.str ⟨#[103]⟩,.nil],.box 31 [.str ⟨#[104]⟩,.nil]] else [cur l p s,tZ,.box 31 [.str ⟨#[103]⟩,.nil],.box 31 [.str ⟨#[104]⟩,.ref 4],.row 31 2 ((zE j.toNat wdF).map Tm.o)]) else (if j=0 then [cur l p s,tZ,.box 31 [.str ⟨#[103]⟩,.ref 4],.box 31 [.str ⟨#[104]⟩,.nil],.row 31 2 ((zE (0:Int).toNat wdP).map Tm.o)] else [cur l p s,tZ,.box 31 [.str ⟨#[103]⟩,.ref 4],.box 31 [.str ⟨#[104]⟩,.ref 5],.row 31 2 ((zE (0:Int).toNat wdP).map Tm.o),.row 31 2 ((zE j.toNat wdF).map Tm.o)]))⟩) (fun j=>∃ k:Nat,j=k∧k≤4) (fun j=>(4-j).toNat) 0 ⟨0,rfl,by omega⟩ (by simp (disch:=omega) only [go_sem,Aa,eq_self,if_true,Eo,Ep,zD,Tm.En]) ?_
   rintro j ⟨n,hj,hn4⟩
   have hnj:j.toNat=n:=by omega
   have hnj1:(j+1).toNat=n+1:=by omega
   have hj1:(j+1=0)=False:=by simp; omega
   rcases zC n 4 with hlt2 | hge2
   ·have q2:(j<4)=True:=eq_true (by omega)
    have hsF:=KF Tm.o wdF n
    rcases zK n with hn0 | hn0
    ·subst hn0
     obtain rfl:j=0:=hj
     simp (disch:=omega) only [go_sem,Aa,q2,eq_self,if_true,Eo,Ep,zD,Tm.En]
     refine ⟨1,⟨1,rfl,by omega⟩,by omega,?_⟩
     simp (disch:=omega) only [go_sem,Aa,eq_self,if_true,h10,if_false,Eo,Ep,zD,Tm.En]
    ·have hj0:(j=0)=False:=by simp; omega
     simp (disch:=omega) only [go_sem,Aa,q2,eq_self,if_true,hj0,if_false,hnj,Eo,Ep,zD,Tm.En]
     refine ⟨j+1,⟨n+1,by omega,by omega⟩,by omega,?_⟩
     simp (disch:=omega) only [go_sem,Aa,eq_self,if_true,hj1,if_false,hnj,hnj1,hsF,Eo,Ep,zD,Tm.En]
   ·obtain rfl:n=4:=by omega
    have hj4:j=4:=hj
    subst hj4
    have q2:((4:Int)=0)=False:=by simp
    simp (disch:=omega) only [go_sem,Aa,q2,eq_self,if_true,if_false,Eo,Ep,zD,Tm.En]
    refine ⟨1,⟨1,rfl,by omega⟩,by omega,?_⟩
    simp (disch:=omega) only [go_sem,Aa,h10,if_false,Eo,Ep,zD,Tm.En]
  ·have hi0:(i=0)=False:=by simp; omega
   simp (disch:=omega) only [go_sem,Aa,q1,hi0,if_false,Eo,Ep,zD,Tm.En]
   refine go_loop (α:=Int) (fun j=>⟨slots 54 0 [(0,.ptr 0 0),(2,.ptr 1 0),(3,.ptr 2 0),(4,.int .i64 i),(5,.ptr 3 0),(6,.int .i64 j)],(if i=0 then (if j=0 then [cur l p s,tZ,.box 31 [.str ⟨#[103]⟩,.nil],.box 31 [.str ⟨#[104]⟩,.nil]] else [cur l p s,tZ,.box 31 [.str ⟨#[103]⟩,.nil],.box 31 [.str ⟨#[104]⟩,.ref 4],.row 31 2 ((zE j.toNat wdF).map Tm.o)]) else (if j=0 then [cur l p s,tZ,.box 31 [.str ⟨#[103]⟩,.ref 4],.box 31 [.str ⟨#[104]⟩,.nil],.row 31 2 ((zE i.toNat wdP).map Tm.o)] else [cur l p s,tZ,.box 31 [.str ⟨#[103]⟩,.ref 4],.box 31 [.str ⟨#[104]⟩,.ref 5],.row 31 2 ((zE i.toNat wdP).map Tm.o),.row 31 2 ((zE j.toNat wdF).map Tm.o)]))⟩) (fun j=>∃ k:Nat,j=k∧k≤4) (fun j=>(4-j).toNat) 0 ⟨0,rfl,by omega⟩ (by simp (disch:=omega) only [go_sem,Aa,hi0,if_false,eq_self,if_true,Eo,Ep,zD,Tm.En]) ?_
   rintro j ⟨n,hj,hn4⟩
   have hnj:j.toNat=n:=by omega
   have hnj1:(j+1).toNat=n+1:=by omega
   have hj1:(j+1=0)=False:=by simp; omega
   rcases zC n 4 with hlt2 | hge2
   ·have q2:(j<4)=True:=eq_true (by omega)
    have hsF:=KF Tm.o wdF n
    rcases zK n with hn0 | hn0
    ·subst hn0
     obtain rfl:j=0:=hj
     simp (disch:=omega) only [go_sem,Aa,q2,hi0,if_false,eq_self,if_true,Eo,Ep,zD,Tm.En]
     refine ⟨1,⟨1,rfl,by omega⟩,by omega,?_⟩
     simp (disch:=omega) only [go_sem,Aa,hi0,h10,if_false,Eo,Ep,zD,Tm.En]
    ·have hj0:(j=0)=False:=by simp; omega
     simp (disch:=omega) only [go_sem,Aa,q2,hi0,hj0,if_false,hnj,Eo,Ep,zD,Tm.En]
     refine ⟨j+1,⟨n+1,by omega,by omega⟩,by omega,?_⟩
     simp (disch:=omega) only [go_sem,Aa,hi0,hj1,if_false,hnj,hnj1,hsF,Eo,Ep,zD,Tm.En]
   ·obtain rfl:n=4:=by omega
    have hj4:j=4:=hj
    subst hj4
    have q2:((4:Int)=0)=False:=by simp
    simp (disch:=omega) only [go_sem,Aa,q2,hi0,if_false,hni,Eo,Ep,zD,Tm.En]
    refine ⟨i+1,⟨k+1,by omega,by omega⟩,by omega,?_⟩
    simp (disch:=omega) only [go_sem,Aa,hi1,if_false,hni1,hsP,Eo,Ep,zD,Tm.En]
 ·obtain rfl:k=4:=by omega
  have hi4:i=4:=hi
  subst hi4
  have q2:((4:Int)=0)=False:=by simp
  obtain ⟨b1,p1,s1,hb1,g1,g2⟩:=Jw l hl hn 2 (by omega) (by omega) p s h0 (by omega)
  obtain ⟨b2,p2,s2,hb2,g3,g4⟩:=Jw l hl hn 2 (by omega) (by omega) p1 s1 (by omega) (by omega)
  have n4:(Tm.mk ⟨#[103]⟩ (zE 4 wdP)).nodes=37:=by
   rw [Tm.Ao]
   show 1+(wdP.nodes+(wdP.nodes+(wdP.nodes+(wdP.nodes+0))))=37
   rw [IV]
  have n3:(Tm.mk ⟨#[103]⟩ (zE 3 wdP)).nodes=28:=by
   rw [Tm.Ao]
   show 1+(wdP.nodes+(wdP.nodes+(wdP.nodes+0)))=28
   rw [IV]
  have n5:(Tm.mk ⟨#[103]⟩ (zE 3 wdP++[.mk ⟨#[102]⟩ [.mk ⟨#[98]⟩ []]])).nodes=30:=by
   rw [Tm.Ao]
   show 1+(wdP.nodes+(wdP.nodes+(wdP.nodes+((Tm.mk _ [.mk _ []]).nodes+0))))=30
   rw [IV,Tm.Ao]
   show 1+(9+(9+(9+(1+((Tm.mk _ []).nodes+0)+0))))=30
   rw [Tm.Ao]; rfl
  cases b1 <;> cases b2
  ·simp (disch:=omega) only [go_sem,Aa,q2,if_false,hb1,hb2,Ar]
   rw [hQ]
   exact ⟨.mk ⟨#[103]⟩ (zE 4 wdP),p2,s2,rfl,by omega,by omega⟩
  ·simp (disch:=omega) only [go_sem,Aa,q2,if_false,hb1,hb2,Ar]
   rw [hQ]
   exact ⟨.mk ⟨#[103]⟩ (zE 4 wdP),p2,s2,rfl,by omega,by omega⟩
  ·simp (disch:=omega) only [go_sem,Aa,q2,if_false,hb1,hb2,Ar]
   rw [hQ]
   exact ⟨.mk ⟨#[103]⟩ (zE 3 wdP),p2,s2,rfl,by omega,by omega⟩
  ·simp (disch:=omega) only [go_sem,Aa,q2,if_false,hb1,hb2,Ar]
   rw [hQ]
   exact ⟨.mk ⟨#[103]⟩ (zE 3 wdP++[.mk ⟨#[102]⟩ [.mk ⟨#[98]⟩ []]]),p2,s2,rfl,by omega,by omega⟩
theorem RO (x:Tm) (hn:x.nodes≤1099511627776) (ih:∀ y∈x.args,E 71 [y.sv] []=some (y.sv,[])):E 71 [x.sv] []=some (x.sv,[]):=by
 have hl:=Tm.length_le x.args
 have hne:=Tm.Ao x
 have h10:((1:Int)=0)=False:=by simp
 have hfu:=Tm.EI x.args
 have her:=Tm.G4 x.args
 refine Ab MG Ce (of_decide_eq_true rfl) ?_
 simp (disch:=omega) only [Im,go_sem,Aa]
 refine go_loop (α:=Int) (fun a=>⟨slots 27 0 [(1,.ptr 0 0),(2,.ptr 1 0),(3,.ptr 2 0),(4,.int .i64 a)],(if a=0 then [.box 31 [.str x.name,.arr (x.args.map Tm.d)],.box 31 [.str ⟨#[]⟩,.nil],.box 31 [.str x.name,.nil]] else [.box 31 [.str x.name,.arr (x.args.map Tm.d)],.box 31 [.str ⟨#[]⟩,.nil],.box 31 [.str x.name,.ref 3],.row 31 2 ((x.args.take a.toNat).map Tm.osh)])⟩) (fun a=>∃ k:Nat,a=k∧k≤(x.args).length) (fun a=>(x.args).length-(a).toNat) 0 ⟨0,rfl,zP _⟩ (by simp (disch:=omega) only [go_sem,Aa,eq_self,if_true]) ?_
 rintro i ⟨k,hi,hk⟩
 have hni:i.toNat=k:=by omega
 have hni1:(i+1).toNat=k+1:=by omega
 rcases zC k (x.args).length with hlt | hge
 ·have hg:=get_at Tm.d hlt
  rw [Tm.d_eq] at hg
  have hc:=ih x.args[k] (zF hlt)
  have hs:=NR Tm.osh hlt
  rw [Tm.HK] at hs
  rcases zK k with h0 | h0
  ·subst h0
   obtain rfl:i=0:=hi
   rw [y9,zG,y8] at hs
   simp (disch:=omega) only [go_sem,Aa,hni,hg,hc,Ce,eq_self,if_true]
   refine ⟨1,⟨1,rfl,hlt⟩,by omega,?_⟩
   simp (disch:=omega) only [go_sem,Aa,h10,if_false,hs]
  ·have hi0:(i=0)=False:=by simp; omega
   have hi1:(i+1=0)=False:=by simp; omega
   have htl:(x.args.take k).length=k:=by rw [List.length_take]; omega
   simp (disch:=omega) only [go_sem,Aa,hni,hg,hc,Ce,hi0,if_false,htl]
   refine ⟨i+1,⟨k+1,by omega,hlt⟩,by omega,?_⟩
   simp (disch:=omega) only [go_sem,Aa,hni1,hi1,if_false,hs]
 ·obtain rfl:k=x.args.length:=by omega
  have ht:x.args.take x.args.length=x.args:=List.take_length
  rcases zK x.args.length with h0 | h0
  ·have hx:x.args=[]:=zH h0
   obtain rfl:i=0:=by omega
   simp (disch:=omega) only [go_sem,Aa,hni,hx,eq_self,if_true,zG,yA]
  ·have hi0:(i=0)=False:=by simp; omega
   simp (disch:=omega) only [go_sem,Aa,hni,hi0,if_false,ht,hfu,her]
theorem JH (x:Tm) (hn:x.nodes≤1099511627776):E 71 [x.sv] []=some (x.sv,[]) :=
 RO x hn fun y hy=>JH y (by have:=Tm.BU hy; have:=Tm.Ao x; omega)
termination_by SizeOf.sizeOf x
decreasing_by exact Tm.AL hy
theorem Tm.Dn (x:ByteArray) (l:List Tm):(Tm.mk x l).nodes=1+Tm.Bb l:=Tm.Ao _
theorem Tm.IW:∀ (a b:List Tm),Tm.Bb (a++b)=Tm.Bb a+Tm.Bb b
 | [],b=>by simp [Tm.Bb]
 | x :: a,b=>by simp only [yJ,Tm.Bb,Tm.IW a b]; omega
theorem Tm.UV (a b c:Tm):Tm.Bb [a,b,c]=a.nodes+(b.nodes+(c.nodes+0)):=rfl
theorem Tm.UW (a:Tm):Tm.Bb [a]=a.nodes+0:=rfl
theorem Tm.NU (t:Tm):t.args.length+1≤t.nodes:=by
 rw [Tm.Ao]
 have:=Tm.length_le t.args
 omega
theorem Me (l:List Int) (hl:Bytes l) (hn:l.length≤1099511627776) (p s:Int) (h0:0≤p) (h1:p≤1096000000000):∃ t p' s',E 32 [.ptr 0 0] [cur l p s]=some (tmH t 1,[cur l p' s',IU t])∧(p≤p'∧p'≤p+400)∧t.nodes≤150:=by
 obtain ⟨Q,hQ⟩:∃ Q:SV × List Ob→Prop,Q=fun out=>∃ t p' s',out=(tmH t 1,[cur l p' s',IU t])∧(p≤p'∧p'≤p+400)∧t.nodes≤150:=⟨_,rfl⟩
 suffices hq0:∃ out,E 32 [.ptr 0 0] [cur l p s]=some out∧Q out by
  obtain ⟨out,hq1,hq2⟩:=hq0
  rw [hQ] at hq2
  obtain ⟨t,p',s',rfl,hq3⟩:=hq2
  exact ⟨t,p',s',hq1,hq3⟩
 obtain ⟨t,p1,s1,ht,⟨g1,g2⟩,g3⟩:=G5 l hl hn p s h0 (by omega)
 obtain ⟨v,p2,s2,hv,⟨v0,v1⟩,g4,g5⟩:=Ga l hl hn 24 (by omega) (by omega) p1 s1 (by omega) (by omega)
 have hal:=Tm.NU t
 rcases (show v=0∨v=1∨v=2∨v=3∨v=4∨(¬ v=0∧¬ v=1∧¬ v=2∧¬ v=3∧¬ v=4) by omega) with rfl | rfl | rfl | rfl | rfl | ⟨k0,k1,k2,k3,k4⟩
 ·obtain ⟨x,p3,s3,ho,_,g6,g7⟩:=RL l hl hn [⟨#[]⟩,⟨#[116,114,117,101]⟩,⟨#[116,114,117,116,104]⟩,⟨#[105,102]⟩,⟨#[88,121,122,57]⟩,⟨#[88,121,122,57,57]⟩,⟨#[120,65]⟩,⟨#[97,95,98]⟩,⟨#[97,98,99,100,101,102]⟩,⟨#[97,98,99,100,101,102,103]⟩,⟨#[95,97]⟩,⟨#[57]⟩,⟨#[88,95]⟩,⟨#[61]⟩] (by decide) (by decide) p2 s2 (by omega) (by omega)
  simp only [zB,zG] at ho
  refine AJ Be Ah (of_decide_eq_true rfl) ?_
  simp (disch:=omega) only [AQ,go_sem,Aa,ht,hv,ho,Ad,Ae,Ay,As,Bj]
  rw [hQ]
  exact ⟨.mk x t.args,p3,s3,rfl,by omega,by rw [Tm.Dn]; have:=Tm.Ao t; omega⟩
 ·obtain ⟨u,p3,s3,hu,⟨u0,u1⟩,g6,g7⟩:=Ga l hl hn 3 (by omega) (by omega) p2 s2 (by omega) (by omega)
  have hi:dec (inK .i64 (7+u))=true:=FZ (by omega) (by omega)
  obtain ⟨t2,p4,s4,ho,⟨g8,g9⟩,g10⟩:=MJ l hl hn (7+u) (by omega) (by omega) p3 s3 (by omega) (by omega)
  refine AJ Be Ah (of_decide_eq_true rfl) ?_
  simp (disch:=omega) only [AQ,go_sem,Aa,ht,hv,hu,hi,ho,Ad,Ae,Ay,As,Bj]
  rw [hQ]
  exact ⟨t2,p4,s4,rfl,by omega,g10⟩
 ·obtain ⟨t2,p3,s3,ho,⟨g8,g9⟩,g10⟩:=UU l hl hn p2 s2 (by omega) (by omega)
  refine AJ Be Ah (of_decide_eq_true rfl) ?_
  simp (disch:=omega) only [AQ,go_sem,Aa,ht,hv,ho,Ad,Ae,Ay,As,Bj]
  rw [hQ]
  exact ⟨t2,p3,s3,rfl,by omega,g10⟩
 ·obtain ⟨t2,p3,s3,hu,⟨a1,a2⟩,a3⟩:=G5 l hl hn p2 s2 (by omega) (by omega)
  obtain ⟨t3,p4,s4,hw,⟨b1,b2⟩,b3⟩:=G5 l hl hn p3 s3 (by omega) (by omega)
  obtain ⟨t4,p5,s5,hx,⟨c1,c2⟩,c3⟩:=G5 l hl hn p4 s4 (by omega) (by omega)
  refine AJ Be Ah (of_decide_eq_true rfl) ?_
  simp (disch:=omega) only [AQ,go_sem,Aa,ht,hv,hu,hw,hx,Ad,Ae,Ay,As,Bj]
  rw [hQ]
  refine ⟨.mk t.name (t.args++[t2,t3,t4]),p5,s5,?_,by omega,by rw [Tm.Dn,Tm.IW,Tm.UV]; have:=Tm.Ao t; omega⟩
  show _=(tmH (.mk t.name (t.args++[t2,t3,t4])) 1,[cur l p5 s5,.row 31 2 ((t.args++[t2,t3,t4]).map Tm.osh)])
  rw [zW]
  rfl
 ·rcases hc:t.args with _ | ⟨a0,ar⟩
  ·have q0:((0:Int)<(t.args.length:Int))=False:=eq_false (by rw [hc]; simp)
   rw [←hc] at *
   refine AJ Be Ah (of_decide_eq_true rfl) ?_
   simp (disch:=omega) only [AQ,go_sem,Aa,ht,hv,q0,Ad,Ae,Ay,As,Bj]
   rw [hQ]
   exact ⟨t,p2,s2,rfl,by omega,by omega⟩
  ·have q0:((0:Int)<(t.args.length:Int))=True:=eq_true (by rw [hc]; simp)
   obtain ⟨x,p3,s3,ho,_,g6,g7⟩:=RL l hl hn [⟨#[61]⟩,⟨#[]⟩,⟨#[81,49]⟩,⟨#[98,50]⟩] (by decide) (by decide) p2 s2 (by omega) (by omega)
   simp only [zB,zG] at ho
   have hm:t.args.map Tm.osh=[.str a0.name,.sh (a0.args.map Tm.d)] :: ar.map Tm.osh:=by rw [hc]; rfl
   have hgl:(t.args.map Tm.osh)[0]?=some [.str a0.name,.sh (a0.args.map Tm.d)]:=by rw [hm]; rfl
   have hst:∀ y,(t.args.map Tm.osh).set 0 y=y :: ar.map Tm.osh:=fun y=>by rw [hm]; rfl
   have q1:0<t.args.length:=by rw [hc]; simp
   have hnn:t.nodes=1+(a0.nodes+Tm.Bb ar):=by rw [Tm.Ao,hc]; rfl
   refine AJ Be Ah (of_decide_eq_true rfl) ?_
   simp (disch:=omega) only [AQ,go_sem,Aa,ht,hv,q0,ho,hgl,hst,q1,Ad,Ae,Ay,As,Bj]
   rw [hQ]
   refine ⟨.mk t.name (.mk x a0.args :: ar),p3,s3,?_,by omega,?_⟩
   ·rfl
   ·rw [Tm.Dn]
    show 1+((Tm.mk x a0.args).nodes+Tm.Bb ar)≤_
    rw [Tm.Dn]
    have:=Tm.Ao a0
    omega
 ·have k0:=eq_false k0
  have k1:=eq_false k1
  have k2:=eq_false k2
  have k3:=eq_false k3
  have k4:=eq_false k4
  refine AJ Be Ah (of_decide_eq_true rfl) ?_
  simp (disch:=omega) only [AQ,go_sem,Aa,ht,hv,k0,k1,k2,k3,k4,Ad,Ae,Ay,As,Bj]
  rw [hQ]
  exact ⟨t,p2,s2,rfl,by omega,by omega⟩
theorem ML (l:List Int) (hl:Bytes l) (hn:l.length≤1099511627776) (p s:Int) (h0:0≤p) (h1:p≤1095000000000):∃ t p' s',E 18 [.ptr 0 0] [cur l p s]=some (tmH t 1,[cur l p' s',IU t])∧(p≤p'∧p'≤p+500)∧t.nodes≤150:=by
 obtain ⟨Q,hQ⟩:∃ Q:SV × List Ob→Prop,Q=fun out=>∃ t p' s',out=(tmH t 1,[cur l p' s',IU t])∧(p≤p'∧p'≤p+500)∧t.nodes≤150:=⟨_,rfl⟩
 suffices hq0:∃ out,E 18 [.ptr 0 0] [cur l p s]=some out∧Q out by
  obtain ⟨out,hq1,hq2⟩:=hq0
  rw [hQ] at hq2
  obtain ⟨t,p',s',rfl,hq3⟩:=hq2
  exact ⟨t,p',s',hq1,hq3⟩
 obtain ⟨b1,p1,s1,hb1,g1,g2⟩:=Jw l hl hn 3 (by omega) (by omega) p s h0 (by omega)
 cases b1 with
 | false =>
  obtain ⟨t2,p3,s3,ho,⟨g8,g9⟩,g10⟩:=Me l hl hn p1 s1 (by omega) (by omega)
  refine AJ Cw Bt (of_decide_eq_true rfl) ?_
  simp (disch:=omega) only [BL,go_sem,Aa,hb1,ho,Ar,Ae,AV,Ah]
  rw [hQ]
  exact ⟨t2,p3,s3,rfl,by omega,g10⟩
 | true =>
  obtain ⟨t,p2,s2,ha,⟨g3,g4⟩,g5⟩:=UT l hl hn p1 s1 (by omega) (by omega)
  obtain ⟨b2,p3,s3,hb2,g6,g7⟩:=Jw l hl hn 12 (by omega) (by omega) p2 s2 (by omega) (by omega)
  have hal:=Tm.NU t
  cases b2 with
  | false =>
   refine AJ Cw Bt (of_decide_eq_true rfl) ?_
   simp (disch:=omega) only [BL,go_sem,Aa,hb1,ha,hb2,Ar,Ae,AV,Ah]
   rw [hQ]
   exact ⟨t,p3,s3,rfl,by omega,by omega⟩
  | true =>
   obtain ⟨t2,p4,s4,hu,⟨a1,a2⟩,a3⟩:=G5 l hl hn p3 s3 (by omega) (by omega)
   refine AJ Cw Bt (of_decide_eq_true rfl) ?_
   simp (disch:=omega) only [BL,go_sem,Aa,hb1,ha,hb2,hu,Ar,Ae,AV,Ah]
   rw [hQ]
   refine ⟨.mk t.name (t.args++[t2]),p4,s4,?_,by omega,by rw [Tm.Dn,Tm.IW,Tm.UW]; have:=Tm.Ao t; omega⟩
   show _=(tmH (.mk t.name (t.args++[t2])) 1,[cur l p4 s4,.row 31 2 ((t.args++[t2]).map Tm.osh)])
   rw [zW]
   rfl
def Jx:SC:=(.seq (.reg [⟨some 1,none,.boxv 31 2 (.t 0)⟩,⟨some 2,none,.mv (.c (.int .i64 0))⟩]) (.seq (.reg [⟨some 3,none,.mv (.c (.int .i64 1))⟩]) (.seq (.seq (.reg [⟨some 6,none,.faddr 1 (.t 1)⟩,⟨some 7,none,.load false 1 (.t 6)⟩,⟨some 8,none,.len false (.t 7)⟩,⟨some 9,none,.mv (.c (.int .i64 0))⟩]) (.block 0 (.loop [0,0,0,1,0,0,0,1,1,1,0,0,0,0,0,0,0,0,0,0,0,0] (.seq (.reg [⟨some 10,none,.bin .lss false (.t 9) (.t 8)⟩]) (.seq (.cond (.t 10) .skip (.exit 0)) (.seq (.block 1 (.seq (.reg [⟨some 11,none,.iaddr 2 (.t 7) (.t 9)⟩,⟨some 12,none,.load true 2 (.t 11)⟩,⟨(some 5),none,(.alloc 31 [(.str ⟨#[]⟩),.nil])⟩,⟨none,none,(.store 2 (.t 5) (.t 12))⟩]) (.seq (.seq (.reg [⟨some 13,none,.mv (.t 3)⟩,⟨some 14,none,.bin .gtr false (.t 13) (.c (.int .i64 30))⟩]) (.cond (.t 14) (.seq (.reg [⟨some 15,none,.mv (.t 3)⟩,⟨some 2,none,.mv (.t 15)⟩]) .ret) .skip)) (.reg [⟨some 16,none,.mv (.t 3)⟩,⟨some 17,none,.load true 2 (.t 5)⟩,⟨some 18,none,.call 73 [(.t 17)]⟩,⟨some 19,none,.bin .add false (.t 16) (.t 18)⟩,⟨some 3,none,.mv (.t 19)⟩])))) (.reg [⟨some 20,none,.bin .add false (.t 9) (.c (.int .i64 1))⟩,⟨some 9,none,.mv (.t 20)⟩]))))))) (.seq (.reg [⟨some 21,none,.mv (.t 3)⟩,⟨some 2,none,.mv (.t 21)⟩]) .ret))))
theorem NV:A1 Tryz.prog 73=some ⟨22,Jx,[(.tmp 2)]⟩:=by kernel_rfl
theorem Ee:modes 73=⟨[],.asis,none,false⟩:=by unfold modes; rfl
theorem TB (x:Tm) (hn:x.nodes≤1099511627776) (ih:∀ y∈x.args,E 73 [y.sv] []=some (.int .i64 y.cap,[])):E 73 [x.sv] []=some (.int .i64 x.cap,[]):=by
 have hl:=Tm.length_le x.args
 have hx:=Tm.Ao x
 rw [Tm.RK]
 refine Ab NV Ee (of_decide_eq_true rfl) ?_
 simp (disch:=omega) only [Jx,go_sem,Aa]
 refine go_loop (α:=Int × Int) (fun a=>⟨slots 22 0 [(3,.int .i64 a.2),(7,.arr (x.args.map Tm.d)),(8,.int .i64 x.args.length),(9,.int .i64 a.1)],[]⟩) (fun a=>∃ k:Nat,a.1=k∧k≤x.args.length∧1≤a.2∧a.2+Tm.Bb (x.args.drop k)≤x.nodes∧Tm.IS (x.args.drop k) a.2=Tm.IS x.args 1) (fun a=>x.args.length-a.1.toNat) (0,1) ⟨0,rfl,zP _,by dsimp only; omega,by rw [zU]; dsimp only; omega,rfl⟩ (by simp (disch:=omega) only [go_sem,Aa]) ?_
 rintro ⟨i,n⟩ ⟨k,hi,hk,hn0,hn1,hs⟩
 dsimp only at hi hn0 hn1 hs
 have hni:i.toNat=k:=by omega
 rcases zC k x.args.length with hlt | hge
 ·have hg:=get_at Tm.d hlt
  rw [Tm.d_eq] at hg
  have hd:x.args.drop k=x.args[k] :: x.args.drop (k+1):=zJ hlt
  have hc:=ih x.args[k] (zF hlt)
  have hp:=Tm.Il x.args[k]
  rw [hd,Tm.IS] at hs
  rw [hd,Tm.Bb] at hn1
  rcases Int.lt_or_le 30 n with h30 | h30
  ·rw [if_pos h30] at hs
   simp (disch:=omega) only [go_sem,Aa,hni,hg,hc,Ee]
   exact hs
  ·rw [if_neg (by omega)] at hs
   simp (disch:=omega) only [go_sem,Aa,hni,hg,hc,Ee]
   refine ⟨(i+1,n+x.args[k].cap),⟨k+1,by dsimp only; omega,hlt,by dsimp only; omega,by dsimp only; omega,hs⟩,by dsimp only; omega,?_⟩
   simp only [and_self]
 ·have hd:x.args.drop k=[]:=zO hge
  rw [hd,Tm.IS] at hs
  simp (disch:=omega) only [go_sem,Aa,hni]
  exact hs
theorem RP (x:Tm) (hn:x.nodes≤1099511627776):E 73 [x.sv] []=some (.int .i64 x.cap,[]) :=
 TB x hn fun y hy=>RP y (by have:=Tm.BU hy; have:=Tm.Ao x; omega)
termination_by SizeOf.sizeOf x
decreasing_by exact Tm.AL hy
def Hs:SC:=(.seq (.reg [⟨some 2,none,.boxv 31 2 (.t 0)⟩,⟨some 4,none,.mv (.c (.int .i64 0))⟩]) (.seq (.reg [⟨some 5,none,.mv (.c (.int .i64 1))⟩]) (.seq (.seq (.reg [⟨some 6,none,.mv (.c (.int .i64 0))⟩]) (.block 0 (.loop [0,1,1,0,0,1,1,0,0,0,0,0,0,0,0,0,0,0,0,0,0,0,0,0,0,0,0,0,0,0,0] (.seq (.seq (.reg [⟨some 7,none,.mv (.t 6)⟩,⟨some 8,none,.faddr 1 (.t 2)⟩,⟨some 9,none,.load false 1 (.t 8)⟩,⟨some 10,none,.len false (.t 9)⟩,⟨some 11,none,.bin .lss false (.t 7) (.t 10)⟩,⟨some 12,none,.mv (.t 11)⟩,⟨(some 13),(some (12,true)),(.mv (.t 5))⟩,⟨(some 14),(some (12,true)),(.mv (.t 1))⟩,⟨(some 15),(some (12,true)),(.bin .leq false (.t 13) (.t 14))⟩,⟨some 16,none,.pick (.t 12) (.t 15) (.c (.bool false))⟩]) (.cond (.t 16) .skip (.exit 0))) (.seq (.block 1 (.reg [⟨some 19,none,.mv (.t 5)⟩,⟨some 20,none,.faddr 1 (.t 2)⟩,⟨some 21,none,.load false 1 (.t 20)⟩,⟨some 22,none,.mv (.t 6)⟩,⟨some 23,none,.iaddr 2 (.t 21) (.t 22)⟩,⟨some 24,none,.load true 2 (.t 23)⟩,⟨some 25,none,.mv (.t 1)⟩,⟨some 26,none,.mv (.t 5)⟩,⟨some 27,none,.bin .sub false (.t 25) (.t 26)⟩,⟨some 28,none,.call 90 [(.t 24),(.t 27)]⟩,⟨some 29,none,.bin .add false (.t 19) (.t 28)⟩,⟨some 5,none,.mv (.t 29)⟩])) (.reg [⟨some 17,none,.mv (.t 6)⟩,⟨some 18,none,.bin .add false (.t 17) (.c (.int .i64 1))⟩,⟨some 6,none,.mv (.t 18)⟩])))))) (.seq (.reg [⟨some 30,none,.mv (.t 5)⟩,⟨some 4,none,.mv (.t 30)⟩]) .ret))))
theorem Ln:A1 Tryz.prog 90=some ⟨31,Hs,[(.tmp 4)]⟩:=by kernel_rfl
theorem Do:modes 90=⟨[],.asis,none,false⟩:=by unfold modes; rfl
theorem TC (x:Tm) (m:Int) (hm:0≤m) (hm1:m≤1099511627776) (hn:x.nodes≤1099511627776) (ih:∀ y∈x.args,∀ m:Int,0≤m→m≤1099511627776→E 90 [y.sv,.int .i64 m] []=some (.int .i64 (y.many m),[])):E 90 [x.sv,.int .i64 m] []=some (.int .i64 (x.many m),[]):=by
 have hl:=Tm.length_le x.args
 have hx:=Tm.Ao x
 rw [Tm.PD]
 refine Ab Ln Do (of_decide_eq_true rfl) ?_
 simp (disch:=omega) only [Hs,go_sem,Aa]
 refine go_loop (α:=Int × Int) (fun a=>⟨slots 31 0 [(1,.int .i64 m),(2,.ptr 0 0),(5,.int .i64 a.2),(6,.int .i64 a.1)],[.box 31 [.str x.name,.arr (x.args.map Tm.d)]]⟩) (fun a=>∃ k:Nat,a.1=k∧k≤x.args.length∧1≤a.2∧a.2+Tm.Bb (x.args.drop k)≤x.nodes∧Tm.FB (x.args.drop k) m a.2=Tm.FB x.args m 1) (fun a=>x.args.length-a.1.toNat) (0,1) ⟨0,rfl,zP _,by dsimp only; omega,by rw [zU]; dsimp only; omega,rfl⟩ (by simp (disch:=omega) only [go_sem,Aa]) ?_
 rintro ⟨i,n⟩ ⟨k,hi,hk,hn0,hn1,hs⟩
 dsimp only at hi hn0 hn1 hs
 have hni:i.toNat=k:=by omega
 rcases zC k x.args.length with hlt | hge
 ·have hg:=get_at Tm.d hlt
  rw [Tm.d_eq] at hg
  have hd:x.args.drop k=x.args[k] :: x.args.drop (k+1):=zJ hlt
  rw [hd,Tm.FB] at hs
  rw [hd,Tm.Bb] at hn1
  rcases Int.lt_or_le m n with h30 | h30
  ·rw [if_neg (by omega)] at hs
   simp (disch:=omega) only [go_sem,Aa,hni,hg,Do]
   exact hs
  ·rw [if_pos h30] at hs
   have hc:=ih x.args[k] (zF hlt) (m-n) (by omega) (by omega)
   have hp:=Tm.He x.args[k] (m-n)
   simp (disch:=omega) only [go_sem,Aa,hni,hg,hc,Do]
   refine ⟨(i+1,n+x.args[k].many (m-n)),⟨k+1,by dsimp only; omega,hlt,by dsimp only; omega,by dsimp only; omega,hs⟩,by dsimp only; omega,?_⟩
   simp only [and_self]
 ·have hd:x.args.drop k=[]:=zO hge
  rw [hd,Tm.FB] at hs
  simp (disch:=omega) only [go_sem,Aa,hni]
  exact hs
theorem RQ (x:Tm) (m:Int) (hm:0≤m) (hm1:m≤1099511627776) (hn:x.nodes≤1099511627776):E 90 [x.sv,.int .i64 m] []=some (.int .i64 (x.many m),[]) :=
 TC x m hm hm1 hn fun y hy m hm hm1=>RQ y m hm hm1 (by have:=Tm.BU hy; have:=Tm.Ao x; omega)
termination_by SizeOf.sizeOf x
decreasing_by exact Tm.AL hy
def Ir:SC:=(.seq (.reg [⟨some 1,none,.boxv 31 2 (.t 0)⟩,⟨some 2,none,.mv (.c (.int .i64 0))⟩]) (.seq (.reg [⟨some 3,none,.mv (.c (.int .i64 0))⟩]) (.seq (.seq (.reg [⟨some 6,none,.faddr 1 (.t 1)⟩,⟨some 7,none,.load false 1 (.t 6)⟩,⟨some 8,none,.len false (.t 7)⟩,⟨some 9,none,.mv (.c (.int .i64 0))⟩]) (.block 0 (.loop [0,0,0,1,0,0,0,1,1,1,0,0,0,0,0,0,0,0,0,0] (.seq (.reg [⟨some 10,none,.bin .lss false (.t 9) (.t 8)⟩]) (.seq (.cond (.t 10) .skip (.exit 0)) (.seq (.block 1 (.seq (.reg [⟨some 11,none,.iaddr 2 (.t 7) (.t 9)⟩,⟨some 12,none,.load true 2 (.t 11)⟩,⟨(some 5),none,(.alloc 31 [(.str ⟨#[]⟩),.nil])⟩,⟨none,none,(.store 2 (.t 5) (.t 12))⟩]) (.reg [⟨some 13,none,.mv (.t 3)⟩,⟨some 14,none,.load true 2 (.t 5)⟩,⟨some 15,none,.call 74 [(.t 14)]⟩,⟨some 16,none,.minmax true (.t 13) (.t 15)⟩,⟨some 3,none,.mv (.t 16)⟩]))) (.reg [⟨some 17,none,.bin .add false (.t 9) (.c (.int .i64 1))⟩,⟨some 9,none,.mv (.t 17)⟩]))))))) (.seq (.reg [⟨some 18,none,.mv (.t 3)⟩,⟨some 19,none,.bin .add false (.t 18) (.c (.int .i64 1))⟩,⟨some 2,none,.mv (.t 19)⟩]) .ret))))
theorem MM:A1 Tryz.prog 74=some ⟨20,Ir,[(.tmp 2)]⟩:=by kernel_rfl
theorem Et:modes 74=⟨[],.asis,none,false⟩:=by unfold modes; rfl
def Ht:SC:=(.seq (.reg [⟨some 4,none,.mv (.c (.int .i64 0))⟩]) (.seq (.seq (.reg [⟨some 5,none,.mv (.t 0)⟩,⟨some 6,none,.mv (.t 1)⟩,⟨some 7,none,.bin .gtr false (.t 5) (.t 6)⟩]) (.cond (.t 7) (.seq (.reg [⟨some 8,none,.mv (.t 0)⟩,⟨some 4,none,.mv (.t 8)⟩]) .ret) .skip)) (.seq (.reg [⟨some 9,none,.mv (.t 1)⟩,⟨some 4,none,.mv (.t 9)⟩]) .ret)))
theorem Lo:A1 Tryz.prog 110=some ⟨10,Ht,[(.tmp 4)]⟩:=by kernel_rfl
theorem Hu:modes 110=⟨[],.asis,none,false⟩:=by unfold modes; rfl
def G6:SC:=(.seq (.reg [⟨some 1,none,.boxv 31 2 (.t 0)⟩,⟨some 2,none,.mv (.c (.int .i64 0))⟩]) (.seq (.reg [⟨some 3,none,.mv (.c (.int .i64 0))⟩]) (.seq (.seq (.reg [⟨some 4,none,.mv (.c (.int .i64 0))⟩]) (.block 0 (.loop [0,1,0,1,1,0,0,0,0,0,0,0,0,0,0,0,0,0,0,0,0,0] (.seq (.seq (.reg [⟨some 5,none,.mv (.t 4)⟩,⟨some 6,none,.faddr 1 (.t 1)⟩,⟨some 7,none,.load false 1 (.t 6)⟩,⟨some 8,none,.len false (.t 7)⟩,⟨some 9,none,.bin .lss false (.t 5) (.t 8)⟩]) (.cond (.t 9) .skip (.exit 0))) (.seq (.block 1 (.reg [⟨some 12,none,.mv (.t 3)⟩,⟨some 13,none,.faddr 1 (.t 1)⟩,⟨some 14,none,.load false 1 (.t 13)⟩,⟨some 15,none,.mv (.t 4)⟩,⟨some 16,none,.iaddr 2 (.t 14) (.t 15)⟩,⟨some 17,none,.load true 2 (.t 16)⟩,⟨some 18,none,.call 91 [(.t 17)]⟩,⟨some 19,none,.call 110 [(.t 12),(.t 18)]⟩,⟨some 3,none,.mv (.t 19)⟩])) (.reg [⟨some 10,none,.mv (.t 4)⟩,⟨some 11,none,.bin .add false (.t 10) (.c (.int .i64 1))⟩,⟨some 4,none,.mv (.t 11)⟩])))))) (.seq (.reg [⟨some 20,none,.mv (.t 3)⟩,⟨some 21,none,.bin .add false (.t 20) (.c (.int .i64 1))⟩,⟨some 2,none,.mv (.t 21)⟩]) .ret))))
theorem KG:A1 Tryz.prog 91=some ⟨22,G6,[(.tmp 2)]⟩:=by kernel_rfl
theorem D4:modes 91=⟨[],.asis,none,false⟩:=by unfold modes; rfl
theorem RR (a b:Int):E 110 [.int .i64 a,.int .i64 b] []=some (.int .i64 (max a b),[]):=by
 refine Ab Lo Hu (of_decide_eq_true rfl) ?_
 simp (disch:=omega) only [Ht,go_sem,Aa]
 repeat' (refine NN (fun hq=>?_) (fun hq=>?_) <;> (first | replace hq:=A5.1 hq | replace hq:=EY.1 hq) <;> (try simp (disch:=omega) only [go_sem,Aa]))
 all_goals omega
theorem RS (x:Tm) (hn:x.nodes≤1099511627776) (ih:∀ y∈x.args,E 74 [y.sv] []=some (.int .i64 y.deep,[])):E 74 [x.sv] []=some (.int .i64 x.deep,[]):=by
 have hl:=Tm.length_le x.args
 have hx:=Tm.Ao x
 have hd1:=Tm.ME x
 have hd2:=Tm.Fq x
 refine Ab MM Et (of_decide_eq_true rfl) ?_
 simp (disch:=omega) only [Ir,go_sem,Aa]
 refine go_loop (α:=Int × (Int)) (fun a=>⟨slots 20 0 [(3,.int .i64 (a.2)),(7,.arr (x.args.map Tm.d)),(8,.int .i64 x.args.length),(9,.int .i64 (a.1))],[]⟩) (fun a=>∃ k:Nat,a.1=k∧k≤(x.args).length∧0≤(a.2)∧max (a.2) (Tm.Fd (x.args.drop k):Nat)=(Tm.Fd x.args:Nat)) (fun a=>(x.args).length-(a.1).toNat) (0,0) ⟨0,rfl,zP _,by dsimp only; omega,by rw [zU]; dsimp only; omega⟩ (by simp (disch:=omega) only [go_sem,Aa]) ?_
 rintro ⟨i,n⟩ ⟨k,hi,hk,hR⟩
 dsimp only at hi hR
 have hni:i.toNat=k:=by omega
 have hni1:(i+1).toNat=k+1:=by omega
 rcases zC k (x.args).length with hlt | hge
 ·have hg:=get_at Tm.d hlt
  rw [Tm.d_eq] at hg
  have hc:=ih x.args[k] (zF hlt)
  rw [zJ hlt,Tm.Fd] at hR
  simp (disch:=omega) only [go_sem,Aa,hni,hg,hc,Et,T7]
  refine ⟨(i+1,max n (x.args[k].deep:Int)),⟨k+1,by dsimp only; omega,hlt,by dsimp only; omega⟩,by dsimp only; omega,?_⟩
  simp only [and_self]
 ·rw [zO hge,Tm.Fd] at hR
  simp (disch:=omega) only [go_sem,Aa,hni]
  omega
theorem PG (x:Tm) (hn:x.nodes≤1099511627776):E 74 [x.sv] []=some (.int .i64 x.deep,[]) :=
 RS x hn fun y hy=>PG y (by have:=Tm.BU hy; have:=Tm.Ao x; omega)
termination_by SizeOf.sizeOf x
decreasing_by exact Tm.AL hy
theorem OY (x:Tm) (hn:x.nodes≤1099511627776) (ih:∀ y∈x.args,E 91 [y.sv] []=some (.int .i64 y.deep,[])):E 91 [x.sv] []=some (.int .i64 x.deep,[]):=by
 have hl:=Tm.length_le x.args
 have hx:=Tm.Ao x
 have hd1:=Tm.ME x
 have hd2:=Tm.Fq x
 refine Ab KG D4 (of_decide_eq_true rfl) ?_
 simp (disch:=omega) only [G6,go_sem,Aa]
 refine go_loop (α:=Int × (Int)) (fun a=>⟨slots 22 0 [(1,.ptr 0 0),(3,.int .i64 (a.2)),(4,.int .i64 (a.1))],[.box 31 [.str x.name,.arr (x.args.map Tm.d)]]⟩) (fun a=>∃ k:Nat,a.1=k∧k≤(x.args).length∧0≤(a.2)∧max (a.2) (Tm.Fd (x.args.drop k):Nat)=(Tm.Fd x.args:Nat)) (fun a=>(x.args).length-(a.1).toNat) (0,0) ⟨0,rfl,zP _,by dsimp only; omega,by rw [zU]; dsimp only; omega⟩ (by simp (disch:=omega) only [go_sem,Aa]) ?_
 rintro ⟨i,n⟩ ⟨k,hi,hk,hR⟩
 dsimp only at hi hR
 have hni:i.toNat=k:=by omega
 have hni1:(i+1).toNat=k+1:=by omega
 rcases zC k (x.args).length with hlt | hge
 ·have hg:=get_at Tm.d hlt
  rw [Tm.d_eq] at hg
  have hc:=ih x.args[k] (zF hlt)
  rw [zJ hlt,Tm.Fd] at hR
  simp (disch:=omega) only [go_sem,Aa,hni,hg,hc,D4,RR,Hu]
  refine ⟨(i+1,max n (x.args[k].deep:Int)),⟨k+1,by dsimp only; omega,hlt,by dsimp only; omega⟩,by dsimp only; omega,?_⟩
  simp only [and_self]
 ·rw [zO hge,Tm.Fd] at hR
  simp (disch:=omega) only [go_sem,Aa,hni]
  omega
theorem Mf (x:Tm) (hn:x.nodes≤1099511627776):E 91 [x.sv] []=some (.int .i64 x.deep,[]) :=
 OY x hn fun y hy=>Mf y (by have:=Tm.BU hy; have:=Tm.Ao x; omega)
termination_by SizeOf.sizeOf x
decreasing_by exact Tm.AL hy
def BE:SC:=(.seq (.reg [⟨some 4,none,.mv (.c (.int .i64 0))⟩]) (.seq (.seq (.reg [⟨some 6,none,.mv (.t 0)⟩,⟨some 7,none,.len false (.t 6)⟩,⟨some 8,none,.mv (.c (.int .i64 0))⟩]) (.block 0 (.loop [1,1,0,0,0,0,0,1,1,0,0,0,0,0,0,0,0,0,0] (.seq (.reg [⟨some 9,none,.bin .lss false (.t 8) (.t 7)⟩]) (.seq (.cond (.t 9) .skip (.exit 0)) (.seq (.block 1 (.seq (.reg [⟨some 10,none,.mv (.t 8)⟩,⟨some 5,none,.mv (.t 10)⟩]) (.seq (.reg [⟨some 11,none,.mv (.t 1)⟩,⟨some 12,none,.mv (.t 0)⟩,⟨some 13,none,.mv (.t 5)⟩,⟨some 14,none,.iaddr 2 (.t 12) (.t 13)⟩,⟨some 15,none,.load true 2 (.t 14)⟩,⟨some 16,none,.callv (.t 11) [(.t 15)]⟩]) (.cond (.t 16) (.seq (.reg [⟨some 17,none,.mv (.t 5)⟩,⟨some 4,none,.mv (.t 17)⟩]) .ret) .skip)))) (.reg [⟨some 18,none,.bin .add false (.t 8) (.c (.int .i64 1))⟩,⟨some 8,none,.mv (.t 18)⟩]))))))) (.seq (.reg [⟨some 4,none,.mv (.c (.int .i64 (-(0+1))))⟩]) .ret)))
theorem CO:A1 Tryz.prog 104=some ⟨19,BE,[(.tmp 4)]⟩:=by kernel_rfl
theorem BF:modes 104=⟨[],.asis,none,false⟩:=by unfold modes; rfl
def B4:SC:=(.seq (.reg [⟨some 4,none,.mv (.c (.bool false))⟩]) (.seq (.reg [⟨some 5,none,.mv (.t 0)⟩,⟨some 6,none,.mv (.t 1)⟩,⟨some 7,none,.call 104 [(.t 5),(.t 6)]⟩,⟨some 8,none,.bin .geq false (.t 7) (.c (.int .i64 0))⟩,⟨some 4,none,.mv (.t 8)⟩]) .ret))
theorem C9:A1 Tryz.prog 78=some ⟨9,B4,[(.tmp 4)]⟩:=by kernel_rfl
theorem B5:modes 78=⟨[],.asis,none,false⟩:=by unfold modes; rfl
theorem J7 (fid:Nat) (p:Tm→Bool) (xs:List Tm) (hl:xs.length≤1099511627776) (hg:IF Tryz.prog fid=true) (hm:(modes fid).hand=[]) (hE:∀ x∈xs,E fid [x.sv] []=some (.bool (p x),[])):E 104 [.arr (xs.map Tm.d),.fn fid []] []=some (.int .i64 (De p xs 0),[]):=by
 refine Ab CO BF (of_decide_eq_true rfl) ?_
 simp (disch:=omega) only [BE,go_sem,Aa]
 refine go_loop (α:=Int) (fun a=>⟨slots 19 0 [(0,.arr (xs.map Tm.d)),(1,.fn fid []),(7,.int .i64 xs.length),(8,.int .i64 a)],[]⟩) (fun a=>∃ k:Nat,a=k∧k≤(xs).length∧De p (xs.drop k) a=De p xs 0) (fun a=>(xs).length-(a).toNat) 0 ⟨0,rfl,zP _,by rw [zU]⟩ (by simp (disch:=omega) only [go_sem,Aa]) ?_
 rintro i ⟨k,hi,hk,hR⟩
 have hni:i.toNat=k:=by omega
 have hni1:(i+1).toNat=k+1:=by omega
 rcases zC k (xs).length with hlt | hge
 ·have hg':=get_at Tm.d hlt
  rw [Tm.d_eq] at hg'
  have hc:=hE xs[k] (zF hlt)
  rw [zJ hlt,De] at hR
  cases hp:p xs[k] with
  | true =>
   rw [hp] at hc hR
   simp (disch:=omega) only [go_sem,Aa,hni,hg',hc,hg,hm]
   simpa using hR
  | false =>
   rw [hp] at hc hR
   simp (disch:=omega) only [go_sem,Aa,hni,hg',hc,hg,hm]
   exact ⟨i+1,⟨k+1,by omega,hlt,by simpa using hR⟩,by omega,by first | trivial | rfl⟩
 ·rw [zO hge,De] at hR
  simp (disch:=omega) only [go_sem,Aa,hni]
  exact hR
theorem HM (fid:Nat) (p:Tm→Bool) (xs:List Tm) (hl:xs.length≤1099511627776) (hg:IF Tryz.prog fid=true) (hm:(modes fid).hand=[]) (hE:∀ x∈xs,E fid [x.sv] []=some (.bool (p x),[])):E 78 [.arr (xs.map Tm.d),.fn fid []] []=some (.bool (xs.any p),[]):=by
 have h:=J7 fid p xs hl hg hm hE
 refine Ab C9 B5 (of_decide_eq_true rfl) ?_
 simp (disch:=omega) only [B4,go_sem,Aa,h,BF]
 rw [Ij]
def CA:SC:=(.seq (.reg [⟨some 1,none,.boxv 31 2 (.t 0)⟩,⟨some 2,none,.mv (.c (.bool false))⟩]) (.seq (.seq (.reg [⟨some 3,none,.faddr 0 (.t 1)⟩,⟨some 4,none,.load false 1 (.t 3)⟩,⟨some 5,none,.call 36 [(.t 4)]⟩]) (.cond (.t 5) (.seq (.reg [⟨some 6,none,.faddr 1 (.t 1)⟩,⟨some 7,none,.load false 1 (.t 6)⟩,⟨some 8,none,.len false (.t 7)⟩,⟨some 9,none,.bin .eql false (.t 8) (.c (.int .i64 0))⟩,⟨some 2,none,.mv (.t 9)⟩]) .ret) .skip)) (.seq (.reg [⟨some 10,none,.faddr 0 (.t 1)⟩,⟨some 11,none,.load false 1 (.t 10)⟩,⟨some 12,none,.call 72 [(.t 11)]⟩,⟨some 13,none,.mv (.t 12)⟩,⟨(some 14),(some (13,true)),(.faddr 1 (.t 1))⟩,⟨(some 15),(some (13,true)),(.load false 1 (.t 14))⟩,⟨(some 16),(some (13,true)),(.len false (.t 15))⟩,⟨(some 17),(some (13,true)),(.bin .leq false (.t 16) (.c (.int .i64 4)))⟩,⟨some 18,none,.pick (.t 13) (.t 17) (.c (.bool false))⟩,⟨some 19,none,.mv (.t 18)⟩,⟨(some 20),(some (19,true)),(.faddr 1 (.t 1))⟩,⟨(some 21),(some (19,true)),(.load false 1 (.t 20))⟩,⟨(some 22),(some (19,true)),(.call 78 [(.t 21),(.c (.fn 79 []))])⟩,⟨(some 23),(some (19,true)),(.un .not (.t 22))⟩,⟨some 24,none,.pick (.t 19) (.t 23) (.c (.bool false))⟩,⟨some 2,none,.mv (.t 24)⟩]) .ret)))
theorem Du:A1 Tryz.prog 62=some ⟨25,CA,[(.tmp 2)]⟩:=by kernel_rfl
theorem AH:modes 62=⟨[],.asis,none,false⟩:=by unfold modes; rfl
def Fi:SC:=(.seq (.reg [⟨some 1,none,.boxv 31 2 (.t 0)⟩,⟨some 2,none,.mv (.c (.bool false))⟩]) (.seq (.reg [⟨some 3,none,.load true 2 (.t 1)⟩,⟨some 4,none,.call 62 [(.t 3)]⟩,⟨some 5,none,.un .not (.t 4)⟩,⟨some 2,none,.mv (.t 5)⟩]) .ret))
theorem Is:A1 Tryz.prog 79=some ⟨6,Fi,[(.tmp 2)]⟩:=by kernel_rfl
theorem Fj:modes 79=⟨[],.asis,none,false⟩:=by unfold modes; rfl
theorem It:IF Tryz.prog 79=true:=by kernel_rfl
theorem Tm.TD (xs:List Tm):(!xs.any fun y=>!y.names)=Tm.Dm xs:=by
 rw [Tm.Ez]
 induction xs with
 | nil=>rfl
 | cons x xs ih=>simp only [xA,List.all_cons,Bool.not_or,Bool.not_not,ih]
theorem NW (x:Tm) (hn:x.nodes≤1099511627776) (ih:∀ y∈x.args,E 62 [y.sv] []=some (.bool y.names,[])):E 62 [x.sv] []=some (.bool x.names,[]):=by
 have hl:=Tm.length_le x.args
 have hx:=Tm.Ao x
 have h1:∀ y∈x.args,E 79 [y.sv] []=some (.bool (!y.names),[]):=fun y hy=>by
  have h:=ih y hy
  refine Ab Is Fj (of_decide_eq_true rfl) ?_
  simp (disch:=omega) only [Fi,go_sem,Aa,h,AH]
 have h2:=HM 79 (fun y=>!y.names) x.args (by omega) It (by rw [Fj]) h1
 rw [Tm.EH,← Tm.TD]
 cases hv:Bi x.name with
 | true =>
  have h3:=CZ x.name
  rw [hv] at h3
  refine Ab Du AH (of_decide_eq_true rfl) ?_
  simp (disch:=omega) only [CA,go_sem,Aa,h3,AU]
  rw [H8]; cases x.args <;> simp <;> omega
 | false =>
  have h3:=CZ x.name
  rw [hv] at h3
  have h4:=K9 x.name
  cases hs:Ei x.name with
  | false =>
   rw [hs] at h4
   refine Ab Du AH (of_decide_eq_true rfl) ?_
   simp (disch:=omega) only [CA,go_sem,Aa,h2,h3,h4,AU,Bf]
  | true =>
   rw [hs] at h4
   rcases zC 4 x.args.length with h5 | h5
   ·refine Ab Du AH (of_decide_eq_true rfl) ?_
    simp (disch:=omega) only [CA,go_sem,Aa,h2,h3,h4,AU,Bf]
    simp; omega
   ·refine Ab Du AH (of_decide_eq_true rfl) ?_
    simp (disch:=omega) only [CA,go_sem,Aa,h2,h3,h4,AU,Bf,B5]
    simp [h5]
theorem Gb (x:Tm) (hn:x.nodes≤1099511627776):E 62 [x.sv] []=some (.bool x.names,[]) :=
 NW x hn fun y hy=>Gb y (by have:=Tm.BU hy; have:=Tm.Ao x; omega)
termination_by SizeOf.sizeOf x
decreasing_by exact Tm.AL hy
def CP:SC:=(.seq (.reg [⟨some 1,none,.boxv 31 2 (.t 0)⟩,⟨some 2,none,.mv (.c (.bool false))⟩]) (.seq (.seq (.reg [⟨some 4,none,.faddr 0 (.t 1)⟩,⟨some 5,none,.load false 1 (.t 4)⟩,⟨some 6,none,.call 43 [(.t 5)]⟩]) (.cond (.t 6) (.seq (.reg [⟨some 7,none,.faddr 1 (.t 1)⟩,⟨some 8,none,.load false 1 (.t 7)⟩,⟨some 9,none,.len false (.t 8)⟩,⟨some 10,none,.bin .eql false (.t 9) (.c (.int .i64 0))⟩,⟨some 2,none,.mv (.t 10)⟩]) .ret) .skip)) (.seq (.seq (.reg [⟨some 11,none,.faddr 0 (.t 1)⟩,⟨some 12,none,.load false 1 (.t 11)⟩,⟨some 13,none,.call 92 [(.t 12)]⟩,⟨some 14,none,.un .not (.t 13)⟩,⟨some 15,none,.mv (.t 14)⟩,⟨(some 16),(some (15,false)),(.faddr 1 (.t 1))⟩,⟨(some 17),(some (15,false)),(.load false 1 (.t 16))⟩,⟨(some 18),(some (15,false)),(.len false (.t 17))⟩,⟨(some 19),(some (15,false)),(.bin .gtr false (.t 18) (.c (.int .i64 4)))⟩,⟨some 20,none,.pick (.t 15) (.c (.bool true)) (.t 19)⟩]) (.cond (.t 20) (.seq (.reg [⟨some 2,none,.mv (.c (.bool false))⟩]) .ret) .skip)) (.seq (.seq (.reg [⟨some 3,none,.mv (.c (.int .i64 0))⟩]) (.block 0 (.loop [0,1,0,1,0,0,0,0,0,0,0,0,0,0,0,0,0,0,0,0,0,0,0,0,0,0,0,0,0,0,0,0,0,0,0] (.seq (.seq (.reg [⟨some 21,none,.mv (.t 3)⟩,⟨some 22,none,.faddr 1 (.t 1)⟩,⟨some 23,none,.load false 1 (.t 22)⟩,⟨some 24,none,.len false (.t 23)⟩,⟨some 25,none,.bin .lss false (.t 21) (.t 24)⟩]) (.cond (.t 25) .skip (.exit 0))) (.seq (.block 1 (.seq (.reg [⟨some 28,none,.faddr 1 (.t 1)⟩,⟨some 29,none,.load false 1 (.t 28)⟩,⟨some 30,none,.mv (.t 3)⟩,⟨some 31,none,.iaddr 2 (.t 29) (.t 30)⟩,⟨some 32,none,.load true 2 (.t 31)⟩,⟨some 33,none,.call 70 [(.t 32)]⟩,⟨some 34,none,.un .not (.t 33)⟩]) (.cond (.t 34) (.seq (.reg [⟨some 2,none,.mv (.c (.bool false))⟩]) .ret) .skip))) (.reg [⟨some 26,none,.mv (.t 3)⟩,⟨some 27,none,.bin .add false (.t 26) (.c (.int .i64 1))⟩,⟨some 3,none,.mv (.t 27)⟩])))))) (.seq (.reg [⟨some 2,none,.mv (.c (.bool true))⟩]) .ret)))))
theorem D5:A1 Tryz.prog 70=some ⟨35,CP,[(.tmp 2)]⟩:=by kernel_rfl
theorem BG:modes 70=⟨[],.asis,none,false⟩:=by unfold modes; rfl
theorem OZ (x:Tm) (hn:x.nodes≤1099511627776) (ih:∀ y∈x.args,E 70 [y.sv] []=some (.bool y.names,[])):E 70 [x.sv] []=some (.bool x.names,[]):=by
 have hl:=Tm.length_le x.args
 have hx:=Tm.Ao x
 have h3:=Fc x.name
 have h4:=OU x.name
 rw [Tm.EH]
 cases hv:Bi x.name with
 | true =>
  rw [hv] at h3
  refine Ab D5 BG (of_decide_eq_true rfl) ?_
  simp (disch:=omega) only [CP,go_sem,Aa,h3,Bm]
  rw [H8]; cases x.args <;> simp <;> omega
 | false =>
  rw [hv] at h3
  cases hs:Ei x.name with
  | false =>
   rw [hs] at h4
   refine Ab D5 BG (of_decide_eq_true rfl) ?_
   simp (disch:=omega) only [CP,go_sem,Aa,h3,h4,Bm,Dt]
  | true =>
   rw [hs] at h4
   rcases zC 4 x.args.length with h5 | h5
   ·refine Ab D5 BG (of_decide_eq_true rfl) ?_
    simp (disch:=omega) only [CP,go_sem,Aa,h3,h4,Bm,Dt]
    simp; omega
   ·refine Ab D5 BG (of_decide_eq_true rfl) ?_
    simp (disch:=omega) only [CP,go_sem,Aa,h3,h4,Bm,Dt]
    refine go_loop (α:=Int) (fun a=>⟨slots 35 0 [(1,.ptr 0 0),(3,.int .i64 a)],[.box 31 [.str x.name,.arr (x.args.map Tm.d)]]⟩) (fun a=>∃ k:Nat,a=k∧k≤(x.args).length∧Tm.Dm (x.args.drop k)=Tm.Dm x.args) (fun a=>(x.args).length-(a).toNat) 0 ⟨0,rfl,zP _,by rw [zU]⟩ (by simp (disch:=omega) only [go_sem,Aa]) ?_
    rintro i ⟨k,hi,hk,hR⟩
    have hni:i.toNat=k:=by omega
    have hni1:(i+1).toNat=k+1:=by omega
    rcases zC k (x.args).length with hlt | hge
    ·have hg:=get_at Tm.d hlt
     rw [Tm.d_eq] at hg
     have hc:=ih x.args[k] (zF hlt)
     rw [zJ hlt,Tm.Dm] at hR
     cases hp:x.args[k].names with
     | true =>
      rw [hp] at hc hR
      simp (disch:=omega) only [go_sem,Aa,hni,hg,hc,BG]
      exact ⟨i+1,⟨k+1,by omega,hlt,by simpa using hR⟩,by omega,by first | trivial | rfl⟩
     | false =>
      rw [hp] at hc hR
      simp (disch:=omega) only [go_sem,Aa,hni,hg,hc,BG]
      simp at hR ⊢; exact fun _=>hR
    ·rw [zO hge,Tm.Dm] at hR
     simp (disch:=omega) only [go_sem,Aa,hni]
     simp [h5,← hR]
theorem Mg (x:Tm) (hn:x.nodes≤1099511627776):E 70 [x.sv] []=some (.bool x.names,[]) :=
 OZ x hn fun y hy=>Mg y (by have:=Tm.BU hy; have:=Tm.Ao x; omega)
termination_by SizeOf.sizeOf x
decreasing_by exact Tm.AL hy
def EK:SC:=(.seq (.reg [⟨some 1,none,.boxv 31 2 (.t 0)⟩,⟨some 2,none,.mv (.c (.bool false))⟩]) (.seq (.reg [⟨some 3,none,.load true 2 (.t 1)⟩,⟨some 4,none,.call 73 [(.t 3)]⟩,⟨some 5,none,.bin .leq false (.t 4) (.c (.int .i64 30))⟩,⟨some 6,none,.mv (.t 5)⟩,⟨(some 7),(some (6,true)),(.load true 2 (.t 1))⟩,⟨(some 8),(some (6,true)),(.call 74 [(.t 7)])⟩,⟨(some 9),(some (6,true)),(.bin .leq false (.t 8) (.c (.int .i64 8)))⟩,⟨some 10,none,.pick (.t 6) (.t 9) (.c (.bool false))⟩,⟨some 2,none,.mv (.t 10)⟩]) .ret))
theorem G7:A1 Tryz.prog 50=some ⟨11,EK,[(.tmp 2)]⟩:=by kernel_rfl
theorem AS:modes 50=⟨[],.asis,none,false⟩:=by unfold modes; rfl
def Fs:SC:=(.seq (.reg [⟨some 1,none,.boxv 31 2 (.t 0)⟩,⟨some 2,none,.mv (.c (.bool false))⟩]) (.seq (.reg [⟨some 3,none,.load true 2 (.t 1)⟩,⟨some 4,none,.call 90 [(.t 3),(.c (.int .i64 30))]⟩,⟨some 5,none,.bin .leq false (.t 4) (.c (.int .i64 30))⟩,⟨some 6,none,.mv (.t 5)⟩,⟨(some 7),(some (6,true)),(.load true 2 (.t 1))⟩,⟨(some 8),(some (6,true)),(.call 91 [(.t 7)])⟩,⟨(some 9),(some (6,true)),(.bin .leq false (.t 8) (.c (.int .i64 8)))⟩,⟨some 10,none,.pick (.t 6) (.t 9) (.c (.bool false))⟩,⟨some 2,none,.mv (.t 10)⟩]) .ret))
theorem Hv:A1 Tryz.prog 69=some ⟨11,Fs,[(.tmp 2)]⟩:=by kernel_rfl
theorem DW:modes 69=⟨[],.asis,none,false⟩:=by unfold modes; rfl
def Dx:SC:=(.seq (.reg [⟨some 1,none,.boxv 31 2 (.t 0)⟩,⟨some 2,none,.mv (.c (.bool false))⟩]) (.seq (.reg [⟨some 3,none,.load true 2 (.t 1)⟩,⟨some 4,none,.call 50 [(.t 3)]⟩,⟨some 5,none,.mv (.t 4)⟩,⟨(some 6),(some (5,true)),(.load true 2 (.t 1))⟩,⟨(some 7),(some (5,true)),(.call 62 [(.t 6)])⟩,⟨some 8,none,.pick (.t 5) (.t 7) (.c (.bool false))⟩,⟨some 2,none,.mv (.t 8)⟩]) .ret))
theorem EM:A1 Tryz.prog 37=some ⟨9,Dx,[(.tmp 2)]⟩:=by kernel_rfl
theorem A9:modes 37=⟨[],.asis,none,false⟩:=by unfold modes; rfl
def Ft:SC:=(.seq (.reg [⟨some 1,none,.boxv 31 2 (.t 0)⟩,⟨some 2,none,.mv (.c (.bool false))⟩]) (.seq (.reg [⟨some 3,none,.load true 2 (.t 1)⟩,⟨some 4,none,.call 69 [(.t 3)]⟩,⟨some 5,none,.mv (.t 4)⟩,⟨(some 6),(some (5,true)),(.load true 2 (.t 1))⟩,⟨(some 7),(some (5,true)),(.call 70 [(.t 6)])⟩,⟨some 8,none,.pick (.t 5) (.t 7) (.c (.bool false))⟩,⟨some 2,none,.mv (.t 8)⟩]) .ret))
theorem Hw:A1 Tryz.prog 44=some ⟨9,Ft,[(.tmp 2)]⟩:=by kernel_rfl
theorem CE:modes 44=⟨[],.asis,none,false⟩:=by unfold modes; rfl
def Fk:SC:=(.seq (.reg [⟨some 1,none,.boxv 31 2 (.t 0)⟩,⟨some 2,none,.mv (.c (.bool false))⟩]) (.seq (.reg [⟨some 3,none,.faddr 0 (.t 1)⟩,⟨some 4,none,.load false 1 (.t 3)⟩,⟨(some 5),none,(.bin .eql false (.t 4) (.c (.str ⟨#[61]⟩)))⟩,⟨some 2,none,.mv (.t 5)⟩]) .ret))
theorem Iu:A1 Tryz.prog 48=some ⟨6,Fk,[(.tmp 2)]⟩:=by kernel_rfl
theorem AW:modes 48=⟨[],.asis,none,false⟩:=by unfold modes; rfl
def Bo:SC:=(.seq (.reg [⟨some 1,none,.boxv 31 2 (.t 0)⟩,⟨some 2,none,.mv (.c (.bool false))⟩]) (.seq (.seq (.reg [⟨some 3,none,.load true 2 (.t 1)⟩,⟨some 4,none,.call 48 [(.t 3)]⟩]) (.cond (.t 4) (.seq (.reg [⟨some 5,none,.faddr 1 (.t 1)⟩,⟨some 6,none,.load false 1 (.t 5)⟩,⟨some 7,none,.len false (.t 6)⟩,⟨some 8,none,.bin .eql false (.t 7) (.c (.int .i64 2))⟩,⟨some 9,none,.mv (.t 8)⟩,⟨(some 10),(some (9,true)),(.load true 2 (.t 1))⟩,⟨(some 11),(some (9,true)),(.call 50 [(.t 10)])⟩,⟨some 12,none,.pick (.t 9) (.t 11) (.c (.bool false))⟩,⟨some 13,none,.mv (.t 12)⟩,⟨(some 14),(some (13,true)),(.faddr 1 (.t 1))⟩,⟨(some 15),(some (13,true)),(.load false 1 (.t 14))⟩,⟨(some 16),(some (13,true)),(.iaddr 2 (.t 15) (.c (.int .i64 0)))⟩,⟨(some 17),(some (13,true)),(.load true 2 (.t 16))⟩,⟨(some 18),(some (13,true)),(.call 62 [(.t 17)])⟩,⟨some 19,none,.pick (.t 13) (.t 18) (.c (.bool false))⟩,⟨some 20,none,.mv (.t 19)⟩,⟨(some 21),(some (20,true)),(.faddr 1 (.t 1))⟩,⟨(some 22),(some (20,true)),(.load false 1 (.t 21))⟩,⟨(some 23),(some (20,true)),(.iaddr 2 (.t 22) (.c (.int .i64 1)))⟩,⟨(some 24),(some (20,true)),(.load true 2 (.t 23))⟩,⟨(some 25),(some (20,true)),(.call 62 [(.t 24)])⟩,⟨some 26,none,.pick (.t 20) (.t 25) (.c (.bool false))⟩,⟨some 2,none,.mv (.t 26)⟩]) .ret) .skip)) (.seq (.reg [⟨some 27,none,.faddr 0 (.t 1)⟩,⟨some 28,none,.load false 1 (.t 27)⟩,⟨some 29,none,.call 72 [(.t 28)]⟩,⟨some 30,none,.mv (.t 29)⟩,⟨(some 31),(some (30,true)),(.load true 2 (.t 1))⟩,⟨(some 32),(some (30,true)),(.call 37 [(.t 31)])⟩,⟨some 33,none,.pick (.t 30) (.t 32) (.c (.bool false))⟩,⟨some 2,none,.mv (.t 33)⟩]) .ret)))
theorem B9:A1 Tryz.prog 49=some ⟨34,Bo,[(.tmp 2)]⟩:=by kernel_rfl
theorem Bp:modes 49=⟨[],.asis,none,false⟩:=by unfold modes; rfl
def Ct:SC:=(.seq (.reg [⟨some 1,none,.boxv 31 2 (.t 0)⟩,⟨some 2,none,.mv (.c (.bool false))⟩]) (.seq (.reg [⟨some 3,none,.load true 2 (.t 1)⟩,⟨some 4,none,.call 37 [(.t 3)]⟩,⟨some 5,none,.mv (.t 4)⟩,⟨(some 6),(some (5,false)),(.load true 2 (.t 1))⟩,⟨(some 7),(some (5,false)),(.call 48 [(.t 6)])⟩,⟨(some 8),(some (5,false)),(.mv (.t 7))⟩,⟨(some 9),(some (8,true)),(.load true 2 (.t 1))⟩,⟨(some 10),(some (8,true)),(.call 49 [(.t 9)])⟩,⟨(some 11),(some (5,false)),(.pick (.t 8) (.t 10) (.c (.bool false)))⟩,⟨some 12,none,.pick (.t 5) (.c (.bool true)) (.t 11)⟩,⟨some 2,none,.mv (.t 12)⟩]) .ret))
theorem Dg:A1 Tryz.prog 23=some ⟨13,Ct,[(.tmp 2)]⟩:=by kernel_rfl
theorem BN:modes 23=⟨[],.asis,none,false⟩:=by unfold modes; rfl
theorem IX (x:Tm) (hn:x.nodes≤1099511627776):E 50 [x.sv] []=some (.bool x.small,[]):=by
 have h1:=RP x hn
 have h2:=PG x hn
 have h3:=Tm.Il x
 have h4:=Tm.He x 30
 unfold Tm.small
 rcases zC 30 x.nodes with h5 | h5
 ·rw [decide_eq_false (by omega),yN]
  refine Ab G7 AS (of_decide_eq_true rfl) ?_
  simp (disch:=omega) only [EK,go_sem,Aa,h1,h2,Ee,Et]
 ·rw [decide_eq_true h5,xB]
  refine Ab G7 AS (of_decide_eq_true rfl) ?_
  simp (disch:=omega) only [EK,go_sem,Aa,h1,h2,Ee,Et]
  rcases zC 8 x.deep with h6 | h6
  ·rw [decide_eq_false (by omega),BW (by omega)]
  ·rw [decide_eq_true h6,Bs (by omega)]
theorem RT (x:Tm) (hn:x.nodes≤1099511627776):E 69 [x.sv] []=some (.bool x.small,[]):=by
 have h1:=RQ x 30 (by omega) (by omega) hn
 have h2:=Mf x hn
 have h3:=Tm.Il x
 have h4:=Tm.He x 30
 unfold Tm.small
 rcases zC 30 x.nodes with h5 | h5
 ·rw [decide_eq_false (by omega),yN]
  refine Ab Hv DW (of_decide_eq_true rfl) ?_
  simp (disch:=omega) only [Fs,go_sem,Aa,h1,h2,Do,D4]
 ·rw [decide_eq_true h5,xB]
  refine Ab Hv DW (of_decide_eq_true rfl) ?_
  simp (disch:=omega) only [Fs,go_sem,Aa,h1,h2,Do,D4]
  rcases zC 8 x.deep with h6 | h6
  ·rw [decide_eq_false (by omega),BW (by omega)]
  ·rw [decide_eq_true h6,Bs (by omega)]
theorem Fu (x:Tm) (hn:x.nodes≤1099511627776):E 37 [x.sv] []=some (.bool x.valid,[]):=by
 have h1:=IX x hn
 have h2:=Gb x hn
 unfold Tm.valid
 cases h3:x.small <;> rw [h3] at h1
 ·refine Ab EM A9 (of_decide_eq_true rfl) ?_
  simp (disch:=omega) only [Dx,go_sem,Aa,h1,h2,AS,AH]
 ·refine Ab EM A9 (of_decide_eq_true rfl) ?_
  simp (disch:=omega) only [Dx,go_sem,Aa,h1,h2,AS,AH]
theorem RU (x:Tm) (hn:x.nodes≤1099511627776):E 44 [x.sv] []=some (.bool x.valid,[]):=by
 have h1:=RT x hn
 have h2:=Mg x hn
 unfold Tm.valid
 cases h3:x.small <;> rw [h3] at h1
 ·refine Ab Hw CE (of_decide_eq_true rfl) ?_
  simp (disch:=omega) only [Ft,go_sem,Aa,h1,h2,DW,BG]
 ·refine Ab Hw CE (of_decide_eq_true rfl) ?_
  simp (disch:=omega) only [Ft,go_sem,Aa,h1,h2,DW,BG]
theorem Iv (x:Tm):E 48 [x.sv] []=some (.bool x.eqn,[]):=by
 unfold Tm.eqn
 refine Ab Iu AW (of_decide_eq_true rfl) ?_
 simp (disch:=omega) only [Fk,go_sem,Aa]
theorem Lp (x:Tm) (hn:x.nodes≤1099511627776):E 49 [x.sv] []=some (.bool x.atom,[]):=by
 have hl:=Tm.length_le x.args
 have hx:=Tm.Ao x
 have h0:=Iv x
 have h1:=IX x hn
 have h2:=K9 x.name
 have h3:=Fu x hn
 have hE:dec (x.name=⟨#[61]⟩)=x.eqn:=rfl
 unfold Tm.atom
 cases he:x.eqn <;> rw [he] at h0 hE
 ·rw [if_neg (by simp)]
  cases hs:Ei x.name <;> rw [hs] at h2
  ·refine Ab B9 Bp (of_decide_eq_true rfl) ?_
   simp (disch:=omega) only [Bo,go_sem,Aa,h0,h1,h2,h3,hE,AS,AH,Bf,A9,AW]
  ·refine Ab B9 Bp (of_decide_eq_true rfl) ?_
   simp (disch:=omega) only [Bo,go_sem,Aa,h0,h1,h2,h3,hE,AS,AH,Bf,A9,AW]
 ·rw [if_pos rfl]
  by_cases hc:x.args.length=2
  ·have hlt0:0<x.args.length:=by omega
   have hlt1:1<x.args.length:=by omega
   have hg0:=get_at Tm.d hlt0
   have hg1:=get_at Tm.d hlt1
   rw [Tm.d_eq] at hg0 hg1
   have hb0:=Tm.Ik x.args 0 hlt0
   have hb1:=Tm.Ik x.args 1 hlt1
   have hn0:=Gb x.args[0] (by omega)
   have hn1:=Gb x.args[1] (by omega)
   rw [Q1 hc,show (x.args.length == 2)=true by simpa using hc]
   cases hs:x.small <;> rw [hs] at h1
   ·refine Ab B9 Bp (of_decide_eq_true rfl) ?_
    simp (disch:=omega) only [Bo,go_sem,Aa,h0,h1,h2,h3,hE,hg0,hg1,hn0,hn1,hc,AS,AH,Bf,A9,AW]
    try simp
   ·cases hq:(x.args[0]'hlt0).names <;> rw [hq] at hn0
    ·refine Ab B9 Bp (of_decide_eq_true rfl) ?_
     simp (disch:=omega) only [Bo,go_sem,Aa,h0,h1,h2,h3,hE,hg0,hg1,hn0,hn1,hc,AS,AH,Bf,A9,AW]
     try simp
    ·refine Ab B9 Bp (of_decide_eq_true rfl) ?_
     simp (disch:=omega) only [Bo,go_sem,Aa,h0,h1,h2,h3,hE,hg0,hg1,hn0,hn1,hc,AS,AH,Bf,A9,AW]
     try simp
  ·refine Ab B9 Bp (of_decide_eq_true rfl) ?_
   simp (disch:=omega) only [Bo,go_sem,Aa,h0,h1,h2,h3,hE,AS,AH,Bf,A9,AW]
   rw [show (x.args.length == 2)=false by simpa using hc]
   try simp
noncomputable def Pa (a b:ByteArray):Int:=bif strLt a b then -1 else bif dec (a=b) then 0 else 1
def Iw (s:ByteArray):Bool:=decide (0<s.size)&&(M5 (Hq s 0) == Bi s)
mutual
def Tm.cok:Tm→Bool
 | .mk n xs=>Iw n&&Tm.Pb xs
def Tm.Pb:List Tm→Bool
 | []=>true
 | x :: xs=>Tm.cok x&&Tm.Pb xs
end
theorem Tm.RV (x:Tm):x.cok=(Iw x.name&&Tm.Pb x.args):=by
 obtain ⟨n,xs⟩:=x
 rw [Tm.cok]; rfl
theorem Tm.RW {xs:List Tm} (h:Tm.Pb xs=true) {y:Tm} (hy:y∈xs):y.cok=true:=by
 induction xs with
 | nil=>cases hy
 | cons x xs ih =>
  rw [Tm.Pb,zA] at h
  rcases z7.1 hy with rfl | hy
  ·exact h.1
  ·exact ih h.2 hy
structure Ord3 {α:Type} (c:α→α→Int) (a b d:α):Prop where
 anti:c b a=- c a b
 zero:c a b=0 ↔ a=b
 trans:c a b<0→c b d<0→c a d<0
def EN:SC:=(.seq (.reg [⟨some 2,none,.mv (.c (.bool false))⟩]) (.seq (.reg [⟨some 3,none,.mv (.t 0)⟩,⟨some 4,none,.bin .geq false (.t 3) (.c (.int .u8 65))⟩,⟨some 5,none,.mv (.t 4)⟩,⟨(some 6),(some (5,true)),(.mv (.t 0))⟩,⟨(some 7),(some (5,true)),(.bin .leq false (.t 6) (.c (.int .u8 90)))⟩,⟨some 8,none,.pick (.t 5) (.t 7) (.c (.bool false))⟩,⟨some 2,none,.mv (.t 8)⟩]) .ret))
theorem G8:A1 Tryz.prog 58=some ⟨9,EN,[(.tmp 2)]⟩:=by kernel_rfl
theorem EO:modes 58=⟨[],.asis,none,false⟩:=by unfold modes; rfl
theorem HN {p:Nat→Int→Bool} {s:ByteArray} (h:DF p s s.size=true) (hs:0<s.size):p 0 (Hq s 0)=true:=by
 unfold DF at h
 rw [yC] at h
 exact h 0 (List.mem_range.2 hs)
theorem Q3 {s:ByteArray} (h:Bi s=true):Iw s=true:=by
 have h0:=h
 unfold Bi inB at h
 rw [zA,zA,decide_eq_true_eq,decide_eq_true_eq] at h
 have hs:0<s.size:=by omega
 have h1:=HN h.1 hs
 unfold G2 at h1
 unfold Iw
 rw [h0]
 simp at h1
 simp [hs,h1]
theorem Q4 {s:ByteArray} (hs:0<s.size) (h:M5 (Hq s 0)=false):Iw s=true:=by
 have hv:Bi s=false:=by
  rw [Bool.eq_false_iff]
  intro hv
  unfold Bi at hv
  rw [zA] at hv
  have h1:=HN hv.1 hs
  unfold G2 at h1
  rw [h] at h1
  simp at h1
 unfold Iw
 rw [hv,h]
 simp [hs]
theorem Q5 {s:ByteArray} (h:Ei s=true):Iw s=true:=by
 unfold Ei inB at h
 rw [zA,zA,zA,decide_eq_true_eq,decide_eq_true_eq] at h
 have hs:0<s.size:=by omega
 refine Q4 hs ?_
 have h1:=HN h.1.1 hs
 unfold Hr at h1
 simp at h1
 have h2:=h1.1
 unfold NG at h2
 unfold M5
 simp at h2 ⊢
 omega
mutual
theorem Tm.Mh:∀ x:Tm,x.names=true→x.cok=true
 | .mk n xs,h=>by
  rw [Tm.names] at h
  rw [Tm.cok,zA]
  split at h
  ·rename_i hv
   have:xs=[]:=by
    rw [beq_iff_eq] at h
    exact zH h
   subst this
   exact ⟨Q3 hv,rfl⟩
  ·rw [zA,zA] at h
   exact ⟨Q5 h.1.1,Tm.KH xs h.2⟩
theorem Tm.KH:∀ xs:List Tm,Tm.Dm xs=true→Tm.Pb xs=true
 | [],_=>rfl
 | x :: xs,h=>by
  rw [Tm.Dm,zA] at h
  rw [Tm.Pb,zA]
  exact ⟨Tm.Mh x h.1,Tm.KH xs h.2⟩
end
theorem Q6 {s:ByteArray} {k:Nat} (h:k<s.size):Gn s k=Hq s k:=by
 rw [←DN h]
 unfold Gn
 rw [show s[k]?=some s[k] from getElem?_pos s k h]; rfl
theorem Q7 {s:ByteArray} (h:Iw s=true):0<s.size∧(dec (65≤Gn s 0)&&dec (Gn s 0≤90))=Bi s:=by
 unfold Iw at h
 rw [zA,decide_eq_true_eq,beq_iff_eq] at h
 refine ⟨h.1,?_⟩
 rw [←h.2,Q6 h.1,H8,H8]
 unfold M5
 rfl
theorem HO (a:ByteArray):strLt a a=false:=by
 unfold strLt
 have key:∀ l:List UInt8,Op.bytesLess l l=false:=by
  intro l
  induction l with
  | nil=>rfl
  | cons x l ih=>simp [Op.bytesLess,ih]
 exact key _
def EP:SC:=(.seq (.reg [⟨some 2,none,.mv (.c (.bool false))⟩]) (.seq (.reg [⟨some 3,none,.mv (.t 0)⟩,⟨some 4,none,.mv (.t 0)⟩,⟨some 5,none,.bin .neq false (.t 3) (.t 4)⟩,⟨some 2,none,.mv (.t 5)⟩]) .ret))
theorem HP:A1 Tryz.prog 66=some ⟨6,EP,[(.tmp 2)]⟩:=by kernel_rfl
theorem C4:modes 66=⟨[],.asis,none,false⟩:=by unfold modes; rfl
def Cf:SC:=(.seq (.reg [⟨some 4,none,.mv (.c (.int .i64 0))⟩]) (.seq (.reg [⟨some 7,none,.mv (.t 0)⟩,⟨some 8,none,.call 66 [(.t 7)]⟩,⟨some 5,none,.mv (.t 8)⟩]) (.seq (.reg [⟨some 9,none,.mv (.t 1)⟩,⟨some 10,none,.call 66 [(.t 9)]⟩,⟨some 6,none,.mv (.t 10)⟩]) (.seq (.seq (.reg [⟨some 11,none,.mv (.t 5)⟩]) (.cond (.t 11) (.seq (.seq (.reg [⟨some 12,none,.mv (.t 6)⟩]) (.cond (.t 12) (.seq (.reg [⟨some 4,none,.mv (.c (.int .i64 0))⟩]) .ret) .skip)) (.seq (.reg [⟨some 4,none,.mv (.c (.int .i64 (-(0+1))))⟩]) .ret)) .skip)) (.seq (.seq (.reg [⟨some 13,none,.mv (.t 6)⟩]) (.cond (.t 13) (.seq (.reg [⟨some 4,none,.mv (.c (.int .i64 1))⟩]) .ret) .skip)) (.seq (.seq (.reg [⟨some 14,none,.mv (.t 0)⟩,⟨some 15,none,.mv (.t 1)⟩,⟨some 16,none,.bin .lss false (.t 14) (.t 15)⟩]) (.cond (.t 16) (.seq (.reg [⟨some 4,none,.mv (.c (.int .i64 (-(0+1))))⟩]) .ret) .skip)) (.seq (.seq (.reg [⟨some 17,none,.mv (.t 0)⟩,⟨some 18,none,.mv (.t 1)⟩,⟨some 19,none,.bin .gtr false (.t 17) (.t 18)⟩]) (.cond (.t 19) (.seq (.reg [⟨some 4,none,.mv (.c (.int .i64 1))⟩]) .ret) .skip)) (.seq (.reg [⟨some 4,none,.mv (.c (.int .i64 0))⟩]) .ret))))))))
theorem CQ:A1 Tryz.prog 42=some ⟨20,Cf,[(.tmp 4)]⟩:=by kernel_rfl
theorem Cg:modes 42=⟨[],.asis,none,false⟩:=by unfold modes; rfl
theorem NX (a:ByteArray):E 66 [.str a] []=some (.bool false,[]):=by
 refine Ab HP C4 (of_decide_eq_true rfl) ?_
 simp (disch:=omega) only [EP,go_sem,Aa]
theorem Pc (a b:ByteArray):E 42 [.str a,.str b] []=some (.int .i64 (Pa a b),[]):=by
 have h1:=NX a
 have h2:=NX b
 unfold Pa
 cases h3:strLt a b
 ·cases h4:dec (a=b)
  ·refine Ab CQ Cg (of_decide_eq_true rfl) ?_
   simp (disch:=omega) only [Cf,go_sem,Aa,h1,h2,h3,h4,C4]
  ·refine Ab CQ Cg (of_decide_eq_true rfl) ?_
   simp (disch:=omega) only [Cf,go_sem,Aa,h1,h2,h3,h4,C4]
 ·refine Ab CQ Cg (of_decide_eq_true rfl) ?_
  simp (disch:=omega) only [Cf,go_sem,Aa,h1,h2,h3,C4]
def Ix:SC:=(.seq (.reg [⟨some 1,none,.boxv 31 2 (.t 0)⟩,⟨some 2,none,.mv (.c (.bool false))⟩]) (.seq (.reg [⟨some 3,none,.faddr 0 (.t 1)⟩,⟨some 4,none,.load false 1 (.t 3)⟩,⟨some 5,none,.idx (.t 4) (.c (.int .i64 0))⟩,⟨some 6,none,.call 58 [(.t 5)]⟩,⟨some 2,none,.mv (.t 6)⟩]) .ret))
theorem MN:A1 Tryz.prog 75=some ⟨7,Ix,[(.tmp 2)]⟩:=by kernel_rfl
theorem Eu:modes 75=⟨[],.asis,none,false⟩:=by unfold modes; rfl
theorem Q8 (n:Int):E 58 [.int .u8 n] []=some (.bool (dec (65≤n)&&dec (n≤90)),[]):=by
 cases h1:dec (65≤n)
 ·refine Ab G8 EO (of_decide_eq_true rfl) ?_
  simp (disch:=omega) only [EN,go_sem,Aa,h1]
 ·refine Ab G8 EO (of_decide_eq_true rfl) ?_
  simp (disch:=omega) only [EN,go_sem,Aa,h1]
theorem TE (x:Tm) (h:x.cok=true):E 75 [x.sv] []=some (.bool (Bi x.name),[]):=by
 rw [Tm.RV,zA] at h
 obtain ⟨h1,h2⟩:=Q7 h.1
 have h3:=Q8 (Gn x.name 0)
 rw [h2] at h3
 refine Ab MN Eu (of_decide_eq_true rfl) ?_
 simp (disch:=omega) only [Ix,go_sem,Aa,h3,EO]
theorem KI:∀ x y:List UInt8,Op.bytesLess x y=true→Op.bytesLess y x=false
 | [],[],h=>by simp [Op.bytesLess] at h
 | [],_ :: _,_=>rfl
 | _ :: _,[],h=>by simp [Op.bytesLess] at h
 | a :: x,b :: y,h=>by
  simp only [Op.bytesLess,yT,decide_eq_true_eq,zA,beq_iff_eq] at h
  simp only [Op.bytesLess,yG,decide_eq_false_iff_not]
  rcases h with h | ⟨rfl,h⟩
  ·have h2:¬ b<a:=by intro h3; exact absurd (UInt8.lt_trans h h3) (UInt8.lt_irrefl _)
   have h3:(b == a)=false:=by
    rw [beq_eq_false_iff_ne]; rintro rfl; exact UInt8.lt_irrefl _ h
   exact ⟨h2,by rw [h3]; rfl⟩
  ·exact ⟨UInt8.lt_irrefl _,by rw [KI x y h]; simp⟩
theorem KJ:∀ x y:List UInt8,Op.bytesLess x y=false→Op.bytesLess y x=false→x=y
 | [],[],_,_=>rfl
 | [],_ :: _,h,_=>by simp [Op.bytesLess] at h
 | _ :: _,[],_,h=>by simp [Op.bytesLess] at h
 | a :: x,b :: y,h,k=>by
  simp only [Op.bytesLess,yG,decide_eq_false_iff_not] at h k
  have hab:a=b:=by
   have h1:=h.1; have h2:=k.1
   rw [UInt8.lt_iff_toNat_lt] at h1 h2
   exact UInt8.toNat_inj.1 (by omega)
  subst hab
  have h1:Op.bytesLess x y=false:=by simpa using h.2
  have h2:Op.bytesLess y x=false:=by simpa using k.2
  rw [KJ x y h1 h2]
theorem G9 {a b:ByteArray} (h:strLt a b=true):strLt b a=false:=KI _ _ h
theorem GA {a b:ByteArray} (h:strLt a b=false) (h':strLt b a=false):a=b:=GY (KJ _ _ h h')
theorem NY (a b:ByteArray):(strLt a b || dec (a=b))=!strLt b a:=by
 cases h:strLt b a with
 | false =>
  cases h2:strLt a b with
  | false=>rw [Bs (GA h2 h)]; rfl
  | true=>rfl
 | true =>
  rw [G9 h,BW (by rintro rfl; rw [HO] at h; cases h)]
  rfl
theorem KK:∀ x y z:List UInt8,Op.bytesLess x y=true→Op.bytesLess y z=true→Op.bytesLess x z=true
 | _,_,[],_,h=>by simp [Op.bytesLess] at h
 | [],[],_ :: _,h,_=>by simp [Op.bytesLess] at h
 | [],_ :: _,_ :: _,_,_=>rfl
 | _ :: _,[],_ :: _,h,_=>by simp [Op.bytesLess] at h
 | a :: x,b :: y,c :: z,h,k=>by
  simp only [Op.bytesLess,yT,decide_eq_true_eq,zA,beq_iff_eq] at h k ⊢
  rcases h with h | ⟨rfl,h⟩
  ·rcases k with k | ⟨rfl,k⟩
   ·exact .inl (UInt8.lt_trans h k)
   ·exact .inl h
  ·rcases k with k | ⟨rfl,k⟩
   ·exact .inl k
   ·exact .inr ⟨rfl,KK x y z h k⟩
theorem GB {a b c:ByteArray} (h:strLt a b=true) (k:strLt b c=true):strLt a c=true:=KK _ _ _ h k
theorem NZ {a b:ByteArray} (h:strLt a b=true):¬ a=b:=by rintro rfl; rw [HO] at h; cases h
theorem Oa (a b:ByteArray):dec (Pa a b<0)=strLt a b:=by
 unfold Pa
 cases strLt a b
 ·cases dec (a=b)
  ·exact BW (by simp)
  ·exact BW (by simp)
 ·exact Bs (by simp)
theorem Q9 (a b:ByteArray):dec (Pa a b=0)=dec (a=b):=by
 unfold Pa
 cases h:strLt a b
 ·cases h2:dec (a=b)
  ·exact BW (by simp)
  ·exact Bs (by simp)
 ·rw [BW (NZ h)]
  exact BW (by simp)
theorem wrap_u64 {n:Int} (h0:0≤n) (h1:n≤18446744073709551615):IntKind.u64.wrap n=n:=JS (by
 have e1:IntKind.u64.min=0:=by decide
 have e2:IntKind.u64.max=18446744073709551615:=by decide
 unfold inK
 rw [e1,e2]
 exact ⟨h0,h1⟩)
noncomputable def FF (x:Bd):Bool:=Bi x.var&&(x.term.valid&&!dec (x.term.name=x.var))
noncomputable def Oc (xs:List Bd) (k:Nat):Bool:=match xs[k]? with
 | none=>true
 | some x=>FF x&&(match k with
  | 0=>true
  | j+1=>match xs[j]? with
   | none=>true
   | some y=>strLt y.var x.var)
noncomputable def Gc (xs:List Bd):Nat→Bool
 | 0=>true
 | k+1=>Gc xs k&&Oc xs k
theorem QA {xs:List Bd} {k n:Nat} (h:Gc xs k=false) (hn:k≤n):Gc xs n=false:=by
 induction n with
 | zero =>
      obtain rfl:k=0:=by omega
      exact h
 | succ n ih =>
  rcases zC n k with h1 | h1
  ·obtain rfl:k=n+1:=by omega
   exact h
  ·rw [Gc,ih h1]; rfl
theorem FG {xs:List Bd} (h:0<xs.length):Oc xs 0=FF xs[0]:=by
 unfold Oc
 rw [zR h]
 simp
theorem E0 {xs:List Bd} {j:Nat} (h:j+1<xs.length):Oc xs (j+1)=(FF xs[j+1]&&strLt xs[j].var xs[j+1].var):=by
 unfold Oc
 rw [zR h]
 simp only [zR (show j<xs.length by omega)]
theorem PH {xs:List Bd} {k j:Nat} (h:Gc xs k=true) (hj:j<k):Oc xs j=true:=by
 induction k with
 | zero=>omega
 | succ k ih =>
  rw [Gc,zA] at h
  rcases zC j k with h1 | h1
  ·exact ih h.1 h1
  ·obtain rfl:j=k:=by omega
   exact h.2
theorem TF {xs:List Bd} {j:Nat} (hl:j<xs.length) (h:Oc xs j=true):FF xs[j]=true:=by
 cases j with
 | zero=>rw [←FG hl]; exact h
 | succ j=>rw [E0 hl,zA] at h; exact h.1
noncomputable def Sb.ok (x:Sb):Bool:=decide (x.binds.length≤12)&&Gc x.binds x.binds.length
theorem Sb.MO {x:Sb} {k:Nat} (h:Gc x.binds k=true) (h':Oc x.binds k=false) (hk:k<x.binds.length):x.ok=false:=by
 have:Gc x.binds x.binds.length=false:=QA (k:=k+1) (by rw [Gc,h,h']; rfl) (by omega)
 unfold Sb.ok
 rw [this,zQ]
def Sb.tame (x:Sb):Prop:=x.binds.length≤1099511627776∧∀ y∈x.binds,y.term.nodes≤1099511627776
theorem Sb.JI {x:Sb} (h:x.tame) {k:Nat} (hk:k<x.binds.length):x.binds[k].term.nodes≤1099511627776:=h.2 _ (zF hk)
def CR:SC:=(.seq (.reg [⟨some 1,none,.boxv 26 1 (.t 0)⟩,⟨some 2,none,.mv (.c (.bool false))⟩]) (.seq (.seq (.reg [⟨some 5,none,.faddr 0 (.t 1)⟩,⟨some 6,none,.load false 1 (.t 5)⟩,⟨some 7,none,.len false (.t 6)⟩,⟨some 8,none,.mv (.c (.int .i64 0))⟩]) (.block 0 (.loop [0,1,0,0,0,0,1,1,1,0,0,0,0,0,0,0,0,0,0,0,0,0,0,0,0,0,0,0,0,0,0,0,0,0,0,0,0,0,0,0,0,0,0,0,0,0,0,0,0,0,0,0] (.seq (.reg [⟨some 9,none,.bin .lss false (.t 8) (.t 7)⟩]) (.seq (.cond (.t 9) .skip (.exit 0)) (.seq (.block 1 (.seq (.reg [⟨some 10,none,.mv (.t 8)⟩,⟨some 11,none,.iaddr 3 (.t 6) (.t 8)⟩,⟨some 12,none,.load true 3 (.t 11)⟩,⟨(some 4),none,(.alloc 55 [(.str ⟨#[]⟩),(.str ⟨#[]⟩),.nil])⟩,⟨some 3,none,.mv (.t 10)⟩,⟨none,none,(.store 3 (.t 4) (.t 12))⟩]) (.seq (.dreg [[],[0],[1,0],[2,1,0],[3,2,1,0],[4,3,2,1,0],[5,4,3,2,1,0],[6,5,4,3,2,1,0],[7,6,5,4,3,2,1,0],[8,7,6,5,4,3,2,1,0],[7,6,5,4,3,2,1,0],[10,7,6,5,4,3,2,1,0],[7,6,5,4,3,2,1,0],[12,7,6,5,4,3,2,1,0],[11,10,7,6,5,4,3,2,1,0,13,12],[14,11,10,7,6,5,4,3,2,1,0,13,12],[15,14,11,10,7,6,5,4,3,2,1,0,13,12],[9,8,7,6,5,4,3,2,1,0,16,15,14,11,10,13,12],[7,6,5,4,3,2,1,0,17,9,8,16,15,14,11,10,13,12],[4,3,2,1,0,18,7,6,5,17,9,8,16,15,14,11,10,13,12],[19,4,3,2,1,0,18,7,6,5,17,9,8,16,15,14,11,10,13,12],[20,19,4,3,2,1,0,18,7,6,5,17,9,8,16,15,14,11,10,13,12],[21,20,19,4,3,2,1,0,18,7,6,5,17,9,8,16,15,14,11,10,13,12],[22,21,20,19,4,3,2,1,0,18,7,6,5,17,9,8,16,15,14,11,10,13,12],[23,22,21,20,19,4,3,2,1,0,18,7,6,5,17,9,8,16,15,14,11,10,13,12],[20,19,4,3,2,1,0,18,7,6,5,17,9,8,16,15,14,11,10,13,12,24,23,22,21],[25,20,19,4,3,2,1,0,18,7,6,5,17,9,8,16,15,14,11,10,13,12,24,23,22,21],[26,25,20,19,4,3,2,1,0,18,7,6,5,17,9,8,16,15,14,11,10,13,12,24,23,22,21],[27,26,25,20,19,4,3,2,1,0,18,7,6,5,17,9,8,16,15,14,11,10,13,12,24,23,22,21],[28,27,26,25,20,19,4,3,2,1,0,18,7,6,5,17,9,8,16,15,14,11,10,13,12,24,23,22,21],[26,25,20,19,4,3,2,1,0,18,7,6,5,17,9,8,16,15,14,11,10,13,12,24,23,22,21],[30,26,25,20,19,4,3,2,1,0,18,7,6,5,17,9,8,16,15,14,11,10,13,12,24,23,22,21],[29,28,27,26,25,20,19,4,3,2,1,0,18,7,6,5,17,9,8,16,15,14,11,10,13,12,24,23,22,21,31,30],[26,25,20,19,4,3,2,1,0,18,7,6,5,17,9,8,16,15,14,11,10,13,12,24,23,22,21,32,29,28,27,31,30]] [⟨some 13,none,.faddr 0 (.t 4)⟩,⟨some 14,none,.load false 1 (.t 13)⟩,⟨some 15,none,.call 36 [(.t 14)]⟩,⟨some 16,none,.un .not (.t 15)⟩,⟨some 17,none,.mv (.t 16)⟩,⟨(some 18),(some (17,false)),(.mv (.t 3))⟩,⟨(some 19),(some (17,false)),(.bin .gtr false (.t 18) (.c (.int .i64 0)))⟩,⟨(some 20),(some (17,false)),(.mv (.t 19))⟩,⟨(some 21),(some (20,true)),(.faddr 0 (.t 4))⟩,⟨(some 22),(some (20,true)),(.load false 1 (.t 21))⟩,⟨(some 23),(some (20,true)),(.faddr 0 (.t 1))⟩,⟨(some 24),(some (20,true)),(.load false 1 (.t 23))⟩,⟨(some 25),(some (20,true)),(.mv (.t 3))⟩,⟨(some 26),(some (20,true)),(.bin .sub false (.t 25) (.c (.int .i64 1)))⟩,⟨(some 27),(some (20,true)),(.iaddr 3 (.t 24) (.t 26))⟩,⟨(some 28),(some (20,true)),(.faddr 0 (.t 27))⟩,⟨(some 29),(some (20,true)),(.load false 1 (.t 28))⟩,⟨(some 30),(some (20,true)),(.bin .leq false (.t 22) (.t 29))⟩,⟨(some 31),(some (17,false)),(.pick (.t 20) (.t 30) (.c (.bool false)))⟩,⟨some 32,none,.pick (.t 17) (.c (.bool true)) (.t 31)⟩,⟨some 33,none,.mv (.t 32)⟩,⟨(some 34),(some (33,false)),(.faddr 1 (.t 4))⟩,⟨(some 35),(some (33,false)),(.load true 2 (.t 34))⟩,⟨(some 36),(some (33,false)),(.call 37 [(.t 35)])⟩,⟨(some 37),(some (33,false)),(.un .not (.t 36))⟩,⟨some 38,none,.pick (.t 33) (.c (.bool true)) (.t 37)⟩,⟨some 39,none,.mv (.t 38)⟩,⟨(some 40),(some (39,false)),(.faddr 1 (.t 4))⟩,⟨(some 41),(some (39,false)),(.faddr 0 (.t 40))⟩,⟨(some 42),(some (39,false)),(.load false 1 (.t 41))⟩,⟨(some 43),(some (39,false)),(.faddr 0 (.t 4))⟩,⟨(some 44),(some (39,false)),(.load false 1 (.t 43))⟩,⟨(some 45),(some (39,false)),(.bin .eql false (.t 42) (.t 44))⟩,⟨some 46,none,.pick (.t 39) (.c (.bool true)) (.t 45)⟩]) (.cond (.t 46) (.seq (.reg [⟨some 2,none,.mv (.c (.bool false))⟩]) .ret) .skip)))) (.reg [⟨some 47,none,.bin .add false (.t 8) (.c (.int .i64 1))⟩,⟨some 8,none,.mv (.t 47)⟩]))))))) (.seq (.reg [⟨some 48,none,.faddr 0 (.t 1)⟩,⟨some 49,none,.load false 1 (.t 48)⟩,⟨some 50,none,.len false (.t 49)⟩,⟨some 51,none,.bin .leq false (.t 50) (.c (.int .i64 12))⟩,⟨some 2,none,.mv (.t 51)⟩]) .ret)))
theorem EQ:A1 Tryz.prog 19=some ⟨52,CR,[(.tmp 2)]⟩:=by kernel_rfl
theorem Ai:modes 19=⟨[],.asis,none,false⟩:=by unfold modes; rfl
def Hx:SC:=(.seq (.reg [⟨some 1,none,.boxv 26 1 (.t 0)⟩,⟨some 2,none,.mv (.c (.bool false))⟩]) (.seq (.seq (.reg [⟨some 3,none,.mv (.c (.int .i64 0))⟩]) (.block 0 (.loop [0,1,0,1,0,0,0,0,0,0,0,0,0,0,0,0,0,0,0,0,0,0,0,0,0,0,0,0,0,0,0,0,0,0,0,0,0,0,0,0,0,0,0,0,0,0,0,0,0,0,0,0,0,0,0] (.seq (.seq (.reg [⟨some 5,none,.mv (.t 3)⟩,⟨some 6,none,.faddr 0 (.t 1)⟩,⟨some 7,none,.load false 1 (.t 6)⟩,⟨some 8,none,.len false (.t 7)⟩,⟨some 9,none,.bin .lss false (.t 5) (.t 8)⟩]) (.cond (.t 9) .skip (.exit 0))) (.seq (.block 1 (.seq (.reg [⟨some 12,none,.faddr 0 (.t 1)⟩,⟨some 13,none,.load false 1 (.t 12)⟩,⟨some 14,none,.mv (.t 3)⟩,⟨some 15,none,.iaddr 3 (.t 13) (.t 14)⟩,⟨some 16,none,.load true 3 (.t 15)⟩,⟨(some 4),none,(.alloc 55 [(.str ⟨#[]⟩),(.str ⟨#[]⟩),.nil])⟩,⟨none,none,(.store 3 (.t 4) (.t 16))⟩]) (.seq (.dreg [[],[0],[1,0],[2,1,0],[3,2,1,0],[4,3,2,1,0],[5,4,3,2,1,0],[6,5,4,3,2,1,0],[7,6,5,4,3,2,1,0],[4,3,2,1,0,8,7,6,5],[9,4,3,2,1,0,8,7,6,5],[10,9,4,3,2,1,0,8,7,6,5],[11,10,9,4,3,2,1,0,8,7,6,5],[12,11,10,9,4,3,2,1,0,8,7,6,5],[10,9,4,3,2,1,0,8,7,6,5],[14,10,9,4,3,2,1,0,8,7,6,5],[13,12,11,10,9,4,3,2,1,0,8,7,6,5,15,14],[10,9,4,3,2,1,0,8,7,6,5,16,13,12,11,15,14],[17,10,9,4,3,2,1,0,8,7,6,5,16,13,12,11,15,14],[18,17,10,9,4,3,2,1,0,8,7,6,5,16,13,12,11,15,14],[19,18,17,10,9,4,3,2,1,0,8,7,6,5,16,13,12,11,15,14],[20,19,18,17,10,9,4,3,2,1,0,8,7,6,5,16,13,12,11,15,14],[21,20,19,18,17,10,9,4,3,2,1,0,8,7,6,5,16,13,12,11,15,14],[22,21,20,19,18,17,10,9,4,3,2,1,0,8,7,6,5,16,13,12,11,15,14],[21,20,19,18,17,10,9,4,3,2,1,0,8,7,6,5,16,13,12,11,15,14],[24,21,20,19,18,17,10,9,4,3,2,1,0,8,7,6,5,16,13,12,11,15,14],[23,22,21,20,19,18,17,10,9,4,3,2,1,0,8,7,6,5,16,13,12,11,15,14,25,24],[26,23,22,21,20,19,18,17,10,9,4,3,2,1,0,8,7,6,5,16,13,12,11,15,14,25,24],[27,26,23,22,21,20,19,18,17,10,9,4,3,2,1,0,8,7,6,5,16,13,12,11,15,14,25,24],[21,20,19,18,17,10,9,4,3,2,1,0,8,7,6,5,16,13,12,11,15,14],[29,21,20,19,18,17,10,9,4,3,2,1,0,8,7,6,5,16,13,12,11,15,14],[28,27,26,23,22,21,20,19,18,17,10,9,4,3,2,1,0,8,7,6,5,16,13,12,11,15,14,25,24,30,29],[21,20,19,18,17,10,9,4,3,2,1,0,8,7,6,5,16,13,12,11,15,14,31,28,27,26,23,22,25,24,30,29],[18,17,10,9,4,3,2,1,0,8,7,6,5,16,13,12,11,15,14,32,21,20,19,31,28,27,26,23,22,25,24,30,29]] [⟨some 17,none,.faddr 0 (.t 4)⟩,⟨some 18,none,.load false 1 (.t 17)⟩,⟨some 19,none,.call 43 [(.t 18)]⟩,⟨some 20,none,.un .not (.t 19)⟩,⟨some 21,none,.mv (.t 20)⟩,⟨(some 22),(some (21,false)),(.faddr 1 (.t 4))⟩,⟨(some 23),(some (21,false)),(.load true 2 (.t 22))⟩,⟨(some 24),(some (21,false)),(.call 44 [(.t 23)])⟩,⟨(some 25),(some (21,false)),(.un .not (.t 24))⟩,⟨some 26,none,.pick (.t 21) (.c (.bool true)) (.t 25)⟩,⟨some 27,none,.mv (.t 26)⟩,⟨(some 28),(some (27,false)),(.faddr 1 (.t 4))⟩,⟨(some 29),(some (27,false)),(.faddr 0 (.t 28))⟩,⟨(some 30),(some (27,false)),(.load false 1 (.t 29))⟩,⟨(some 31),(some (27,false)),(.faddr 0 (.t 4))⟩,⟨(some 32),(some (27,false)),(.load false 1 (.t 31))⟩,⟨(some 33),(some (27,false)),(.bin .eql false (.t 30) (.t 32))⟩,⟨some 34,none,.pick (.t 27) (.c (.bool true)) (.t 33)⟩,⟨some 35,none,.mv (.t 34)⟩,⟨(some 36),(some (35,false)),(.mv (.t 3))⟩,⟨(some 37),(some (35,false)),(.bin .gtr false (.t 36) (.c (.int .i64 0)))⟩,⟨(some 38),(some (35,false)),(.mv (.t 37))⟩,⟨(some 39),(some (38,true)),(.faddr 0 (.t 1))⟩,⟨(some 40),(some (38,true)),(.load false 1 (.t 39))⟩,⟨(some 41),(some (38,true)),(.mv (.t 3))⟩,⟨(some 42),(some (38,true)),(.bin .sub false (.t 41) (.c (.int .i64 1)))⟩,⟨(some 43),(some (38,true)),(.iaddr 3 (.t 40) (.t 42))⟩,⟨(some 44),(some (38,true)),(.faddr 0 (.t 43))⟩,⟨(some 45),(some (38,true)),(.load false 1 (.t 44))⟩,⟨(some 46),(some (38,true)),(.faddr 0 (.t 4))⟩,⟨(some 47),(some (38,true)),(.load false 1 (.t 46))⟩,⟨(some 48),(some (38,true)),(.bin .geq false (.t 45) (.t 47))⟩,⟨(some 49),(some (35,false)),(.pick (.t 38) (.t 48) (.c (.bool false)))⟩,⟨some 50,none,.pick (.t 35) (.c (.bool true)) (.t 49)⟩]) (.cond (.t 50) (.seq (.reg [⟨some 2,none,.mv (.c (.bool false))⟩]) .ret) .skip)))) (.reg [⟨some 10,none,.mv (.t 3)⟩,⟨some 11,none,.bin .add false (.t 10) (.c (.int .i64 1))⟩,⟨some 3,none,.mv (.t 11)⟩])))))) (.seq (.reg [⟨some 51,none,.faddr 0 (.t 1)⟩,⟨some 52,none,.load false 1 (.t 51)⟩,⟨some 53,none,.len false (.t 52)⟩,⟨some 54,none,.bin .leq false (.t 53) (.c (.int .i64 12))⟩,⟨some 2,none,.mv (.t 54)⟩]) .ret)))
theorem Lq:A1 Tryz.prog 21=some ⟨55,Hx,[(.tmp 2)]⟩:=by kernel_rfl
theorem CF:modes 21=⟨[],.asis,none,false⟩:=by unfold modes; rfl
def Hy:SC:=(.seq (.reg [⟨some 2,none,.boxv 26 1 (.t 0)⟩,⟨some 4,none,.mv (.c (.int .i64 0))⟩]) (.seq (.seq (.reg [⟨some 5,none,.mv (.c (.int .i64 0))⟩]) (.block 0 (.loop [0,1,1,0,0,1,0,0,0,0,0,0,0,0,0,0,0,0,0,0,0,0] (.seq (.seq (.reg [⟨some 6,none,.mv (.t 5)⟩,⟨some 7,none,.faddr 0 (.t 2)⟩,⟨some 8,none,.load false 1 (.t 7)⟩,⟨some 9,none,.len false (.t 8)⟩,⟨some 10,none,.bin .lss false (.t 6) (.t 9)⟩]) (.cond (.t 10) .skip (.exit 0))) (.seq (.block 1 (.seq (.reg [⟨some 13,none,.faddr 0 (.t 2)⟩,⟨some 14,none,.load false 1 (.t 13)⟩,⟨some 15,none,.mv (.t 5)⟩,⟨some 16,none,.iaddr 3 (.t 14) (.t 15)⟩,⟨some 17,none,.faddr 0 (.t 16)⟩,⟨some 18,none,.load false 1 (.t 17)⟩,⟨some 19,none,.mv (.t 1)⟩,⟨some 20,none,.bin .eql false (.t 18) (.t 19)⟩]) (.cond (.t 20) (.seq (.reg [⟨some 21,none,.mv (.t 5)⟩,⟨some 4,none,.mv (.t 21)⟩]) .ret) .skip))) (.reg [⟨some 11,none,.mv (.t 5)⟩,⟨some 12,none,.bin .add false (.t 11) (.c (.int .i64 1))⟩,⟨some 5,none,.mv (.t 12)⟩])))))) (.seq (.reg [⟨some 4,none,.mv (.c (.int .i64 (-(0+1))))⟩]) .ret)))
theorem Lr:A1 Tryz.prog 47=some ⟨22,Hy,[(.tmp 4)]⟩:=by kernel_rfl
theorem At:modes 47=⟨[],.asis,none,false⟩:=by unfold modes; rfl
theorem B8 (x:Sb) (hn:x.tame):E 19 [x.sv] []=some (.bool x.ok,[]):=by
  have hl:=hn.1
  refine Ab EQ Ai (of_decide_eq_true rfl) ?_
  simp (disch:=omega) only [CR,go_sem,Aa]
  refine go_loop (α:=Int) (fun a=>⟨slots 52 0 [(1,.ptr 0 0),(6,.arr (x.binds.map Bd.d)),(7,.int .i64 x.binds.length),(8,.int .i64 a)],[.box 26 [.arr (x.binds.map Bd.d)]]⟩) (fun a=>∃ k:Nat,a=k∧k≤(x.binds).length∧Gc x.binds k=true) (fun a=>(x.binds).length-(a).toNat) 0 ⟨0,rfl,zP _,by rw [Gc]⟩ (by simp (disch:=omega) only [go_sem,Aa]) ?_
  rintro i ⟨k,hi,hk,hR⟩
  have hni:i.toNat=k:=by omega
  have hni1:(i+1).toNat=k+1:=by omega
  rcases zC k (x.binds).length with hlt | hge
  · have hg:=get_at Bd.d hlt
    rw [Bd.d_eq] at hg
    have hv:=Fu x.binds[k].term (Sb.JI hn hlt)
    cases k with
    | zero =>
      obtain rfl:i=0:=hi
      cases hA:Bi x.binds[0].var <;> cases hV:x.binds[0].term.valid <;> cases hD:dec (x.binds[0].term.name=x.binds[0].var)
      all_goals
        first
        | (have e:x.ok=false:=Sb.MO hR (by rw [FG hlt,FF,hA,hV,hD]; rfl) hlt
           rw [e]
           simp (disch:=omega) only [go_sem,Aa,hni,hg,hv,hA,hV,hD,A9,AU,CZ]
           done)
        | (simp (disch:=omega) only [go_sem,Aa,hni,hg,hv,hA,hV,hD,A9,AU,CZ]
           exact ⟨1,⟨1,rfl,hlt,by rw [Gc,hR,FG hlt,FF,hA,hV,hD]; rfl⟩,by omega,by first | trivial | rfl⟩)
    | succ j =>
      have hj:j<x.binds.length:=by omega
      have hg2:=get_at Bd.d hj
      rw [Bd.d_eq] at hg2
      have hni2:(i-1).toNat=j:=by omega
      have hLe:=NY x.binds[j+1].var x.binds[j].var
      cases hS:strLt x.binds[j].var x.binds[j+1].var <;> cases hA:Bi x.binds[j+1].var <;> cases hV:x.binds[j+1].term.valid <;> cases hD:dec (x.binds[j+1].term.name=x.binds[j+1].var)
      all_goals
        first
        | (have e:x.ok=false:=Sb.MO hR (by rw [E0 hlt,FF,hA,hV,hD,hS]; rfl) hlt
           rw [e]
           simp (disch:=omega) only [go_sem,Aa,hni,hg,hv,hA,hV,hD,A9,AU,CZ,hS,hni2,hg2,hLe]
           done)
        | (simp (disch:=omega) only [go_sem,Aa,hni,hg,hv,hA,hV,hD,A9,AU,CZ,hS,hni2,hg2,hLe]
           exact ⟨i+1,⟨j+1+1,by omega,hlt,by rw [Gc,hR,E0 hlt,FF,hA,hV,hD,hS]; rfl⟩,by omega,by first | trivial | rfl⟩)
  · obtain rfl:k=x.binds.length:=by omega
    simp (disch:=omega) only [go_sem,Aa,hni]
    unfold Sb.ok
    rw [hR,zT,H8]
    exact decide_eq_decide.2 (by omega)
theorem Iy (x:Sb) (hn:x.tame):E 21 [x.sv] []=some (.bool x.ok,[]):=by
  have hl:=hn.1
  refine Ab Lq CF (of_decide_eq_true rfl) ?_
  simp (disch:=omega) only [Hx,go_sem,Aa]
  refine go_loop (α:=Int) (fun a=>⟨slots 55 0 [(1,.ptr 0 0),(3,.int .i64 a)],[.box 26 [.arr (x.binds.map Bd.d)]]⟩) (fun a=>∃ k:Nat,a=k∧k≤(x.binds).length∧Gc x.binds k=true) (fun a=>(x.binds).length-(a).toNat) 0 ⟨0,rfl,zP _,by rw [Gc]⟩ (by simp (disch:=omega) only [go_sem,Aa]) ?_
  rintro i ⟨k,hi,hk,hR⟩
  have hni:i.toNat=k:=by omega
  have hni1:(i+1).toNat=k+1:=by omega
  rcases zC k (x.binds).length with hlt | hge
  · have hg:=get_at Bd.d hlt
    rw [Bd.d_eq] at hg
    have hv:=RU x.binds[k].term (Sb.JI hn hlt)
    cases k with
    | zero =>
      obtain rfl:i=0:=hi
      cases hA:Bi x.binds[0].var <;> cases hV:x.binds[0].term.valid <;> cases hD:dec (x.binds[0].term.name=x.binds[0].var)
      all_goals
        first
        | (have e:x.ok=false:=Sb.MO hR (by rw [FG hlt,FF,hA,hV,hD]; rfl) hlt
           rw [e]
           simp (disch:=omega) only [go_sem,Aa,hni,hg,hv,hA,hV,hD,CE,Bm,Fc]
           done)
        | (simp (disch:=omega) only [go_sem,Aa,hni,hg,hv,hA,hV,hD,CE,Bm,Fc]
           exact ⟨1,⟨1,rfl,hlt,by rw [Gc,hR,FG hlt,FF,hA,hV,hD]; rfl⟩,by omega,by first | trivial | rfl⟩)
    | succ j =>
      have hj:j<x.binds.length:=by omega
      have hg2:=get_at Bd.d hj
      rw [Bd.d_eq] at hg2
      have hni2:(i-1).toNat=j:=by omega
      have hLe:=NY x.binds[j+1].var x.binds[j].var
      cases hS:strLt x.binds[j].var x.binds[j+1].var <;> cases hA:Bi x.binds[j+1].var <;> cases hV:x.binds[j+1].term.valid <;> cases hD:dec (x.binds[j+1].term.name=x.binds[j+1].var)
      all_goals
        first
        | (have e:x.ok=false:=Sb.MO hR (by rw [E0 hlt,FF,hA,hV,hD,hS]; rfl) hlt
           rw [e]
           simp (disch:=omega) only [go_sem,Aa,hni,hg,hv,hA,hV,hD,CE,Bm,Fc,hS,hni2,hg2,hLe]
           done)
        | (simp (disch:=omega) only [go_sem,Aa,hni,hg,hv,hA,hV,hD,CE,Bm,Fc,hS,hni2,hg2,hLe]
           exact ⟨i+1,⟨j+1+1,by omega,hlt,by rw [Gc,hR,E0 hlt,FF,hA,hV,hD,hS]; rfl⟩,by omega,by first | trivial | rfl⟩)
  · obtain rfl:k=x.binds.length:=by omega
    simp (disch:=omega) only [go_sem,Aa,hni]
    unfold Sb.ok
    rw [hR,zT,H8]
    exact decide_eq_decide.2 (by omega)
theorem Iz (x:Sb) (n:ByteArray) (hl:x.binds.length≤1099511627776):E 47 [x.sv,.str n] []=some (.int .i64 (De (fun b=>dec (b.var=n)) x.binds 0),[]):=by
 refine Ab Lr At (of_decide_eq_true rfl) ?_
 simp (disch:=omega) only [Hy,go_sem,Aa]
 refine go_loop (α:=Int) (fun a=>⟨slots 22 0 [(1,.str n),(2,.ptr 0 0),(5,.int .i64 a)],[.box 26 [.arr (x.binds.map Bd.d)]]⟩) (fun a=>∃ k:Nat,a=k∧k≤(x.binds).length∧De (fun b=>dec (b.var=n)) (x.binds.drop k) a=De (fun b=>dec (b.var=n)) x.binds 0) (fun a=>(x.binds).length-(a).toNat) 0 ⟨0,rfl,zP _,by rw [zU]⟩ (by simp (disch:=omega) only [go_sem,Aa]) ?_
 rintro i ⟨k,hi,hk,hR⟩
 have hni:i.toNat=k:=by omega
 have hni1:(i+1).toNat=k+1:=by omega
 rcases zC k (x.binds).length with hlt | hge
 ·have hg:=get_at Bd.d hlt
  rw [Bd.d_eq] at hg
  rw [zJ hlt,De] at hR
  cases hp:dec (x.binds[k].var=n) with
  | true =>
   rw [hp] at hR
   simp (disch:=omega) only [go_sem,Aa,hni,hg,hp]
   simpa using hR
  | false =>
   rw [hp] at hR
   simp (disch:=omega) only [go_sem,Aa,hni,hg,hp]
   exact ⟨i+1,⟨k+1,by omega,hlt,by simpa using hR⟩,by omega,by first | trivial | rfl⟩
 ·rw [zO hge,De] at hR
  simp (disch:=omega) only [go_sem,Aa,hni]
  exact hR
def HQ (xs:List Bd):Prop:=∀ j k (h:j<k) (hk:k<xs.length),strLt xs[j].var xs[k].var=true
theorem TG {xs:List Bd} (h:Gc xs xs.length=true):HQ xs:=by
 intro j k hjk hk
 induction k with
 | zero=>omega
 | succ k ih =>
  have h1:=PH h hk
  rw [E0 hk,zA] at h1
  rcases zC j k with h2 | h2
  ·exact GB (ih h2 (by omega)) h1.2
  ·obtain rfl:j=k:=by omega
   exact h1.2
theorem Sb.FH {x:Sb} (h:x.ok=true):HQ x.binds:=by
 unfold Sb.ok at h
 rw [zA] at h
 exact TG h.2
def AI:List Bd→ByteArray→Nat
 | [],_=>0
 | x :: xs,n=>if strLt x.var n then AI xs n+1 else 0
theorem JJ (n:ByteArray):∀ xs:List Bd,AI xs n≤xs.length
 | []=>yF _
 | x :: xs=>by
  have:=JJ n xs
  rw [AI]; simp only [yD]; split <;> omega
theorem GC (n:ByteArray):∀ (xs:List Bd) (j:Nat) (h:j<xs.length),j<AI xs n→strLt xs[j].var n=true
 | [],j,h,_=>absurd h (by simp)
 | x :: xs,j,h,hj=>by
  rw [AI] at hj
  split at hj
  ·rename_i hx
   cases j with
   | zero=>exact hx
   | succ j=>exact GC n xs j (by simpa using h) (by omega)
  ·omega
theorem MP (n:ByteArray):∀ (xs:List Bd) (h:AI xs n<xs.length),strLt (xs[AI xs n]).var n=false
 | [],h=>absurd h (by simp)
 | x :: xs,h=>by
  cases hx:strLt x.var n with
  | false =>
   have e:AI (x :: xs) n=0:=by rw [AI,if_neg (by rw [hx]; simp)]
   simp only [e,yE]; exact hx
  | true =>
   have e:AI (x :: xs) n=AI xs n+1:=by rw [AI,if_pos hx]
   have h2:AI xs n<xs.length:=by rw [e] at h; simpa using h
   simp only [e,yM]; exact MP n xs h2
theorem RY {xs:List Bd} (hs:HQ xs) (n:ByteArray) {m:Nat} (h:m<xs.length):strLt xs[m].var n=true ↔ m<AI xs n:=by
 constructor
 ·intro h1
  rcases zC m (AI xs n) with h2 | h2
  ·exact h2
  ·have h3:=MP n xs (by omega)
   rcases zC (AI xs n) m with h4 | h4
   ·rw [GB (hs _ _ h4 h) h1] at h3; cases h3
   ·have e:AI xs n=m:=by omega
    simp only [e] at h3
    rw [h1] at h3; cases h3
 ·exact GC n xs m h
noncomputable def BI (xs:List Bd) (n:ByteArray):Bool:=match xs[AI xs n]? with
 | none=>false
 | some b=>dec (b.var=n)
def CS:SC:=(.seq (.reg [⟨some 2,none,.boxv 55 3 (.t 0)⟩,⟨some 4,none,.mv (.c (.int .i64 0))⟩]) (.seq (.reg [⟨some 5,none,.faddr 0 (.t 2)⟩,⟨some 6,none,.load false 1 (.t 5)⟩,⟨some 7,none,.mv (.t 1)⟩,⟨some 8,none,.call 42 [(.t 6),(.t 7)]⟩,⟨some 4,none,.mv (.t 8)⟩]) .ret))
theorem ER:A1 Tryz.prog 55=some ⟨9,CS,[(.tmp 4)]⟩:=by kernel_rfl
theorem Bz:modes 55=⟨[],.asis,none,false⟩:=by unfold modes; rfl
theorem BZ:IF Tryz.prog 55=true:=by kernel_rfl
def AN:SC:=(.seq (.reg [⟨some 6,none,.mv (.c (.int .i64 0))⟩,⟨some 7,none,.mv (.c (.bool false))⟩]) (.seq (.reg [⟨some 12,none,.mv (.t 0)⟩,⟨some 13,none,.len false (.t 12)⟩,⟨some 8,none,.mv (.t 13)⟩]) (.seq (.reg [⟨some 14,none,.mv (.t 8)⟩,⟨some 9,none,.mv (.c (.int .i64 0))⟩,⟨some 10,none,.mv (.t 14)⟩]) (.seq (.block 0 (.loop [1,1,1,0,0,0,0,0,1,1,1,0,0,0,0,0,0,0,0,0,0,0,0,0,0,0,0,0,0,0,0,0,0,0,0,0,0,0,0,0,0,0,0,0,0,0,0,0,0] (.seq (.seq (.reg [⟨some 15,none,.mv (.t 9)⟩,⟨some 16,none,.mv (.t 10)⟩,⟨some 17,none,.bin .lss false (.t 15) (.t 16)⟩]) (.cond (.t 17) .skip (.exit 0))) (.block 1 (.seq (.reg [⟨some 18,none,.mv (.t 9)⟩,⟨some 19,none,.mv (.t 10)⟩,⟨some 20,none,.bin .add false (.t 18) (.t 19)⟩,⟨some 21,none,.conv .u64 (.t 20)⟩,⟨some 22,none,.bin .shr false (.t 21) (.c (.int .u64 1))⟩,⟨some 23,none,.conv .i64 (.t 22)⟩,⟨some 11,none,.mv (.t 23)⟩]) (.seq (.reg [⟨some 24,none,.mv (.t 2)⟩,⟨some 25,none,.mv (.t 0)⟩,⟨some 26,none,.mv (.t 11)⟩,⟨some 27,none,.iaddr 3 (.t 25) (.t 26)⟩,⟨some 28,none,.load true 3 (.t 27)⟩,⟨some 29,none,.mv (.t 1)⟩,⟨some 30,none,.callv (.t 24) [(.t 28),(.t 29)]⟩,⟨some 31,none,.bin .lss false (.t 30) (.c (.int .i64 0))⟩]) (.cond (.t 31) (.reg [⟨some 32,none,.mv (.t 11)⟩,⟨some 33,none,.bin .add false (.t 32) (.c (.int .i64 1))⟩,⟨some 9,none,.mv (.t 33)⟩]) (.reg [⟨some 34,none,.mv (.t 11)⟩,⟨some 10,none,.mv (.t 34)⟩])))))))) (.seq (.reg [⟨some 35,none,.mv (.t 9)⟩,⟨some 36,none,.mv (.t 9)⟩,⟨some 37,none,.mv (.t 8)⟩,⟨some 38,none,.bin .lss false (.t 36) (.t 37)⟩,⟨some 39,none,.mv (.t 38)⟩,⟨(some 40),(some (39,true)),(.mv (.t 2))⟩,⟨(some 41),(some (39,true)),(.mv (.t 0))⟩,⟨(some 42),(some (39,true)),(.mv (.t 9))⟩,⟨(some 43),(some (39,true)),(.iaddr 3 (.t 41) (.t 42))⟩,⟨(some 44),(some (39,true)),(.load true 3 (.t 43))⟩,⟨(some 45),(some (39,true)),(.mv (.t 1))⟩,⟨(some 46),(some (39,true)),(.callv (.t 40) [(.t 44),(.t 45)])⟩,⟨(some 47),(some (39,true)),(.bin .eql false (.t 46) (.c (.int .i64 0)))⟩,⟨some 48,none,.pick (.t 39) (.t 47) (.c (.bool false))⟩,⟨some 6,none,.mv (.t 35)⟩,⟨some 7,none,.mv (.t 48)⟩]) .ret)))))
theorem BA:A1 Tryz.prog 54=some ⟨49,AN,[(.tmp 6),(.tmp 7)]⟩:=by kernel_rfl
theorem AE:modes 54=⟨[],.asis,none,false⟩:=by unfold modes; rfl
def Ck:SC:=(.seq (.reg [⟨some 2,none,.boxv 26 1 (.t 0)⟩,⟨(some 4),none,(.alloc 31 [(.str ⟨#[]⟩),.nil])⟩,⟨some 5,none,.mv (.c (.bool false))⟩]) (.seq (.reg [⟨some 9,none,.faddr 0 (.t 2)⟩,⟨some 10,none,.load false 1 (.t 9)⟩,⟨some 11,none,.mv (.t 1)⟩,⟨some 12,none,.call 54 [(.t 10),(.t 11),(.c (.fn 55 []))]⟩,⟨some 8,none,.mv (.t 12)⟩,⟨some 13,none,.ext (.t 8) 0⟩,⟨some 14,none,.ext (.t 8) 1⟩,⟨some 6,none,.mv (.t 13)⟩,⟨some 7,none,.mv (.t 14)⟩]) (.seq (.seq (.reg [⟨some 15,none,.mv (.t 7)⟩,⟨some 16,none,.un .not (.t 15)⟩]) (.cond (.t 16) (.seq (.reg [⟨(some 17),none,(.build [(.str ⟨#[]⟩),.nil] [])⟩,⟨none,none,(.store 2 (.t 4) (.t 17))⟩,⟨some 5,none,.mv (.c (.bool false))⟩]) .ret) .skip)) (.seq (.reg [⟨some 18,none,.faddr 0 (.t 2)⟩,⟨some 19,none,.load false 1 (.t 18)⟩,⟨some 20,none,.mv (.t 6)⟩,⟨some 21,none,.iaddr 3 (.t 19) (.t 20)⟩,⟨some 22,none,.faddr 1 (.t 21)⟩,⟨some 23,none,.load true 2 (.t 22)⟩,⟨none,none,(.store 2 (.t 4) (.t 23))⟩,⟨some 5,none,.mv (.c (.bool true))⟩]) .ret))))
theorem Dp:A1 Tryz.prog 28=some ⟨24,Ck,[(.cell 4 true 2),(.tmp 5)]⟩:=by kernel_rfl
theorem Ap:modes 28=⟨[],.frz,none,false⟩:=by unfold modes; rfl
theorem PI (b:Bd) (n:ByteArray):E 55 [b.sv,.str n] []=some (.int .i64 (Pa b.var n),[]):=by
 have h:=Pc b.var n
 refine Ab ER Bz (of_decide_eq_true rfl) ?_
 simp (disch:=omega) only [CS,go_sem,Aa,h,Cg]
theorem Mi (xs:List Bd) (n:ByteArray) (hl:xs.length≤1099511627776) (hs:HQ xs):E 54 [.arr (xs.map Bd.d),.str n,.fn 55 []] []=some (.tup [.int .i64 (AI xs n:Nat),.bool (BI xs n)],[]):=by
 have hlow:=JJ n xs
 obtain ⟨L,hL⟩:∃ L:Int,L=(AI xs n:Nat):=⟨_,rfl⟩
 rw [←hL]
 refine Ab BA AE (of_decide_eq_true rfl) ?_
 simp (disch:=omega) only [AN,go_sem,Aa]
 refine go_loop (α:=Int × Int) (fun a=>⟨slots 49 0 [(0,.arr (xs.map Bd.d)),(1,.str n),(2,.fn 55 []),(8,.int .i64 xs.length),(9,.int .i64 a.1),(10,.int .i64 a.2)],[]⟩) (fun a=>0≤a.1∧a.1≤L∧L≤a.2∧a.2≤xs.length) (fun a=>(a.2-a.1).toNat) (0,xs.length) ⟨by simp,by dsimp only; omega,by dsimp only; omega,by dsimp only; omega⟩ (by simp (disch:=omega) only [go_sem,Aa]) ?_
 rintro ⟨i,j⟩ ⟨h0,h1,h2,h3⟩
 dsimp only at h0 h1 h2 h3
 rcases Int.lt_or_le i j with hij | hij
 ·obtain ⟨m,hm⟩:∃ m:Nat,(i+j) / 2=(m:Int):=⟨((i+j) / 2).toNat,by omega⟩
  have hlt:m<xs.length:=by omega
  have hni:(m:Int).toNat=m:=yO m
  have hg:=get_at Bd.d hlt
  rw [Bd.d_eq] at hg
  have hc:=PI xs[m] n
  have hw:IntKind.u64.wrap (i+j)=i+j:=wrap_u64 (by omega) (by omega)
  have hi:=RY hs n hlt
  obtain ⟨M,hM⟩:∃ M:Int,(i+j) / 2=M:=⟨_,rfl⟩
  have hni:M.toNat=m:=by omega
  cases hq:strLt xs[m].var n with
  | true =>
   have hi2:=hi.1 hq
   simp (disch:=omega) only [go_sem,Aa,hw,hni,hg,hc,BZ,Bz,Oa,hq,hM]
   exact ⟨(M+1,j),⟨by dsimp only; omega,by dsimp only; omega,by dsimp only; omega,by dsimp only; omega⟩,by dsimp only; omega,by first | trivial | rfl⟩
  | false =>
   have hi2:¬ m<AI xs n:=by rw [←hi,hq]; simp
   simp (disch:=omega) only [go_sem,Aa,hw,hni,hg,hc,BZ,Bz,Oa,hq,hM]
   exact ⟨(i,M),⟨by dsimp only; omega,by dsimp only; omega,by dsimp only; omega,by dsimp only; omega⟩,by dsimp only; omega,by first | trivial | rfl⟩
 ·obtain rfl:i=L:=by omega
  rcases zC (AI xs n) xs.length with hlt | hge
  ·have hg:=get_at Bd.d hlt
   rw [Bd.d_eq] at hg
   have hni:i.toNat=AI xs n:=by omega
   have hc:=PI xs[AI xs n] n
   have hh:BI xs n=dec (xs[AI xs n].var=n):=by unfold BI; rw [zR hlt]
   rw [hh]
   simp (disch:=omega) only [go_sem,Aa,hni,hg,hc,BZ,Bz,Q9]
  ·have hh:BI xs n=false:=by unfold BI; rw [yQ hge]
   rw [hh]
   simp (disch:=omega) only [go_sem,Aa]
theorem Od {α:Type} (p:α→Bool):∀ (xs:List α) (k:Nat) (i:Int) (h:k<xs.length),(∀ j (hj:j<k),p xs[j]=false)→p xs[k]=true→De p xs i=i+k
 | [],k,i,h,_,_=>absurd h (by simp)
 | x :: xs,0,i,h,_,hp=>by rw [De,if_pos (show p x=true from hp)]; simp
 | x :: xs,k+1,i,h,hb,hp=>by
  have h0:p x=false:=hb 0 (by omega)
  have:=Od p xs k (i+1) (by simpa using h) (fun j hj=>hb (j+1) (by omega)) hp
  rw [De,if_neg (by rw [h0]; simp),this]; omega
theorem MQ {α:Type} (p:α→Bool):∀ (xs:List α) (i:Int),(∀ j (hj:j<xs.length),p xs[j]=false)→De p xs i=-1
 | [],i,_=>by rw [De]
 | x :: xs,i,h=>by
  have h0:p x=false:=h 0 (by simp)
  rw [De,if_neg (by rw [h0]; simp)]
  exact MQ p xs (i+1) fun j hj=>h (j+1) (by simpa using hj)
theorem GD {xs:List Bd} (hs:HQ xs) (n:ByteArray):De (fun b=>dec (b.var=n)) xs 0=if BI xs n then ((AI xs n:Nat):Int) else -1:=by
 have before:∀ j (hj:j<xs.length),j<AI xs n→dec (xs[j].var=n)=false:=fun j hj hL=>BW (NZ (GC n xs j hj hL))
 rcases zC (AI xs n) xs.length with hlt | hge
 ·have hh:BI xs n=dec (xs[AI xs n].var=n):=by unfold BI; rw [zR hlt]
  cases hq:dec (xs[AI xs n].var=n) with
  | true =>
   rw [hh,hq,if_pos rfl,Od _ xs (AI xs n) 0 hlt (fun j hj=>before j (by omega) hj) hq]; omega
  | false =>
   rw [hh,hq,if_neg (by simp)]
   refine MQ _ xs 0 fun j hj=>?_
   rcases Nat.lt_trichotomy j (AI xs n) with h | h | h
   ·exact before j hj h
   ·subst h; exact hq
   ·refine BW fun e=>?_
    have h1:=hs _ _ h hj
    rw [e,MP n xs hlt] at h1
    cases h1
 ·have hh:BI xs n=false:=by unfold BI; rw [yQ hge]
  rw [hh,if_neg (by simp)]
  exact MQ _ xs 0 fun j hj=>before j hj (by omega)
theorem Fl {xs:List Bd} {n:ByteArray} (h:BI xs n=true):AI xs n<xs.length:=by
 rcases zC (AI xs n) xs.length with h1 | h1
 ·exact h1
 ·unfold BI at h; rw [yQ h1] at h; cases h
noncomputable def Sb.look (x:Sb) (n:ByteArray):Option Tm:=if h:BI x.binds n=true then some (x.binds[AI x.binds n]'(Fl h)).term else none
theorem KL (x:Sb) (hx:HQ x.binds) (n:ByteArray) (hl:x.binds.length≤1099511627776) (hh:BI x.binds n=true) (hlt:AI x.binds n<x.binds.length):E 28 [x.sv,.str n] []=some (.tup [(x.binds[AI x.binds n]).term.sv,.bool true],[]):=by
 have hb:=Mi x.binds n hl hx
 have hg:=get_at Bd.d hlt
 rw [Bd.d_eq] at hg
 have hni:((AI x.binds n:Nat):Int).toNat=AI x.binds n:=yO _
 refine Ab Dp Ap (of_decide_eq_true rfl) ?_
 simp (disch:=omega) only [Ck,go_sem,Aa,hb,hni,hg,hh,AE]
theorem Mj (x:Sb) (hx:HQ x.binds) (n:ByteArray) (hl:x.binds.length≤1099511627776) (hh:BI x.binds n=false):E 28 [x.sv,.str n] []=some (.tup [.agg [.str ⟨#[]⟩,.arr []],.bool false],[]):=by
 have hb:=Mi x.binds n hl hx
 refine Ab Dp Ap (of_decide_eq_true rfl) ?_
 simp (disch:=omega) only [Ck,go_sem,Aa,hb,hh,AE]
theorem KM (x:Sb) (hx:x.ok=true) (n:ByteArray) (hl:x.binds.length≤1099511627776) (hh:BI x.binds n=true) (hlt:AI x.binds n<x.binds.length):E 28 [x.sv,.str n] []=some (.tup [(x.binds[AI x.binds n]).term.sv,.bool true],[]):=KL x (Sb.FH hx) n hl hh hlt
theorem Mk (x:Sb) (hx:x.ok=true) (n:ByteArray) (hl:x.binds.length≤1099511627776) (hh:BI x.binds n=false):E 28 [x.sv,.str n] []=some (.tup [.agg [.str ⟨#[]⟩,.arr []],.bool false],[]):=Mj x (Sb.FH hx) n hl hh
mutual
noncomputable def Tm.ap (f:ByteArray→Option Tm):Tm→Tm
 | .mk name args=>if Bi name then (f name).getD (.mk name []) else .mk name (Tm.apL f args)
noncomputable def Tm.apL (f:ByteArray→Option Tm):List Tm→List Tm
 | []=>[]
 | x :: xs=>Tm.ap f x :: Tm.apL f xs
end
theorem Tm.Ef (f:ByteArray→Option Tm) (x:Tm):x.ap f=if Bi x.name then (f x.name).getD (.mk x.name []) else .mk x.name (Tm.apL f x.args):=by
 obtain ⟨name,args⟩:=x
 rw [Tm.ap]; rfl
theorem Tm.MR (f:ByteArray→Option Tm):∀ xs:List Tm,(Tm.apL f xs).length=xs.length
 | []=>by rw [Tm.apL]
 | x :: xs=>by rw [Tm.apL]; simp only [yD,Tm.MR f xs]
theorem Tm.Ev (f:ByteArray→Option Tm):∀ xs:List Tm,Tm.apL f xs=xs.map (Tm.ap f)
 | []=>by rw [Tm.apL]; rfl
 | x :: xs=>by rw [Tm.apL,Tm.Ev f xs]; rfl
def okF (f:ByteArray→Option Tm):Prop:=∀ n t,f n=some t→t.names=true∧t.nodes≤30
theorem Tm.KN (f:ByteArray→Option Tm):∀ xs:List Tm,(∀ y∈xs,(y.ap f).names=true)→Tm.Dm (Tm.apL f xs)=true
 | [],_=>by rw [Tm.apL,Tm.Dm]
 | x :: xs,h=>by rw [Tm.apL,Tm.Dm,h x (by simp),Tm.KN f xs fun y hy=>h y (by simp [hy])]; rfl
theorem Tm.I1 {f:ByteArray→Option Tm} (hf:okF f) (x:Tm) (hx:x.names=true):(x.ap f).names=true:=by
 rw [Tm.Ef]
 rw [Tm.EH] at hx
 split
 ·rename_i hv
  cases hq:f x.name with
  | none =>
   rw [y3,Tm.EH]
   show (if Bi x.name then _ else _)=true
   rw [if_pos hv]; rfl
  | some t=>exact (hf _ _ hq).1
 ·rename_i hv
  rw [if_neg hv,zA,zA] at hx
  rw [Tm.EH]
  show (if Bi x.name then _ else Ei x.name&&decide ((Tm.apL f x.args).length≤4)&&Tm.Dm (Tm.apL f x.args))=true
  rw [if_neg hv,Tm.MR,hx.1.1,hx.1.2,Tm.KN f x.args fun y hy=>Tm.I1 hf y (by
   have:=hx.2
   rw [Tm.Ez,yC] at this
   exact this y hy)]
  rfl
termination_by SizeOf.sizeOf x
decreasing_by exact Tm.AL hy
theorem Tm.Oe {f:ByteArray→Option Tm}:∀ xs:List Tm,(∀ y∈xs,(y.ap f).nodes≤30*y.nodes)→Tm.Bb (Tm.apL f xs)≤30*Tm.Bb xs
 | [],_=>by rw [Tm.apL,Tm.Bb]; omega
 | x :: xs,h=>by
  have h1:=h x (by simp)
  have h2:=Tm.Oe xs fun y hy=>h y (by simp [hy])
  rw [Tm.apL,Tm.Bb,Tm.Bb]; omega
theorem Tm.KO {f:ByteArray→Option Tm} (hf:okF f) (x:Tm):(x.ap f).nodes≤30*x.nodes:=by
 have hp:=Tm.Mb x
 rw [Tm.Ef]
 split
 ·cases hq:f x.name with
  | none =>
   have:(Tm.mk x.name []).nodes=1+Tm.Bb []:=Tm.Ao (Tm.mk x.name [])
   rw [Tm.Bb] at this
   rw [y3]; omega
  | some t=>have:=(hf _ _ hq).2; rw [yI]; omega
 ·have h1:(Tm.mk x.name (Tm.apL f x.args)).nodes=1+Tm.Bb (Tm.apL f x.args):=Tm.Ao (Tm.mk x.name (Tm.apL f x.args))
  have h2:=Tm.Oe (f:=f) x.args fun y hy=>Tm.KO hf y
  have h3:=Tm.Ao x
  omega
termination_by SizeOf.sizeOf x
decreasing_by exact Tm.AL hy
theorem Tm.UX {f:ByteArray→Option Tm} (hf:okF f) (x:Tm) (hx:(x.valid || x.atom)=true):((x.ap f).valid || (x.ap f).atom)=(x.ap f).small:=by
 cases hs:(x.ap f).small with
 | false =>
  have h1:(x.ap f).valid=false:=by unfold Tm.valid; rw [hs]; rfl
  have h2:(x.ap f).atom=false:=by
   unfold Tm.atom; split
   ·rw [hs,zQ,yN]
   ·rw [h1,zQ]
  rw [h1,h2]; rfl
 | true =>
  cases hn:x.names with
  | true =>
   have:(x.ap f).valid=true:=by unfold Tm.valid; rw [hs,Tm.I1 hf x hn]; rfl
   rw [this]; rfl
  | false =>
   have hv:x.valid=false:=by unfold Tm.valid; rw [hn,zQ]
   rw [hv,y0] at hx
   unfold Tm.atom at hx
   split at hx
   ·rename_i he
    rw [zA,zA] at hx
    have hname:x.name=⟨#[61]⟩:=by unfold Tm.eqn at he; exact A5.1 he
    have hnv0:Bi ⟨#[61]⟩=false:=by kernel_rfl
    have hnv:¬ (Bi x.name=true):=by rw [hname,hnv0]; simp
    have e:x.ap f=.mk x.name (Tm.apL f x.args):=by rw [Tm.Ef,if_neg hnv]
    have:(x.ap f).atom=true:=by
     have he2:(x.ap f).eqn=true:=by rw [e]; exact he
     unfold Tm.atom
     rw [if_pos he2,hs]
     rw [e]
     show ((Tm.apL f x.args).length == 2&&true&&Tm.Dm (Tm.apL f x.args))=true
     rw [Tm.MR,hx.1.1,Tm.KN f x.args fun y hy=>Tm.I1 hf y (by
      have:=hx.2
      rw [Tm.Ez,yC] at this
      exact this y hy)]
     rfl
    rw [this,Bool.or_true]
   ·rw [hv,zQ] at hx; cases hx
theorem Tm.FI {x:Tm} (h:x.names=true) (hv:Bi x.name=true):x.args=[]:=by
 rw [Tm.EH,if_pos hv] at h
 exact zH (by simpa using h)
theorem Tm.Hf {x:Tm} (h:x.names=true) {y:Tm} (hy:y∈x.args):y.names=true:=by
 rw [Tm.EH] at h
 split at h
 ·have:x.args=[]:=zH (by simpa using h)
  rw [this] at hy; cases hy
 ·rw [zA,Tm.Ez,yC] at h
  exact h.2 y hy
theorem Sb.GE {x:Sb} (h:x.ok=true) {k:Nat} (hk:k<x.binds.length):FF x.binds[k]=true:=by
 unfold Sb.ok at h
 rw [zA] at h
 exact TF hk (PH h.2 hk)
theorem RZ {x:Bd} (h:FF x=true):Bi x.var=true:=by unfold FF at h; rw [zA] at h; exact h.1
theorem Cm {x:Bd} (h:FF x=true):x.term.valid=true:=by unfold FF at h; rw [zA,zA] at h; exact h.2.1
theorem MS {xs:List Bd} {n:ByteArray} (h:BI xs n=true) (hlt:AI xs n<xs.length):(xs[AI xs n]).var=n:=by
 have hh:BI xs n=dec (xs[AI xs n].var=n):=by unfold BI; rw [zR hlt]
 rw [hh] at h
 exact A5.1 h
theorem Sb.GF {x:Sb} (h:x.ok=true):okF x.look:=by
 intro n t ht
 unfold Sb.look at ht
 split at ht
 ·rename_i hh
  have hv:=Cm (Sb.GE h (Fl hh))
  obtain rfl:=zI ht
  unfold Tm.valid Tm.small at hv
  rw [zA,zA,decide_eq_true_eq] at hv
  exact ⟨hv.2,hv.1.1⟩
 ·cases ht
theorem Sb.I3 {x:Sb} {n:ByteArray} (h:BI x.binds n=true) (hlt:AI x.binds n<x.binds.length):x.look n=some (x.binds[AI x.binds n]).term:=by
 unfold Sb.look; rw [dif_pos h]
theorem Sb.I4 {x:Sb} {n:ByteArray} (h:BI x.binds n=false):x.look n=none:=by
 unfold Sb.look; rw [dif_neg (by rw [h]; simp)]
def Sb.fine (s:Sb):Prop:=HQ s.binds∧∀ b∈s.binds,Bi b.var=true
theorem Sb.MT {s:Sb} (h:s.ok=true):s.fine:=⟨Sb.FH h,fun b hb=>by
 obtain ⟨k,hk,rfl⟩:=zV hb
 exact RZ (Sb.GE h hk)⟩
def B7:SC:=(.seq (.reg [⟨some 2,none,.boxv 26 1 (.t 0)⟩,⟨some 3,none,.boxv 31 2 (.t 1)⟩,⟨(some 4),none,(.alloc 31 [(.str ⟨#[]⟩),.nil])⟩]) (.seq (.seq (.reg [⟨some 10,none,.faddr 1 (.t 3)⟩,⟨some 11,none,.load false 1 (.t 10)⟩,⟨some 12,none,.len false (.t 11)⟩,⟨some 13,none,.bin .eql false (.t 12) (.c (.int .i64 0))⟩]) (.cond (.t 13) (.seq (.seq (.reg [⟨some 15,none,.load true 1 (.t 2)⟩,⟨some 16,none,.faddr 0 (.t 3)⟩,⟨some 17,none,.load false 1 (.t 16)⟩,⟨some 18,none,.call 28 [(.t 15),(.t 17)]⟩,⟨some 14,none,.mv (.t 18)⟩,⟨some 19,none,.ext (.t 14) 0⟩,⟨some 20,none,.ext (.t 14) 1⟩,⟨(some 5),none,(.alloc 31 [(.str ⟨#[]⟩),.nil])⟩,⟨none,none,(.store 2 (.t 5) (.t 19))⟩,⟨some 6,none,.mv (.t 20)⟩]) (.seq (.reg [⟨some 21,none,.mv (.t 6)⟩]) (.cond (.t 21) (.seq (.reg [⟨some 22,none,.load true 2 (.t 5)⟩,⟨some 23,none,.call 39 [(.t 22)]⟩,⟨none,none,(.store 2 (.t 4) (.t 23))⟩]) .ret) .skip))) (.seq (.reg [⟨some 24,none,.faddr 0 (.t 3)⟩,⟨some 25,none,.load false 1 (.t 24)⟩,⟨(some 26),none,(.build [(.str ⟨#[]⟩),.nil] [(0,(1,(.t 25)))])⟩,⟨none,none,(.store 2 (.t 4) (.t 26))⟩]) .ret)) .skip)) (.seq (.dreg [[],[0],[],[2],[3,2],[4,3,2],[1,0,5,4,3,2],[],[7,6,1,0,5,4,3,2]] [⟨some 27,none,.faddr 0 (.t 3)⟩,⟨some 28,none,.load false 1 (.t 27)⟩,⟨some 29,none,.faddr 1 (.t 3)⟩,⟨some 30,none,.load false 1 (.t 29)⟩,⟨some 31,none,.len false (.t 30)⟩,⟨(some 32),none,(.mkslice 31 2 40 [(.str ⟨#[]⟩),.nil] (.t 31))⟩,⟨(some 33),none,(.build [(.str ⟨#[]⟩),.nil] [(0,(1,(.t 28))),(1,(1,(.t 32)))])⟩,⟨(some 7),none,(.alloc 31 [(.str ⟨#[]⟩),.nil])⟩,⟨none,none,(.store 2 (.t 7) (.t 33))⟩]) (.seq (.seq (.reg [⟨some 34,none,.faddr 1 (.t 3)⟩,⟨some 35,none,.load false 1 (.t 34)⟩,⟨some 36,none,.len false (.t 35)⟩,⟨some 37,none,.mv (.c (.int .i64 0))⟩]) (.block 0 (.loop [0,0,1,0,1,0,0,1,0,0,0,0,0,0,0,0,0,0,0,0,0,0,0,0,0,0,0,0,0,0,0,0,0,0,0,1,1,1,0,0,0,0,0,0,0,0,0,0,0,0,0] (.seq (.reg [⟨some 38,none,.bin .lss false (.t 37) (.t 36)⟩]) (.seq (.cond (.t 38) .skip (.exit 0)) (.seq (.block 1 (.seq (.reg [⟨some 39,none,.mv (.t 37)⟩,⟨some 40,none,.iaddr 2 (.t 35) (.t 37)⟩,⟨some 41,none,.load true 2 (.t 40)⟩,⟨(some 9),none,(.alloc 31 [(.str ⟨#[]⟩),.nil])⟩,⟨some 8,none,.mv (.t 39)⟩,⟨none,none,(.store 2 (.t 9) (.t 41))⟩]) (.dreg [[],[0],[],[],[],[3,4],[1,0,2,3,4,5],[6,1,0,2,3,4,5]] [⟨some 42,none,.faddr 1 (.t 7)⟩,⟨some 43,none,.load false 1 (.t 42)⟩,⟨some 44,none,.mv (.t 8)⟩,⟨some 45,none,.load true 1 (.t 2)⟩,⟨some 46,none,.load true 2 (.t 9)⟩,⟨some 47,none,.call 38 [(.t 45),(.t 46)]⟩,⟨some 48,none,.iaddr 2 (.t 43) (.t 44)⟩,⟨none,none,(.store 2 (.t 48) (.t 47))⟩]))) (.reg [⟨some 49,none,.bin .add false (.t 37) (.c (.int .i64 1))⟩,⟨some 37,none,.mv (.t 49)⟩]))))))) (.seq (.reg [⟨some 50,none,.load true 2 (.t 7)⟩,⟨none,none,(.store 2 (.t 4) (.t 50))⟩]) .ret)))))
theorem Cc:A1 Tryz.prog 38=some ⟨51,B7,[(.cell 4 true 2)]⟩:=by kernel_rfl
theorem An:modes 38=⟨[],.own [none,some (31,2)],none,false⟩:=by unfold modes; rfl
def D6:SC:=(.seq (.reg [⟨some 2,none,.boxv 26 1 (.t 0)⟩,⟨some 3,none,.boxv 31 2 (.t 1)⟩,⟨(some 4),none,(.alloc 31 [(.str ⟨#[]⟩),.nil])⟩]) (.seq (.seq (.reg [⟨some 8,none,.faddr 0 (.t 3)⟩,⟨some 9,none,.load false 1 (.t 8)⟩,⟨some 10,none,.call 43 [(.t 9)]⟩]) (.cond (.t 10) (.seq (.seq (.reg [⟨some 11,none,.load true 1 (.t 2)⟩,⟨some 12,none,.faddr 0 (.t 3)⟩,⟨some 13,none,.load false 1 (.t 12)⟩,⟨some 14,none,.call 47 [(.t 11),(.t 13)]⟩,⟨some 5,none,.mv (.t 14)⟩]) (.seq (.reg [⟨some 15,none,.mv (.t 5)⟩,⟨some 16,none,.bin .geq false (.t 15) (.c (.int .i64 0))⟩]) (.cond (.t 16) (.seq (.reg [⟨some 17,none,.faddr 0 (.t 2)⟩,⟨some 18,none,.load false 1 (.t 17)⟩,⟨some 19,none,.mv (.t 5)⟩,⟨some 20,none,.iaddr 3 (.t 18) (.t 19)⟩,⟨some 21,none,.faddr 1 (.t 20)⟩,⟨some 22,none,.load true 2 (.t 21)⟩,⟨some 23,none,.call 71 [(.t 22)]⟩,⟨none,none,(.store 2 (.t 4) (.t 23))⟩]) .ret) .skip))) (.seq (.reg [⟨some 24,none,.faddr 0 (.t 3)⟩,⟨some 25,none,.load false 1 (.t 24)⟩,⟨(some 26),none,(.build [(.str ⟨#[]⟩),.nil] [(0,(1,(.t 25)))])⟩,⟨none,none,(.store 2 (.t 4) (.t 26))⟩]) .ret)) .skip)) (.seq (.reg [⟨some 27,none,.faddr 0 (.t 3)⟩,⟨some 28,none,.load false 1 (.t 27)⟩,⟨(some 29),none,(.build [(.str ⟨#[]⟩),.nil] [(0,(1,(.t 28)))])⟩,⟨(some 6),none,(.alloc 31 [(.str ⟨#[]⟩),.nil])⟩,⟨none,none,(.store 2 (.t 6) (.t 29))⟩]) (.seq (.seq (.reg [⟨some 7,none,.mv (.c (.int .i64 0))⟩]) (.block 0 (.loop [0,0,1,1,1,0,1,1,0,0,0,0,0,0,0,0,0,0,0,0,0,0,0,0,0,0,0,0,0,0,0,0,0,0,0,0,0,0,0,0,0,0,0,0,0,0,0,0,0,0] (.seq (.seq (.reg [⟨some 30,none,.mv (.t 7)⟩,⟨some 31,none,.faddr 1 (.t 3)⟩,⟨some 32,none,.load false 1 (.t 31)⟩,⟨some 33,none,.len false (.t 32)⟩,⟨some 34,none,.bin .lss false (.t 30) (.t 33)⟩]) (.cond (.t 34) .skip (.exit 0))) (.seq (.block 1 (.dreg [[],[0],[],[],[3],[],[4,3,5],[6,4,3,5],[2,7,6,4,3,5],[8,2,7,6,4,3,5],[1,0,9,8,2,7,6,4,3,5],[0,1,2,3,4,5,6,7,8,9,10],[11,0,1,2,3,4,5,6,7,8,9,10]] [⟨some 37,none,.faddr 1 (.t 6)⟩,⟨some 38,none,.load false 1 (.t 37)⟩,⟨some 39,none,.load true 1 (.t 2)⟩,⟨some 40,none,.faddr 1 (.t 3)⟩,⟨some 41,none,.load false 1 (.t 40)⟩,⟨some 42,none,.mv (.t 7)⟩,⟨some 43,none,.iaddr 2 (.t 41) (.t 42)⟩,⟨some 44,none,.load true 2 (.t 43)⟩,⟨some 45,none,.call 46 [(.t 39),(.t 44)]⟩,⟨(some 46),none,(.mkrow 31 2 [(.str ⟨#[]⟩),.nil] 1 [(0,(.t 45))])⟩,⟨(some 47),none,(.append 31 2 40 [(.str ⟨#[]⟩),.nil] (.t 38) (.t 46))⟩,⟨some 48,none,.faddr 1 (.t 6)⟩,⟨none,none,(.store 1 (.t 48) (.t 47))⟩])) (.reg [⟨some 35,none,.mv (.t 7)⟩,⟨some 36,none,.bin .add false (.t 35) (.c (.int .i64 1))⟩,⟨some 7,none,.mv (.t 36)⟩])))))) (.seq (.reg [⟨some 49,none,.load true 2 (.t 6)⟩,⟨none,none,(.store 2 (.t 4) (.t 49))⟩]) .ret)))))
theorem ES:A1 Tryz.prog 46=some ⟨50,D6,[(.cell 4 true 2)]⟩:=by kernel_rfl
theorem Aj:modes 46=⟨[],.frz,none,false⟩:=by unfold modes; rfl
theorem Of (s:Sb) (hs:s.fine) (ht:s.tame) (x:Tm) (hx:Bi x.name=true→x.args=[]) (hn:x.nodes≤1099511627776) (ih:∀ y∈x.args,E 38 [s.sv,y.sv] []=some ((y.ap s.look).osv,(y.ap s.look).obs)):E 38 [s.sv,x.sv] []=some ((x.ap s.look).osv,(x.ap s.look).obs):=by
 have hsl:=ht.1
 have hl:=Tm.length_le x.args
 have hne:=Tm.Ao x
 rcases zK x.args.length with h0 | h0
 ·have hx0:x.args=[]:=zH h0
  cases hh:BI s.binds x.name with
  | true =>
   have hlt:=Fl hh
   have hc:=KL s hs.1 x.name hsl hh hlt
   have hd:=HJ (s.binds[AI s.binds x.name]).term (Sb.JI ht hlt)
   have hv:Bi x.name=true:=by rw [←MS hh hlt]; exact hs.2 _ (zF hlt)
   have e:x.ap s.look=(s.binds[AI s.binds x.name]).term:=by rw [Tm.Ef,if_pos hv,Sb.I3 hh hlt]; rfl
   rw [e]
   refine Ab Cc An (of_decide_eq_true rfl) ?_
   simp (disch:=omega) only [B7,go_sem,Aa,hx0,hc,hd,zG,yA,Ap,AR,Tm.osv,Tm.obs]
  | false =>
   have hc:=Mj s hs.1 x.name hsl hh
   have e:x.ap s.look=.mk x.name []:=by
    rw [Tm.Ef,Sb.I4 hh,hx0]
    split
    ·rfl
    ·rw [Tm.apL]
   rw [e]
   have e1:(Tm.mk x.name []).osv=.agg [.str x.name,.ref 0]:=rfl
   have e2:(Tm.mk x.name []).obs=[.row 31 2 []]:=rfl
   rw [e1,e2]
   refine Ab Cc An (of_decide_eq_true rfl) ?_
   simp (disch:=omega) only [B7,go_sem,Aa,hx0,hc,zG,yA,Ap]
 ·have hv:¬ Bi x.name=true:=fun h=>by rw [hx h] at h0; simp at h0
  have e:x.ap s.look=.mk x.name (x.args.map (Tm.ap s.look)):=by rw [Tm.Ef,if_neg hv,Tm.Ev]
  rw [e]
  have e1:(Tm.mk x.name (x.args.map (Tm.ap s.look))).osv=.agg [.str x.name,.ref 0]:=rfl
  have e2:(Tm.mk x.name (x.args.map (Tm.ap s.look))).obs=[.row 31 2 ((x.args.map (Tm.ap s.look)).map Tm.o)]:=rfl
  rw [e1,e2]
  have hrl:zE x.args.length ([.str ⟨#[]⟩,.ow []]:List OT)=EG Tm.o [.str ⟨#[]⟩,.ow []] (x.args.map (Tm.ap s.look)) 0:=by rw [KB,zM]
  refine Ab Cc An (of_decide_eq_true rfl) ?_
  simp (disch:=omega) only [B7,go_sem,Aa]
  refine go_loop (α:=Int) (fun a=>⟨slots 51 0 [(2,.ptr 0 0),(4,.ptr 1 0),(7,.ptr 2 0),(35,.arr (x.args.map Tm.d)),(36,.int .i64 x.args.length),(37,.int .i64 a)],[.box 26 [.arr (s.binds.map Bd.d)],.box 31 [.str ⟨#[]⟩,.nil],.box 31 [.str x.name,.ref 3],.row 31 2 (EG Tm.o [.str ⟨#[]⟩,.ow []] (x.args.map (Tm.ap s.look)) a.toNat)]⟩) (fun a=>∃ k:Nat,a=k∧k≤(x.args).length) (fun a=>(x.args).length-(a).toNat) 0 ⟨0,rfl,zP _⟩ (by simp (disch:=omega) only [go_sem,Aa,hrl,Int.toNat_zero]) ?_
  rintro i ⟨k,hi,hk⟩
  have hni:i.toNat=k:=by omega
  have hni1:(i+1).toNat=k+1:=by omega
  rcases zC k (x.args).length with hlt | hge
  ·have hg:=get_at Tm.d hlt
   rw [Tm.d_eq] at hg
   have hltm:k<(x.args.map (Tm.ap s.look)).length:=by rw [zM]; exact hlt
   have hz:=LZ Tm.o [.str ⟨#[]⟩,.ow []] hltm
   have hc:=ih x.args[k] (zF hlt)
   have hse:=Ma Tm.o [.str ⟨#[]⟩,.ow []] hltm
   rw [Tm.KA,zZ] at hse
   simp (disch:=omega) only [go_sem,Aa,hni,hg,hc,hz,LX,zM,An,Tm.osv,Tm.obs]
   refine ⟨i+1,⟨k+1,by omega,hlt⟩,by omega,?_⟩
   simp (disch:=omega) only [go_sem,Aa,hni1,hse]
  ·obtain rfl:k=x.args.length:=by omega
   have hend:EG Tm.o [.str ⟨#[]⟩,.ow []] (x.args.map (Tm.ap s.look)) x.args.length=(x.args.map (Tm.ap s.look)).map Tm.o:=by
    have:=LY Tm.o [.str ⟨#[]⟩,.ow []] (xs:=x.args.map (Tm.ap s.look))
    rwa [zM] at this
   simp (disch:=omega) only [go_sem,Aa,hni,hend]
theorem PJ (s:Sb) (hs:s.fine) (ht:s.tame) (x:Tm) (hx:x.names=true) (hn:x.nodes≤1099511627776):E 38 [s.sv,x.sv] []=some ((x.ap s.look).osv,(x.ap s.look).obs) :=
 Of s hs ht x (Tm.FI hx) hn fun y hy=>PJ s hs ht y (Tm.Hf hx hy) (by have:=Tm.BU hy; have:=Tm.Ao x; omega)
termination_by SizeOf.sizeOf x
decreasing_by exact Tm.AL hy
theorem PK (s:Sb) (hs:s.ok=true) (ht:s.tame) (x:Tm) (hx:x.names=true) (hn:x.nodes≤1099511627776):E 38 [s.sv,x.sv] []=some ((x.ap s.look).osv,(x.ap s.look).obs):=PJ s (Sb.MT hs) ht x hx hn
theorem Pd (s:Sb) (hs:s.fine) (ht:s.tame) (x:Tm) (hn:x.nodes≤1099511627776) (ih:∀ y∈x.args,E 46 [s.sv,y.sv] []=some ((y.ap s.look).sv,[])):E 46 [s.sv,x.sv] []=some ((x.ap s.look).sv,[]):=by
 have hsl:=ht.1
 have hl:=Tm.length_le x.args
 have hne:=Tm.Ao x
 have hf:=Iz s x.name hsl
 rw [GD hs.1] at hf
 cases hv:Bi x.name with
 | true =>
  cases hh:BI s.binds x.name with
  | true =>
   have hlt:=Fl hh
   have hg:=get_at Bd.d hlt
   rw [Bd.d_eq] at hg
   have hni:((AI s.binds x.name:Nat):Int).toNat=AI s.binds x.name:=yO _
   have hd:=JH (s.binds[AI s.binds x.name]).term (Sb.JI ht hlt)
   have e:x.ap s.look=(s.binds[AI s.binds x.name]).term:=by rw [Tm.Ef,if_pos hv,Sb.I3 hh hlt]; rfl
   rw [hh,if_pos rfl] at hf
   rw [e]
   refine Ab ES Aj (of_decide_eq_true rfl) ?_
   simp (disch:=omega) only [D6,go_sem,Aa,hv,hf,hg,hni,hd,At,Bm,Fc,Ce]
  | false =>
   have e:x.ap s.look=.mk x.name []:=by rw [Tm.Ef,if_pos hv,Sb.I4 hh]; rfl
   rw [hh,if_neg (by simp)] at hf
   rw [e]
   have e1:(Tm.mk x.name []).sv=.agg [.str x.name,.arr []]:=rfl
   rw [e1]
   refine Ab ES Aj (of_decide_eq_true rfl) ?_
   simp (disch:=omega) only [D6,go_sem,Aa,hv,hf,At,Bm,Fc]
 | false =>
  have e:x.ap s.look=.mk x.name (x.args.map (Tm.ap s.look)):=by rw [Tm.Ef,if_neg (by rw [hv]; simp),Tm.Ev]
  rw [e]
  have e1:(Tm.mk x.name (x.args.map (Tm.ap s.look))).sv=.agg [.str x.name,.arr ((x.args.map (Tm.ap s.look)).map Tm.d)]:=rfl
  rw [e1]
  have h10:((1:Int)=0)=False:=by simp
  have hfu:=Tm.EI (x.args.map (Tm.ap s.look))
  have her:=Tm.G4 (x.args.map (Tm.ap s.look))
  refine Ab ES Aj (of_decide_eq_true rfl) ?_
  simp (disch:=omega) only [D6,go_sem,Aa,hv,At,Bm,Fc]
  refine go_loop (α:=Int) (fun a=>⟨slots 50 0 [(2,.ptr 0 0),(3,.ptr 1 0),(4,.ptr 2 0),(6,.ptr 3 0),(7,.int .i64 a)],(if a=0 then [.box 26 [.arr (s.binds.map Bd.d)],.box 31 [.str x.name,.arr (x.args.map Tm.d)],.box 31 [.str ⟨#[]⟩,.nil],.box 31 [.str x.name,.nil]] else [.box 26 [.arr (s.binds.map Bd.d)],.box 31 [.str x.name,.arr (x.args.map Tm.d)],.box 31 [.str ⟨#[]⟩,.nil],.box 31 [.str x.name,.ref 4],.row 31 2 (((x.args.map (Tm.ap s.look)).take a.toNat).map Tm.osh)])⟩) (fun a=>∃ k:Nat,a=k∧k≤(x.args).length) (fun a=>(x.args).length-(a).toNat) 0 ⟨0,rfl,zP _⟩ (by simp (disch:=omega) only [go_sem,Aa,eq_self,if_true]) ?_
  rintro i ⟨k,hi,hk⟩
  have hni:i.toNat=k:=by omega
  have hni1:(i+1).toNat=k+1:=by omega
  rcases zC k (x.args).length with hlt | hge
  ·have hg:=get_at Tm.d hlt
   rw [Tm.d_eq] at hg
   have hltm:k<(x.args.map (Tm.ap s.look)).length:=by rw [zM]; exact hlt
   have hc:=ih x.args[k] (zF hlt)
   have hse:=NR Tm.osh hltm
   rw [Tm.HK,zZ] at hse
   rcases zK k with h0 | h0
   ·subst h0
    obtain rfl:i=0:=hi
    rw [y9,zG,y8] at hse
    simp (disch:=omega) only [go_sem,Aa,hni,hg,hc,Aj,eq_self,if_true]
    refine ⟨1,⟨1,rfl,hlt⟩,by omega,?_⟩
    simp (disch:=omega) only [go_sem,Aa,h10,if_false,hse]
   ·have hi0:(i=0)=False:=by simp; omega
    have hi1:(i+1=0)=False:=by simp; omega
    have htl:((x.args.map (Tm.ap s.look)).take k).length=k:=by rw [List.length_take]; omega
    simp (disch:=omega) only [go_sem,Aa,hni,hg,hc,Aj,hi0,if_false,htl]
    refine ⟨i+1,⟨k+1,by omega,hlt⟩,by omega,?_⟩
    simp (disch:=omega) only [go_sem,Aa,hni1,hi1,if_false,hse]
  ·obtain rfl:k=x.args.length:=by omega
   have hta:(x.args.map (Tm.ap s.look)).take x.args.length=x.args.map (Tm.ap s.look):=by
    have:=List.take_length (l:=x.args.map (Tm.ap s.look))
    rwa [zM] at this
   rcases zK x.args.length with h0 | h0
   ·have hx:x.args=[]:=zH h0
    obtain rfl:i=0:=by omega
    simp (disch:=omega) only [go_sem,Aa,hni,hx,eq_self,if_true,zG,yA]
   ·have hi0:(i=0)=False:=by simp; omega
    simp (disch:=omega) only [go_sem,Aa,hni,hi0,if_false,hta,hfu,her]
theorem Ml (s:Sb) (hs:s.fine) (ht:s.tame) (x:Tm) (hn:x.nodes≤1099511627776):E 46 [s.sv,x.sv] []=some ((x.ap s.look).sv,[]) :=
 Pd s hs ht x hn fun y hy=>Ml s hs ht y (by have:=Tm.BU hy; have:=Tm.Ao x; omega)
termination_by SizeOf.sizeOf x
decreasing_by exact Tm.AL hy
theorem QB (s:Sb) (hs:s.ok=true) (ht:s.tame) (x:Tm) (hn:x.nodes≤1099511627776):E 46 [s.sv,x.sv] []=some ((x.ap s.look).sv,[]):=Ml s (Sb.MT hs) ht x hn
theorem Tm.KP {x:Tm} (h:x.expr=true):x.small=true:=by
 unfold Tm.expr Tm.atom Tm.valid at h
 cases hs:x.small with
 | true=>rfl
 | false =>
  rw [hs] at h
  split at h <;> simp at h
theorem Tm.DR {x:Tm} (h:x.expr=true):x.nodes≤30:=by
 have:=Tm.KP h
 unfold Tm.small at this
 rw [zA,decide_eq_true_eq] at this
 exact this.1
theorem Tm.TH {x:Tm} (h:x.eqn=true):Bi x.name=false:=by
 unfold Tm.eqn at h
 rw [A5.1 h]
 kernel_rfl
theorem Tm.KQ {x:Tm} (h:x.expr=true):x.names=true∨(x.eqn=true∧Tm.Dm x.args=true):=by
 unfold Tm.expr Tm.valid at h
 cases hn:x.names with
 | true=>exact .inl rfl
 | false =>
  rw [hn,zQ,y0] at h
  unfold Tm.atom at h
  split at h
  ·rename_i he
   rw [zA] at h
   exact .inr ⟨he,h.2⟩
  ·unfold Tm.valid at h; rw [hn,zQ,zQ] at h; cases h
theorem Tm.Og {x:Tm} (h:x.expr=true):Bi x.name=true→x.args=[]:=by
 intro hv
 rcases Tm.KQ h with h1 | ⟨h1,h2⟩
 ·exact Tm.FI h1 hv
 ·rw [Tm.TH h1] at hv; cases hv
theorem Tm.Oh {x:Tm} (h:x.expr=true) {y:Tm} (hy:y∈x.args):y.names=true:=by
 rcases Tm.KQ h with h1 | ⟨h1,h2⟩
 ·exact Tm.Hf h1 hy
 ·rw [Tm.Ez,yC] at h2; exact h2 y hy
theorem KR (x:Tm) (hn:x.nodes≤1099511627776):E 23 [x.sv] []=some (.bool x.expr,[]):=by
 have h1:=Fu x hn
 have h2:=Iv x
 have h3:=Lp x hn
 unfold Tm.expr
 cases hv:x.valid with
 | true =>
  rw [hv] at h1
  rw [Bool.true_or]
  refine Ab Dg BN (of_decide_eq_true rfl) ?_
  simp (disch:=omega) only [Ct,go_sem,Aa,h1,A9]
 | false =>
  rw [hv] at h1
  rw [y0]
  cases he:x.eqn with
  | true =>
   rw [he] at h2
   refine Ab Dg BN (of_decide_eq_true rfl) ?_
   simp (disch:=omega) only [Ct,go_sem,Aa,h1,h2,h3,A9,AW,Bp]
  | false =>
   rw [he] at h2
   have ha:x.atom=false:=by unfold Tm.atom; rw [if_neg (by rw [he]; simp),hv,zQ]
   rw [ha]
   refine Ab Dg BN (of_decide_eq_true rfl) ?_
   simp (disch:=omega) only [Ct,go_sem,Aa,h1,h2,A9,AW]
def BO:SC:=(.seq (.reg [⟨some 2,none,.boxv 26 1 (.t 0)⟩,⟨some 3,none,.boxv 31 2 (.t 1)⟩,⟨(some 4),none,(.alloc 31 [(.str ⟨#[]⟩),.nil])⟩,⟨some 5,none,.mv (.c (.bool false))⟩]) (.seq (.reg [⟨some 7,none,.load true 1 (.t 2)⟩,⟨some 8,none,.load true 2 (.t 3)⟩,⟨some 9,none,.call 38 [(.t 7),(.t 8)]⟩,⟨(some 6),none,(.alloc 31 [(.str ⟨#[]⟩),.nil])⟩,⟨none,none,(.store 2 (.t 6) (.t 9))⟩]) (.seq (.seq (.reg [⟨some 10,none,.load true 2 (.t 6)⟩,⟨some 11,none,.call 50 [(.t 10)]⟩,⟨some 12,none,.un .not (.t 11)⟩]) (.cond (.t 12) (.seq (.reg [⟨(some 13),none,(.build [(.str ⟨#[]⟩),.nil] [])⟩,⟨none,none,(.store 2 (.t 4) (.t 13))⟩,⟨some 5,none,.mv (.c (.bool false))⟩]) .ret) .skip)) (.seq (.reg [⟨some 14,none,.load true 2 (.t 6)⟩,⟨none,none,(.store 2 (.t 4) (.t 14))⟩,⟨some 5,none,.mv (.c (.bool true))⟩]) .ret))))
theorem CL:A1 Tryz.prog 24=some ⟨15,BO,[(.cell 4 true 2),(.tmp 5)]⟩:=by kernel_rfl
theorem BP:modes 24=⟨[],.own [none,some (31,2),none],none,false⟩:=by unfold modes; rfl
def BC:SC:=(.seq (.reg [⟨some 2,none,.boxv 26 1 (.t 0)⟩,⟨some 3,none,.boxv 31 2 (.t 1)⟩,⟨(some 4),none,(.alloc 31 [(.str ⟨#[]⟩),.nil])⟩,⟨some 5,none,.mv (.c (.bool false))⟩]) (.seq (.seq (.reg [⟨some 6,none,.load true 1 (.t 2)⟩,⟨some 7,none,.call 19 [(.t 6)]⟩,⟨some 8,none,.un .not (.t 7)⟩,⟨some 9,none,.mv (.t 8)⟩,⟨(some 10),(some (9,false)),(.load true 2 (.t 3))⟩,⟨(some 11),(some (9,false)),(.call 23 [(.t 10)])⟩,⟨(some 12),(some (9,false)),(.un .not (.t 11))⟩,⟨some 13,none,.pick (.t 9) (.c (.bool true)) (.t 12)⟩]) (.cond (.t 13) (.seq (.reg [⟨(some 14),none,(.build [(.str ⟨#[]⟩),.nil] [])⟩,⟨none,none,(.store 2 (.t 4) (.t 14))⟩,⟨some 5,none,.mv (.c (.bool false))⟩]) .ret) .skip)) (.seq (.reg [⟨some 15,none,.load true 1 (.t 2)⟩,⟨some 16,none,.load true 2 (.t 3)⟩,⟨some 17,none,.call 24 [(.t 15),(.t 16)]⟩,⟨some 18,none,.ext (.t 17) 0⟩,⟨some 19,none,.ext (.t 17) 1⟩,⟨none,none,(.store 2 (.t 4) (.t 18))⟩,⟨some 5,none,.mv (.t 19)⟩]) .ret)))
theorem Cn:A1 Tryz.prog 10=some ⟨20,BC,[(.cell 4 true 2),(.tmp 5)]⟩:=by kernel_rfl
theorem A3:modes 10=⟨[],.own [none,some (31,2),none],none,false⟩:=by unfold modes; rfl
noncomputable def C5 (s:Sb) (x:Tm):Bool:=s.ok&&(x.expr&&(x.ap s.look).small)
noncomputable def Ch (s:Sb) (x:Tm):Tm:=if C5 s x then x.ap s.look else .mk ⟨#[]⟩ []
theorem JK {s:Sb} {x:Tm} (h:C5 s x=false):Ch s x=.mk ⟨#[]⟩ []:=by unfold Ch; rw [if_neg (by rw [h]; simp)]
theorem ET {s:Sb} {x:Tm} (h:C5 s x=true):Ch s x=x.ap s.look:=by unfold Ch; rw [if_pos h]
theorem KS:(Tm.mk ⟨#[]⟩ []).osv=.agg [.str ⟨#[]⟩,.ref 0]:=rfl
theorem KT:(Tm.mk ⟨#[]⟩ []).obs=[.row 31 2 []]:=rfl
theorem QC (s:Sb) (hs:s.ok=true) (ht:s.tame) (x:Tm) (hx:x.expr=true):E 38 [s.sv,x.sv] []=some ((x.ap s.look).osv,(x.ap s.look).obs):=by
 have hn:=Tm.DR hx
 exact Of s (Sb.MT hs) ht x (Tm.Og hx) (by omega) fun y hy=>PK s hs ht y (Tm.Oh hx hy) (by have:=Tm.BU hy; have:=Tm.Ao x; omega)
theorem QD (s:Sb) (hs:s.ok=true) (ht:s.tame) (x:Tm) (hx:x.expr=true):E 24 [s.sv,x.sv] []=some (.tup [(Ch s x).osv,.bool (C5 s x)],(Ch s x).obs):=by
 have hn:=Tm.DR hx
 have hk:=Tm.KO (Sb.GF hs) x
 have h1:=QC s hs ht x hx
 have h2:=IX (x.ap s.look) (by omega)
 cases hq:(x.ap s.look).small with
 | true =>
  have ho:C5 s x=true:=by unfold C5; rw [hs,hx,hq]; rfl
  rw [hq] at h2
  rw [ET ho,ho]
  refine Ab CL BP (of_decide_eq_true rfl) ?_
  simp (disch:=omega) only [BO,go_sem,Aa,h1,h2,Tm.osv,Tm.obs,AS,An]
 | false =>
  have ho:C5 s x=false:=by unfold C5; rw [hq,zQ,zQ]
  rw [hq] at h2
  rw [JK ho,ho,KS,KT]
  refine Ab CL BP (of_decide_eq_true rfl) ?_
  simp (disch:=omega) only [BO,go_sem,Aa,h1,h2,Tm.osv,Tm.obs,AS,An]
theorem Cu (s:Sb) (ht:s.tame) (x:Tm) (hn:x.nodes≤1099511627776):E 10 [s.sv,x.sv] []=some (.tup [(Ch s x).osv,.bool (C5 s x)],(Ch s x).obs):=by
 have h1:=B8 s ht
 have h2:=KR x hn
 cases hs:s.ok with
 | false =>
  have ho:C5 s x=false:=by unfold C5; rw [hs]; rfl
  rw [hs] at h1
  rw [JK ho,ho,KS,KT]
  refine Ab Cn A3 (of_decide_eq_true rfl) ?_
  simp (disch:=omega) only [BC,go_sem,Aa,h1,Ai]
 | true =>
  rw [hs] at h1
  cases hx:x.expr with
  | false =>
   have ho:C5 s x=false:=by unfold C5; rw [hx,yN,zQ]
   rw [hx] at h2
   rw [JK ho,ho,KS,KT]
   refine Ab Cn A3 (of_decide_eq_true rfl) ?_
   simp (disch:=omega) only [BC,go_sem,Aa,h1,h2,Ai,BN]
  | true =>
   rw [hx] at h2
   have h3:=QD s hs ht x hx
   refine Ab Cn A3 (of_decide_eq_true rfl) ?_
   simp (disch:=omega) only [BC,go_sem,Aa,h1,h2,h3,Tm.osv,Tm.obs,Ai,BN,BP]
def bdLe (x y:Bd):Bool:=!strLt y.var x.var
def Cs:List Bd→Bd→List Bd
 | [],b=>[b]
 | x :: xs,b=>bif strLt x.var b.var then x :: Cs xs b else b :: x :: xs
theorem FJ (b:Bd):∀ xs:List Bd,(Cs xs b).Perm (b :: xs)
 | []=>.refl _
 | x :: xs=>by
  rw [Cs]
  cases strLt x.var b.var with
  | true=>exact ((FJ b xs).cons x).trans (.swap b x xs)
  | false=>exact .refl _
theorem KU {a b c:Bd} (h:bdLe a b=true) (k:bdLe b c=true):bdLe a c=true:=by
 unfold bdLe at *
 cases hq:strLt c.var a.var with
 | false=>rfl
 | true =>
  cases hb:strLt b.var a.var with
  | true=>rw [hb] at h; cases h
  | false =>
   cases hc:strLt c.var b.var with
   | true=>rw [hc] at k; cases k
   | false =>
    cases hab:strLt a.var b.var with
    | true=>rw [GB hq hab] at hc; cases hc
    | false =>
     have:=GA hab hb
     rw [this] at hq; rw [hq] at hc; cases hc
theorem Pe (a b:Bd):(bdLe a b || bdLe b a)=true:=by
 unfold bdLe
 cases h:strLt b.var a.var with
 | false=>rfl
 | true=>rw [G9 h]; rfl
theorem Jy (b:Bd):∀ xs:List Bd,xs.Pairwise (fun x y=>bdLe x y=true)→(Cs xs b).Pairwise fun x y=>bdLe x y=true
 | [],_=>by simp [Cs]
 | x :: xs,h=>by
  rw [Cs]
  rw [yL] at h
  cases hq:strLt x.var b.var with
  | true =>
   rw [cond_true,yL]
   refine ⟨fun y hy=>?_,Jy b xs h.2⟩
   rcases z7.1 ((FJ b xs).mem_iff.1 hy) with rfl | hy
   ·unfold bdLe; rw [G9 hq]; rfl
   ·exact h.1 y hy
  | false =>
   have hb:bdLe b x=true:=by unfold bdLe; rw [hq]; rfl
   rw [cond_false,yL,yL]
   refine ⟨fun y hy=>?_,h⟩
   rcases z7.1 hy with rfl | hy
   ·exact hb
   ·exact KU hb (h.1 y hy)
def Dh (xs ys:List Bd):List Bd:=ys.foldl Cs xs
theorem Mm:∀ (ys xs:List Bd),(Dh xs ys).Perm (xs++ys)
 | [],xs=>by simp [Dh]
 | y :: ys,xs=>by
  have h:=Mm ys (Cs xs y)
  simp only [Dh,List.foldl_cons] at h ⊢
  refine h.trans ?_
  have h2:(Cs xs y++ys).Perm ((y :: xs)++ys):=(FJ y xs).append_right ys
  exact h2.trans List.perm_middle.symm
theorem Jz:∀ (ys xs:List Bd),xs.Pairwise (fun x y=>bdLe x y=true)→(Dh xs ys).Pairwise fun x y=>bdLe x y=true
 | [],xs,h=>h
 | y :: ys,xs,h=>by
  simp only [Dh,List.foldl_cons]
  exact Jz ys (Cs xs y) (Jy y xs h)
theorem Sa (xs a b:List Bd):Dh xs (a++b)=Dh (Dh xs a) b:=List.foldl_append
theorem QE {ys:List Bd} (hn:(ys.map Bd.var).Nodup):Dh [] ys=ys.mergeSort bdLe:=by
 have h1:(Dh [] ys).Perm ys:=by simpa using Mm ys []
 have h2:(ys.mergeSort bdLe).Perm ys:=yB _ _
 refine List.Perm.eq_of_pairwise (le:=fun x y=>bdLe x y=true) ?_ (Jz ys [] List.Pairwise.nil) (List.pairwise_mergeSort (le:=bdLe) (fun _ _ _ h k=>KU h k) Pe ys) (h1.trans h2.symm)
 intro a b ha hb hab hba
 unfold bdLe at hab hba
 have e:a.var=b.var:=GA (by simpa using hba) (by simpa using hab)
 have ha:=h1.mem_iff.1 ha
 have hb:=h2.mem_iff.1 hb
 obtain ⟨i,hi,rfl⟩:=zV ha
 obtain ⟨j,hj,rfl⟩:=zV hb
 have hij:i=j:=(y2 (h₀:=by simpa using hi) (h₁:=by simpa using hj) hn).1 (by simpa using e)
 subst hij; rfl
theorem KV (b:Bd):∀ xs:List Bd,Cs xs b=xs.take (AI xs b.var)++b :: xs.drop (AI xs b.var)
 | []=>by simp [Cs,AI]
 | x :: xs=>by
  rw [Cs,AI]
  cases h:strLt x.var b.var with
  | true=>rw [cond_true,KV b xs]; simp
  | false=>simp
noncomputable def C6 (u:Sb) (b:Bd):Option Bd:=bif dec ((b.term.ap u.look).name=b.var) then none else some ⟨b.var,b.term.ap u.look⟩
noncomputable def FK (s u:Sb):List Bd:=s.binds.filterMap (C6 u)
noncomputable def TZ (s u:Sb):List Bd:=u.binds.filter fun b=>!BI s.binds b.var
noncomputable def Br (s u:Sb):List Bd:=FK s u++TZ s u
noncomputable def Cx (s u:Sb):Sb:=⟨(Br s u).mergeSort bdLe⟩
theorem HR:∀ {xs:List Bd},HQ xs→(xs.map Bd.var).Nodup:=by
 intro xs h
 unfold List.Nodup
 rw [List.pairwise_iff_getElem]
 intro i j hi hj hij e
 rw [zM] at hj
 have:=h i j hij hj
 simp only [zZ] at e
 rw [e,HO] at this
 cases this
theorem I5 {xs:List Bd} (hs:HQ xs) (n:ByteArray):BI xs n=xs.any fun b=>dec (b.var=n):=by
 rw [←Ij,GD hs]
 cases BI xs n with
 | true=>rw [if_pos rfl]; exact (Bs (by omega)).symm
 | false=>rw [if_neg (by simp)]; exact (BW (by omega)).symm
theorem IY {s u:Sb} {b:Bd} (h:b∈FK s u):∃ c∈s.binds,b.var=c.var∧b.term=c.term.ap u.look:=by
 obtain ⟨c,hc,h⟩:=List.mem_filterMap.1 h
 refine ⟨c,hc,?_⟩
 unfold C6 at h
 cases hq:dec ((c.term.ap u.look).name=c.var) with
 | true=>rw [hq] at h; cases h
 | false=>rw [hq] at h; obtain rfl:=zI h; exact ⟨rfl,rfl⟩
theorem GG (u:Sb):∀ xs:List Bd,((xs.filterMap (C6 u)).map Bd.var).Sublist (xs.map Bd.var)
 | []=>.slnil
 | x :: xs=>by
  rw [List.filterMap_cons,zB]
  have h:=GG u xs
  cases hq:C6 u x with
  | none=>exact h.cons _
  | some c =>
   have e:c.var=x.var:=by
    unfold C6 at hq
    cases hd:dec ((x.term.ap u.look).name=x.var) with
    | true=>rw [hd] at hq; cases hq
    | false=>rw [hd] at hq; obtain rfl:=zI hq; rfl
   simp only [zB,e]
   exact h.cons_cons _
theorem I6 {s u:Sb} (hs:HQ s.binds) (hu:HQ u.binds):((Br s u).map Bd.var).Nodup:=by
 unfold Br
 rw [zW,List.nodup_append]
 refine ⟨(GG u s.binds).nodup (HR hs),(List.Sublist.map _ List.filter_sublist).nodup (HR hu),fun a ha b hb e=>?_⟩
 subst e
 obtain ⟨x,hx,rfl⟩:=y5.1 ha
 obtain ⟨y,hy,e⟩:=y5.1 hb
 obtain ⟨c,hc,h1,_⟩:=IY hx
 have hy2:=(List.mem_filter.1 hy).2
 rw [I5 hs,Bool.not_eq_true'] at hy2
 have:=List.any_eq_false.1 hy2 c hc
 exact this (Bs (by rw [←h1,e]))
theorem KW (s u:Sb):(Br s u).length≤s.binds.length+u.binds.length:=by
 unfold Br FK TZ
 rw [yY]
 have h1:=List.length_filterMap_le (C6 u) s.binds
 have h2:=List.length_filter_le (fun b=>!BI s.binds b.var) u.binds
 omega
theorem A2:modes 40=⟨[true],.asis,some C1,false⟩:=by unfold modes; rfl
theorem TI (l:List Bd) (hl:l.length≤1099511627776) (hn:(l.map Bd.var).Nodup):E 40 [.ref 0,.fn 41 []] [.row 55 3 (l.map Bd.o)]=some (.tup [],[.row 55 3 ((l.mergeSort bdLe).map Bd.o)]):=by
 rw [MC (g:=C1) (congrArg FM.ext A2)]
 unfold C1
 simp only
 have e1:(l.map Bd.o).map HG=l.map Bd.var:=by rw [List.map_map]; rfl
 rw [Bs ⟨by first | trivial | rfl,by first | trivial | rfl,fun e he=>by obtain ⟨b,_,rfl⟩:=y5.1 he; exact ⟨_,_,_,rfl⟩,by rw [e1]; exact hn,by simpa using hl⟩,cond_true]
 have e2:(l.mergeSort bdLe).map Bd.o=(l.map Bd.o).mergeSort rowLe:=List.map_mergeSort fun a _ b _=>rfl
 rw [e2]
theorem QF:E 40 [.nil,.fn 41 []] []=some (.tup [],[]):=by
 rw [MC (g:=C1) (congrArg FM.ext A2)]
 unfold C1
 simp only
 rw [Bs (by first | trivial | rfl),cond_true]
def Gi:SC:=(.seq (.reg [⟨some 2,none,.boxv 26 1 (.t 0)⟩,⟨some 3,none,.boxv 26 1 (.t 1)⟩,⟨some 4,none,.alloc 26 [.nil]⟩,⟨some 5,none,.mv (.c (.bool false))⟩]) (.seq (.reg [⟨some 14,none,.build [.nil] []⟩,⟨some 6,none,.alloc 26 [.nil]⟩,⟨none,none,(.store 1 (.t 6) (.t 14))⟩]) (.seq (.seq (.reg [⟨some 15,none,.faddr 0 (.t 2)⟩,⟨some 16,none,.load false 1 (.t 15)⟩,⟨some 17,none,.len false (.t 16)⟩,⟨some 18,none,.mv (.c (.int .i64 0))⟩]) (.block 0 (.loop [0,0,1,1,1,0,1,0,0,0,0,0,0,0,0,0,1,1,1,0,0,0,0,0,0,0,0,0,0,0,0,0,0,0,0,0,0,0,0,0,0,0,0,0,0,0,0,0,0,0,0,0,0,0,0,0,0,0,0,0,0,0,0,0,0,0,0,0,0,0,0,0,0,0,0,0,0] (.seq (.reg [⟨some 19,none,.bin .lss false (.t 18) (.t 17)⟩]) (.seq (.cond (.t 19) .skip (.exit 0)) (.seq (.block 1 (.seq (.reg [⟨some 20,none,.iaddr 3 (.t 16) (.t 18)⟩,⟨some 21,none,.load true 3 (.t 20)⟩,⟨(some 8),none,(.alloc 55 [(.str ⟨#[]⟩),(.str ⟨#[]⟩),.nil])⟩,⟨none,none,(.store 3 (.t 8) (.t 21))⟩]) (.seq (.reg [⟨some 22,none,.load true 1 (.t 3)⟩,⟨some 23,none,.faddr 1 (.t 8)⟩,⟨some 24,none,.load true 2 (.t 23)⟩,⟨some 25,none,.call 38 [(.t 22),(.t 24)]⟩,⟨(some 9),none,(.alloc 31 [(.str ⟨#[]⟩),.nil])⟩,⟨none,none,(.store 2 (.t 9) (.t 25))⟩]) (.seq (.reg [⟨some 26,none,.faddr 0 (.t 9)⟩,⟨some 27,none,.load false 1 (.t 26)⟩,⟨some 28,none,.faddr 0 (.t 8)⟩,⟨some 29,none,.load false 1 (.t 28)⟩,⟨some 30,none,.bin .neq false (.t 27) (.t 29)⟩]) (.cond (.t 30) (.reg [⟨some 31,none,.faddr 0 (.t 6)⟩,⟨some 32,none,.load false 1 (.t 31)⟩,⟨some 33,none,.faddr 0 (.t 8)⟩,⟨some 34,none,.load false 1 (.t 33)⟩,⟨some 35,none,.load true 2 (.t 9)⟩,⟨(some 36),none,(.build [(.str ⟨#[]⟩),(.str ⟨#[]⟩),.nil] [(0,(1,(.t 34))),(1,(2,(.t 35)))])⟩,⟨(some 37),none,(.mkrow 55 3 [(.str ⟨#[]⟩),(.str ⟨#[]⟩),.nil] 1 [(0,(.t 36))])⟩,⟨(some 38),none,(.append 55 3 56 [(.str ⟨#[]⟩),(.str ⟨#[]⟩),.nil] (.t 32) (.t 37))⟩,⟨some 39,none,.faddr 0 (.t 6)⟩,⟨none,none,(.store 1 (.t 39) (.t 38))⟩]) .skip))))) (.reg [⟨some 40,none,.bin .add false (.t 18) (.c (.int .i64 1))⟩,⟨some 18,none,.mv (.t 40)⟩]))))))) (.seq (.seq (.reg [⟨some 41,none,.faddr 0 (.t 3)⟩,⟨some 42,none,.load false 1 (.t 41)⟩,⟨some 43,none,.len false (.t 42)⟩,⟨some 44,none,.mv (.c (.int .i64 0))⟩]) (.block 2 (.loop [0,0,1,0,1,0,1,0,0,0,0,0,0,0,0,0,0,0,0,0,0,0,0,0,0,0,0,0,0,0,0,0,0,0,0,0,0,0,0,0,0,0,1,1,1,0,0,0,0,0,0,0,0,0,0,0,0,0,0,0,0,0,0,0,0,0,0,0,0,0,0,0,0,0,0,0,0] (.seq (.reg [⟨some 45,none,.bin .lss false (.t 44) (.t 43)⟩]) (.seq (.cond (.t 45) .skip (.exit 2)) (.seq (.block 3 (.seq (.reg [⟨some 46,none,.iaddr 3 (.t 42) (.t 44)⟩,⟨some 47,none,.load true 3 (.t 46)⟩,⟨(some 11),none,(.alloc 55 [(.str ⟨#[]⟩),(.str ⟨#[]⟩),.nil])⟩,⟨none,none,(.store 3 (.t 11) (.t 47))⟩]) (.seq (.reg [⟨some 49,none,.load true 1 (.t 2)⟩,⟨some 50,none,.faddr 0 (.t 11)⟩,⟨some 51,none,.load false 1 (.t 50)⟩,⟨some 52,none,.call 28 [(.t 49),(.t 51)]⟩,⟨some 48,none,.mv (.t 52)⟩,⟨some 53,none,.ext (.t 48) 0⟩,⟨some 54,none,.ext (.t 48) 1⟩,⟨(some 12),none,(.alloc 31 [(.str ⟨#[]⟩),.nil])⟩,⟨none,none,(.store 2 (.t 12) (.t 53))⟩,⟨some 13,none,.mv (.t 54)⟩]) (.seq (.reg [⟨some 55,none,.mv (.t 13)⟩,⟨some 56,none,.un .not (.t 55)⟩]) (.cond (.t 56) (.dreg [[],[0],[],[2],[],[4],[5,4],[3,2,6,5,4],[7,3,2,6,5,4],[1,0,8,7,3,2,6,5,4],[0,1,2,3,4,5,6,7,8,9],[10,0,1,2,3,4,5,6,7,8,9]] [⟨some 57,none,.faddr 0 (.t 6)⟩,⟨some 58,none,.load false 1 (.t 57)⟩,⟨some 59,none,.faddr 0 (.t 11)⟩,⟨some 60,none,.load false 1 (.t 59)⟩,⟨some 61,none,.faddr 1 (.t 11)⟩,⟨some 62,none,.load true 2 (.t 61)⟩,⟨some 63,none,.call 39 [(.t 62)]⟩,⟨(some 64),none,(.build [(.str ⟨#[]⟩),(.str ⟨#[]⟩),.nil] [(0,(1,(.t 60))),(1,(2,(.t 63)))])⟩,⟨(some 65),none,(.mkrow 55 3 [(.str ⟨#[]⟩),(.str ⟨#[]⟩),.nil] 1 [(0,(.t 64))])⟩,⟨(some 66),none,(.append 55 3 56 [(.str ⟨#[]⟩),(.str ⟨#[]⟩),.nil] (.t 58) (.t 65))⟩,⟨some 67,none,.faddr 0 (.t 6)⟩,⟨none,none,(.store 1 (.t 67) (.t 66))⟩]) .skip))))) (.reg [⟨some 68,none,.bin .add false (.t 44) (.c (.int .i64 1))⟩,⟨some 44,none,.mv (.t 68)⟩]))))))) (.seq (.reg [⟨some 69,none,.faddr 0 (.t 6)⟩,⟨some 70,none,.load false 1 (.t 69)⟩,⟨some 71,none,.call 40 [(.t 70),(.c (.fn 41 []))]⟩]) (.seq (.seq (.reg [⟨some 72,none,.load true 1 (.t 6)⟩,⟨some 73,none,.call 19 [(.t 72)]⟩,⟨some 74,none,.un .not (.t 73)⟩]) (.cond (.t 74) (.seq (.reg [⟨some 75,none,.build [.nil] []⟩,⟨none,none,(.store 1 (.t 4) (.t 75))⟩,⟨some 5,none,.mv (.c (.bool false))⟩]) .ret) .skip)) (.seq (.reg [⟨some 76,none,.load true 1 (.t 6)⟩,⟨none,none,(.store 1 (.t 4) (.t 76))⟩,⟨some 5,none,.mv (.c (.bool true))⟩]) .ret)))))))
theorem J8:A1 Tryz.prog 20=some ⟨77,Gi,[(.cell 4 true 1),(.tmp 5)]⟩:=by kernel_rfl
theorem Ej:modes 20=⟨[],.own [some (55,3),none],none,false⟩:=by unfold modes; rfl
theorem Sb.KX {u:Sb} (hu:u.ok=true) {t:Tm} (ht:t.valid=true):(t.ap u.look).nodes≤900:=by
 have h:=Tm.KO (Sb.GF hu) t
 have h2:t.nodes≤30:=Tm.DR (by unfold Tm.expr; rw [ht]; rfl)
 omega
theorem Oi {t:Tm} (h:t.valid=true):t.names=true:=by
 unfold Tm.valid at h; rw [zA] at h; exact h.2
theorem BR {t:Tm} (h:t.valid=true):t.nodes≤30:=Tm.DR (by unfold Tm.expr; rw [h]; rfl)
theorem IZ {s:Sb} (h:s.ok=true):s.binds.length≤12:=by
 unfold Sb.ok at h; rw [zA,decide_eq_true_eq] at h; exact h.1
theorem Sc (s u:Sb):(Cx s u).binds.length≤s.binds.length+u.binds.length:=by
 unfold Cx
 show ((Br s u).mergeSort bdLe).length≤_
 rw [(yB _ _).length_eq]
 exact KW s u
theorem Pf {s u:Sb} (hs:s.ok=true) (hu:u.ok=true) {b:Bd} (h:b∈Br s u):b.term.nodes≤900:=by
 unfold Br at h
 rcases List.mem_append.1 h with h | h
 ·obtain ⟨c,hc,_,e⟩:=IY h
  obtain ⟨k,hk,rfl⟩:=zV hc
  rw [e]
  exact Sb.KX hu (Cm (Sb.GE hs hk))
 ·have hc:=(List.mem_filter.1 h).1
  obtain ⟨k,hk,rfl⟩:=zV hc
  have:=BR (Cm (Sb.GE hu hk))
  omega
theorem Ja {s u:Sb} (hs:s.ok=true) (hu:u.ok=true):(Cx s u).tame:=by
 have h1:=Sc s u
 have h2:=IZ hs
 have h3:=IZ hu
 refine ⟨by omega,fun y hy=>?_⟩
 have:=Pf hs hu ((yB (Br s u) bdLe).mem_iff.1 hy)
 omega
noncomputable def GH (s u:Sb):Bool:=(Cx s u).ok
noncomputable def PL (s u:Sb):Sb:=bif GH s u then Cx s u else ⟨[]⟩
theorem Pg (s u:Sb) (hs:s.ok=true) (hu:u.ok=true) (hts:s.tame) (htu:u.tame):E 20 [s.sv,u.sv] []=some (.tup [(PL s u).osv,.bool (GH s u)],(PL s u).obs):=by
 have hsl:=IZ hs
 have hul:=IZ hu
 have hnil:(([]:List Bd)=[])=True:=eq_self _
 refine Ab J8 Ej (of_decide_eq_true rfl) ?_
 simp (disch:=omega) only [Gi,go_sem,Aa]
 refine go_loop (α:=Int × List Bd) (fun a=>⟨slots 77 0 [(2,.ptr 0 0),(3,.ptr 1 0),(4,.ptr 2 0),(6,.ptr 3 0),(16,.arr (s.binds.map Bd.d)),(17,.int .i64 s.binds.length),(18,.int .i64 a.1)],(if a.2=[] then [.box 26 [.arr (s.binds.map Bd.d)],.box 26 [.arr (u.binds.map Bd.d)],.box 26 [.nil],.box 26 [.nil]] else [.box 26 [.arr (s.binds.map Bd.d)],.box 26 [.arr (u.binds.map Bd.d)],.box 26 [.nil],.box 26 [.ref 4],.row 55 3 (a.2.map Bd.o)])⟩) (fun a=>∃ k:Nat,a.1=k∧k≤s.binds.length∧a.2++(s.binds.drop k).filterMap (C6 u)=FK s u∧a.2.length≤k) (fun a=>s.binds.length-a.1.toNat) (0,[]) ⟨0,rfl,zP _,by rw [zU]; rfl,yF _⟩ (by simp (disch:=omega) only [go_sem,Aa,hnil,if_true]) ?_
 rintro ⟨i,acc⟩ ⟨k,hi,hk,hR,hal⟩
 dsimp only at hi hR hal
 have hni:i.toNat=k:=by omega
 have hni1:(i+1).toNat=k+1:=by omega
 rcases zC k s.binds.length with hlt | hge
 ·have hg:=get_at Bd.d hlt
  rw [Bd.d_eq] at hg
  have hval:=Cm (Sb.GE hs hlt)
  have hc:=PK u hu htu s.binds[k].term (Oi hval) (by have:=BR hval; omega)
  rw [zJ hlt,List.filterMap_cons] at hR
  cases hq:dec ((s.binds[k].term.ap u.look).name=s.binds[k].var) with
  | true =>
   have ho:C6 u s.binds[k]=none:=by unfold C6; rw [hq]; rfl
   rw [ho] at hR
   rcases zY acc with ha | ⟨ys,y,ha⟩
   ·subst ha
    simp (disch:=omega) only [go_sem,Aa,hni,hg,hc,hq,hnil,if_true,Tm.osv,Tm.obs,An,Ap,AR]
    exact ⟨(i+1,[]),⟨k+1,by dsimp only; omega,hlt,hR,by dsimp only; omega⟩,by dsimp only; omega,by first | trivial | rfl | simp only [hnil,if_true,and_self]⟩
   ·have hne:(acc=[])=False:=eq_false (by rw [ha]; simp)
    simp (disch:=omega) only [go_sem,Aa,hni,hg,hc,hq,hne,if_false,Tm.osv,Tm.obs,zM,An,Ap,AR]
    exact ⟨(i+1,acc),⟨k+1,by dsimp only; omega,hlt,hR,by dsimp only; omega⟩,by dsimp only; omega,by first | trivial | rfl | simp only [hne,if_false,and_self]⟩
  | false =>
   have ho:C6 u s.binds[k]=some ⟨s.binds[k].var,s.binds[k].term.ap u.look⟩:=by unfold C6; rw [hq]; rfl
   rw [ho] at hR
   obtain ⟨b,hb⟩:∃ b:Bd,b=⟨s.binds[k].var,s.binds[k].term.ap u.look⟩:=⟨_,rfl⟩
   have hbo:[OT.str s.binds[k].var,.str (s.binds[k].term.ap u.look).name,.ow ((s.binds[k].term.ap u.look).args.map Tm.o)]=b.o:=by rw [hb]; rfl
   have hR':(acc++[b])++(s.binds.drop (k+1)).filterMap (C6 u)=FK s u:=by rw [hb,yZ]; exact hR
   have hnea:(acc++[b]=[])=False:=eq_false (by simp)
   have hlen:(acc++[b]).length≤k+1:=by rw [yY]; simp only [yD,yA]; omega
   rcases zY acc with ha | ⟨ys,y,ha⟩
   ·subst ha
    have hneb:([b]=[])=False:=eq_false (by simp)
    simp (disch:=omega) only [go_sem,Aa,hni,hg,hc,hq,hnil,if_true,Tm.osv,Tm.obs,An,Ap,AR]
    exact ⟨(i+1,[b]),⟨k+1,by dsimp only; omega,hlt,hR',by simp⟩,by dsimp only; omega,by simp only [hneb,if_false,← hbo,zB,zG,and_self]⟩
   ·have hne:(acc=[])=False:=eq_false (by rw [ha]; simp)
    simp (disch:=omega) only [go_sem,Aa,hni,hg,hc,hq,hne,if_false,Tm.osv,Tm.obs,zM,An,Ap,AR]
    exact ⟨(i+1,acc++[b]),⟨k+1,by dsimp only; omega,hlt,hR',by dsimp only; omega⟩,by dsimp only; omega,by simp only [hnea,if_false,← hbo,zW,zB,zG,and_self]⟩
 rw [zO hge,List.filterMap_nil,y7] at hR
 subst hR
 have hl1:(FK s u).length≤12:=by omega
 have htame:=Ja hs hu
 have hvalid:=B8 (Cx s u) htame
 have hnd:=I6 (Sb.FH hs) (Sb.FH hu)
 have hcl:=KW s u
 have hsort:=TI (Br s u) (by omega) hnd
 have hsn:=QF
 have hosv:(Cx s u).sv=.agg [.arr (((Br s u).mergeSort bdLe).map Bd.d)]:=rfl
 rw [hosv] at hvalid
 have hor:((FK s u=[])=True)∨((FK s u=[])=False):=by
  by_cases h:FK s u=[]
  ·exact .inl (eq_true h)
  ·exact .inr (eq_false h)
 rcases hor with hE | hE
 all_goals
  simp (disch:=omega) only [go_sem,Aa,hni,hE,if_true,if_false]
  refine go_loop (α:=Int × List Bd) (fun a=>⟨slots 77 0 [(2,.ptr 0 0),(4,.ptr 1 0),(6,.ptr 2 0),(42,.arr (u.binds.map Bd.d)),(43,.int .i64 u.binds.length),(44,.int .i64 a.1)],(if a.2=[] then [.box 26 [.arr (s.binds.map Bd.d)],.box 26 [.nil],.box 26 [.nil]] else [.box 26 [.arr (s.binds.map Bd.d)],.box 26 [.nil],.box 26 [.ref 3],.row 55 3 (a.2.map Bd.o)])⟩) (fun a=>∃ k:Nat,a.1=k∧k≤u.binds.length∧a.2++(u.binds.drop k).filter (fun b=>!BI s.binds b.var)=Br s u∧a.2.length≤12+k) (fun a=>u.binds.length-a.1.toNat) (0,FK s u) ⟨0,rfl,zP _,by rw [zU]; rfl,by dsimp only; omega⟩ (by simp (disch:=omega) only [go_sem,Aa,hE,if_true,if_false]) ?_
  rintro ⟨i,acc⟩ ⟨k,hi,hk,hR,hal⟩
  dsimp only at hi hR hal
  have hni:i.toNat=k:=by omega
  have hni1:(i+1).toNat=k+1:=by omega
  rcases zC k u.binds.length with hlt | hge
  ·have hg:=get_at Bd.d hlt
   rw [Bd.d_eq] at hg
   have hval:=Cm (Sb.GE hu hlt)
   have hc:=HJ u.binds[k].term (by have:=BR hval; omega)
   rw [zJ hlt,List.filter_cons] at hR
   cases hh:BI s.binds u.binds[k].var with
   | true =>
    have hq:=KM s hs u.binds[k].var (by omega) hh (Fl hh)
    rw [hh,if_neg (by simp)] at hR
    rcases zY acc with ha | ⟨ys,y,ha⟩
    ·subst ha
     simp (disch:=omega) only [go_sem,Aa,hni,hg,hc,hq,hnil,if_true,Tm.osv,Tm.obs,An,Ap,AR]
     exact ⟨(i+1,[]),⟨k+1,by dsimp only; omega,hlt,hR,by simp⟩,by dsimp only; omega,by first | trivial | rfl | simp only [hnil,if_true,and_self]⟩
    ·have hne:(acc=[])=False:=eq_false (by rw [ha]; simp)
     simp (disch:=omega) only [go_sem,Aa,hni,hg,hc,hq,hne,if_false,Tm.osv,Tm.obs,zM,An,Ap,AR]
     exact ⟨(i+1,acc),⟨k+1,by dsimp only; omega,hlt,hR,by dsimp only; omega⟩,by dsimp only; omega,by first | trivial | rfl | simp only [hne,if_false,and_self]⟩
   | false =>
    have hq:=Mk s hs u.binds[k].var (by omega) hh
    rw [hh,if_pos (by simp)] at hR
    have hbo:[OT.str u.binds[k].var,.str u.binds[k].term.name,.ow (u.binds[k].term.args.map Tm.o)]=u.binds[k].o:=rfl
    have hR':(acc++[u.binds[k]])++(u.binds.drop (k+1)).filter (fun b=>!BI s.binds b.var)=Br s u:=by rw [yZ]; exact hR
    have hnea:(acc++[u.binds[k]]=[])=False:=eq_false (by simp)
    have hlen:(acc++[u.binds[k]]).length≤12+(k+1):=by rw [yY]; simp only [yD,yA]; omega
    rcases zY acc with ha | ⟨ys,y,ha⟩
    ·subst ha
     have hneb:([u.binds[k]]=[])=False:=eq_false (by simp)
     simp (disch:=omega) only [go_sem,Aa,hni,hg,hc,hq,hnil,if_true,Tm.osv,Tm.obs,An,Ap,AR]
     exact ⟨(i+1,[u.binds[k]]),⟨k+1,by dsimp only; omega,hlt,hR',by simp; omega⟩,by dsimp only; omega,by simp only [hneb,if_false,← hbo,zB,zG,and_self]⟩
    ·have hne:(acc=[])=False:=eq_false (by rw [ha]; simp)
     simp (disch:=omega) only [go_sem,Aa,hni,hg,hc,hq,hne,if_false,Tm.osv,Tm.obs,zM,An,Ap,AR]
     exact ⟨(i+1,acc++[u.binds[k]]),⟨k+1,by dsimp only; omega,hlt,hR',by dsimp only; omega⟩,by dsimp only; omega,by simp only [hnea,if_false,← hbo,zW,zB,zG,and_self]⟩
  ·rw [zO hge,List.filter_nil,y7] at hR
   subst hR
   unfold PL
   cases hok:GH s u with
   | false =>
    have hok':(Cx s u).ok=false:=hok
    rw [hok'] at hvalid
    simp only [cond_false]
    rcases zY (Br s u) with ha | ⟨ys,y,ha⟩
    ·have hz:(Br s u=[])=True:=eq_true ha
     rw [ha,yK,zG] at hvalid
     simp (disch:=omega) only [go_sem,Aa,hni,hz,if_true,hsn,hvalid,Ai,A2]
     try rfl
    ·have hz:(Br s u=[])=False:=eq_false (by rw [ha]; simp)
     simp (disch:=omega) only [go_sem,Aa,hni,hz,if_false,hsort,hvalid,Bd.erss,Bd.fus,Ai,A2]
     try rfl
   | true =>
    have hok':(Cx s u).ok=true:=hok
    rw [hok'] at hvalid
    simp only [cond_true]
    rcases zY (Br s u) with ha | ⟨ys,y,ha⟩
    ·have hz:(Br s u=[])=True:=eq_true ha
     have hcs:Cx s u=⟨[]⟩:=by unfold Cx; rw [ha,yK]
     rw [hcs]
     rw [ha,yK,zG] at hvalid
     simp (disch:=omega) only [go_sem,Aa,hni,hz,if_true,hsn,hvalid,Ai,A2]
     try rfl
    ·have hz:(Br s u=[])=False:=eq_false (by rw [ha]; simp)
     simp (disch:=omega) only [go_sem,Aa,hni,hz,if_false,hsort,hvalid,Bd.erss,Bd.fus,Ai,A2]
     try rfl
end Go.Proofs.YtalflgegedmmkaaGreat
