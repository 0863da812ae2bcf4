/-
  Texts of this claim, one behind the other, each built on those ahead of it. No condition.
-/
import Derived.Test.YtoglfpfdhojaaaaGreatK41c
set_option maxHeartbeats 16000000
open Bool renaming false_and → zA, true_and → zD, and_eq_true → zE, and_false → zK, eq_false_iff → yB, false_eq_true → yF, or_eq_true → yM, and_true → yV
open List renaming drop_eq_getElem_cons → zB, getElem_mem → zF, drop_eq_nil_of_le → zG, drop_zero → zI, all_eq_true → zL, range → zP, map_nil → zR, mem_cons → zS, length_cons → zT, getD_eq_getElem?_getD → zU, getElem?_map → zV, take_succ_eq_append_getElem → zW, getElem?_eq_getElem → zY, length_take → z6, pairwise_cons → z7, length_map → yA, map_append → yH, mem_map → yI, take_length → yK, pairwise_iff_getElem → yL, length_nil → yN, getElem?_eq_none → yR, any_eq_true → yS, map_cons → yT, eq_nil_of_length_eq_zero → yW, find?_cons → yX, nil_append → yZ, length_append → y4, find?_eq_none → y5, map_map → y7, set_set → y8, foldl_cons → y9, mem_range → xC
open Nat renaming lt_or_ge → zC, zero_le → zJ, sub_zero → zO, eq_zero_or_pos → yO, le_refl → xB
open Int renaming mul_le_mul_of_nonneg_left → zH, one_mul → zZ, mul_nonneg → z8, zero_add → yC, toNat_natCast → yD, mul_one → yE, lt_or_le → yG, mul_comm → yJ, toNat_zero → yP, mul_assoc → yU, mul_zero → y2, add_zero → y3, mul_add → y6
open Option renaming isSome_some → zM, getD_some → zN, isSome_none → zQ, getD_none → zX, isSome_map → yQ, map_some → xA
open Option.some renaming inj → yY
set_option maxRecDepth 100000
set_option linter.unusedSimpArgs false
set_option linter.unusedVariables false
set_option linter.unusedSectionVars false
namespace Go.Proofs.YtoglfpfdhojaaaaGreat
open Go.RowKit
theorem Oj:∀ {xs:List ByteArray} {n m:ByteArray},m∈Fp xs n ↔ m∈xs∨m=n
 | [],n,m=>by simp [Fp]
 | x :: xs,n,m=>by
  rw [Fp]
  cases strLt x n with
  | true=>rw [cond_true,zS,Oj,zS,or_assoc]
  | false =>
   rw [cond_false]
   by_cases h:x=n
   ·rw [Aw h,cond_true]
    exact ⟨.inl,fun h'=>h'.elim id fun e=>by subst e; subst h; simp⟩
   ·rw [Aj h,cond_false,zS]
    exact or_comm
theorem Ok:∀ (xs:List ByteArray) (n:ByteArray),(Fp xs n).length≤xs.length+1
 | [],n=>by simp [Fp]
 | x :: xs,n=>by
  have h:=Ok xs n
  rw [Fp]
  cases strLt x n with
  | true=>simp only [cond_true,zT]; omega
  | false =>
   rw [cond_false]
   cases dec (x=n) with
   | true=>simp only [cond_true,zT]; omega
   | false=>simp only [cond_false,zT]; omega
theorem Ug:∀ (xs:List ByteArray) (n:ByteArray),D4 xs n≤xs.length
 | [],n=>by simp [D4]
 | x :: xs,n=>by
  have h:=Ug xs n
  rw [D4]
  cases strLt x n with
  | true=>simp only [cond_true,zT]; omega
  | false=>simp only [cond_false,zT]; omega
theorem Ol:∀ {xs:List ByteArray} {n:ByteArray} (h:D4 xs n<xs.length),xs[D4 xs n]=n→Fp xs n=xs
 | [],n,h,_=>by simp at h
 | x :: xs,n,h,e=>by
  rw [Fp]
  cases hq:strLt x n with
  | true =>
   simp only [D4,hq,cond_true,zT,List.getElem_cons_succ] at h e
   rw [cond_true,Ol (by omega) e]
  | false =>
   simp only [D4,hq,cond_false,List.getElem_cons_zero] at e
   rw [cond_false,Aw e]; rfl
theorem Om:∀ {xs:List ByteArray} {n:ByteArray},(∀ h:D4 xs n<xs.length,¬ xs[D4 xs n]=n)→Fp xs n=xs.take (D4 xs n)++n :: xs.drop (D4 xs n)
 | [],n,_=>by simp [Fp,D4]
 | x :: xs,n,h=>by
  rw [Fp]
  cases hq:strLt x n with
  | true =>
   simp only [D4,hq,cond_true,zT,List.getElem_cons_succ] at h ⊢
   rw [Om fun h'=>h (by omega)]
   simp
  | false =>
   simp only [D4,hq,cond_false,List.getElem_cons_zero] at h ⊢
   rw [Aj (h (by simp))]
   simp
theorem Vv {xs:List ByteArray} {n:ByteArray} {k:Nat} (h:k+D4 (xs.drop k) n=D4 xs n) (hk:k<xs.length):(strLt xs[k] n=true∧k+1+D4 (xs.drop (k+1)) n=D4 xs n)∨(strLt xs[k] n=false∧k=D4 xs n):=by
 rw [zB hk,D4] at h
 cases hq:strLt xs[k] n with
 | true=>rw [hq,cond_true] at h; exact .inl ⟨rfl,by omega⟩
 | false=>rw [hq,cond_false] at h; exact .inr ⟨rfl,by omega⟩
theorem YY (xs:List ByteArray) (k:Nat):((xs.map fun s=>[D.str s]).take k).map (fun x=>x.map D.ot)=(xs.take k).map fun s=>[OT.str s]:=by
 rw [←List.map_take,y7]; rfl
theorem YZ (xs:List ByteArray) (k:Nat):((xs.map fun s=>[D.str s]).drop k).map (fun x=>x.map D.ot)=(xs.drop k).map fun s=>[OT.str s]:=by
 rw [←List.map_drop,y7]; rfl
theorem Q7 (xs:List ByteArray):((xs.map fun s=>[OT.str s]).all fun l=>l.length == 1)=true:=by
 rw [List.all_map,zL]
 intro x _; rfl
theorem RO (xs:List ByteArray):((xs.map fun s=>[D.str s]).all fun l=>l.length == 1)=true:=by
 rw [List.all_map,zL]
 intro x _; rfl
def Lw:SC:=(.seq (.reg [⟨some 4,none,.mv (.c .nil)⟩]) (.seq (.reg [⟨some 5,none,.mv (.c (.int .i64 0))⟩]) (.seq (.block 0 (.loop [1,1,0,0,0,1,0,0,0,0,0,0,0,0,0,0,0,0,0,0,0,0,0,0,0,0,0,0,0,0,0,0,0,0,0,0,0,0,0,0,0,0,0,0,0] (.seq (.seq (.reg [⟨some 6,none,.mv (.t 5)⟩,⟨some 7,none,.mv (.t 0)⟩,⟨some 8,none,.len false (.t 7)⟩,⟨some 9,none,.bin .lss false (.t 6) (.t 8)⟩,⟨some 10,none,.mv (.t 9)⟩,⟨(some 11),(some (10,true)),(.mv (.t 0))⟩,⟨(some 12),(some (10,true)),(.mv (.t 5))⟩,⟨(some 13),(some (10,true)),(.iaddr 1 (.t 11) (.t 12))⟩,⟨(some 14),(some (10,true)),(.load false 1 (.t 13))⟩,⟨(some 15),(some (10,true)),(.mv (.t 1))⟩,⟨(some 16),(some (10,true)),(.bin .lss false (.t 14) (.t 15))⟩,⟨some 17,none,.pick (.t 10) (.t 16) (.c (.bool false))⟩]) (.cond (.t 17) .skip (.exit 0))) (.block 1 (.reg [⟨some 18,none,.mv (.t 5)⟩,⟨some 19,none,.bin .add false (.t 18) (.c (.int .i64 1))⟩,⟨some 5,none,.mv (.t 19)⟩]))))) (.seq (.seq (.reg [⟨some 20,none,.mv (.t 5)⟩,⟨some 21,none,.mv (.t 0)⟩,⟨some 22,none,.len false (.t 21)⟩,⟨some 23,none,.bin .lss false (.t 20) (.t 22)⟩,⟨some 24,none,.mv (.t 23)⟩,⟨(some 25),(some (24,true)),(.mv (.t 0))⟩,⟨(some 26),(some (24,true)),(.mv (.t 5))⟩,⟨(some 27),(some (24,true)),(.iaddr 1 (.t 25) (.t 26))⟩,⟨(some 28),(some (24,true)),(.load false 1 (.t 27))⟩,⟨(some 29),(some (24,true)),(.mv (.t 1))⟩,⟨(some 30),(some (24,true)),(.bin .eql false (.t 28) (.t 29))⟩,⟨some 31,none,.pick (.t 24) (.t 30) (.c (.bool false))⟩]) (.cond (.t 31) (.seq (.reg [⟨some 32,none,.mv (.t 0)⟩,⟨some 4,none,.mv (.t 32)⟩]) .ret) .skip)) (.seq (.dreg [[],[],[],[1,2],[0,3,1,2],[],[5],[4,0,3,1,2,6,5],[],[],[8,9],[7,4,0,3,1,2,6,5,10,8,9],[11,7,4,0,3,1,2,6,5,10,8,9]] [⟨(some 33),none,(.mkrow 9 1 [(.str ⟨#[]⟩)] 0 [])⟩,⟨some 34,none,.mv (.t 0)⟩,⟨some 35,none,.mv (.t 5)⟩,⟨some 36,none,.slice false 1 (.t 34) none (some (.t 35))⟩,⟨(some 37),none,(.append 9 1 16 [(.str ⟨#[]⟩)] (.t 33) (.t 36))⟩,⟨some 38,none,.mv (.t 1)⟩,⟨(some 39),none,(.mkrow 9 1 [(.str ⟨#[]⟩)] 1 [(0,(.t 38))])⟩,⟨(some 40),none,(.append 9 1 16 [(.str ⟨#[]⟩)] (.t 37) (.t 39))⟩,⟨some 41,none,.mv (.t 0)⟩,⟨some 42,none,.mv (.t 5)⟩,⟨some 43,none,.slice false 1 (.t 41) (some (.t 42)) none⟩,⟨(some 44),none,(.append 9 1 16 [(.str ⟨#[]⟩)] (.t 40) (.t 43))⟩,⟨some 4,none,.mv (.t 44)⟩]) .ret)))))
theorem Q8:Aq Tryz.prog 121=some ⟨45,Lw,[(.tmp 4)]⟩:=by kernel_rfl
theorem Gs:modes 121=⟨[],.frz,none,false⟩:=by unfold modes; rfl
theorem Uh (xs:List ByteArray) (n:ByteArray) (hl:xs.length≤1048576):E 121 [.arr (xs.map fun s=>[D.str s]),.str n] []=some (.arr ((Fp xs n).map fun s=>[D.str s]),[]):=by
 have e1:=YY xs (D4 xs n)
 have e2:=YZ xs (D4 xs n)
 have e3:=Q7 (xs.take (D4 xs n))
 have e4:=Q7 (xs.drop (D4 xs n))
 have e5:=RO xs
 have l1:=Ug xs n
 have e6:(xs.map fun s=>[D.str s]).take xs.length=xs.map fun s=>[D.str s]:=List.take_of_length_le (by simp)
 have e7:(xs.take (D4 xs n)).length=D4 xs n:=by rw [z6]; omega
 have e8:(xs.drop (D4 xs n)).length=xs.length-D4 xs n:=List.length_drop
 have hf:∀ ys:List ByteArray,ys=Fp xs n→(ys.map fun s=>[OT.str s])=(Fp xs n).map fun s=>[OT.str s]:=fun ys h=>by rw [h]
 refine Al Q8 Gs (of_decide_eq_true rfl) ?_
 simp (disch:=omega) only [Lw,go_sem,Ab]
 refine go_loop (α:=Int) (fun a=>⟨slots 45 0 [(0,.arr (xs.map fun s=>[D.str s])),(1,.str n),(5,.int .i64 a)],[]⟩) (fun a=>∃ k:Nat,a=k∧k≤(xs).length∧k+D4 (xs.drop k) n=D4 xs n) (fun a=>(xs).length-(a).toNat) 0 ⟨0,rfl,zJ _,by rw [zI,Nat.zero_add]⟩ (by simp (disch:=omega) only [go_sem,Ab]) ?_
 rintro i ⟨k,hi,hk,hR⟩
 have hni:i.toNat=k:=by omega
 have hni1:(i+1).toNat=k+1:=by omega
 rcases zC k (xs).length with hlt | hge
 ·have hg:=get_at (fun s=>[D.str s]) hlt
  rcases Vv hR hlt with ⟨q,hR'⟩ | ⟨q,hk'⟩
  ·simp (disch:=omega) only [go_sem,Ab,hni,hg,q]
   exact ⟨i+1,⟨k+1,by omega,hlt,hR'⟩,by omega,by first | trivial | rfl⟩
  ·subst hk'
   by_cases h0:xs[D4 xs n]=n
   ·have hi0:=Ol hlt h0
    rw [hi0]
    simp (disch:=omega) only [go_sem,Ab,hni,hg,q,h0,e6,K7,WJ]
   ·have hi0:=Om (fun _=>h0)
    have hx:(xs.take (D4 xs n)).map (fun s=>[OT.str s])++([[OT.str n]]++(xs.drop (D4 xs n)).map (fun s=>[OT.str s]))=(Fp xs n).map fun s=>[OT.str s]:=by rw [hi0]; simp
    have hx2:(xs.take (D4 xs n)).map (fun s=>[OT.str s])++[[OT.str n]]++(xs.drop (D4 xs n)).map (fun s=>[OT.str s])=(Fp xs n).map fun s=>[OT.str s]:=by rw [hi0]; simp
    simp (disch:=omega) only [go_sem,Ab,hni,hg,q,h0,e1,e2,e3,e4,e5,e6,e7,e8,hx2,y4,yP]
 ·obtain rfl:k=xs.length:=by omega
  have hk':xs.length=D4 xs n:=by rw [←hR,zG (xB _)]; simp [D4]
  have hi0:=Om (xs:=xs) (n:=n) (fun h=>by omega)
  have hx2:(xs.take (D4 xs n)).map (fun s=>[OT.str s])++[[OT.str n]]++(xs.drop (D4 xs n)).map (fun s=>[OT.str s])=(Fp xs n).map fun s=>[OT.str s]:=by rw [hi0]; simp
  rw [hk'] at hni
  simp (disch:=omega) only [go_sem,Ab,hni,e1,e2,e3,e4,e5,e6,e7,e8,hx2,y4,yP]
theorem E9:∀ (ns l:List ByteArray),(DF l ns).length≤l.length+ns.length
 | [],l=>by simp [DF]
 | n :: ns,l=>by
  have h:=E9 ns (Fp l n)
  have h2:=Ok l n
  simp only [DF,y9,zT] at h ⊢
  omega
theorem Lx:∀ {ns l:List ByteArray} {m:ByteArray},m∈DF l ns ↔ m∈l∨m∈ns
 | [],l,m=>by simp [DF]
 | n :: ns,l,m=>by
  have h:=Lx (ns:=ns) (l:=Fp l n) (m:=m)
  simp only [DF,y9] at h ⊢
  rw [h,Oj]
  simp only [zS]
  exact or_assoc
theorem On (l a b:List ByteArray):DF l (a++b)=DF (DF l a) b:=List.foldl_append
def H3:SC:=(.seq (.reg [⟨some 3,none,.boxv 30 2 (.t 1)⟩,⟨some 4,none,.mv (.c .nil)⟩]) (.seq (.seq (.reg [⟨some 6,none,.faddr 0 (.t 3)⟩,⟨some 7,none,.load false 1 (.t 6)⟩,⟨some 8,none,.call 62 [(.t 7)]⟩]) (.cond (.t 8) (.seq (.reg [⟨some 9,none,.mv (.t 0)⟩,⟨some 10,none,.faddr 0 (.t 3)⟩,⟨some 11,none,.load false 1 (.t 10)⟩,⟨some 12,none,.call 121 [(.t 9),(.t 11)]⟩,⟨some 4,none,.mv (.t 12)⟩]) .ret) .skip)) (.seq (.seq (.reg [⟨some 5,none,.mv (.c (.int .i64 0))⟩]) (.block 0 (.loop [1,0,0,1,0,1,0,0,0,0,0,0,0,0,0,0,0,0,0,0,0,0,0,0,0,0,0,0] (.seq (.seq (.reg [⟨some 13,none,.mv (.t 5)⟩,⟨some 14,none,.faddr 1 (.t 3)⟩,⟨some 15,none,.load false 1 (.t 14)⟩,⟨some 16,none,.len false (.t 15)⟩,⟨some 17,none,.bin .lss false (.t 13) (.t 16)⟩]) (.cond (.t 17) .skip (.exit 0))) (.seq (.block 1 (.reg [⟨some 20,none,.mv (.t 0)⟩,⟨some 21,none,.faddr 1 (.t 3)⟩,⟨some 22,none,.load false 1 (.t 21)⟩,⟨some 23,none,.mv (.t 5)⟩,⟨some 24,none,.iaddr 2 (.t 22) (.t 23)⟩,⟨some 25,none,.load true 2 (.t 24)⟩,⟨some 26,none,.call 144 [(.t 20),(.t 25)]⟩,⟨some 0,none,.mv (.t 26)⟩])) (.reg [⟨some 18,none,.mv (.t 5)⟩,⟨some 19,none,.bin .add false (.t 18) (.c (.int .i64 1))⟩,⟨some 5,none,.mv (.t 19)⟩])))))) (.seq (.reg [⟨some 27,none,.mv (.t 0)⟩,⟨some 4,none,.mv (.t 27)⟩]) .ret))))
theorem Kb:Aq Tryz.prog 144=some ⟨28,H3,[(.tmp 4)]⟩:=by kernel_rfl
theorem FF:modes 144=⟨[],.asis,none,false⟩:=by unfold modes; rfl
def Kc:SC:=(.seq (.reg [⟨some 1,none,.boxv 30 2 (.t 0)⟩,⟨some 2,none,.mv (.c .nil)⟩]) (.seq (.reg [⟨(some 3),none,(.mkrow 9 1 [(.str ⟨#[]⟩)] 0 [])⟩,⟨some 4,none,.load true 2 (.t 1)⟩,⟨some 5,none,.call 144 [(.t 3),(.t 4)]⟩,⟨some 2,none,.mv (.t 5)⟩]) .ret))
theorem OO:Aq Tryz.prog 119=some ⟨6,Kc,[(.tmp 2)]⟩:=by kernel_rfl
theorem Kd:modes 119=⟨[],.frz,none,false⟩:=by unfold modes; rfl
abbrev Xe (x:Tm):Prop:=∀ l:List ByteArray,l.length+x.nodes≤1048576→E 144 [.arr (l.map fun s=>[D.str s]),x.sv] []=some (.arr ((DF l x.vs).map fun s=>[D.str s]),[])
theorem Vw (x:Tm) (ih:∀ y∈x.args,Xe y):Xe x:=by
 intro l hn
 have hl:=Tm.length_le x.args
 have hne:=Tm.nodes_eq x
 have hvs:=Tm.RL x
 have hp:=Uh l x.name (by omega)
 cases hvv:Cc x.name with
 | true =>
  rw [hvv] at hvs
  have e:DF l x.vs=Fp l x.name:=by rw [hvs]; rfl
  rw [e]
  refine Al Kb FF (of_decide_eq_true rfl) ?_
  simp (disch:=omega) only [H3,go_sem,Ab,hvv,hp,An,EY,Gs]
 | false =>
  rw [hvv] at hvs
  simp only [cond_false] at hvs
  rw [hvs]
  refine Al Kb FF (of_decide_eq_true rfl) ?_
  simp (disch:=omega) only [H3,go_sem,Ab,hvv,An,EY]
  refine go_loop (α:=Int × (List ByteArray)) (fun a=>⟨slots 28 0 [(0,.arr ((a.2).map fun s=>[D.str s])),(3,.ptr 0 0),(5,.int .i64 (a.1))],[.box 30 [.str x.name,.arr (x.args.map Tm.d)]]⟩) (fun a=>∃ k:Nat,a.1=k∧k≤(x.args).length∧DF (a.2) (Tm.vsL (x.args.drop k))=DF l (Tm.vsL x.args)∧(a.2).length+Tm.nodeS (x.args.drop k)≤1048576) (fun a=>(x.args).length-(a.1).toNat) (0,l) ⟨0,rfl,zJ _,by rw [zI],by rw [zI]; dsimp only; omega⟩ (by simp (disch:=omega) only [go_sem,Ab]) ?_
  rintro ⟨i,acc⟩ ⟨k,hi,hk,hR⟩
  dsimp only at hi hR
  have hni:i.toNat=k:=by omega
  have hni1:(i+1).toNat=k+1:=by omega
  rcases zC k (x.args).length with hlt | hge
  ·have hg:=get_at Tm.d hlt
   rw [Tm.d_eq] at hg
   obtain ⟨hR1,hR2⟩:=hR
   rw [zB hlt,Tm.vsL,On] at hR1
   rw [zB hlt,Tm.nodeS] at hR2
   have hc:=ih x.args[k] (zF hlt) acc (by omega)
   have hlen:=E9 x.args[k].vs acc
   have hvl:=Tm.KE x.args[k]
   simp (disch:=omega) only [go_sem,Ab,hni,hg,hc,FF]
   exact ⟨(i+1,DF acc x.args[k].vs),⟨k+1,by dsimp only; omega,hlt,hR1,by dsimp only; omega⟩,by dsimp only; omega,by first | trivial | rfl⟩
  ·rw [zG hge,Tm.vsL] at hR
   obtain ⟨hR1,hR2⟩:=hR
   have hR1:acc=DF l (Tm.vsL x.args):=hR1
   rw [←hR1]
   simp (disch:=omega) only [go_sem,Ab,hni]
theorem RP (x:Tm):Xe x:=Vw x fun y hy=>RP y
termination_by SizeOf.sizeOf x
decreasing_by exact Tm.lt_of_mem hy
theorem Xf (x:Tm) (hn:x.nodes≤1048576):E 119 [x.sv] []=some (.arr ((DF [] x.vs).map fun s=>[D.str s]),[]):=by
 have h:=RP x [] (by simpa using hn)
 rw [zR] at h
 refine Al OO Kd (of_decide_eq_true rfl) ?_
 simp (disch:=omega) only [Kc,go_sem,Ab,h,FF]
theorem Ui:∀ x y:List UInt8,Op.bytesLess x y=true ↔ x<y
 | [],[]=>by simp [Op.bytesLess]
 | [],b :: y=>by simp [Op.bytesLess]
 | a :: x,[]=>by simp [Op.bytesLess]
 | a :: x,b :: y=>by
  have h:=Ui x y
  rw [List.cons_lt_cons_iff,← h]
  simp only [Op.bytesLess,yM,decide_eq_true_eq,zE,beq_iff_eq]
theorem Xg (a b:ByteArray):strLt a b=true ↔ a.toList<b.toList:=Ui _ _
theorem PF (n:ByteArray):∀ xs:List ByteArray,xs.Pairwise (fun x y=>strLt x y=true)→(Fp xs n).Pairwise fun x y=>strLt x y=true
 | [],_=>by simp [Fp]
 | x :: xs,h=>by
  rw [Fp]
  rw [z7] at h
  cases hq:strLt x n with
  | true =>
   rw [cond_true,z7]
   refine ⟨fun y hy=>?_,PF n xs h.2⟩
   rcases Oj.1 hy with hy | rfl
   ·exact h.1 y hy
   ·exact hq
  | false =>
   rw [cond_false]
   by_cases he:x=n
   ·rw [Aw he,cond_true,z7]; exact h
   ·rw [Aj he,cond_false,z7,z7]
    have hn:strLt n x=true:=by
     cases hh:strLt n x with
     | true=>rfl
     | false=>exact absurd (Je hq hh) he
    refine ⟨fun y hy=>?_,h⟩
    rcases zS.1 hy with rfl | hy
    ·exact hn
    ·exact Jf hn (h.1 y hy)
theorem PG:∀ (ns xs:List ByteArray),xs.Pairwise (fun x y=>strLt x y=true)→(DF xs ns).Pairwise fun x y=>strLt x y=true
 | [],xs,h=>h
 | n :: ns,xs,h=>PG ns (Fp xs n) (PF n xs h)
theorem Tt {xs:List ByteArray} (h:xs.Pairwise fun x y=>strLt x y=true):xs.Nodup :=
 h.imp fun {a b} hab e=>by rw [e,K7] at hab; cases hab
theorem Vx (l:List ByteArray):(Q5 l).Pairwise fun x y=>strLt y x=false:=by
 unfold Q5 srt
 rw [List.pairwise_map]
 have h:=List.pairwise_mergeSort (le:=fun x y:List UInt8=>decide (x≤y)) (fun a b c h k=>by
  rw [decide_eq_true_eq] at h k ⊢; exact List.le_trans h k) (fun a b=>by
  rw [yM,decide_eq_true_eq,decide_eq_true_eq]; exact List.le_total a b) (l.map (·.toList))
 refine h.imp fun {a b} hab=>?_
 rw [decide_eq_true_eq] at hab
 rw [yB]
 intro hh
 have:=(Xg _ _).1 hh
 rw [ByteArray.toList_eq,ByteArray.toList_eq] at this
 exact absurd this (List.not_lt.2 hab)
theorem PH (ns:List ByteArray):Q5 (CR [] ns)=DF [] ns:=by
 have h1:=PG ns [] List.Pairwise.nil
 have n1:=Tt h1
 have n2:(CR [] ns).Nodup:=Og List.nodup_nil
 have hp:(Q5 (CR [] ns)).Perm (DF [] ns):=(Vu _).trans ((List.perm_ext_iff_of_nodup n2 n1).2 fun a=>by rw [RN,Lx])
 refine List.Perm.eq_of_pairwise (le:=fun x y=>strLt y x=false) (fun a b _ _ h k=>Je k h) (Vx _) (h1.imp fun h=>M7 h) hp
theorem Fm.PI (x:Fm) (b:List ByteArray):x.fv b=bif dec (x.op=3) then (DF [] x.atom.vs).filter (fun n=>!dec (n∈b)) else Fm.fvL x.parts (bif qB x.op then b++[x.var] else b):=by
 obtain ⟨op,atom,var,parts⟩:=x
 rw [Fm.fv]; rfl
theorem Fm.Iw {m:ByteArray} {b:List ByteArray}:∀ {xs:List Fm},m∈Fm.fvL xs b ↔ ∃ x∈xs,m∈x.fv b
 | []=>by simp [Fm.fvL]
 | x :: xs=>by rw [Fm.fvL,List.mem_append,Fm.Iw (xs:=xs)]; simp
theorem Fm.Oo (m:ByteArray) (x:Fm):∀ b:List ByteArray,m∈x.fv b ↔ m∈x.fv []∧¬ m∈b:=by
 intro b
 rw [Fm.PI,Fm.PI]
 cases dec (x.op=3) with
 | true =>
  simp only [cond_true,List.mem_filter]
  have e:(!dec (m∈([]:List ByteArray)))=true:=by rw [Aj (by simp)]; rfl
  rw [e]
  constructor
  ·rintro ⟨h1,h2⟩
   refine ⟨⟨h1,rfl⟩,fun h=>?_⟩
   rw [Aw h] at h2
   cases h2
  ·rintro ⟨⟨h1,_⟩,h2⟩
   exact ⟨h1,by rw [Aj h2]; rfl⟩
 | false =>
  simp only [cond_false]
  have key:∀ c c0:List ByteArray,(∀ k,k∈c ↔ k∈c0∨k∈b)→(m∈Fm.fvL x.parts c ↔ m∈Fm.fvL x.parts c0∧¬ m∈b):=fun c c0 hc=>by
   rw [Fm.Iw,Fm.Iw]
   constructor
   ·rintro ⟨y,hy,h⟩
    have h1:=(Fm.Oo m y c).1 h
    exact ⟨⟨y,hy,(Fm.Oo m y c0).2 ⟨h1.1,fun h2=>h1.2 ((hc m).2 (.inl h2))⟩⟩,fun h2=>h1.2 ((hc m).2 (.inr h2))⟩
   ·rintro ⟨⟨y,hy,h⟩,h2⟩
    have h1:=(Fm.Oo m y c0).1 h
    exact ⟨y,hy,(Fm.Oo m y c).2 ⟨h1.1,fun h3=>((hc m).1 h3).elim h1.2 h2⟩⟩
  cases qB x.op with
  | true=>exact key _ _ fun k=>by simp [or_comm]
  | false=>exact key _ _ fun k=>by simp
termination_by SizeOf.sizeOf x
decreasing_by all_goals exact Fm.lt_of_mem hy
theorem Fm.Uj (b:List ByteArray):∀ xs:List Fm,(∀ x∈xs,(x.fv b).length≤x.vn)→(Fm.fvL xs b).length≤Fm.vnS xs
 | [],_=>by simp [Fm.fvL]
 | x :: xs,h=>by
  have h1:=h x (by simp)
  have h2:=Fm.Uj b xs fun y hy=>h y (by simp [hy])
  rw [Fm.fvL,Fm.vnS,y4]; omega
theorem Fm.Ix (x:Fm):∀ b:List ByteArray,(x.fv b).length≤x.vn:=by
 intro b
 rw [Fm.PI,Fm.M9]
 cases dec (x.op=3) with
 | true =>
  simp only [cond_true]
  have h1:=List.length_filter_le (fun n=>!dec (n∈b)) (DF [] x.atom.vs)
  have h2:=E9 x.atom.vs []
  have h3:=Tm.KE x.atom
  simp only [yN] at h2
  omega
 | false =>
  simp only [cond_false]
  have h:=Fm.Uj (bif qB x.op then b++[x.var] else b) x.parts fun y hy=>Fm.Ix y _
  omega
termination_by SizeOf.sizeOf x
decreasing_by exact Fm.lt_of_mem hy
theorem Fm.Xh:∀ xs:List Fm,(∀ x∈xs,x.vn≤30*x.nodes)→Fm.vnS xs≤30*Fm.nodeS xs
 | [],_=>by simp [Fm.vnS]
 | x :: xs,h=>by
  have h1:=h x (by simp)
  have h2:=Fm.Xh xs fun y hy=>h y (by simp [hy])
  rw [Fm.vnS,Fm.nodeS]; omega
theorem Fm.Uk (x:Fm) (h:x.forms=true):x.vn≤30*x.nodes:=by
 have h1:=Fm.Xh x.parts fun y hy=>Fm.Uk y (Fm.C1 h hy)
 have h2:=Fm.Nh (Fm.Dq h)
 rw [Fm.M9,Fm.nodes_eq]; omega
termination_by SizeOf.sizeOf x
decreasing_by exact Fm.lt_of_mem hy
theorem Fm.RQ (x:Fm) (n:ByteArray):n∈x.free ↔ n∈x.fv []:=by unfold Fm.free; rw [Lx]; simp
theorem Fm.PJ {x:Fm} (h:x.form=true) (ho:x.op=1∨x.op=2):x=.mk x.op Tm.zero ⟨#[]⟩ []:=by
 have ha:=Fm.GN h (by omega)
 unfold Fm.form at h
 rw [if_pos ho,zE,zE] at h
 have hl:x.parts.length=0:=by simpa using h.1.1
 have hp:x.parts=[]:=yW hl
 have hv:x.var=⟨#[]⟩:=Ar.1 h.2
 obtain ⟨op,atom,var,parts⟩:=x
 change atom=_ at ha
 change parts=_ at hp
 change var=_ at hv
 subst ha hp hv; rfl
theorem Fm.Jo {x:Fm} (h:x.form=true) (ho:x.op=4):∃ p,x=.mk 4 Tm.zero ⟨#[]⟩ [p]:=by
 have ha:=Fm.GN h (by omega)
 unfold Fm.form at h
 rw [if_neg (by omega),if_neg (by omega),if_pos ho,zE,zE] at h
 have hl:x.parts.length=1:=by simpa using h.1.1
 have hv:x.var=⟨#[]⟩:=Ar.1 h.2
 obtain ⟨op,atom,var,parts⟩:=x
 change atom=_ at ha
 change parts.length=_ at hl
 change var=_ at hv
 change op=_ at ho
 subst ha hv ho
 match parts,hl with
 | [p],_=>exact ⟨p,rfl⟩
theorem Fm.Fj {x:Fm} (h:x.form=true) (ho:x.op=5∨x.op=6∨x.op=7):∃ p q,x=.mk x.op Tm.zero ⟨#[]⟩ [p,q]:=by
 have ha:=Fm.GN h (by omega)
 unfold Fm.form at h
 rw [if_neg (by omega),if_neg (by omega),if_neg (by omega),if_pos ho,zE,zE] at h
 have hl:x.parts.length=2:=by simpa using h.1.1
 have hv:x.var=⟨#[]⟩:=Ar.1 h.2
 obtain ⟨op,atom,var,parts⟩:=x
 change atom=_ at ha
 change parts.length=_ at hl
 change var=_ at hv
 subst ha hv
 match parts,hl with
 | [p,q],_=>exact ⟨p,q,rfl⟩
theorem Fm.KF {x:Fm} (h:x.form=true) (ho:x.op=8∨x.op=9):∃ p,x=.mk x.op Tm.zero x.var [p]:=by
 have ha:=Fm.GN h (by omega)
 obtain ⟨_,p,hp⟩:=Fm.Of h (by unfold qB; rw [yM,Ar,Ar]; exact ho)
 obtain ⟨op,atom,var,parts⟩:=x
 change atom=_ at ha
 change parts=_ at hp
 subst ha hp
 exact ⟨p,rfl⟩
theorem Fm.Jp {x:Fm} (h:x.form=true):x.op=1∨x.op=2∨x.op=3∨x.op=4∨x.op=5∨x.op=6∨x.op=7∨x.op=8∨x.op=9:=by
 rcases Oe x.op with h1 | h1 | h1 | h1 | h1 | h1 | h1 | h1 | h1 | h1 <;> try omega
 unfold Fm.form at h
 rw [if_neg (by omega),if_neg (by omega),if_neg (by omega),if_neg (by omega),if_neg (by omega)] at h
 cases h
noncomputable def PK (p:EL):MF:=p.foldl (fun m e=>KO m e.1 e.2) nomap
theorem Tu (p:EL) (k:MK) (x:MV):PK (p++[(k,x)])=KO (PK p) k x:=by unfold PK; rw [List.foldl_append]; rfl
theorem Xi {f:MF} {p:EL} (h:Enum f p):PK p=f:=by
 have key:∀ (p:EL) (m0:MF) (k:MK),(p.map (·.1)).Nodup→p.foldl (fun m e=>KO m e.1 e.2) m0 k=match p.find? (fun e=>dec (e.1=k)) with | some e=>some e.2 | none=>m0 k:=by
  intro p
  induction p with
  | nil=>intro m0 k _; rfl
  | cons e p ih =>
   intro m0 k hn
   rw [yT,List.nodup_cons] at hn
   rw [y9,ih _ _ hn.2,yX]
   by_cases he:e.1=k
   ·rw [Aw he]
    have:p.find? (fun e=>dec (e.1=k))=none:=by
     rw [y5]
     intro e' he' hd
     rw [Ar] at hd
     exact hn.1 (yI.2 ⟨e',he',by rw [hd,he]⟩)
    rw [this]
    simp only
    rw [←he,HD]
   ·rw [Aj he]
    simp only
    cases p.find? (fun e=>dec (e.1=k)) with
    | some e'=>rfl
    | none=>simp only; rw [GZ fun h=>he h.symm]
 funext k
 unfold PK
 rw [key p nomap k h.nd]
 cases hf:p.find? (fun e=>dec (e.1=k)) with
 | some e =>
  have h1:=List.mem_of_find?_eq_some hf
  have h2:=List.find?_some hf
  rw [Ar] at h2
  subst h2
  exact ((h.mem e.1 e.2).1 h1).symm
 | none =>
  simp only
  cases hk:f k with
  | none=>rfl
  | some x =>
   have h1:=(h.mem k x).2 hk
   rw [y5] at hf
   exact absurd (Aw rfl) (hf _ h1)
theorem Iy {ts:List Tl} {n:ByteArray} {k:Int} {p:Bool} {a:Option Int}:(CT ts n k p a).isSome=((Jh ts n k p).isSome&&a.isSome):=by
 unfold CT
 cases Jh ts n k p <;> cases a <;> rfl
theorem Oq {m:Ip} {e e':Env}:∀ {xs:List Tm} {i j:Int},(∀ x∈xs,(x.val m e).isSome=(x.val m e').isSome)→(Tm.Cv m e xs i).isSome=(Tm.Cv m e' xs j).isSome
 | [],i,j,_=>by rw [Tm.Cv,Tm.Cv]; rfl
 | x :: xs,i,j,h=>by
  have hx:=h x (by simp)
  rw [Tm.Cv,Tm.Cv]
  cases h1:x.val m e with
  | none =>
   rw [h1] at hx
   cases h2:x.val m e' with
   | none=>rfl
   | some v=>rw [h2] at hx; cases hx
  | some u =>
   rw [h1] at hx
   cases h2:x.val m e' with
   | none=>rw [h2] at hx; cases hx
   | some v=>exact Oq fun y hy=>h y (by simp [hy])
theorem Ul {m:Ip} {e e':Env} (h:∀ s,(e s).isSome=(e' s).isSome) (x:Tm):(x.val m e).isSome=(x.val m e').isSome:=by
 have ih:∀ y∈x.args,(y.val m e).isSome=(y.val m e').isSome:=fun y hy=>Ul h y
 rw [Tm.Ir,Tm.Ir]
 cases Cc x.name with
 | true=>exact h _
 | false=>rw [cond_false,cond_false,Iy,Iy,Oq ih]
termination_by SizeOf.sizeOf x
decreasing_by exact Tm.lt_of_mem hy
theorem Za {m:Ip} {e e':Env} (h:∀ s,(e s).isSome=(e' s).isSome) (x:Tm):(x.tru m e).isSome=(x.tru m e').isSome:=by
 have hv:=Oq (m:=m) (xs:=x.args) (i:=0) (j:=0) fun y _=>Ul h y
 unfold Tm.tru
 cases x.eqn with
 | true =>
  simp only [if_true]
  cases h1:Tm.Cv m e x.args 0 with
  | none =>
   rw [h1] at hv
   cases h2:Tm.Cv m e' x.args 0 with
   | none=>rfl
   | some v=>rw [h2] at hv; cases hv
  | some u =>
   rw [h1] at hv
   cases h2:Tm.Cv m e' x.args 0 with
   | none=>rw [h2] at hv; cases hv
   | some v=>rfl
 | false =>
  simp only [yF,if_false]
  rw [Iy,Iy,hv]
theorem Mb {m:Ip} {e e':Env}:∀ {xs:List Tm} {i:Int},(∀ x∈xs,x.val m e=x.val m e')→Tm.Cv m e xs i=Tm.Cv m e' xs i
 | [],i,_=>by rw [Tm.Cv,Tm.Cv]
 | x :: xs,i,h=>by
  rw [Tm.Cv,Tm.Cv,h x (by simp)]
  cases x.val m e' with
  | none=>rfl
  | some v=>exact Mb fun y hy=>h y (by simp [hy])
theorem RR {m:Ip} {e e':Env} (x:Tm) (h:∀ s∈x.vs,e s=e' s):x.val m e=x.val m e':=by
 rw [Tm.RL] at h
 rw [Tm.Ir,Tm.Ir]
 cases hb:Cc x.name with
 | true =>
  rw [hb,cond_true] at h
  exact h _ (by simp)
 | false =>
  rw [hb,cond_false] at h
  rw [cond_false,cond_false,Mb fun y hy=>RR y fun s hs=>h s (Tm.Q4.2 ⟨y,hy,hs⟩)]
termination_by SizeOf.sizeOf x
decreasing_by exact Tm.lt_of_mem hy
theorem Xj {m:Ip} {e e':Env} {x:Tm} (hv:Cc x.name=false) (h:∀ s∈x.vs,e s=e' s):x.tru m e=x.tru m e':=by
 rw [Tm.RL,hv,cond_false] at h
 unfold Tm.tru
 rw [Mb fun y hy=>RR y fun s hs=>h s (Tm.Q4.2 ⟨y,hy,hs⟩)]
theorem Or {m:Ip} {e:Env} (hm:m.ok=true) (he:InE m.size e) (a b:Tm):(match Tm.Cv m e [a,b] 0 with
  | some i=>some (bif dec (i.tmod m.size=i.tdiv m.size) then (1:Int) else 0)
  | none=>none)=match a.val m e,b.val m e with
  | some u,some v=>some (bif dec (u=v) then 1 else 0)
  | _,_=>none:=by
 obtain ⟨⟨h1,_⟩,_⟩:=Ip.Cx hm
 rw [Tm.Cv]
 cases ha:a.val m e with
 | none=>rfl
 | some u =>
  simp only [Tm.Cv]
  cases hb:b.val m e with
  | none=>rfl
  | some v =>
   obtain ⟨u0,u1⟩:=Tm.H0 hm he a u ha
   obtain ⟨v0,v1⟩:=Tm.H0 hm he b v hb
   simp only [Int.zero_mul,yC]
   have e1:(u*m.size+v).tmod m.size=v:=by
    rw [Int.tmod_eq_emod_of_nonneg (by have:=z8 u0 (show 0≤m.size by omega); omega),Int.add_comm,Int.add_mul_emod_self_right]
    exact Int.emod_eq_of_lt v0 v1
   have e2:(u*m.size+v).tdiv m.size=u:=by
    rw [Int.tdiv_eq_ediv_of_nonneg (by have:=z8 u0 (show 0≤m.size by omega); omega),Int.add_comm,Int.add_mul_ediv_right _ _ (by omega),Int.ediv_eq_zero_of_lt v0 v1]
    omega
   rw [e1,e2]
   have e3:(v=u)=(u=v):=propext ⟨Eq.symm,Eq.symm⟩
   rw [e3]
abbrev TF:=Env→Option Bool
noncomputable def conn (op:Int) (a b:Bool):Bool:=bif dec (op=5) then a&&b else bif dec (op=6) then a || b else !a || b
def Db (p:Int→Option Bool):Nat→Option (Bool × Bool)
 | 0=>some (true,false)
 | k+1=>match Db p k,p k with
  | some (a,s),some v=>some (a&&v,s || v)
  | _,_=>none
noncomputable def Xk (op:Int):Option (Bool × Bool)→Option Bool
 | some (a,s)=>some (bif dec (op=8) then a else s)
 | none=>none
noncomputable def two (op:Int):Option Bool→Option Bool→Option Bool
 | some a,some b=>some (conn op a b)
 | _,_=>none
noncomputable def trF (m:Ip) (op:Int) (atom:Tm) (var:ByteArray) (ps:List TF) (e:Env):Option Bool :=
 bif dec (op=1) then some true else bif dec (op=2) then some false
 else bif dec (op=3) then (atom.tru m e).map fun n=>dec (n=1)
 else bif qB op then Xk op (Db (fun x=>ps.getD 0 (fun _=>none) (C4 e var x)) m.size.toNat)
 else bif dec (op=4) then (ps.getD 0 (fun _=>none) e).map (fun b=>!b)
 else two op (ps.getD 0 (fun _=>none) e) (ps.getD 1 (fun _=>none) e)
mutual
noncomputable def Fm.tr (m:Ip):Fm→TF
 | .mk op atom var parts=>trF m op atom var (Fm.trL m parts)
noncomputable def Fm.trL (m:Ip):List Fm→List TF
 | []=>[]
 | x :: xs=>Fm.tr m x :: Fm.trL m xs
end
theorem Fm.Um (m:Ip):∀ xs:List Fm,Fm.trL m xs=xs.map (Fm.tr m)
 | []=>by rw [Fm.trL]; rfl
 | x :: xs=>by rw [Fm.trL,Fm.Um m xs]; rfl
theorem Fm.MA (m:Ip) (x:Fm) (e:Env):x.tr m e=trF m x.op x.atom x.var (x.parts.map (Fm.tr m)) e:=by
 obtain ⟨op,atom,var,parts⟩:=x
 rw [Fm.tr,Fm.Um]; rfl
section
variable {m:Ip} {x p q:Fm} {e:Env}
theorem Fm.Iz (h:x.op=3):x.tr m e=(x.atom.tru m e).map fun n=>dec (n=1):=by
 rw [Fm.MA]; unfold trF
 rw [Aj (by omega),Aj (by omega),Aw h]; rfl
theorem Fm.RS (h:x.op=8∨x.op=9) (hp:x.parts=[p]):x.tr m e=Xk x.op (Db (fun k=>p.tr m (C4 e x.var k)) m.size.toNat):=by
 have hq:qB x.op=true:=by unfold qB; rcases h with h | h <;> rw [h,Aw rfl] <;> simp
 rw [Fm.MA]; unfold trF
 rw [Aj (by omega),Aj (by omega),Aj (by omega),hq,hp]; rfl
theorem Fm.KG (h:x.op=4) (hp:x.parts=[p]):x.tr m e=(p.tr m e).map fun b=>!b:=by
 have hq:qB x.op=false:=by unfold qB; rw [Aj (by omega),Aj (by omega)]; rfl
 rw [Fm.MA]; unfold trF
 rw [Aj (by omega),Aj (by omega),Aj (by omega),hq,Aw h,hp]; rfl
theorem Fm.GO (h:x.op=5∨x.op=6∨x.op=7) (hp:x.parts=[p,q]):x.tr m e=two x.op (p.tr m e) (q.tr m e):=by
 have hq:qB x.op=false:=by unfold qB; rw [Aj (by omega),Aj (by omega)]; rfl
 rw [Fm.MA]; unfold trF
 rw [Aj (by omega),Aj (by omega),Aj (by omega),hq,Aj (by omega),hp]; rfl
theorem Fm.Tv (h:x.op=1):x.tr m e=some true:=by rw [Fm.MA]; unfold trF; rw [Aw h]; rfl
theorem Fm.Tw (h:x.op=2):x.tr m e=some false:=by rw [Fm.MA]; unfold trF; rw [Aj (by omega),Aw h]; rfl
end
theorem GP {p:Int→Option Bool}:∀ {n:Nat},(Db p n).isSome=true ↔ ∀ k:Nat,k<n→(p k).isSome=true
 | 0=>by simp [Db]
 | n+1=>by
  have ih:=GP (p:=p) (n:=n)
  rw [Db]
  constructor
  ·intro h k hk
   cases h1:Db p n with
   | none=>rw [h1] at h; cases h
   | some v =>
    rw [h1] at h ih
    cases h2:p n with
    | none=>rw [h2] at h; cases h
    | some b =>
     rcases zC k n with h3 | h3
     ·exact ih.1 rfl k h3
     ·obtain rfl:k=n:=by omega
      rw [h2]; rfl
  ·intro h
   have h1:=ih.2 fun k hk=>h k (by omega)
   have h2:=h n (by omega)
   cases h3:Db p n with
   | none=>rw [h3] at h1; cases h1
   | some v =>
    cases h4:p n with
    | none=>rw [h4] at h2; cases h2
    | some b=>rfl
theorem Mc {op:Int} {r:Option (Bool × Bool)}:(Xk op r).isSome=r.isSome:=by cases r <;> rfl
theorem Ot {op:Int} {a b:Option Bool}:(two op a b).isSome=(a.isSome&&b.isSome):=by cases a <;> cases b <;> rfl
theorem RT {e e':Env} (h:∀ s,(e s).isSome=(e' s).isSome) (v:ByteArray) (k j:Int):∀ s,(C4 e v k s).isSome=(C4 e' v j s).isSome:=by
 intro s
 unfold C4
 cases dec (s=v) with
 | true=>rfl
 | false=>exact h s
theorem Fm.Xl {m:Ip} (x:Fm) (hx:x.forms=true):∀ {e e':Env},(∀ s,(e s).isSome=(e' s).isSome)→(x.tr m e).isSome=(x.tr m e').isSome:=by
 intro e e' h
 have hf:=Fm.Dq hx
 have ih:∀ y∈x.parts,∀ {e e':Env},(∀ s,(e s).isSome=(e' s).isSome)→(y.tr m e).isSome=(y.tr m e').isSome:=fun y hy _ _ h=>Fm.Xl y (Fm.C1 hx hy) h
 rcases Fm.Jp hf with ho | ho | ho | ho | ho | ho | ho | ho | ho
 ·rw [Fm.Tv ho,Fm.Tv ho]
 ·rw [Fm.Tw ho,Fm.Tw ho]
 ·rw [Fm.Iz ho,Fm.Iz ho,yQ,yQ]
  exact Za h _
 ·obtain ⟨p,hp⟩:=Fm.Jo hf ho
  have hp:x.parts=[p]:=by rw [hp]; rfl
  rw [Fm.KG ho hp,Fm.KG ho hp,yQ,yQ]
  exact ih p (by simp [hp]) h
 all_goals try
  obtain ⟨p,q,hp⟩:=Fm.Fj hf (by omega)
  have hp:x.parts=[p,q]:=by rw [hp]; rfl
  rw [Fm.GO (by omega) hp,Fm.GO (by omega) hp,Ot,Ot,ih p (by simp [hp]) h,ih q (by simp [hp]) h]
  done
 all_goals
  obtain ⟨p,hp⟩:=Fm.KF hf (by omega)
  have hp:x.parts=[p]:=by rw [hp]; rfl
  rw [Fm.RS (by omega) hp,Fm.RS (by omega) hp,Mc,Mc,Bool.eq_iff_iff,GP,GP]
  have hk:∀ k:Int,(p.tr m (C4 e x.var k)).isSome=(p.tr m (C4 e' x.var k)).isSome:=fun k=>ih p (by simp [hp]) (RT h _ _ _)
  exact ⟨fun h k hk'=>by rw [←hk]; exact h k hk',fun h k hk'=>by rw [hk]; exact h k hk'⟩
termination_by SizeOf.sizeOf x
decreasing_by exact Fm.lt_of_mem hy
theorem Fm.Qav {m:Ip} {x p:Fm} (hx:x.forms=true) (ho:x.op=8∨x.op=9) (hp:x.parts=[p]) (hs:1≤m.size) (e:Env):(x.tr m e).isSome=(p.tr m (C4 e x.var 0)).isSome:=by
 have hpf:=Fm.C1 hx (y:=p) (by simp [hp])
 have hk:∀ k:Int,(p.tr m (C4 e x.var k)).isSome=(p.tr m (C4 e x.var 0)).isSome:=fun k=>Fm.Xl p hpf (RT (fun _=>rfl) _ _ _)
 rw [Fm.RS ho hp,Mc,Bool.eq_iff_iff,GP]
 exact ⟨fun h=>h 0 (by omega),fun h k _=>by rw [hk]; exact h⟩
theorem Fm.Un {m:Ip} (x:Fm) (hx:x.forms=true):∀ {e e':Env},(∀ s∈x.fv [],e s=e' s)→x.tr m e=x.tr m e':=by
 intro e e' h
 have hf:=Fm.Dq hx
 have ih:∀ y∈x.parts,∀ {e e':Env},(∀ s∈y.fv [],e s=e' s)→y.tr m e=y.tr m e':=fun y hy _ _ h=>Fm.Un y (Fm.C1 hx hy) h
 rw [Fm.PI] at h
 rcases Fm.Jp hf with ho | ho | ho | ho | ho | ho | ho | ho | ho
 ·rw [Fm.Tv ho,Fm.Tv ho]
 ·rw [Fm.Tw ho,Fm.Tw ho]
 ·rw [Aw ho,cond_true] at h
  rw [Fm.Iz ho,Fm.Iz ho]
  have ha:=(Fm.F8 hf ho).2.1
  have hvn:Cc x.atom.name=false:=by
   cases hv:Cc x.atom.name with
   | false=>rfl
   | true =>
    unfold Tm.atom at ha
    cases he:x.atom.eqn with
    | true=>exact absurd hv (by rw [Tm.Ub he]; decide)
    | false =>
     rw [he,if_neg (by simp),zE] at ha
     rw [PC hv] at ha; cases ha.1
  rw [Xj hvn fun s hs=>h s (by
   rw [List.mem_filter,Lx]
   exact ⟨.inr hs,by rw [Aj (by simp)]; rfl⟩)]
 all_goals rw [Aj (by omega),cond_false] at h
 ·obtain ⟨p,hp⟩:=Fm.Jo hf ho
  have hp:x.parts=[p]:=by rw [hp]; rfl
  have hq:qB x.op=false:=by unfold qB; rw [Aj (by omega),Aj (by omega)]; rfl
  rw [hq,cond_false] at h
  rw [Fm.KG ho hp,Fm.KG ho hp,ih p (by simp [hp]) fun s hs=>h s (Fm.Iw.2 ⟨p,by simp [hp],hs⟩)]
 all_goals try
  obtain ⟨p,q,hp⟩:=Fm.Fj hf (by omega)
  have hp:x.parts=[p,q]:=by rw [hp]; rfl
  have hq:qB x.op=false:=by unfold qB; rw [Aj (by omega),Aj (by omega)]; rfl
  rw [hq,cond_false] at h
  rw [Fm.GO (by omega) hp,Fm.GO (by omega) hp,ih p (by simp [hp]) fun s hs=>h s (Fm.Iw.2 ⟨p,by simp [hp],hs⟩),ih q (by simp [hp]) fun s hs=>h s (Fm.Iw.2 ⟨q,by simp [hp],hs⟩)]
  done
 all_goals
  obtain ⟨p,hp⟩:=Fm.KF hf (by omega)
  have hp:x.parts=[p]:=by rw [hp]; rfl
  have hq:qB x.op=true:=by unfold qB; rw [ho]; simp [Aw]
  rw [hq,cond_true] at h
  rw [Fm.RS (by omega) hp,Fm.RS (by omega) hp]
  have hk:(fun k:Int=>p.tr m (C4 e x.var k))=fun k=>p.tr m (C4 e' x.var k):=by
   funext k
   refine ih p (by simp [hp]) fun s hs=>?_
   unfold C4
   by_cases hsv:s=x.var
   ·rw [Aw hsv]; rfl
   ·rw [Aj hsv]
    exact h s (Fm.Iw.2 ⟨p,by simp [hp],(Fm.Oo s p _).2 ⟨hs,by simpa using hsv⟩⟩)
  rw [hk]
termination_by SizeOf.sizeOf x
decreasing_by exact Fm.lt_of_mem hy
theorem Fm.Uo {m:Ip} {p:Fm} (hp:p.forms=true) {n:ByteArray} (hn:¬ n∈p.fv []) (e:Env) (k j:Int):p.tr m (C4 e n k)=p.tr m (C4 e n j) :=
 Fm.Un p hp fun s hs=>by
  unfold C4
  rw [Aj fun h:s=n=>hn (h▸hs)]; rfl
theorem Ou {p:Int→Option Bool}:∀ {n:Nat} {a s:Bool},Db p n=some (a,s)→∀ k:Nat,k<n→∃ v,p k=some v∧(v=false→a=false)∧(v=true→s=true)
 | 0,_,_,_,k,hk=>by omega
 | n+1,a,s,h,k,hk=>by
  rw [Db] at h
  cases h1:Db p n with
  | none=>rw [h1] at h; cases h
  | some t =>
   obtain ⟨a1,s1⟩:=t
   rw [h1] at h
   cases h2:p n with
   | none=>rw [h2] at h; cases h
   | some b =>
    rw [h2] at h
    simp only [Option.some.injEq,Prod.mk.injEq] at h
    obtain ⟨rfl,rfl⟩:=h
    rcases zC k n with h3 | h3
    ·obtain ⟨v,g1,g2,g3⟩:=Ou h1 k h3
     exact ⟨v,g1,fun e=>by rw [g2 e]; rfl,fun e=>by rw [g3 e]; rfl⟩
    ·obtain rfl:k=n:=by omega
     exact ⟨b,h2,fun e=>by rw [e,zK],fun e=>by rw [e,Bool.or_true]⟩
theorem HY {p:Int→Option Bool} {b:Bool}:∀ {n:Nat},(∀ k:Nat,k<n→p k=some b)→0<n→Db p n=some (b,b)
 | 0,_,h=>by omega
 | 1,h,_=>by
  have:=h 0 (by omega)
  simp only [Db]
  rw [this]
  cases b <;> rfl
 | n+2,h,_=>by
  rw [Db,HY (n:=n+1) (fun k hk=>h k (by omega)) (by omega),h (n+1) (by omega)]
  cases b <;> rfl
def FinE (e:Env):Prop:=∃ l:List ByteArray,∀ s,e s≠none→s∈l
theorem FinE.put {e:Env} (h:FinE e) (s:ByteArray) (n:Int):FinE (C4 e s n):=by
 obtain ⟨l,hl⟩:=h
 refine ⟨s :: l,fun q hq=>?_⟩
 unfold C4 at hq
 by_cases he:q=s
 ·simp [he]
 ·rw [Aj he,cond_false] at hq
  simp [hl q hq]
theorem FinE.asg:∀ xs:List Ag,FinE (asg xs)
 | []=>⟨[],fun s h=>absurd rfl h⟩
 | x :: xs=>by
  obtain ⟨l,hl⟩:=FinE.asg xs
  refine ⟨x.var :: l,fun s hs=>?_⟩
  rw [Go.Proofs.YtoglfpfdhojaaaaGreat.asg] at hs
  by_cases he:x.var=s
  ·simp [he]
  ·rw [Aj he,cond_false] at hs
   simp [hl s hs]
theorem FinE.enum {e:Env} (h:FinE e):∃ L,Enum (Dy e) L:=by
 obtain ⟨l,hl⟩:=h
 have key:∀ l:List ByteArray,∃ L:EL,(L.map (·.1)).Nodup∧∀ k x,(k,x)∈L ↔ Dy e k=some x∧k∈l.map MK.str:=by
  intro l
  induction l with
  | nil=>exact ⟨[],by simp,fun k x=>by simp⟩
  | cons s l ih =>
   obtain ⟨L,h1,h2⟩:=ih
   cases hs:Dy e (.str s) with
   | none =>
    refine ⟨L,h1,fun k x=>?_⟩
    rw [h2]
    constructor
    ·rintro ⟨a,b⟩; exact ⟨a,by simp only [yT,zS]; exact .inr b⟩
    ·rintro ⟨a,b⟩
     rcases zS.1 b with rfl | b
     ·rw [hs] at a; cases a
     ·exact ⟨a,b⟩
   | some v =>
    by_cases hm:MK.str s∈l.map MK.str
    ·refine ⟨L,h1,fun k x=>?_⟩
     rw [h2]
     constructor
     ·rintro ⟨a,b⟩; exact ⟨a,by simp only [yT,zS]; exact .inr b⟩
     ·rintro ⟨a,b⟩
      rcases zS.1 b with rfl | b
      ·exact ⟨a,hm⟩
      ·exact ⟨a,b⟩
    ·refine ⟨(.str s,v) :: L,?_,fun k x=>?_⟩
     ·rw [yT,List.nodup_cons]
      refine ⟨fun hk=>?_,h1⟩
      obtain ⟨⟨k,x⟩,hk1,hk2⟩:=yI.1 hk
      have:=(h2 k x).1 hk1
      have hk2:k=.str s:=hk2
      rw [hk2] at this
      exact hm this.2
     ·rw [zS,h2]
      constructor
      ·rintro (hk | ⟨a,b⟩)
       ·obtain ⟨rfl,rfl⟩:=Prod.mk.inj hk
        exact ⟨hs,by simp⟩
       ·exact ⟨a,by simp only [yT,zS]; exact .inr b⟩
      ·rintro ⟨a,b⟩
       rcases zS.1 b with rfl | b
       ·rw [hs] at a
        exact .inl (by rw [yY a])
       ·exact .inr ⟨a,b⟩
 obtain ⟨L,h1,h2⟩:=key l
 refine ⟨L,h1,fun k x=>?_⟩
 rw [h2]
 constructor
 ·exact fun h=>h.1
 ·intro h
  refine ⟨h,?_⟩
  cases k with
  | int i=>cases h
  | str s =>
   refine yI.2 ⟨s,hl s fun hn=>?_,rfl⟩
   rw [HT,hn] at h
   cases h
structure Prm (m:Ip) (p:List Int):Prop where
 ok:m.ok=true
 pr:KB m.size p=true
section
variable {m:Ip} {p:List Int}
theorem Prm.s1 (h:Prm m p):1≤m.size:=(Ip.Cx h.ok).1.1
theorem Prm.s3 (h:Prm m p):m.size≤3:=(Ip.Cx h.ok).1.2
theorem Prm.on (h:Prm m p):OnS m.size (pf p):=(LY h.s3 h.pr).2.1
theorem Prm.back (h:Prm m p):∀ x,0≤x→x<m.size→pf (backL p p.length) (pf p x)=x:=(Lu h.s3 h.pr).1
theorem Prm.forth (h:Prm m p):∀ x,0≤x→x<m.size→pf p (pf (backL p p.length) x)=x:=(Lu h.s3 h.pr).2.1
theorem Prm.bon (h:Prm m p):OnS m.size (pf (backL p p.length)):=(Lu h.s3 h.pr).2.2
theorem Prm.inj (h:Prm m p) {x y:Int} (x0:0≤x) (x1:x<m.size) (y0:0≤y) (y1:y<m.size) (e:pf p x=pf p y):x=y:=by
 rw [←h.back x x0 x1,e,h.back y y0 y1]
theorem Prm.len (h:Prm m p):(p.length:Int)=m.size:=(LY h.s3 h.pr).1
theorem Prm.tl (h:Prm m p) {t:Tl} (ht:t∈m.tables):(t.vals.length:Int)=pw m.size t.arity.toNat∧∀ v∈t.vals,0≤v∧v<kinds m.size t:=by
 obtain ⟨_,_,h3⟩:=Ip.Cx h.ok
 have:=(zL.1 h3) t ht
 unfold tlB at this
 rw [zE,Ar,zL] at this
 refine ⟨this.1,fun v hv=>?_⟩
 have h5:=Dk.1 (this.2 v hv)
 omega
theorem Up (h:Prm m p) {t:Tl} (ht:t∈m.tables) {a:Nat} (ha:t.arity.toNat=a) {i:Int} (i0:0≤i) (i1:i<pw m.size a):(t.rn m.size p).vals.getD (dg m.size (pf p) a i).toNat 0=IH p t (t.vals.getD i.toNat 0):=by
 obtain ⟨hl,_⟩:=h.tl ht
 subst ha
 obtain ⟨d0,d1⟩:=El h.s1 h.on t.arity.toNat i i0 i1
 have hi:=Oc h.s1 h.on h.back t.arity.toNat i i0 i1
 obtain ⟨J,hJ⟩:∃ J:Nat,dg m.size (pf p) t.arity.toNat i=J:=⟨(dg m.size (pf p) t.arity.toNat i).toNat,by omega⟩
 rw [hJ] at hi d0 d1 ⊢
 rw [yD]
 show ((zP t.vals.length).map (atV m.size p t)).getD J 0=_
 rw [zU,zV,List.getElem?_range (by omega)]
 show atV m.size p t J=_
 unfold atV
 rw [hi]
theorem Zb (h:Prm m p) {t:Tl} {v:Int} (v0:0≤v) (v1:v<kinds m.size t):0≤IH p t v∧IH p t v<kinds m.size t:=by
 unfold IH
 unfold kinds at v1 ⊢
 cases ht:t.pred with
 | true=>rw [ht] at v1; exact ⟨v0,v1⟩
 | false=>rw [ht] at v1; simp at v1 ⊢; exact h.on v v0 v1
theorem Uq (h:Prm m p):(m.rn p).ok=true:=by
 obtain ⟨h1,h2,h3⟩:=Ip.Cx h.ok
 have ht:∀ k,K9 (m.rn p).tables k=K9 m.tables k:=fun k=>by
  show K9 (m.tables.map (Tl.rn m.size p)) k=_
  unfold K9
  rw [zV]
  cases m.tables[k]? with
  | none=>rfl
  | some t =>
   cases k with
   | zero=>rfl
   | succ j =>
    simp only [xA,zV]
    cases m.tables[j]? with
    | none=>rfl
    | some u=>rfl
 unfold Ip.ok
 rw [zE,zE]
 refine ⟨Dk.2 h1,?_,zL.2 fun t' ht'=>?_⟩
 ·unfold Eu at h2 ⊢
  have e:(m.rn p).tables.length=m.tables.length:=yA _
  rw [zE] at h2 ⊢
  rw [e]
  exact ⟨WS fun j hj=>by rw [ht]; exact Lm h2.1 hj,h2.2⟩
 ·obtain ⟨t,htm,rfl⟩:=yI.1 ht'
  obtain ⟨hl,hv⟩:=h.tl htm
  unfold tlB
  rw [zE,Ar,zL]
  refine ⟨?_,fun v hv'=>?_⟩
  ·show (((zP t.vals.length).map (atV m.size p t)).length:Int)=pw m.size t.arity.toNat
   rw [yA,List.length_range]
   exact hl
  ·obtain ⟨k,hk,rfl⟩:=yI.1 (show v∈(zP t.vals.length).map (atV m.size p t) from hv')
   rw [xC] at hk
   obtain ⟨d0,d1⟩:=El h.s1 h.bon t.arity.toNat (k:Int) (by omega) (by omega)
   have hb:(dg m.size (pf (backL p p.length)) t.arity.toNat k).toNat<t.vals.length:=by omega
   have hm:=hv _ (zF hb)
   have:=Zb h hm.1 hm.2
   unfold atV
   rw [zU,zY hb,zN]
   refine Dk.2 ?_
   show 0≤IH p t _∧IH p t _≤kinds m.size t-1
   omega
def H4 (q:Int→Int) (e:Env):Env:=fun s=>(e s).map q
theorem Xm (q:Int→Int) (e:Env) (s:ByteArray) (x:Int):C4 (H4 q e) s (q x)=H4 q (C4 e s x):=by
 funext r
 show (bif dec (r=s) then some (q x) else (e r).map q)=(bif dec (r=s) then some x else e r).map q
 cases dec (r=s) <;> rfl
theorem Zc (n:ByteArray) (k:Int) (b:Bool):Jh (m.rn p).tables n k b=(Jh m.tables n k b).map (Tl.rn m.size p):=by
 show (m.tables.map (Tl.rn m.size p)).find? _=_
 rw [List.find?_map]
 rfl
theorem Ur (h:Prm m p) {e:Env} (he:InE m.size e):∀ (xs:List Tm) (a:Nat) (i:Int),0≤i→(∀ x∈xs,x.val (m.rn p) (H4 (pf p) e)=(x.val m e).map (pf p))→Tm.Cv (m.rn p) (H4 (pf p) e) xs (dg m.size (pf p) a i)=(Tm.Cv m e xs i).map (dg m.size (pf p) (a+xs.length))
 | [],a,i,_,_=>by rw [Tm.Cv,Tm.Cv]; rfl
 | x :: xs,a,i,i0,hx=>by
  rw [Tm.Cv,Tm.Cv,hx x (by simp)]
  cases hv:x.val m e with
  | none=>rfl
  | some v =>
   obtain ⟨v0,v1⟩:=Tm.H0 h.ok he x v hv
   obtain ⟨k0,k1,k2⟩:=PB h.s1 v0 v1 i0
   have e1:i*m.size+v=v+m.size*i:=by rw [yJ]; omega
   have e2:dg m.size (pf p) a i*(m.rn p).size+pf p v=dg m.size (pf p) (a+1) (i*m.size+v):=by
    rw [e1,dg,k1,k2]
    show dg m.size (pf p) a i*m.size+pf p v=_
    rw [yJ]; omega
   show Tm.Cv (m.rn p) (H4 (pf p) e) xs (dg m.size (pf p) a i*(m.rn p).size+pf p v)=(Tm.Cv m e xs (i*m.size+v)).map _
   rw [e2,Ur h he xs (a+1) (i*m.size+v) (by omega) fun y hy=>hx y (by simp [hy]),zT]
   have e3:a+1+xs.length=a+(xs.length+1):=by omega
   rw [e3]
theorem Xn (h:Prm m p) {e:Env} (he:InE m.size e) (xs:List Tm) (hx:∀ x∈xs,x.val (m.rn p) (H4 (pf p) e)=(x.val m e).map (pf p)):Tm.Cv (m.rn p) (H4 (pf p) e) xs 0=(Tm.Cv m e xs 0).map (dg m.size (pf p) xs.length):=by
 have:=Ur h he xs 0 0 (by omega) hx
 rw [Nat.zero_add] at this
 exact this
theorem Zd (h:Prm m p) {e:Env} (he:InE m.size e) {xs:List Tm} {i:Int} (hi:Tm.Cv m e xs 0=some i):0≤i∧i<pw m.size xs.length:=by
 obtain ⟨g1,g2⟩:=KA h.s1 (fun y _ v hv=>Tm.H0 h.ok he y v hv) (Int.le_refl 0) hi
 rw [Int.zero_mul] at g1
 rw [yC,zZ] at g2
 exact ⟨g1,g2⟩
theorem RU (h:Prm m p) {e:Env} (he:InE m.size e) (n:ByteArray) (b:Bool) (xs:List Tm) (hx:∀ x∈xs,x.val (m.rn p) (H4 (pf p) e)=(x.val m e).map (pf p)):CT (m.rn p).tables n xs.length b (Tm.Cv (m.rn p) (H4 (pf p) e) xs 0)=(CT m.tables n xs.length b (Tm.Cv m e xs 0)).map (fun v=>bif b then v else pf p v):=by
 rw [Xn h he xs hx]
 unfold CT
 rw [Zc]
 cases ht:Jh m.tables n xs.length b with
 | none=>rfl
 | some t =>
  cases hi:Tm.Cv m e xs 0 with
  | none=>rfl
  | some i =>
   obtain ⟨t1,t2,t3,t4⟩:=Gy ht
   obtain ⟨i0,i1⟩:=Zd h he hi
   have hr:=Up h t1 (a:=xs.length) (by omega) i0 i1
   simp only [xA]
   rw [hr]
   unfold IH
   rw [t4]
theorem Q9 (h:Prm m p) {e:Env} (he:InE m.size e) (x:Tm):x.val (m.rn p) (H4 (pf p) e)=(x.val m e).map (pf p):=by
 have ih:∀ y∈x.args,y.val (m.rn p) (H4 (pf p) e)=(y.val m e).map (pf p):=fun y hy=>Q9 h he y
 rw [Tm.Ir,Tm.Ir]
 cases hb:Cc x.name with
 | true=>rfl
 | false =>
  rw [cond_false,cond_false]
  exact RU h he x.name false x.args ih
termination_by SizeOf.sizeOf x
decreasing_by exact Tm.lt_of_mem hy
theorem Ze (h:Prm m p) {e:Env} (he:InE m.size e):InE m.size (H4 (pf p) e):=by
 intro s n hn
 unfold H4 at hn
 cases hs:e s with
 | none=>rw [hs] at hn; cases hn
 | some v =>
  rw [hs] at hn
  obtain rfl:=yY hn
  obtain ⟨v0,v1⟩:=he s v hs
  exact h.on v v0 v1
theorem Qaw (h:Prm m p) {e:Env} (he:InE m.size e) (x:Tm) (hx:x.eqn=true→x.args.length=2):x.tru (m.rn p) (H4 (pf p) e)=x.tru m e:=by
 unfold Tm.tru
 cases hq:x.eqn with
 | true =>
  simp only [if_true]
  have hl:=hx hq
  match hargs:x.args,hl with
  | [a,b],_ =>
   have v1:=Or h.ok he a b
   have v2:=Or (Uq h) (e:=H4 (pf p) e) (Ze h he) a b
   refine Eq.trans v2 (Eq.trans ?_ v1.symm)
   rw [Q9 h he a,Q9 h he b]
   cases ha:a.val m e with
   | none=>rfl
   | some u =>
    cases hb:b.val m e with
    | none=>rfl
    | some v =>
     obtain ⟨u0,u1⟩:=Tm.H0 h.ok he a u ha
     obtain ⟨w0,w1⟩:=Tm.H0 h.ok he b v hb
     simp only [xA]
     by_cases huv:u=v
     ·rw [huv,Aw rfl,Aw rfl]
     ·rw [Aj huv,Aj fun e=>huv (h.inj u0 u1 w0 w1 e)]
 | false =>
  simp only [yF,if_false]
  rw [RU h he x.name true x.args fun y _=>Q9 h he y]
  cases CT m.tables x.name x.args.length true (Tm.Cv m e x.args 0) <;> rfl
open Classical in
theorem Ov (g:Int→Option Bool):∀ k:Nat,Db g k=if ∃ j:Nat,j<k∧g j=none then none else some (dec (∀ j:Nat,j<k→g j=some true),dec (∃ j:Nat,j<k∧g j=some true))
 | 0=>by
  rw [Db,if_neg (fun ⟨j,hj,_⟩=>by omega),Aw (fun j hj=>by omega),Aj (fun ⟨j,hj,_⟩=>by omega)]
 | k+1=>by
  rw [Db,Ov g k]
  by_cases h1:∃ j:Nat,j<k∧g j=none
  ·rw [if_pos h1,if_pos (h1.imp fun j hj=>⟨by omega,hj.2⟩)]
  ·rw [if_neg h1]
   cases hk:g k with
   | none=>rw [if_pos ⟨k,by omega,hk⟩]
   | some v =>
    rw [if_neg (fun ⟨j,hj,hn⟩=>by
     rcases zC j k with h2 | h2
     ·exact h1 ⟨j,h2,hn⟩
     ·obtain rfl:j=k:=by omega
      rw [hk] at hn; cases hn)]
    have e1:(dec (∀ j:Nat,j<k→g j=some true)&&v)=dec (∀ j:Nat,j<k+1→g j=some true):=by
     by_cases ha:∀ j:Nat,j<k→g j=some true
     ·rw [Aw ha,zD]
      cases v with
      | true =>
       rw [Aw]
       intro j hj
       rcases zC j k with h2 | h2
       ·exact ha j h2
       ·obtain rfl:j=k:=by omega
        exact hk
      | false=>rw [Aj]; intro h; have:=h k (by omega); rw [hk] at this; cases this
     ·rw [Aj ha,zA,Aj]
      exact fun h=>ha fun j hj=>h j (by omega)
    have e2:(dec (∃ j:Nat,j<k∧g j=some true) || v)=dec (∃ j:Nat,j<k+1∧g j=some true):=by
     by_cases ha:∃ j:Nat,j<k∧g j=some true
     ·rw [Aw ha,Bool.true_or,Aw (ha.imp fun j hj=>⟨by omega,hj.2⟩)]
     ·rw [Aj ha,Bool.false_or]
      cases v with
      | true=>rw [Aw ⟨k,by omega,hk⟩]
      | false =>
       rw [Aj]
       rintro ⟨j,hj,hn⟩
       rcases zC j k with h2 | h2
       ·exact ha ⟨j,h2,hn⟩
       ·obtain rfl:j=k:=by omega
        rw [hk] at hn; cases hn
    rw [←e1,← e2]
theorem Xo (h:Prm m p) {g g':Int→Option Bool} (hg:∀ x,0≤x→x<m.size→g' (pf p x)=g x):Db g' m.size.toNat=Db g m.size.toNat:=by
 have key:∀ o:Option Bool,(∃ j:Nat,j<m.size.toNat∧g' j=o) ↔ ∃ j:Nat,j<m.size.toNat∧g j=o:=fun o=>by
  constructor
  ·rintro ⟨j,hj,ho⟩
   have b:=h.bon (j:Int) (by omega) (by omega)
   have f:=h.forth (j:Int) (by omega) (by omega)
   refine ⟨(pf (backL p p.length) j).toNat,by omega,?_⟩
   have:=hg (pf (backL p p.length) j) b.1 b.2
   rw [f,ho] at this
   rw [show (((pf (backL p p.length) j).toNat:Nat):Int)=pf (backL p p.length) j by omega]
   exact this.symm
  ·rintro ⟨j,hj,ho⟩
   have b:=h.on (j:Int) (by omega) (by omega)
   refine ⟨(pf p j).toNat,by omega,?_⟩
   rw [show (((pf p j).toNat:Nat):Int)=pf p j by omega,hg j (by omega) (by omega)]
   exact ho
 have key2:(∀ j:Nat,j<m.size.toNat→g' j=some true) ↔ ∀ j:Nat,j<m.size.toNat→g j=some true:=by
  constructor
  ·intro ha j hj
   have b:=h.on (j:Int) (by omega) (by omega)
   have:=ha (pf p j).toNat (by omega)
   rw [show (((pf p j).toNat:Nat):Int)=pf p j by omega,hg j (by omega) (by omega)] at this
   exact this
  ·intro ha j hj
   have b:=h.bon (j:Int) (by omega) (by omega)
   have f:=h.forth (j:Int) (by omega) (by omega)
   have:=ha (pf (backL p p.length) j).toNat (by omega)
   rw [show (((pf (backL p p.length) j).toNat:Nat):Int)=pf (backL p p.length) j by omega,← hg _ b.1 b.2,f] at this
   exact this
 rw [Ov,Ov]
 simp only [key,key2]
theorem Vy {x:Tm} (h:x.atom=true) (hq:x.eqn=true):x.args.length=2:=by
 unfold Tm.atom at h
 rw [hq,if_pos rfl,zE,zE,beq_iff_eq] at h
 exact h.1.1
theorem Tx {x:Fm} (hx:x.forms=true) (h3:x.op=3) (hq:x.atom.eqn=true):x.atom.args.length=2:=by
 rw [Fm.E8,zE] at hx
 have hf:=hx.1
 unfold Fm.form at hf
 rw [h3,if_neg (by omega),if_pos rfl,zE,zE] at hf
 exact Vy hf.1.2 hq
theorem Zy (h:Prm m p) (x:Fm) (hx:x.forms=true) (e:Env) (he:InE m.size e):x.tr (m.rn p) (H4 (pf p) e)=x.tr m e:=by
 have ih:∀ y∈x.parts,∀ e,InE m.size e→y.tr (m.rn p) (H4 (pf p) e)=y.tr m e:=fun y hy e he=>Zy h y (Fm.C1 hx hy) e he
 have hp:∀ (j:Nat) (e:Env),InE m.size e→(x.parts.map (Fm.tr (m.rn p))).getD j (fun _=>none) (H4 (pf p) e)=(x.parts.map (Fm.tr m)).getD j (fun _=>none) e:=fun j e he=>by
  rw [zU,zU,zV,zV]
  rcases zC j x.parts.length with hj | hj
  ·rw [zY hj]
   exact ih _ (zF hj) e he
  ·rw [yR hj]; rfl
 rw [Fm.MA,Fm.MA]
 unfold trF
 cases h1:dec (x.op=1) with
 | true=>rfl
 | false =>
 cases h2:dec (x.op=2) with
 | true=>rfl
 | false =>
 cases h3:dec (x.op=3) with
 | true =>
  simp only [cond_false,cond_true]
  rw [Qaw h he x.atom (Tx hx (Ar.1 h3))]
 | false =>
 cases h4:qB x.op with
 | true =>
  simp only [cond_false,cond_true]
  have:Db (fun y=>(x.parts.map (Fm.tr (m.rn p))).getD 0 (fun _=>none) (C4 (H4 (pf p) e) x.var y)) (m.rn p).size.toNat=Db (fun y=>(x.parts.map (Fm.tr m)).getD 0 (fun _=>none) (C4 e x.var y)) m.size.toNat :=
   Xo h fun y y0 y1=>by
    rw [Xm]
    exact hp 0 _ (JE he y0 y1 x.var)
  rw [this]
 | false =>
  simp only [cond_false]
  rw [hp 0 e he,hp 1 e he]
termination_by SizeOf.sizeOf x
decreasing_by exact Fm.lt_of_mem hy
theorem RV (h:Prm m p):KB m.size (backL p p.length)=true:=by
 have hl:((backL p p.length).length:Int)=m.size:=by rw [Gz]; exact h.len
 refine WY h.s1 h.s3 hl (fun x hx=>?_) ?_
 ·obtain ⟨k,hk,rfl⟩:=List.getElem_of_mem hx
  have:=h.bon (k:Int) (by omega) (by omega)
  unfold pf at this
  rw [yD,CH hk] at this
  exact this
 ·rw [List.nodup_iff_pairwise_ne,yL]
  intro i j hi hj hij e
  have fi:=h.forth (i:Int) (by omega) (by omega)
  have fj:=h.forth (j:Int) (by omega) (by omega)
  have ei:pf (backL p p.length) i=(backL p p.length)[i]:=by unfold pf; rw [yD,CH hi]
  have ej:pf (backL p p.length) j=(backL p p.length)[j]:=by unfold pf; rw [yD,CH hj]
  rw [ei,e,← ej,fj] at fi
  omega
theorem Us {s:Int} {q q':Int→Int} (h1:1≤s) (hq:∀ x,0≤x→x<s→q x=q' x):∀ (a:Nat) (n:Int),0≤n→n<pw s a→dg s q a n=dg s q' a n
 | 0,n,_,_=>rfl
 | a+1,n,h0,hn=>by
  rw [pw] at hn
  obtain ⟨d0,d1,m0,m1⟩:=Jl h1 h0 hn
  rw [dg,dg,hq _ m0 m1,Us h1 hq a _ d0 d1]
theorem Zf (h:Prm m p) {t:Tl} (ht:t∈m.tables):((t.rn m.size p).rn m.size (backL p p.length)).vals=t.vals:=by
 obtain ⟨hl,hv⟩:=h.tl ht
 have hb:Prm (m.rn p) (backL p p.length):=⟨Uq h,by exact RV (m:=m) h⟩
 have hlen:(t.rn m.size p).vals.length=t.vals.length:=by
  show ((zP t.vals.length).map (atV m.size p t)).length=_
  rw [yA,List.length_range]
 have hr:∀ y,0≤y→y<m.size→pf (backL (backL p p.length) (backL p p.length).length) y=pf p y:=fun y y0 y1=>by
  have e1:=h.back y y0 y1
  have o:=h.on y y0 y1
  have e2:=hb.back (pf p y) o.1 o.2
  rw [e1] at e2
  exact e2
 show (zP (t.rn m.size p).vals.length).map (atV m.size (backL p p.length) (t.rn m.size p))=t.vals
 rw [hlen]
 apply List.ext_getElem?
 intro k
 rcases zC k t.vals.length with hk | hk
 ·rw [zV,List.getElem?_range hk,zY hk]
  show some (atV m.size (backL p p.length) (t.rn m.size p) k)=_
  unfold atV
  have ea:(t.rn m.size p).arity=t.arity:=rfl
  rw [ea,Us h.s1 hr t.arity.toNat (k:Int) (by omega) (by omega),Up h ht rfl (by omega) (by omega)]
  rw [yD,zU,zY hk,zN]
  obtain ⟨v0,v1⟩:=hv _ (zF hk)
  unfold IH
  have ep:(t.rn m.size p).pred=t.pred:=rfl
  rw [ep]
  unfold kinds at v1
  cases hp:t.pred with
  | true=>rfl
  | false =>
   rw [hp] at v1
   simp only [yF,if_false] at v1
   rw [cond_false,cond_false,h.back _ v0 v1]
 ·rw [yR (by simp; omega),yR hk]
theorem Vz (q:Int→Int):H4 q (asg [])=asg []:=by
 funext s
 unfold H4
 rw [asg]; rfl
theorem Ty (sz:Int):InE sz (asg []):=fun s n h=>by rw [asg] at h; cases h
theorem Qax (h:Prm m p) (x:Fm) (hx:x.forms=true):x.tr (m.rn p) (asg [])=x.tr m (asg []):=by
 have:=Zy h x hx (asg []) (Ty _)
 rw [Vz] at this
 exact this
end
theorem RW (xs:List Tl) (hl:xs.length≤1099511627776):E 60 [.arr (xs.map Tl.d)] []=some (.bool (Eu xs),[]):=by
 rcases zC 12 xs.length with h8 | h8
 ·have e:Eu xs=false:=by unfold Eu; rw [decide_eq_false (by omega),zK]
  rw [e]
  refine Al HV D1 (of_decide_eq_true rfl) ?_
  simp (disch:=omega) only [F7,go_sem,Ab]
 refine Al HV D1 (of_decide_eq_true rfl) ?_
 simp (disch:=omega) only [F7,go_sem,Ab]
 refine go_loop (α:=Int) (fun a=>⟨slots 63 0 [(0,.arr (xs.map Tl.d)),(3,.int .i64 a)],[]⟩) (fun a=>∃ k:Nat,a=k∧k≤(xs).length∧Dj (K9 xs) k=true) (fun a=>(xs).length-(a).toNat) 0 ⟨0,rfl,zJ _,by rw [Dj]⟩ (by simp (disch:=omega) only [go_sem,Ab]) ?_
 rintro i ⟨k,hi,hk,hR⟩
 have hni:i.toNat=k:=by omega
 have hni1:(i+1).toNat=k+1:=by omega
 rcases zC k (xs).length with hlt | hge
 ·have hg:=get_at Tl.d hlt
  rw [Tl.d_eq] at hg
  have hs:=K3 xs[k].name
  have hw:=NZ xs[k].arity 0 3
  have no:K9 xs k=false→Eu xs=false:=fun h=>by unfold Eu; rw [Ln h hlt,zA]
  cases ha:Ez xs[k].name with
  | false =>
   rw [ha] at hs
   rw [no (by cases k with | zero=>rw [F5 hlt,ha,zA] | succ j=>rw [DP hlt,ha,zA])]
   simp (disch:=omega) only [go_sem,Ab,hni,hg,hs,hw,AN,Bl]
  | true =>
   rw [ha] at hs
   cases hb:inI xs[k].arity 0 3 with
   | false =>
    rw [hb] at hw
    rw [no (by cases k with | zero=>rw [F5 hlt,hb,zK] | succ j=>rw [DP hlt,hb,zA,zK])]
    simp (disch:=omega) only [go_sem,Ab,hni,hg,hs,hw,AN,Bl]
   | true =>
    rw [hb] at hw
    cases k with
    | zero =>
     obtain rfl:i=0:=hi
     simp (disch:=omega) only [go_sem,Ab,hni,hg,hs,hw,AN,Bl]
     exact ⟨1,⟨1,rfl,hlt,by rw [Dj,hR,F5 hlt,ha,hb]; rfl⟩,by omega,by first | trivial | rfl⟩
    | succ j =>
     have hj:j<xs.length:=by omega
     have hg2:=get_at Tl.d hj
     rw [Tl.d_eq] at hg2
     have hni2:(i-1).toNat=j:=by omega
     have yes:DZ xs[j] xs[j+1]=true→Dj (K9 xs) (j+1+1)=true:=fun h=>by rw [Dj,hR,DP hlt,ha,hb,h]; rfl
     have no2:DZ xs[j] xs[j+1]=false→Eu xs=false:=fun h=>no (by rw [DP hlt,ha,hb,h]; rfl)
     cases h1:strLt xs[j].name xs[j+1].name with
     | true =>
      have h2:dec (xs[j].name=xs[j+1].name)=false:=Aj (Jg h1)
      have hk2:DZ xs[j] xs[j+1]=true:=by unfold DZ; rw [h1]; rfl
      simp (disch:=omega) only [go_sem,Ab,hni,hg,hs,hw,AN,Bl,hni2,hg2,h1,h2]
      exact ⟨i+1,⟨j+1+1,by omega,hlt,yes hk2⟩,by omega,by first | trivial | rfl⟩
     | false =>
      cases h2:dec (xs[j].name=xs[j+1].name) with
      | false =>
       have hk2:DZ xs[j] xs[j+1]=false:=by unfold DZ; rw [h1,h2]; rfl
       rw [no2 hk2]
       simp (disch:=omega) only [go_sem,Ab,hni,hg,hs,hw,AN,Bl,hni2,hg2,h1,h2]
      | true =>
       rcases yG xs[j].arity xs[j+1].arity with hq | hq
       ·have h3:dec (xs[j+1].arity≤xs[j].arity)=false:=Aj (by omega)
        have hk2:DZ xs[j] xs[j+1]=true:=by unfold DZ; rw [h1,h2,Aw hq]; rfl
        simp (disch:=omega) only [go_sem,Ab,hni,hg,hs,hw,AN,Bl,hni2,hg2,h1,h2,h3]
        exact ⟨i+1,⟨j+1+1,by omega,hlt,yes hk2⟩,by omega,by first | trivial | rfl⟩
       ·have h3:dec (xs[j+1].arity≤xs[j].arity)=true:=Aw hq
        have hk2:DZ xs[j] xs[j+1]=false:=by unfold DZ; rw [h1,h2,Aj (by omega)]; rfl
        rw [no2 hk2]
        simp (disch:=omega) only [go_sem,Ab,hni,hg,hs,hw,AN,Bl,hni2,hg2,h1,h2,h3]
 ·obtain rfl:k=xs.length:=by omega
  simp (disch:=omega) only [go_sem,Ab,hni]
  unfold Eu
  rw [hR,decide_eq_true h8]; rfl
theorem PL (m:Ip) (hm:m.tame):E 24 [m.sv] []=some (.bool m.ok,[]):=by
 have h1:=NZ m.size 1 3
 have h2:=RW m.tables hm.1
 unfold Ip.ok
 cases hs:inI m.size 1 3 with
 | false =>
  rw [hs] at h1
  rw [zA]
  refine Al GM BX (of_decide_eq_true rfl) ?_
  simp (disch:=omega) only [Fh,go_sem,Ab,h1,h2,Bl,D1]
 | true =>
  rw [hs] at h1
  rw [zD]
  cases ht:Eu m.tables with
  | false =>
   rw [ht] at h2
   rw [zA]
   refine Al GM BX (of_decide_eq_true rfl) ?_
   simp (disch:=omega) only [Fh,go_sem,Ab,h1,h2,Bl,D1]
  | true =>
   rw [ht] at h2
   rw [zD]
   obtain ⟨s1,s3⟩:=Dk.1 hs
   have hl:=hm.1
   refine Al GM BX (of_decide_eq_true rfl) ?_
   simp (disch:=omega) only [Fh,go_sem,Ab,h1,h2,Bl,D1]
   refine go_loop (α:=Int) (fun a=>⟨slots 58 0 [(1,.ptr 0 0),(3,.int .i64 a)],[.box 26 [.int .i64 m.size,.arr (m.tables.map Tl.d)]]⟩) (fun a=>∃ k:Nat,a=k∧k≤(m.tables).length∧(m.tables.drop k).all (tlB m.size)=m.tables.all (tlB m.size)) (fun a=>(m.tables).length-(a).toNat) 0 ⟨0,rfl,zJ _,by rw [zI]⟩ (by simp (disch:=omega) only [go_sem,Ab]) ?_
   rintro i ⟨k,hi,hk,hR⟩
   have hni:i.toNat=k:=by omega
   have hni1:(i+1).toNat=k+1:=by omega
   rcases zC k (m.tables).length with hlt | hge
   ·have hg:=get_at Tl.d hlt
    rw [Tl.d_eq] at hg
    obtain ⟨a0,a3⟩:=FT ht (zF hlt)
    have hvl:=hm.2 _ (zF hlt)
    have hp:=Oa m.size m.tables[k].arity s1 s3 a0 (by omega)
    have hps:=Dl s1 s3 (k:=m.tables[k].arity.toNat) (by omega)
    rw [zB hlt,List.all_cons] at hR
    have hT:tlB m.size m.tables[k]=(dec ((m.tables[k].vals.length:Int)=pw m.size m.tables[k].arity.toNat)&&m.tables[k].vals.all fun v=>inI v 0 (kinds m.size m.tables[k]-1)):=rfl
    have hk0:1≤kinds m.size m.tables[k]∧kinds m.size m.tables[k]≤3:=by unfold kinds; split <;> omega
    have step:∀ b:Bool,m.tables[k].pred=b→kinds m.size m.tables[k]=(if b then 2 else m.size):=fun b hb=>by unfold kinds; rw [hb]
    cases hd:dec ((m.tables[k].vals.length:Int)=pw m.size m.tables[k].arity.toNat) with
    | false =>
     rw [hT,hd,zA,zA] at hR
     rw [←hR]
     cases hb:m.tables[k].pred
     ·simp (disch:=omega) only [go_sem,Ab,hni,hg,hp,hd,hb,Bt]
     ·simp (disch:=omega) only [go_sem,Ab,hni,hg,hp,hd,hb,Bt]
    | true =>
     rw [hT,hd,zD] at hR
     have fin:∀ (b:Bool),m.tables[k].pred=b→True:=fun _ _=>trivial
     cases hb:m.tables[k].pred
     all_goals
      have hkk:=step _ hb
      simp only [if_true,if_false,yF] at hkk
      simp (disch:=omega) only [go_sem,Ab,hni,hg,hp,hd,hb,Bt]
      refine go_loop (α:=Int) (fun q=>⟨slots 58 0 [(1,.ptr 0 0),(3,.int .i64 i),(4,.ptr 1 0),(5,.int .i64 (kinds m.size m.tables[k]-1)),(6,.int .i64 q)],[.box 26 [.int .i64 m.size,.arr (m.tables.map Tl.d)],.box 44 [.str m.tables[k].name,.int .i64 m.tables[k].arity,.bool m.tables[k].pred,.arr (m.tables[k].vals.map fun n=>[D.int n])]]⟩) (fun q=>∃ n:Nat,q=n∧n≤m.tables[k].vals.length∧((m.tables[k].vals.drop n).all fun v=>inI v 0 (kinds m.size m.tables[k]-1))=(m.tables[k].vals.all fun v=>inI v 0 (kinds m.size m.tables[k]-1))) (fun q=>m.tables[k].vals.length-q.toNat) 0 ⟨0,rfl,zJ _,by rw [zI]⟩ (by simp (disch:=omega) only [go_sem,Ab,hkk,hb,Int.reduceSub]) ?_
      rintro q ⟨n,hq,hn,hQ⟩
      have hqn:q.toNat=n:=by omega
      rcases zC n m.tables[k].vals.length with hlt2 | hge2
      ·have hgv:=get_at (fun n=>[D.int n]) hlt2
       have hv:=NZ m.tables[k].vals[n] 0 (kinds m.size m.tables[k]-1)
       rw [zB hlt2,List.all_cons] at hQ
       cases hw:inI m.tables[k].vals[n] 0 (kinds m.size m.tables[k]-1) with
       | false =>
        rw [hw] at hv hQ
        rw [zA] at hQ
        rw [←hQ,zA] at hR
        rw [←hR]
        simp (disch:=omega) only [go_sem,Ab,hqn,hgv,hv,Bl]
       | true =>
        rw [hw] at hv hQ
        rw [zD] at hQ
        simp (disch:=omega) only [go_sem,Ab,hqn,hgv,hv,Bl]
        exact ⟨q+1,⟨n+1,by omega,hlt2,hQ⟩,by omega,by first | trivial | rfl | simp only [hb]⟩
      ·rw [zG hge2,List.all_nil] at hQ
       rw [←hQ,zD] at hR
       simp (disch:=omega) only [go_sem,Ab,hqn]
       exact ⟨i+1,⟨k+1,by omega,hlt,hR⟩,by omega,by first | trivial | rfl⟩
   ·rw [zG hge,List.all_nil] at hR
    rw [←hR]
    simp (disch:=omega) only [go_sem,Ab,hni]
def Fk:SC:=(.seq (.reg [⟨some 4,none,.mv (.c (.int .i64 0))⟩]) (.seq (.seq (.reg [⟨some 6,none,.mv (.t 0)⟩,⟨some 7,none,.len false (.t 6)⟩,⟨some 8,none,.mv (.c (.int .i64 0))⟩]) (.block 0 (.loop [1,1,0,0,0,0,0,1,1,0,0,0,0,0,0,0,0,0,0] (.seq (.reg [⟨some 9,none,.bin .lss false (.t 8) (.t 7)⟩]) (.seq (.cond (.t 9) .skip (.exit 0)) (.seq (.block 1 (.seq (.reg [⟨some 10,none,.mv (.t 8)⟩,⟨some 5,none,.mv (.t 10)⟩]) (.seq (.reg [⟨some 11,none,.mv (.t 1)⟩,⟨some 12,none,.mv (.t 0)⟩,⟨some 13,none,.mv (.t 5)⟩,⟨some 14,none,.iaddr 1 (.t 12) (.t 13)⟩,⟨some 15,none,.load false 1 (.t 14)⟩,⟨some 16,none,.bin .eql false (.t 11) (.t 15)⟩]) (.cond (.t 16) (.seq (.reg [⟨some 17,none,.mv (.t 5)⟩,⟨some 4,none,.mv (.t 17)⟩]) .ret) .skip)))) (.reg [⟨some 18,none,.bin .add false (.t 8) (.c (.int .i64 1))⟩,⟨some 8,none,.mv (.t 18)⟩]))))))) (.seq (.reg [⟨some 4,none,.mv (.c (.int .i64 (-(0+1))))⟩]) .ret)))
theorem I1:Aq Tryz.prog 68=some ⟨19,Fk,[(.tmp 4)]⟩:=by kernel_rfl
theorem Fl:modes 68=⟨[],.asis,none,false⟩:=by unfold modes; rfl
def Ew:SC:=(.seq (.reg [⟨some 4,none,.mv (.c (.bool false))⟩]) (.seq (.reg [⟨some 5,none,.mv (.t 0)⟩,⟨some 6,none,.mv (.t 1)⟩,⟨some 7,none,.call 68 [(.t 5),(.t 6)]⟩,⟨some 8,none,.bin .geq false (.t 7) (.c (.int .i64 0))⟩,⟨some 4,none,.mv (.t 8)⟩]) .ret))
theorem GW:Aq Tryz.prog 30=some ⟨9,Ew,[(.tmp 4)]⟩:=by kernel_rfl
theorem Dd:modes 30=⟨[],.asis,none,false⟩:=by unfold modes; rfl
def Ho:SC:=(.seq (.reg [⟨some 2,none,.mv (.c .nil)⟩]) (.seq (.reg [⟨(some 6),none,(.mkrow 44 4 [(.str ⟨#[]⟩),(.int .i64 0),(.bool false),.nil] 0 [])⟩,⟨some 3,none,.mv (.t 6)⟩]) (.seq (.seq (.reg [⟨some 7,none,.mv (.t 0)⟩,⟨some 8,none,.len false (.t 7)⟩,⟨some 9,none,.mv (.c (.int .i64 0))⟩]) (.block 0 (.loop [0,0,0,1,0,0,0,1,1,1,0,0,0,0,0,0,0,0,0,0,0,0,0] (.seq (.reg [⟨some 10,none,.bin .lss false (.t 9) (.t 8)⟩]) (.seq (.cond (.t 10) .skip (.exit 0)) (.seq (.block 1 (.seq (.reg [⟨some 11,none,.iaddr 4 (.t 7) (.t 9)⟩,⟨some 12,none,.load true 4 (.t 11)⟩,⟨(some 5),none,(.alloc 44 [(.str ⟨#[]⟩),(.int .i64 0),(.bool false),.nil])⟩,⟨none,none,(.store 4 (.t 5) (.t 12))⟩]) (.seq (.reg [⟨some 13,none,.faddr 3 (.t 5)⟩,⟨some 14,none,.load false 1 (.t 13)⟩,⟨some 15,none,.call 69 [(.t 14)]⟩,⟨some 16,none,.faddr 3 (.t 5)⟩,⟨none,none,(.store 1 (.t 16) (.t 15))⟩]) (.reg [⟨some 17,none,.mv (.t 3)⟩,⟨some 18,none,.load true 4 (.t 5)⟩,⟨(some 19),none,(.mkrow 44 4 [(.str ⟨#[]⟩),(.int .i64 0),(.bool false),.nil] 1 [(0,(.t 18))])⟩,⟨(some 20),none,(.append 44 4 56 [(.str ⟨#[]⟩),(.int .i64 0),(.bool false),.nil] (.t 17) (.t 19))⟩,⟨some 3,none,.mv (.t 20)⟩])))) (.reg [⟨some 21,none,.bin .add false (.t 9) (.c (.int .i64 1))⟩,⟨some 9,none,.mv (.t 21)⟩]))))))) (.seq (.reg [⟨some 22,none,.mv (.t 3)⟩,⟨some 2,none,.mv (.t 22)⟩]) .ret))))
theorem Ly:Aq Tryz.prog 31=some ⟨23,Ho,[(.tmp 2)]⟩:=by kernel_rfl
theorem Hp:modes 31=⟨[],.tr [],none,false⟩:=by unfold modes; rfl
def CY:SC:=(.seq (.reg [⟨some 2,none,.boxv 26 2 (.t 0)⟩,⟨some 4,none,.alloc 26 [(.int .i64 0),.nil]⟩,⟨some 5,none,.mv (.c (.bool false))⟩]) (.seq (.seq (.reg [⟨some 15,none,.load true 2 (.t 2)⟩,⟨some 16,none,.call 20 [(.t 15)]⟩,⟨some 17,none,.un .not (.t 16)⟩,⟨some 18,none,.mv (.t 17)⟩,⟨(some 19),(some (18,false)),(.mv (.t 1))⟩,⟨(some 20),(some (18,false)),(.len false (.t 19))⟩,⟨(some 21),(some (18,false)),(.faddr 0 (.t 2))⟩,⟨(some 22),(some (18,false)),(.load false 1 (.t 21))⟩,⟨(some 23),(some (18,false)),(.bin .neq false (.t 20) (.t 22))⟩,⟨some 24,none,.pick (.t 18) (.c (.bool true)) (.t 23)⟩]) (.cond (.t 24) (.seq (.reg [⟨some 25,none,.build [(.int .i64 0),.nil] []⟩,⟨none,none,(.store 2 (.t 4) (.t 25))⟩,⟨some 5,none,.mv (.c (.bool false))⟩]) .ret) .skip)) (.seq (.seq (.reg [⟨some 26,none,.faddr 0 (.t 2)⟩,⟨some 27,none,.load false 1 (.t 26)⟩,⟨some 28,none,.mv (.c (.int .i64 0))⟩]) (.block 0 (.loop [0,1,1,0,1,0,0,0,0,0,0,0,0,0,0,0,0,0,0,0,0,0,0,0,0,0,0,1,1,0,0,0,0,0,0,0,0,0,0,0,0,0,0,0,0,0,0,0,0,0,0,0,0,0,0,0,0,0,0,0,0,0,0,0,0,0,0,0,0,0,0,0,0,0,0,0,0,0,0,0,0,0,0,0,0,0,0,0,0,0,0,0,0,0,0,0,0,0,0,0,0,0,0] (.seq (.reg [⟨some 29,none,.bin .lss false (.t 28) (.t 27)⟩]) (.seq (.cond (.t 29) .skip (.exit 0)) (.seq (.block 1 (.seq (.reg [⟨some 30,none,.mv (.t 28)⟩,⟨some 6,none,.mv (.t 30)⟩]) (.seq (.reg [⟨some 31,none,.mv (.t 1)⟩,⟨some 32,none,.mv (.t 6)⟩,⟨some 33,none,.call 30 [(.t 31),(.t 32)]⟩,⟨some 34,none,.un .not (.t 33)⟩]) (.cond (.t 34) (.seq (.reg [⟨some 35,none,.build [(.int .i64 0),.nil] []⟩,⟨none,none,(.store 2 (.t 4) (.t 35))⟩,⟨some 5,none,.mv (.c (.bool false))⟩]) .ret) .skip)))) (.reg [⟨some 36,none,.bin .add false (.t 28) (.c (.int .i64 1))⟩,⟨some 28,none,.mv (.t 36)⟩]))))))) (.seq (.dreg [[],[0],[],[2],[3,2],[1,0,4,3,2],[],[6,5,1,0,4,3,2]] [⟨some 37,none,.faddr 0 (.t 2)⟩,⟨some 38,none,.load false 1 (.t 37)⟩,⟨some 39,none,.faddr 1 (.t 2)⟩,⟨some 40,none,.load false 1 (.t 39)⟩,⟨some 41,none,.call 31 [(.t 40)]⟩,⟨some 42,none,.build [(.int .i64 0),.nil] [(0,(1,(.t 38))),(1,(1,(.t 41)))]⟩,⟨some 7,none,.alloc 26 [(.int .i64 0),.nil]⟩,⟨none,none,(.store 2 (.t 7) (.t 42))⟩]) (.seq (.seq (.reg [⟨some 43,none,.faddr 1 (.t 2)⟩,⟨some 44,none,.load false 1 (.t 43)⟩,⟨some 45,none,.len false (.t 44)⟩,⟨some 46,none,.mv (.c (.int .i64 0))⟩]) (.block 2 (.loop [0,1,1,0,1,0,0,1,0,0,0,0,0,0,0,0,0,0,0,0,0,0,0,0,0,0,0,0,0,0,0,0,0,0,0,0,0,0,0,0,0,0,0,0,1,1,1,0,0,0,0,0,0,0,0,0,0,0,0,0,0,0,0,0,0,0,0,0,0,0,0,0,0,0,0,0,0,0,0,0,0,0,0,0,0,0,0,0,0,0,0,0,0,0,0,0,0,0,0,0,0,0,0] (.seq (.reg [⟨some 47,none,.bin .lss false (.t 46) (.t 45)⟩]) (.seq (.cond (.t 47) .skip (.exit 2)) (.seq (.block 3 (.seq (.reg [⟨some 48,none,.mv (.t 46)⟩,⟨some 49,none,.iaddr 4 (.t 44) (.t 46)⟩,⟨some 50,none,.load true 4 (.t 49)⟩,⟨(some 9),none,(.alloc 44 [(.str ⟨#[]⟩),(.int .i64 0),(.bool false),.nil])⟩,⟨some 8,none,.mv (.t 48)⟩,⟨none,none,(.store 4 (.t 9) (.t 50))⟩]) (.seq (.reg [⟨some 51,none,.faddr 3 (.t 9)⟩,⟨some 52,none,.load false 1 (.t 51)⟩,⟨some 53,none,.len false (.t 52)⟩,⟨some 54,none,.mv (.c (.int .i64 0))⟩]) (.block 4 (.loop [0,1,1,0,1,0,0,1,1,1,0,0,0,0,0,0,0,0,0,0,0,0,0,0,0,0,0,0,0,0,0,0,0,0,0,0,0,0,0,0,0,0,0,0,1,1,1,0,0,0,0,0,1,1,1,0,0,0,0,0,0,0,0,0,0,0,0,0,0,0,0,0,0,0,0,0,0,0,0,0,0,0,0,0,0,0,0,0,0,0,0,0,0,0,0,0,0,0,0,0,0,0,0] (.seq (.reg [⟨some 55,none,.bin .lss false (.t 54) (.t 53)⟩]) (.seq (.cond (.t 55) .skip (.exit 4)) (.seq (.block 5 (.seq (.reg [⟨some 56,none,.mv (.t 54)⟩,⟨some 57,none,.iaddr 1 (.t 52) (.t 54)⟩,⟨some 58,none,.load false 1 (.t 57)⟩,⟨some 10,none,.mv (.t 56)⟩,⟨some 11,none,.mv (.t 58)⟩]) (.seq (.reg [⟨some 59,none,.mv (.t 10)⟩,⟨some 12,none,.mv (.c (.int .i64 0))⟩,⟨some 13,none,.mv (.c (.int .i64 1))⟩,⟨some 14,none,.mv (.t 59)⟩]) (.seq (.seq (.reg [⟨some 60,none,.faddr 1 (.t 9)⟩,⟨some 61,none,.load false 1 (.t 60)⟩,⟨some 62,none,.mv (.c (.int .i64 0))⟩]) (.block 6 (.loop [0,1,1,0,1,0,0,1,1,1,0,1,1,1,1,0,0,0,0,0,0,0,0,0,0,0,0,0,0,0,0,0,0,0,0,0,0,0,0,0,0,0,0,0,1,1,1,0,0,0,0,0,1,1,1,0,0,0,0,0,0,1,1,0,0,0,0,0,0,0,0,0,0,0,0,0,0,0,0,0,0,0,0,0,0,0,0,0,0,0,0,0,0,0,0,0,0,0,0,0,0,0,0] (.seq (.reg [⟨some 63,none,.bin .lss false (.t 62) (.t 61)⟩]) (.seq (.cond (.t 63) .skip (.exit 6)) (.seq (.block 7 (.seq (.reg [⟨some 64,none,.mv (.t 12)⟩,⟨some 65,none,.mv (.t 13)⟩,⟨some 66,none,.mv (.t 1)⟩,⟨some 67,none,.mv (.t 14)⟩,⟨some 68,none,.faddr 0 (.t 2)⟩,⟨some 69,none,.load false 1 (.t 68)⟩,⟨some 70,none,.bin .rem false (.t 67) (.t 69)⟩,⟨some 71,none,.iaddr 1 (.t 66) (.t 70)⟩,⟨some 72,none,.load false 1 (.t 71)⟩,⟨some 73,none,.bin .mul false (.t 65) (.t 72)⟩,⟨some 74,none,.bin .add false (.t 64) (.t 73)⟩,⟨some 12,none,.mv (.t 74)⟩]) (.seq (.reg [⟨some 75,none,.mv (.t 13)⟩,⟨some 76,none,.faddr 0 (.t 2)⟩,⟨some 77,none,.load false 1 (.t 76)⟩,⟨some 78,none,.bin .mul false (.t 75) (.t 77)⟩,⟨some 13,none,.mv (.t 78)⟩]) (.reg [⟨some 79,none,.mv (.t 14)⟩,⟨some 80,none,.faddr 0 (.t 2)⟩,⟨some 81,none,.load false 1 (.t 80)⟩,⟨some 82,none,.bin .quo false (.t 79) (.t 81)⟩,⟨some 14,none,.mv (.t 82)⟩])))) (.reg [⟨some 83,none,.bin .add false (.t 62) (.c (.int .i64 1))⟩,⟨some 62,none,.mv (.t 83)⟩]))))))) (.seq (.seq (.reg [⟨some 84,none,.faddr 2 (.t 9)⟩,⟨some 85,none,.load false 1 (.t 84)⟩,⟨some 86,none,.un .not (.t 85)⟩]) (.cond (.t 86) (.reg [⟨some 87,none,.mv (.t 1)⟩,⟨some 88,none,.mv (.t 11)⟩,⟨some 89,none,.iaddr 1 (.t 87) (.t 88)⟩,⟨some 90,none,.load false 1 (.t 89)⟩,⟨some 11,none,.mv (.t 90)⟩]) .skip)) (.reg [⟨some 91,none,.faddr 1 (.t 7)⟩,⟨some 92,none,.load false 1 (.t 91)⟩,⟨some 93,none,.mv (.t 8)⟩,⟨some 94,none,.iaddr 4 (.t 92) (.t 93)⟩,⟨some 95,none,.faddr 3 (.t 94)⟩,⟨some 96,none,.load false 1 (.t 95)⟩,⟨some 97,none,.mv (.t 12)⟩,⟨some 98,none,.mv (.t 11)⟩,⟨some 99,none,.iaddr 1 (.t 96) (.t 97)⟩,⟨none,none,(.store 1 (.t 99) (.t 98))⟩])))))) (.reg [⟨some 100,none,.bin .add false (.t 54) (.c (.int .i64 1))⟩,⟨some 54,none,.mv (.t 100)⟩]))))))))) (.reg [⟨some 101,none,.bin .add false (.t 46) (.c (.int .i64 1))⟩,⟨some 46,none,.mv (.t 101)⟩]))))))) (.seq (.reg [⟨some 102,none,.load true 2 (.t 7)⟩,⟨none,none,(.store 2 (.t 4) (.t 102))⟩,⟨some 5,none,.mv (.c (.bool true))⟩]) .ret))))))
theorem DT:Aq Tryz.prog 10=some ⟨103,CY,[(.cell 4 true 2),(.tmp 5)]⟩:=by kernel_rfl
theorem AR:modes 10=⟨[],.tr [none,some (44,4),none],none,false⟩:=by unfold modes; rfl
theorem Xp (xs:List Int) (n:Int) (hl:xs.length≤1099511627776):E 68 [.arr (xs.map fun s=>[D.int s]),.int .i64 n] []=some (.int .i64 (Cw (fun s=>dec (n=s)) xs 0),[]):=by
 refine Al I1 Fl (of_decide_eq_true rfl) ?_
 simp (disch:=omega) only [Fk,go_sem,Ab]
 refine go_loop (α:=Int) (fun a=>⟨slots 19 0 [(0,.arr (xs.map fun s=>[D.int s])),(1,.int .i64 n),(7,.int .i64 xs.length),(8,.int .i64 a)],[]⟩) (fun a=>∃ k:Nat,a=k∧k≤(xs).length∧Cw (fun s=>dec (n=s)) (xs.drop k) a=Cw (fun s=>dec (n=s)) xs 0) (fun a=>(xs).length-(a).toNat) 0 ⟨0,rfl,zJ _,by rw [zI]⟩ (by simp (disch:=omega) only [go_sem,Ab]) ?_
 rintro i ⟨k,hi,hk,hR⟩
 have hni:i.toNat=k:=by omega
 have hni1:(i+1).toNat=k+1:=by omega
 rcases zC k (xs).length with hlt | hge
 ·have hg:=get_at (fun s=>[D.int s]) hlt
  rw [zB hlt,Cw] at hR
  cases hp:dec (n=xs[k]) with
  | true =>
   rw [hp] at hR
   simp (disch:=omega) only [go_sem,Ab,hni,hg,hp]
   simpa using hR
  | false =>
   rw [hp] at hR
   simp (disch:=omega) only [go_sem,Ab,hni,hg,hp]
   exact ⟨i+1,⟨k+1,by omega,hlt,by simpa using hR⟩,by omega,by first | trivial | rfl⟩
 ·rw [zG hge,Cw] at hR
  simp (disch:=omega) only [go_sem,Ab,hni]
  exact hR
theorem RY (xs:List Int) (n:Int) (hl:xs.length≤1099511627776):E 30 [.arr (xs.map fun s=>[D.int s]),.int .i64 n] []=some (.bool (dec (n∈xs)),[]):=by
 have h:=Xp xs n hl
 have e:dec (n∈xs)=dec (0≤Cw (fun s=>dec (n=s)) xs 0):=by
  rw [EZ]
  by_cases hm:n∈xs
  ·rw [Aw hm]
   exact (yS.2 ⟨n,hm,Aw rfl⟩).symm
  ·rw [Aj hm]
   refine Eq.symm (yB.2 fun h=>?_)
   obtain ⟨x,h1,h2⟩:=yS.1 h
   have e:=Ar.1 h2
   subst e
   exact hm h1
 rw [e]
 refine Al GW Dd (of_decide_eq_true rfl) ?_
 simp (disch:=omega) only [Ew,go_sem,Ab,h,Fl]
theorem Xq (xs:List Int) (h:xs.length≤1048576):E 69 [.arr (xs.map fun s=>[D.int s])] []=some (.ref 0,[.row 3 1 (xs.map fun s=>[OT.int s])]):=by
 rw [Qt (g:=LR) (by unfold modes; rfl)]
 unfold LR
 simp only
 rw [Aw ⟨fun e he=>by obtain ⟨s,_,rfl⟩:=yI.1 he; exact ⟨s,rfl⟩,by simpa using h⟩,cond_true,y7]
 rfl
theorem I3:modes 69=⟨[],.asis,some LR,false⟩:=by unfold modes; rfl
theorem QA (ts:List Tl) (hl:ts.length≤1048576) (hv:∀ t∈ts,t.vals.length≤1048576):E 31 [.arr (ts.map Tl.d)] []=some (.ref 0,[.tree (ts.map Tl.o) []]):=by
 refine Al Ly Hp (of_decide_eq_true rfl) ?_
 simp (disch:=omega) only [Ho,go_sem,Ab]
 refine go_loop (α:=Int) (fun a=>⟨slots 23 0 [(3,.ref 0),(7,.arr (ts.map Tl.d)),(8,.int .i64 ts.length),(9,.int .i64 a)],[.row 44 4 ((ts.take a.toNat).map Tl.o)]⟩) (fun a=>∃ k:Nat,a=k∧k≤(ts).length) (fun a=>(ts).length-(a).toNat) 0 ⟨0,rfl,zJ _⟩ (by simp (disch:=omega) only [go_sem,Ab]) ?_
 rintro i ⟨k,hi,hk⟩
 have hni:i.toNat=k:=by omega
 have hni1:(i+1).toNat=k+1:=by omega
 rcases zC k (ts).length with hlt | hge
 ·have hg:=get_at Tl.d hlt
  rw [Tl.d_eq] at hg
  have hc:=Xq ts[k].vals (hv _ (zF hlt))
  have hs:=NU Tl.o hlt
  rw [Tl.o_eq] at hs
  have htl:(ts.take k).length=k:=by rw [z6]; omega
  simp (disch:=omega) only [go_sem,Ab,hni,hg,hc,htl,I3]
  refine ⟨i+1,⟨k+1,by omega,hlt⟩,by omega,?_⟩
  simp (disch:=omega) only [go_sem,Ab,hni1,hs]
 ·obtain rfl:k=ts.length:=by omega
  have ht:ts.take ts.length=ts:=yK
  simp (disch:=omega) only [go_sem,Ab,hni,ht,order,toTree]
def Lz (s:Int) (p:List Int) (ts:List Tl) (k:Nat) (t:Tl) (j:Nat):List Tl:=(ts.take k).map (Tl.rn s p)++⟨t.name,t.arity,t.pred,KC s p t j⟩ :: ts.drop (k+1)
theorem Xr {s:Int} {p:List Int} {ts:List Tl} {k:Nat} {t:Tl} {j:Nat} (h:k<ts.length):(Lz s p ts k t j).length=ts.length:=by
 unfold Lz
 simp
 omega
theorem Zg {s:Int} {p:List Int} {ts:List Tl} {k:Nat} {t:Tl} {j:Nat} (h:k<ts.length):((Lz s p ts k t j).map Tl.o)[k]?=some [OT.str t.name,OT.int t.arity,OT.bool t.pred,OT.ow ((KC s p t j).map fun n=>[OT.int n])]:=by
 have hl:((ts.take k).map (Tl.rn s p)).length=k:=by rw [yA,z6]; omega
 unfold Lz
 rw [zV,List.getElem?_append_right (by omega),hl,Nat.sub_self]
 rfl
theorem Xs {s:Int} {p:List Int} {ts:List Tl} {k:Nat} {t:Tl} {j:Nat} (h:k<ts.length):((Lz s p ts k t j).map Tl.o).set k [OT.str t.name,OT.int t.arity,OT.bool t.pred,OT.ow (((KC s p t j).map fun n=>[OT.int n]).set (dg s (pf p) t.arity.toNat j).toNat [OT.int (IH p t (t.vals.getD j 0))])]=(Lz s p ts k t (j+1)).map Tl.o:=by
 have hl:((ts.take k).map (Tl.rn s p)).length=k:=by rw [yA,z6]; omega
 have e:((KC s p t j).map fun n=>[OT.int n]).set (dg s (pf p) t.arity.toNat j).toNat [OT.int (IH p t (t.vals.getD j 0))]=(KC s p t (j+1)).map fun n=>[OT.int n]:=by
  show _=((LX _ _ (j+1) t.vals).map fun n=>[OT.int n])
  rw [LX,List.map_set]
  rfl
 rw [e]
 unfold Lz
 have h:=R8 Tl.o ((ts.take k).map (Tl.rn s p)) (ts.drop (k+1)) ⟨t.name,t.arity,t.pred,KC s p t j⟩ ⟨t.name,t.arity,t.pred,KC s p t (j+1)⟩ hl
 rw [List.append_assoc] at h
 exact h
theorem V3 {s:Int} {p:List Int} {ts:List Tl} {k:Nat} (h:k<ts.length):Lz s p ts k ts[k] 0=(ts.take k).map (Tl.rn s p)++ts.drop k:=by
 unfold Lz
 rw [zB h]
 rfl
theorem Xt {s:Int} {p:List Int} {ts:List Tl} {k:Nat} (h:k<ts.length) (e:KC s p ts[k] ts[k].vals.length=(ts[k].rn s p).vals):Lz s p ts k ts[k] ts[k].vals.length=(ts.take (k+1)).map (Tl.rn s p)++ts.drop (k+1):=by
 unfold Lz
 rw [e,zW h,yH,List.append_assoc]
 rfl
theorem Xu (s:Int) (p:List Int) (t:Tl) (k:Nat):(KC s p t k).length=t.vals.length:=Jm _ _ _ _
theorem FG (p:List Int) (t:Tl) (v:Int):IH p t v=bif t.pred then v else pf p v:=rfl
theorem HZ (m:Ip) (ht:m.tame) (hb:m.tables.length≤1048576∧∀ t∈m.tables,t.vals.length≤1048576) (p:List Int) (hp:p.length≤1048576):E 10 [m.sv,.arr (p.map fun s=>[D.int s])] []=some (.tup [.agg [.int .i64 (H2 m p).size,.ref 0],.bool (Ge m p)],[.tree ((H2 m p).tables.map Tl.o) []]):=by
 have h1:=ES m ht
 cases hm:m.ok with
 | false =>
  rw [hm] at h1
  have e:Ge m p=false:=by unfold Ge; rw [hm,zA]
  unfold H2
  rw [e,cond_false]
  show E _ _ _=some (SV.tup [.agg [.int .i64 0,.ref 0],.bool false],[Ob.tree [] []])
  refine Al DT AR (of_decide_eq_true rfl) ?_
  simp (disch:=omega) only [CY,go_sem,Ab,h1,A6,order,toTree]
  try first | rfl | exact ⟨rfl,rfl⟩
 | true =>
 rw [hm] at h1
 obtain ⟨⟨s1,s3⟩,htb,hvb⟩:=Ip.Cx hm
 cases hpl:dec ((p.length:Int)=m.size) with
 | false =>
  have e:Ge m p=false:=by unfold Ge KB; rw [hpl,zA,zK]
  unfold H2
  rw [e,cond_false]
  show E _ _ _=some (SV.tup [.agg [.int .i64 0,.ref 0],.bool false],[Ob.tree [] []])
  have hpl':((p.length:Int)=m.size)=False:=eq_false fun h=>by rw [Aw h] at hpl; cases hpl
  refine Al DT AR (of_decide_eq_true rfl) ?_
  simp (disch:=omega) only [CY,go_sem,Ab,h1,hpl,hpl',A6,order,toTree]
  try first | rfl | exact ⟨rfl,rfl⟩
 | true =>
 have hpl':((p.length:Int)=m.size)=True:=eq_true (Ar.1 hpl)
 have hps:(p.length:Int)=m.size:=Ar.1 hpl
 have hct:=QA m.tables hb.1 hb.2
 obtain ⟨r,hr⟩:∃ r,r=H2 m p:=⟨_,rfl⟩
 obtain ⟨o,ho⟩:∃ o,o=Ge m p:=⟨_,rfl⟩
 rw [←hr,← ho]
 refine Al DT AR (of_decide_eq_true rfl) ?_
 simp (disch:=omega) only [CY,go_sem,Ab,h1,hpl,hpl',A6,order,toTree]
 refine go_loop (α:=Int) (fun i=>⟨slots 103 0 [(1,.arr (p.map fun s=>[D.int s])),(2,.ptr 0 0),(4,.ptr 1 0),(27,.int .i64 m.size),(28,.int .i64 i)],[.box 26 [.int .i64 m.size,.arr (m.tables.map Tl.d)],.box 26 [.int .i64 0,.nil]]⟩) (fun i=>∃ k:Nat,i=k∧k≤p.length∧∀ q,q<k→((q:Nat):Int)∈p) (fun i=>p.length-i.toNat) 0 ⟨0,rfl,zJ _,fun q hq=>by omega⟩ (by simp (disch:=omega) only [go_sem,Ab]) ?_
 rintro i ⟨k,hi,hk,hR⟩
 have hcn:=RY p i (by omega)
 rcases zC k p.length with hlt | hge
 ·cases hc:dec (i∈p) with
  | false =>
   rw [hc] at hcn
   have e:Ge m p=false:=by
    unfold Ge KB
    rw [hpl,zD,hm,zD]
    refine yB.2 fun h=>?_
    have:=zL.1 h k (xC.2 hlt)
    rw [←hi,hc] at this
    cases this
   have e2:r=⟨0,[]⟩:=by rw [hr]; unfold H2; rw [e]; rfl
   have e3:r.size=0:=by rw [e2]
   have e4:r.tables=[]:=by rw [e2]
   rw [ho,e,e3,e4,zR]
   simp (disch:=omega) only [go_sem,Ab,hcn,Dd,order,toTree]
   try first | rfl | exact ⟨rfl,rfl⟩
  | true =>
   rw [hc] at hcn
   simp (disch:=omega) only [go_sem,Ab,hcn,Dd,order,toTree]
   exact ⟨i+1,⟨k+1,by omega,hlt,fun q hq=>by
    by_cases e:q=k
    ·subst e; rw [←hi]; exact Ar.1 hc
    ·exact hR q (by omega)⟩,by omega,by first | trivial | rfl | exact ⟨rfl,rfl⟩⟩
 ·obtain rfl:k=p.length:=by omega
  have hprm:KB m.size p=true:=by
   unfold KB
   rw [hpl,zD,zL]
   exact fun q hq=>Aw (hR q (xC.1 hq))
  have e:Ge m p=true:=by unfold Ge; rw [hm,hprm]; rfl
  have e2:r=m.rn p:=by rw [hr]; unfold H2; rw [e]; rfl
  rw [e] at ho
  have e3:r.size=m.size:=by rw [e2]; rfl
  have e4:r.tables=m.tables.map (Tl.rn m.size p):=by rw [e2]; rfl
  rw [ho,e3,e4]
  clear hR hcn
  obtain ⟨_,hon,_,_⟩:=LY s3 hprm
  simp (disch:=omega) only [go_sem,Ab,hct,Hp]
  refine go_loop (α:=Int) (fun i=>⟨slots 103 0 [(1,.arr (p.map fun s=>[D.int s])),(2,.ptr 0 0),(4,.ptr 1 0),(7,.ptr 2 0),(44,.arr (m.tables.map Tl.d)),(45,.int .i64 m.tables.length),(46,.int .i64 i)],[.box 26 [.int .i64 m.size,.arr (m.tables.map Tl.d)],.box 26 [.int .i64 0,.nil],.box 26 [.int .i64 m.size,.ref 3],.tree (((m.tables.take i.toNat).map (Tl.rn m.size p)++m.tables.drop i.toNat).map Tl.o) []]⟩) (fun i=>∃ k:Nat,i=k∧k≤m.tables.length) (fun i=>m.tables.length-i.toNat) 0 ⟨0,rfl,zJ _⟩ (by simp (disch:=omega) only [go_sem,Ab,yP,List.take_zero,zR,zI,yZ]) ?_
  rintro i ⟨k,hi,hk⟩
  have hni:i.toNat=k:=by omega
  have hni1:(i+1).toNat=k+1:=by omega
  rcases zC k m.tables.length with hlt | hge
  ·have hg:=get_at Tl.d hlt
   rw [Tl.d_eq] at hg
   have hmz:=V3 (s:=m.size) (p:=p) hlt
   have hta:=FT htb (zF hlt)
   have hvl:=zL.1 hvb _ (zF hlt)
   unfold tlB at hvl
   rw [zE,Ar,zL] at hvl
   have hpe:=WZ (t:=m.tables[k]) s1 s3 hprm hvl.1
   have hme:=Xt hlt hpe
   have hvb2:=hb.2 _ (zF hlt)
   obtain ⟨t,htt⟩:∃ t,t=m.tables[k]:=⟨_,rfl⟩
   rw [←htt] at hg hmz hta hvl hme hvb2
   clear hpe htt
   simp (disch:=omega) only [go_sem,Ab,hni,hg]
   refine go_loop (α:=Int) (fun n=>⟨slots 103 0 [(1,.arr (p.map fun s=>[D.int s])),(2,.ptr 0 0),(4,.ptr 1 0),(7,.ptr 2 0),(8,.int .i64 i),(9,.ptr 3 0),(44,.arr (m.tables.map Tl.d)),(45,.int .i64 m.tables.length),(46,.int .i64 i),(52,.arr (t.vals.map fun n=>[D.int n])),(53,.int .i64 t.vals.length),(54,.int .i64 n)],[.box 26 [.int .i64 m.size,.arr (m.tables.map Tl.d)],.box 26 [.int .i64 0,.nil],.box 26 [.int .i64 m.size,.ref 4],.box 44 [.str t.name,.int .i64 t.arity,.bool t.pred,.arr (t.vals.map fun n=>[D.int n])],.tree ((Lz m.size p m.tables k t n.toNat).map Tl.o) []]⟩) (fun n=>∃ j:Nat,n=j∧j≤t.vals.length) (fun n=>t.vals.length-n.toNat) 0 ⟨0,rfl,zJ _⟩ (by simp (disch:=omega) only [go_sem,Ab,hni,hmz,yP]) ?_
   rintro n ⟨j,hn,hj⟩
   have hnn:n.toNat=j:=by omega
   have hnn1:(n+1).toNat=j+1:=by omega
   rcases zC j t.vals.length with hjl | hjg
   ·have hgv:=get_at (fun n=>[D.int n]) hjl
    have hvr:=Dk.1 (hvl.2 t.vals[j] (zF hjl))
    have hdr:=El s1 hon t.arity.toNat n (by omega) (by omega)
    have hP3:=Dl s1 s3 (k:=t.arity.toNat) (by omega)
    simp (disch:=omega) only [go_sem,Ab,hnn,hgv]
    refine go_loop (α:=Int × Int × Int × Int) (fun a=>⟨slots 103 0 [(1,.arr (p.map fun s=>[D.int s])),(2,.ptr 0 0),(4,.ptr 1 0),(7,.ptr 2 0),(8,.int .i64 i),(9,.ptr 3 0),(11,.int .i64 t.vals[j]),(12,.int .i64 a.2.1),(13,.int .i64 a.2.2.1),(14,.int .i64 a.2.2.2),(44,.arr (m.tables.map Tl.d)),(45,.int .i64 m.tables.length),(46,.int .i64 i),(52,.arr (t.vals.map fun n=>[D.int n])),(53,.int .i64 t.vals.length),(54,.int .i64 n),(61,.int .i64 t.arity),(62,.int .i64 a.1)],[.box 26 [.int .i64 m.size,.arr (m.tables.map Tl.d)],.box 26 [.int .i64 0,.nil],.box 26 [.int .i64 m.size,.ref 4],.box 44 [.str t.name,.int .i64 t.arity,.bool t.pred,.arr (t.vals.map fun n=>[D.int n])],.tree ((Lz m.size p m.tables k t j).map Tl.o) []]⟩) (fun a=>∃ d:Nat,a.1=d∧(d:Int)≤t.arity∧1≤a.2.2.1∧a.2.2.1*pw m.size (t.arity.toNat-d)=pw m.size t.arity.toNat∧0≤a.2.1∧a.2.1<a.2.2.1∧0≤a.2.2.2∧a.2.2.2<pw m.size (t.arity.toNat-d)∧a.2.1+a.2.2.1*dg m.size (pf p) (t.arity.toNat-d) a.2.2.2=dg m.size (pf p) t.arity.toNat n) (fun a=>t.arity.toNat-a.1.toNat) (0,0,1,n) ⟨0,rfl,by (try dsimp only); omega,by (try dsimp only); omega,by (try dsimp only); rw [zO,zZ],by (try dsimp only); omega,by (try dsimp only); omega,by (try dsimp only); omega,by (try dsimp only); rw [zO]; omega,by (try dsimp only); rw [zO,zZ,yC]⟩ (by simp (disch:=omega) only [go_sem,Ab]) ?_
    rintro ⟨d,a,w,u⟩ ⟨d0,hd,hda,hw1,hwp,ha0,haw,hu0,hup,hD⟩
    dsimp only at hd hda hw1 hwp ha0 haw hu0 hup hD
    rcases yG d t.arity with hdl | hdg
    ·obtain ⟨b,hbb⟩:∃ b,t.arity.toNat-d0=b+1:=⟨t.arity.toNat-d0-1,by omega⟩
     have hb2:t.arity.toNat-(d0+1)=b:=by omega
     rw [hbb,pw] at hwp hup
     rw [hbb,Ls] at hD
     obtain ⟨u0,u1,m0,m1⟩:=Jl s1 hu0 hup
     obtain ⟨q0,q1⟩:=hon _ m0 m1
     have hpb:=Dl s1 s3 (k:=b) (by omega)
     have hws:w*m.size*pw m.size b=pw m.size t.arity.toNat:=by rw [←hwp,yU,yJ m.size]
     have k1:=z8 (show 0≤w by omega) q0
     have k2:w*(pf p (u.tmod m.size)+1)≤w*m.size:=zH (by omega) (by omega)
     rw [y6,yE] at k2
     have k3:w*m.size*1≤w*m.size*pw m.size b:=zH (by omega) (by omega)
     rw [yE,hws] at k3
     have hmi:(u.tmod m.size).toNat<p.length:=by omega
     have hgp:=get_at (fun s=>[D.int s]) hmi
     have hpfe:p[(u.tmod m.size).toNat]=pf p (u.tmod m.size):=(CH hmi).symm
     rw [hpfe] at hgp
     have hsz0:m.size≠0:=by omega
     simp (disch:=omega) only [go_sem,Ab,hgp,hsz0]
     refine ⟨(d+1,a+w*pf p (u.tmod m.size),w*m.size,u.tdiv m.size),⟨d0+1,by dsimp only; omega,by omega,by dsimp only; omega,by dsimp only; rw [hb2]; exact hws,by dsimp only; omega,by dsimp only; omega,u0,by dsimp only; rw [hb2]; exact u1,by dsimp only; rw [hb2]; exact hD⟩,by dsimp only; omega,?_⟩
     first | trivial | rfl | exact ⟨rfl,rfl⟩
    ·have hz:t.arity.toNat-d0=0:=by omega
     rw [hz,dg,y2,y3] at hD
     have hel:=Xr (s:=m.size) (p:=p) (t:=t) (j:=j) hlt
     have hga:=Zg (s:=m.size) (p:=p) (t:=t) (j:=j) hlt
     have hset:=Xs (s:=m.size) (p:=p) (t:=t) (j:=j) hlt
     have hpvl:=Xu m.size p t j
     rw [←hn,← hD] at hset
     have hin:a.toNat<t.vals.length:=by omega
     have hgs:∀ x,((List.map Tl.o (Lz m.size p m.tables k t j)).set k x)[k]?=some x:=fun x=>List.getElem?_set_self (by rw [yA,hel]; exact hlt)
     have hgv2:=get_at (fun s=>[OT.int s]) (xs:=KC m.size p t j) (k:=a.toNat) (by omega)
     have hgd:t.vals.getD j 0=t.vals[j]:=CH hjl
     rw [hgd] at hset
     cases hpr:t.pred with
     | true =>
      rw [FG,hpr,cond_true] at hset
      rw [hpr] at hga
      simp (disch:=omega) only [go_sem,Ab,hni,hnn,hpr,hga,hel,hgs,hgv2,hpvl,List.length_set,y8]
      refine ⟨n+1,⟨j+1,by omega,hjl⟩,by omega,?_⟩
      simp (disch:=omega) only [go_sem,Ab,hnn1,hset,y8]
     | false =>
      rw [FG,hpr,cond_false] at hset
      rw [hpr] at hga
      unfold kinds at hvr
      rw [hpr,if_neg (by simp)] at hvr
      have hmi:(t.vals[j]).toNat<p.length:=by omega
      have hgp:=get_at (fun s=>[D.int s]) hmi
      have hpfe:p[(t.vals[j]).toNat]=pf p t.vals[j]:=(CH hmi).symm
      rw [hpfe] at hgp
      simp (disch:=omega) only [go_sem,Ab,hni,hnn,hpr,hgp,hga,hel,hgs,hgv2,hpvl,List.length_set,y8]
      refine ⟨n+1,⟨j+1,by omega,hjl⟩,by omega,?_⟩
      simp (disch:=omega) only [go_sem,Ab,hnn1,hset,y8]
   ·obtain rfl:j=t.vals.length:=by omega
    simp (disch:=omega) only [go_sem,Ab,hnn,hme]
    refine ⟨i+1,⟨k+1,by omega,hlt⟩,by omega,?_⟩
    simp (disch:=omega) only [go_sem,Ab,hni1,hme]
  ·obtain rfl:k=m.tables.length:=by omega
   have ht1:m.tables.take m.tables.length=m.tables:=yK
   have ht2:m.tables.drop m.tables.length=[]:=List.drop_length
   simp (disch:=omega) only [go_sem,Ab,hni,ht1,ht2,List.append_nil,order,toTree]
   try first | rfl | exact ⟨rfl,rfl⟩
def L1:SC:=(.seq (.reg [⟨some 4,none,.mv (.c (.bool false))⟩]) (.seq (.seq (.reg [⟨some 5,none,.mv (.c (.int .i64 0))⟩]) (.block 0 (.loop [1,1,0,0,0,1,0,0,0,0,0,0,0,0,0,0,0,0] (.seq (.seq (.reg [⟨some 6,none,.mv (.t 5)⟩,⟨some 7,none,.mv (.t 0)⟩,⟨some 8,none,.len false (.t 7)⟩,⟨some 9,none,.bin .lss false (.t 6) (.t 8)⟩]) (.cond (.t 9) .skip (.exit 0))) (.seq (.block 1 (.seq (.reg [⟨some 12,none,.mv (.t 0)⟩,⟨some 13,none,.mv (.t 5)⟩,⟨some 14,none,.iaddr 1 (.t 12) (.t 13)⟩,⟨some 15,none,.load false 1 (.t 14)⟩,⟨some 16,none,.mv (.t 1)⟩,⟨some 17,none,.bin .eql false (.t 15) (.t 16)⟩]) (.cond (.t 17) (.seq (.reg [⟨some 4,none,.mv (.c (.bool true))⟩]) .ret) .skip))) (.reg [⟨some 10,none,.mv (.t 5)⟩,⟨some 11,none,.bin .add false (.t 10) (.c (.int .i64 1))⟩,⟨some 5,none,.mv (.t 11)⟩])))))) (.seq (.reg [⟨some 4,none,.mv (.c (.bool false))⟩]) .ret)))
theorem QB:Aq Tryz.prog 33=some ⟨18,L1,[(.tmp 4)]⟩:=by kernel_rfl
theorem Gt:modes 33=⟨[],.asis,none,false⟩:=by unfold modes; rfl
def CZ:SC:=(.seq (.reg [⟨some 2,none,.boxv 26 2 (.t 0)⟩,⟨some 4,none,.alloc 26 [(.int .i64 0),.nil]⟩,⟨some 5,none,.mv (.c (.bool false))⟩]) (.seq (.seq (.reg [⟨some 18,none,.load true 2 (.t 2)⟩,⟨some 19,none,.call 24 [(.t 18)]⟩,⟨some 20,none,.un .not (.t 19)⟩,⟨some 21,none,.mv (.t 20)⟩,⟨(some 22),(some (21,false)),(.mv (.t 1))⟩,⟨(some 23),(some (21,false)),(.len false (.t 22))⟩,⟨(some 24),(some (21,false)),(.faddr 0 (.t 2))⟩,⟨(some 25),(some (21,false)),(.load false 1 (.t 24))⟩,⟨(some 26),(some (21,false)),(.bin .neq false (.t 23) (.t 25))⟩,⟨some 27,none,.pick (.t 21) (.c (.bool true)) (.t 26)⟩]) (.cond (.t 27) (.seq (.reg [⟨some 28,none,.build [(.int .i64 0),.nil] []⟩,⟨none,none,(.store 2 (.t 4) (.t 28))⟩,⟨some 5,none,.mv (.c (.bool false))⟩]) .ret) .skip)) (.seq (.reg [⟨some 29,none,.faddr 0 (.t 2)⟩,⟨some 30,none,.load false 1 (.t 29)⟩,⟨some 31,none,.mkslice 3 1 8 [(.int .i64 0)] (.t 30)⟩,⟨some 6,none,.mv (.t 31)⟩]) (.seq (.seq (.reg [⟨some 7,none,.mv (.c (.int .i64 0))⟩]) (.block 0 (.loop [0,1,1,0,1,0,1,1,0,0,0,0,0,0,0,0,0,0,0,0,0,0,0,0,0,0,0,0,0,0,0,0,0,0,0,0,0,0,0,0,0,0,0,0,0,0,0,0,0,0,0,0,0,0,0,0,0,0,0,0,0,0,0,0,0,0,0,0,0,0,0,0,0,0,0,0,0,0,0,0,0,0,0,0,0,0,0,0,0,0,0,0,0,0,0,0,0,0,0,0,0,0,0,0,0,0,0,0,0,0,0,0,0,0,0,0,0,0,0,0,0,0,0,0,0,0,0,0,0,0,0,0,0,0,0,0,0,0,0,0,0,0,0,0,0] (.seq (.seq (.reg [⟨some 32,none,.mv (.t 7)⟩,⟨some 33,none,.faddr 0 (.t 2)⟩,⟨some 34,none,.load false 1 (.t 33)⟩,⟨some 35,none,.bin .lss false (.t 32) (.t 34)⟩]) (.cond (.t 35) .skip (.exit 0))) (.seq (.block 1 (.seq (.seq (.dreg [[],[],[0,1],[2,0,1],[],[4],[5,4],[3,2,0,1,6,5,4],[7,3,2,0,1,6,5,4],[8,7,3,2,0,1,6,5,4],[9,8,7,3,2,0,1,6,5,4],[9,8,7,3,2,0,1,6,5,4],[10,9,8,7,3,2,0,1,6,5,4,11],[9,8,7,3,2,0,1,6,5,4],[9,8,7,3,2,0,1,6,5,4],[13,9,8,7,3,2,0,1,6,5,4,14],[15,13,9,8,7,3,2,0,1,6,5,4,14],[12,10,9,8,7,3,2,0,1,6,5,4,11,16,15,13,14],[9,8,7,3,2,0,1,6,5,4,17,12,10,11,16,15,13,14]] [⟨some 38,none,.mv (.t 1)⟩,⟨some 39,none,.mv (.t 7)⟩,⟨some 40,none,.iaddr 1 (.t 38) (.t 39)⟩,⟨some 41,none,.load false 1 (.t 40)⟩,⟨some 42,none,.faddr 0 (.t 2)⟩,⟨some 43,none,.load false 1 (.t 42)⟩,⟨some 44,none,.bin .sub false (.t 43) (.c (.int .i64 1))⟩,⟨some 45,none,.call 32 [(.t 41),(.c (.int .i64 0)),(.t 44)]⟩,⟨some 46,none,.un .not (.t 45)⟩,⟨some 47,none,.mv (.t 46)⟩,⟨(some 48),(some (47,false)),(.mv (.t 1))⟩,⟨(some 49),(some (47,false)),(.mv (.t 7))⟩,⟨(some 50),(some (47,false)),(.slice false 1 (.t 48) none (some (.t 49)))⟩,⟨(some 51),(some (47,false)),(.mv (.t 1))⟩,⟨(some 52),(some (47,false)),(.mv (.t 7))⟩,⟨(some 53),(some (47,false)),(.iaddr 1 (.t 51) (.t 52))⟩,⟨(some 54),(some (47,false)),(.load false 1 (.t 53))⟩,⟨(some 55),(some (47,false)),(.call 33 [(.t 50),(.t 54)])⟩,⟨some 56,none,.pick (.t 47) (.c (.bool true)) (.t 55)⟩]) (.cond (.t 56) (.seq (.reg [⟨some 57,none,.build [(.int .i64 0),.nil] []⟩,⟨none,none,(.store 2 (.t 4) (.t 57))⟩,⟨some 5,none,.mv (.c (.bool false))⟩]) .ret) .skip)) (.reg [⟨some 58,none,.mv (.t 6)⟩,⟨some 59,none,.mv (.t 1)⟩,⟨some 60,none,.mv (.t 7)⟩,⟨some 61,none,.iaddr 1 (.t 59) (.t 60)⟩,⟨some 62,none,.load false 1 (.t 61)⟩,⟨some 63,none,.mv (.t 7)⟩,⟨some 64,none,.iaddr 1 (.t 58) (.t 62)⟩,⟨none,none,(.store 1 (.t 64) (.t 63))⟩]))) (.reg [⟨some 36,none,.mv (.t 7)⟩,⟨some 37,none,.bin .add false (.t 36) (.c (.int .i64 1))⟩,⟨some 7,none,.mv (.t 37)⟩])))))) (.seq (.reg [⟨some 65,none,.faddr 0 (.t 2)⟩,⟨some 66,none,.load false 1 (.t 65)⟩,⟨some 67,none,.build [(.int .i64 0),.nil] [(0,(1,(.t 66)))]⟩,⟨some 8,none,.alloc 26 [(.int .i64 0),.nil]⟩,⟨none,none,(.store 2 (.t 8) (.t 67))⟩]) (.seq (.seq (.reg [⟨some 9,none,.mv (.c (.int .i64 0))⟩]) (.block 2 (.loop [0,1,1,0,1,0,1,0,1,1,0,0,0,0,0,0,0,0,0,0,0,0,0,0,0,0,0,0,0,0,0,0,0,0,0,0,0,0,0,0,0,0,0,0,0,0,0,0,0,0,0,0,0,0,0,0,0,0,0,0,0,0,0,0,0,0,0,0,0,0,0,0,0,0,0,0,0,0,0,0,0,0,0,0,0,0,0,0,0,0,0,0,0,0,0,0,0,0,0,0,0,0,0,0,0,0,0,0,0,0,0,0,0,0,0,0,0,0,0,0,0,0,0,0,0,0,0,0,0,0,0,0,0,0,0,0,0,0,0,0,0,0,0,0,0] (.seq (.seq (.reg [⟨some 68,none,.mv (.t 9)⟩,⟨some 69,none,.faddr 1 (.t 2)⟩,⟨some 70,none,.load false 1 (.t 69)⟩,⟨some 71,none,.len false (.t 70)⟩,⟨some 72,none,.bin .lss false (.t 68) (.t 71)⟩]) (.cond (.t 72) .skip (.exit 2))) (.seq (.block 3 (.seq (.reg [⟨some 75,none,.faddr 1 (.t 2)⟩,⟨some 76,none,.load false 1 (.t 75)⟩,⟨some 77,none,.mv (.t 9)⟩,⟨some 78,none,.iaddr 4 (.t 76) (.t 77)⟩,⟨some 79,none,.load true 4 (.t 78)⟩,⟨(some 10),none,(.alloc 44 [(.str ⟨#[]⟩),(.int .i64 0),(.bool false),.nil])⟩,⟨none,none,(.store 4 (.t 10) (.t 79))⟩]) (.seq (.reg [⟨some 80,none,.faddr 0 (.t 10)⟩,⟨some 81,none,.load false 1 (.t 80)⟩,⟨some 82,none,.faddr 1 (.t 10)⟩,⟨some 83,none,.load false 1 (.t 82)⟩,⟨some 84,none,.faddr 2 (.t 10)⟩,⟨some 85,none,.load false 1 (.t 84)⟩,⟨(some 86),none,(.build [(.str ⟨#[]⟩),(.int .i64 0),(.bool false),.nil] [(0,(1,(.t 81))),(1,(1,(.t 83))),(2,(1,(.t 85)))])⟩,⟨(some 11),none,(.alloc 44 [(.str ⟨#[]⟩),(.int .i64 0),(.bool false),.nil])⟩,⟨none,none,(.store 4 (.t 11) (.t 86))⟩]) (.seq (.seq (.reg [⟨some 12,none,.mv (.c (.int .i64 0))⟩]) (.block 4 (.loop [0,1,1,0,1,0,1,0,1,1,1,1,1,0,0,0,0,0,0,0,0,0,0,0,0,0,0,0,0,0,0,0,0,0,0,0,0,0,0,0,0,0,0,0,0,0,0,0,0,0,0,0,0,0,0,0,0,0,0,0,0,0,0,0,0,0,0,0,0,0,0,0,0,0,0,0,0,0,0,0,0,0,0,0,0,0,0,0,0,0,0,0,0,0,0,0,0,0,0,0,0,0,0,0,0,0,0,0,0,0,0,0,0,0,0,0,0,0,0,0,0,0,0,0,0,0,0,0,0,0,0,0,0,0,0,0,0,0,0,0,0,0,0,0,0] (.seq (.seq (.reg [⟨some 87,none,.mv (.t 12)⟩,⟨some 88,none,.faddr 3 (.t 10)⟩,⟨some 89,none,.load false 1 (.t 88)⟩,⟨some 90,none,.len false (.t 89)⟩,⟨some 91,none,.bin .lss false (.t 87) (.t 90)⟩]) (.cond (.t 91) .skip (.exit 4))) (.seq (.block 5 (.seq (.reg [⟨some 94,none,.mv (.t 12)⟩,⟨some 13,none,.mv (.c (.int .i64 0))⟩,⟨some 14,none,.mv (.c (.int .i64 1))⟩,⟨some 15,none,.mv (.t 94)⟩]) (.seq (.seq (.reg [⟨some 16,none,.mv (.c (.int .i64 0))⟩]) (.block 6 (.loop [0,1,1,0,1,0,1,0,1,1,1,1,1,1,1,1,1,0,0,0,0,0,0,0,0,0,0,0,0,0,0,0,0,0,0,0,0,0,0,0,0,0,0,0,0,0,0,0,0,0,0,0,0,0,0,0,0,0,0,0,0,0,0,0,0,0,0,0,0,0,0,0,0,0,0,0,0,0,0,0,0,0,0,0,0,0,0,0,0,0,0,0,0,0,0,0,0,0,0,0,0,0,0,0,0,0,0,0,0,0,0,0,0,0,0,0,0,0,0,0,0,0,0,0,0,0,0,0,0,0,0,0,0,0,0,0,0,0,0,0,0,0,0,0,0] (.seq (.seq (.reg [⟨some 95,none,.mv (.t 16)⟩,⟨some 96,none,.faddr 1 (.t 10)⟩,⟨some 97,none,.load false 1 (.t 96)⟩,⟨some 98,none,.bin .lss false (.t 95) (.t 97)⟩]) (.cond (.t 98) .skip (.exit 6))) (.seq (.block 7 (.seq (.reg [⟨some 101,none,.mv (.t 13)⟩,⟨some 102,none,.mv (.t 14)⟩,⟨some 103,none,.mv (.t 6)⟩,⟨some 104,none,.mv (.t 15)⟩,⟨some 105,none,.faddr 0 (.t 2)⟩,⟨some 106,none,.load false 1 (.t 105)⟩,⟨some 107,none,.bin .rem false (.t 104) (.t 106)⟩,⟨some 108,none,.iaddr 1 (.t 103) (.t 107)⟩,⟨some 109,none,.load false 1 (.t 108)⟩,⟨some 110,none,.bin .mul false (.t 102) (.t 109)⟩,⟨some 111,none,.bin .add false (.t 101) (.t 110)⟩,⟨some 13,none,.mv (.t 111)⟩]) (.seq (.reg [⟨some 112,none,.mv (.t 14)⟩,⟨some 113,none,.faddr 0 (.t 2)⟩,⟨some 114,none,.load false 1 (.t 113)⟩,⟨some 115,none,.bin .mul false (.t 112) (.t 114)⟩,⟨some 14,none,.mv (.t 115)⟩]) (.reg [⟨some 116,none,.mv (.t 15)⟩,⟨some 117,none,.faddr 0 (.t 2)⟩,⟨some 118,none,.load false 1 (.t 117)⟩,⟨some 119,none,.bin .quo false (.t 116) (.t 118)⟩,⟨some 15,none,.mv (.t 119)⟩])))) (.reg [⟨some 99,none,.mv (.t 16)⟩,⟨some 100,none,.bin .add false (.t 99) (.c (.int .i64 1))⟩,⟨some 16,none,.mv (.t 100)⟩])))))) (.seq (.reg [⟨some 120,none,.faddr 3 (.t 10)⟩,⟨some 121,none,.load false 1 (.t 120)⟩,⟨some 122,none,.mv (.t 13)⟩,⟨some 123,none,.iaddr 1 (.t 121) (.t 122)⟩,⟨some 124,none,.load false 1 (.t 123)⟩,⟨some 17,none,.mv (.t 124)⟩]) (.seq (.seq (.reg [⟨some 125,none,.faddr 2 (.t 10)⟩,⟨some 126,none,.load false 1 (.t 125)⟩,⟨some 127,none,.un .not (.t 126)⟩]) (.cond (.t 127) (.reg [⟨some 128,none,.mv (.t 1)⟩,⟨some 129,none,.mv (.t 17)⟩,⟨some 130,none,.iaddr 1 (.t 128) (.t 129)⟩,⟨some 131,none,.load false 1 (.t 130)⟩,⟨some 17,none,.mv (.t 131)⟩]) .skip)) (.reg [⟨some 132,none,.faddr 3 (.t 11)⟩,⟨some 133,none,.load false 1 (.t 132)⟩,⟨some 134,none,.mv (.t 17)⟩,⟨some 135,none,.mkrow 3 1 [(.int .i64 0)] 1 [(0,(.t 134))]⟩,⟨some 136,none,.append 3 1 8 [(.int .i64 0)] (.t 133) (.t 135)⟩,⟨some 137,none,.faddr 3 (.t 11)⟩,⟨none,none,(.store 1 (.t 137) (.t 136))⟩])))))) (.reg [⟨some 92,none,.mv (.t 12)⟩,⟨some 93,none,.bin .add false (.t 92) (.c (.int .i64 1))⟩,⟨some 12,none,.mv (.t 93)⟩])))))) (.reg [⟨some 138,none,.faddr 1 (.t 8)⟩,⟨some 139,none,.load false 1 (.t 138)⟩,⟨some 140,none,.load true 4 (.t 11)⟩,⟨(some 141),none,(.mkrow 44 4 [(.str ⟨#[]⟩),(.int .i64 0),(.bool false),.nil] 1 [(0,(.t 140))])⟩,⟨(some 142),none,(.append 44 4 56 [(.str ⟨#[]⟩),(.int .i64 0),(.bool false),.nil] (.t 139) (.t 141))⟩,⟨some 143,none,.faddr 1 (.t 8)⟩,⟨none,none,(.store 1 (.t 143) (.t 142))⟩]))))) (.reg [⟨some 73,none,.mv (.t 9)⟩,⟨some 74,none,.bin .add false (.t 73) (.c (.int .i64 1))⟩,⟨some 9,none,.mv (.t 74)⟩])))))) (.seq (.reg [⟨some 144,none,.load true 2 (.t 8)⟩,⟨none,none,(.store 2 (.t 4) (.t 144))⟩,⟨some 5,none,.mv (.c (.bool true))⟩]) .ret)))))))
theorem DU:Aq Tryz.prog 11=some ⟨145,CZ,[(.cell 4 true 2),(.tmp 5)]⟩:=by kernel_rfl
theorem AS:modes 11=⟨[],.frz,none,false⟩:=by unfold modes; rfl
theorem Zh (xs:List Int) (n:Int) (hl:xs.length≤1099511627776):E 33 [.arr (xs.map fun s=>[D.int s]),.int .i64 n] []=some (.bool (dec (n∈xs)),[]):=by
 have e:dec (n∈xs)=dec (0≤Cw (fun s=>dec (s=n)) xs 0):=by
  rw [EZ]
  by_cases hm:n∈xs
  ·rw [Aw hm]
   exact (yS.2 ⟨n,hm,Aw rfl⟩).symm
  ·rw [Aj hm]
   refine Eq.symm (yB.2 fun h=>?_)
   obtain ⟨x,h1,h2⟩:=yS.1 h
   have e:=Ar.1 h2
   subst e
   exact hm h1
 rw [e,EZ]
 refine Al QB Gt (of_decide_eq_true rfl) ?_
 simp (disch:=omega) only [L1,go_sem,Ab]
 refine go_loop (α:=Int) (fun a=>⟨slots 18 0 [(0,.arr (xs.map fun s=>[D.int s])),(1,.int .i64 n),(5,.int .i64 a)],[]⟩) (fun a=>∃ k:Nat,a=k∧k≤(xs).length∧(xs.drop k).any (fun s=>dec (s=n))=xs.any (fun s=>dec (s=n))) (fun a=>(xs).length-(a).toNat) 0 ⟨0,rfl,zJ _,by rw [zI]⟩ (by simp (disch:=omega) only [go_sem,Ab]) ?_
 rintro i ⟨k,hi,hk,hR⟩
 have hni:i.toNat=k:=by omega
 have hni1:(i+1).toNat=k+1:=by omega
 rcases zC k (xs).length with hlt | hge
 ·have hg:=get_at (fun s=>[D.int s]) hlt
  rw [zB hlt,List.any_cons] at hR
  cases hp:dec (xs[k]=n) with
  | true =>
   rw [hp,Bool.true_or] at hR
   rw [←hR]
   simp (disch:=omega) only [go_sem,Ab,hni,hg,hp]
  | false =>
   rw [hp,Bool.false_or] at hR
   simp (disch:=omega) only [go_sem,Ab,hni,hg,hp]
   exact ⟨i+1,⟨k+1,by omega,hlt,hR⟩,by omega,by first | trivial | rfl⟩
 ·rw [zG hge,List.any_nil] at hR
  rw [←hR]
  simp (disch:=omega) only [go_sem,Ab,hni]
theorem V4 {p:List Int} {k:Nat} (h:k<p.length):((backL p k).map fun s=>[OT.int s]).set (p[k]).toNat [OT.int (k:Int)]=(backL p (k+1)).map fun s=>[OT.int s]:=by
 unfold backL
 rw [LX,List.map_set,CH h]
theorem Tz (p:List Int):(backL p 0).map (fun s=>[OT.int s])=List.replicate p.length [OT.int 0]:=by
 unfold backL
 rw [LX,List.map_replicate]
theorem all_one (xs:List Int):((xs.map fun s=>[D.int s]).all fun l=>l.length == 1)=true:=by rw [List.all_map,zL]; intro x _; rfl
theorem Hq (g:Nat→Int) (j:Nat):((zP j).map g).map (fun s=>[OT.int s])++[[OT.int (g j)]]=((zP (j+1)).map g).map fun s=>[OT.int s]:=by
 rw [List.range_succ,yH,yH]; rfl
theorem Tl.QaY (s:Int) (p:List Int) (t:Tl):Tl.o (t.rn s p)=[.str t.name,.int t.arity,.bool t.pred,.ow (((zP t.vals.length).map (atV s p t)).map fun n=>[OT.int n])]:=rfl
theorem JL (m:Ip) (ht:m.tame) (p:List Int) (hp:p.length≤1048576):E 11 [m.sv,.arr (p.map fun s=>[D.int s])] []=some (.tup [.agg [.int .i64 (H2 m p).size,.arr ((H2 m p).tables.map Tl.d)],.bool (Ge m p)],[]):=by
 have h1:=PL m ht
 have hm0:=ht.1
 cases hm:m.ok with
 | false =>
  rw [hm] at h1
  have e:Ge m p=false:=by unfold Ge; rw [hm,zA]
  unfold H2
  rw [e,cond_false]
  show E _ _ _=some (SV.tup [.agg [.int .i64 0,.arr []],.bool false],[])
  refine Al DU AS (of_decide_eq_true rfl) ?_
  simp (disch:=omega) only [CZ,go_sem,Ab,h1,BX]
  try first | rfl | exact ⟨rfl,rfl⟩
 | true =>
 rw [hm] at h1
 obtain ⟨⟨s1,s3⟩,htb,hvb⟩:=Ip.Cx hm
 have htl12:=Vl htb
 cases hpl:dec ((p.length:Int)=m.size) with
 | false =>
  have e:Ge m p=false:=by unfold Ge KB; rw [hpl,zA,zK]
  unfold H2
  rw [e,cond_false]
  show E _ _ _=some (SV.tup [.agg [.int .i64 0,.arr []],.bool false],[])
  refine Al DU AS (of_decide_eq_true rfl) ?_
  simp (disch:=omega) only [CZ,go_sem,Ab,h1,hpl,BX]
  try first | rfl | exact ⟨rfl,rfl⟩
 | true =>
 have hps:(p.length:Int)=m.size:=Ar.1 hpl
 have hb0:=Tz p
 have hpt:m.size.toNat=p.length:=by omega
 obtain ⟨r,hr⟩:∃ r,r=H2 m p:=⟨_,rfl⟩
 obtain ⟨o,ho⟩:∃ o,o=Ge m p:=⟨_,rfl⟩
 rw [←hr,← ho]
 refine Al DU AS (of_decide_eq_true rfl) ?_
 simp (disch:=omega) only [CZ,go_sem,Ab,h1,hpl,BX]
 refine go_loop (α:=Int) (fun i=>⟨slots 145 0 [(1,.arr (p.map fun s=>[D.int s])),(2,.ptr 0 0),(4,.ptr 1 0),(6,.ref 2),(7,.int .i64 i)],[.box 26 [.int .i64 m.size,.arr (m.tables.map Tl.d)],.box 26 [.int .i64 0,.nil],.row 3 1 ((backL p i.toNat).map fun s=>[OT.int s])]⟩) (fun i=>∃ k:Nat,i=k∧k≤p.length∧(∀ x∈p.take k,0≤x∧x<m.size)∧(p.take k).Nodup) (fun i=>p.length-i.toNat) 0 (by refine ⟨0,rfl,zJ _,?_,?_⟩ <;> simp) (by simp (disch:=omega) only [go_sem,Ab,hpt,hb0,yP]) ?_
 rintro i ⟨k,hi,hk,hR1,hR2⟩
 have hni:i.toNat=k:=by omega
 have hni1:(i+1).toNat=k+1:=by omega
 rcases zC k p.length with hlt | hge
 ·have hg:=get_at (fun s=>[D.int s]) hlt
  have hin:=NZ p[k] 0 (m.size-1)
  have hha:=Zh (p.take k) p[k] (by rw [z6]; omega)
  rw [List.map_take] at hha
  have hal:=all_one p
  have hbs:=V4 hlt
  rw [←hi] at hbs
  have hbl:(backL p k).length=p.length:=Gz p k
  have hno:(¬ (0≤p[k]∧p[k]≤m.size-1)∨p[k]∈p.take k)→Ge m p=false:=fun hn=>by
   refine yB.2 fun h=>?_
   unfold Ge at h
   rw [hm,zD] at h
   obtain ⟨_,hon,_,hnd⟩:=LY s3 h
   rcases hn with hn | hn
   ·have:=hon k (by omega) (by omega)
    unfold pf at this
    rw [yD,CH hlt] at this
    omega
   ·obtain ⟨q,hq,e⟩:=List.getElem_of_mem hn
    have hq2:q<k:=by rw [z6] at hq; omega
    rw [List.getElem_take] at e
    exact absurd e (yL.1 hnd q k (by omega) hlt hq2)
  by_cases hr1:0≤p[k]∧p[k]≤m.size-1
  ·have c1:inI p[k] 0 (m.size-1)=true:=Dk.2 hr1
   unfold inI at c1
   first | rw [c1] at hin | (unfold inI at hin; rw [c1] at hin)
   by_cases hr2:p[k]∈p.take k
   ·rw [Aw hr2] at hha
    have e:=hno (.inr hr2)
    have e2:r=⟨0,[]⟩:=by rw [hr]; unfold H2; rw [e]; rfl
    have e3:r.size=0:=by rw [e2]
    have e4:r.tables=[]:=by rw [e2]
    rw [ho,e,e3,e4,zR]
    simp (disch:=omega) only [go_sem,Ab,hni,hg,hin,hha,hal,hbl,Bl,Gt]
    try first | rfl | exact ⟨rfl,rfl⟩
   ·rw [Aj hr2] at hha
    have hgb:=get_at (fun s=>[OT.int s]) (xs:=backL p k) (k:=(p[k]).toNat) (by omega)
    simp (disch:=omega) only [go_sem,Ab,hni,hg,hin,hha,hal,hbl,hgb,Bl,Gt]
    refine ⟨i+1,⟨k+1,by omega,hlt,?_,?_⟩,by omega,?_⟩
    ·rw [zW hlt]
     intro x hx
     rcases List.mem_append.1 hx with hx | hx
     ·exact hR1 x hx
     ·rw [List.mem_singleton] at hx; subst hx; omega
    ·rw [zW hlt,List.nodup_append]
     exact ⟨hR2,by simp,fun a ha b hb e=>by rw [List.mem_singleton] at hb; subst hb; subst e; exact hr2 ha⟩
    ·simp (disch:=omega) only [go_sem,Ab,hni1,hbs]
  ·have c1:inI p[k] 0 (m.size-1)=false:=yB.2 fun h=>hr1 (Dk.1 h)
   unfold inI at c1
   first | rw [c1] at hin | (unfold inI at hin; rw [c1] at hin)
   have e:=hno (.inl hr1)
   have e2:r=⟨0,[]⟩:=by rw [hr]; unfold H2; rw [e]; rfl
   have e3:r.size=0:=by rw [e2]
   have e4:r.tables=[]:=by rw [e2]
   rw [ho,e,e3,e4,zR]
   simp (disch:=omega) only [go_sem,Ab,hni,hg,hin,hha,hal,hbl,Bl,Gt]
   try first | rfl | exact ⟨rfl,rfl⟩
 ·obtain rfl:k=p.length:=by omega
  rw [yK] at hR1 hR2
  have hprm:KB m.size p=true:=WY s1 s3 hps hR1 hR2
  have e:Ge m p=true:=by unfold Ge; rw [hm,hprm]; rfl
  have e2:r=m.rn p:=by rw [hr]; unfold H2; rw [e]; rfl
  have e3:r.size=m.size:=by rw [e2]; rfl
  have e4:r.tables=m.tables.map (Tl.rn m.size p):=by rw [e2]; rfl
  rw [ho,e,e3,e4]
  obtain ⟨_,_,hon⟩:=Lu s3 hprm
  have hBl:(backL p p.length).length=p.length:=Gz p p.length
  obtain ⟨B,hB⟩:∃ B,B=backL p p.length:=⟨_,rfl⟩
  have hB':backL p p.length=B:=hB.symm
  rw [←hB] at hon hBl
  simp (disch:=omega) only [go_sem,Ab,hni,hB']
  refine go_loop (α:=Int) (fun i=>⟨slots 145 0 [(1,.arr (p.map fun s=>[D.int s])),(2,.ptr 0 0),(4,.ptr 1 0),(6,.ref 2),(8,.ptr 3 0),(9,.int .i64 i)],(if i=0 then [.box 26 [.int .i64 m.size,.arr (m.tables.map Tl.d)],.box 26 [.int .i64 0,.nil],.row 3 1 (B.map fun s=>[OT.int s]),.box 26 [.int .i64 m.size,.nil]] else [.box 26 [.int .i64 m.size,.arr (m.tables.map Tl.d)],.box 26 [.int .i64 0,.nil],.row 3 1 (B.map fun s=>[OT.int s]),.box 26 [.int .i64 m.size,.ref 4],.row 44 4 (((m.tables.take i.toNat).map (Tl.rn m.size p)).map Tl.o)])⟩) (fun i=>∃ k:Nat,i=k∧k≤m.tables.length) (fun i=>m.tables.length-i.toNat) 0 ⟨0,rfl,zJ _⟩ (by simp (disch:=omega) only [go_sem,Ab,eq_self,if_true]) ?_
  rintro i ⟨k,hi,hk⟩
  have hni:i.toNat=k:=by omega
  have hni1:(i+1).toNat=k+1:=by omega
  rcases zC k m.tables.length with hlt | hge
  ·have hg:=get_at Tl.d hlt
   rw [Tl.d_eq] at hg
   have hta:=FT htb (zF hlt)
   have hvl:=zL.1 hvb _ (zF hlt)
   unfold tlB at hvl
   rw [zE,Ar,zL] at hvl
   have hs:(((m.tables.take k).map (Tl.rn m.size p)).map Tl.o)++[Tl.o (m.tables[k].rn m.size p)]=((m.tables.take (k+1)).map (Tl.rn m.size p)).map Tl.o:=by
    rw [zW hlt,yH,yH]; rfl
   rw [Tl.QaY] at hs
   have hpos:=Dl s1 s3 (k:=m.tables[k].arity.toNat) (by omega)
   have htl:((m.tables.take k).map (Tl.rn m.size p)).length=k:=by rw [yA,z6]; omega
   have hi1:(i+1=0)=False:=eq_false (by omega)
   obtain ⟨t,htt⟩:∃ t,t=m.tables[k]:=⟨_,rfl⟩
   rw [←htt] at hg hta hvl hs hpos
   clear htt
   rcases yO k with hk0 | hk0
   ·have hi0:(i=0)=True:=eq_true (by omega)
    have htk:m.tables.take k=[]:=by rw [hk0]; rfl
    rw [htk,zR,zR,yZ] at hs
    simp (disch:=omega) only [go_sem,Ab,hni,hg,hi0,if_true]
    refine go_loop (α:=Int) (fun n=>⟨slots 145 0 [(1,.arr (p.map fun s=>[D.int s])),(2,.ptr 0 0),(4,.ptr 1 0),(6,.ref 2),(8,.ptr 3 0),(9,.int .i64 i),(10,.ptr 4 0),(11,.ptr 5 0),(12,.int .i64 n)],(if n=0 then [.box 26 [.int .i64 m.size,.arr (m.tables.map Tl.d)],.box 26 [.int .i64 0,.nil],.row 3 1 (B.map fun s=>[OT.int s]),.box 26 [.int .i64 m.size,.nil],.box 44 [.str t.name,.int .i64 t.arity,.bool t.pred,.arr (t.vals.map fun n=>[D.int n])],.box 44 [.str t.name,.int .i64 t.arity,.bool t.pred,.nil]] else [.box 26 [.int .i64 m.size,.arr (m.tables.map Tl.d)],.box 26 [.int .i64 0,.nil],.row 3 1 (B.map fun s=>[OT.int s]),.box 26 [.int .i64 m.size,.nil],.box 44 [.str t.name,.int .i64 t.arity,.bool t.pred,.arr (t.vals.map fun n=>[D.int n])],.box 44 [.str t.name,.int .i64 t.arity,.bool t.pred,.ref 6],.row 3 1 (((zP n.toNat).map (atV m.size p t)).map fun s=>[OT.int s])])⟩) (fun n=>∃ j:Nat,n=j∧j≤t.vals.length) (fun n=>t.vals.length-n.toNat) 0 ⟨0,rfl,zJ _⟩ (by simp (disch:=omega) only [go_sem,Ab,eq_self,if_true]) ?_
    rintro n ⟨j,hn,hj⟩
    have hnn:n.toNat=j:=by omega
    have hnn1:(n+1).toNat=j+1:=by omega
    have hn1:(n+1=0)=False:=eq_false (by omega)
    rcases zC j t.vals.length with hjl | hjg
    ·have hdr:=El s1 hon t.arity.toNat n (by omega) (by omega)
     have hP3:=Dl s1 s3 (k:=t.arity.toNat) (by omega)
     rcases yO j with hj0 | hj0
     ·have hn0:(n=0)=True:=eq_true (by omega)
      have hr0:zP j=[]:=by rw [hj0]; rfl
      simp (disch:=omega) only [go_sem,Ab,hnn,hn0,if_true]
      refine go_loop (α:=Int × Int × Int × Int) (fun a=>⟨slots 145 0 [(1,.arr (p.map fun s=>[D.int s])),(2,.ptr 0 0),(4,.ptr 1 0),(6,.ref 2),(8,.ptr 3 0),(9,.int .i64 i),(10,.ptr 4 0),(11,.ptr 5 0),(12,.int .i64 n),(13,.int .i64 a.2.1),(14,.int .i64 a.2.2.1),(15,.int .i64 a.2.2.2),(16,.int .i64 a.1)],[.box 26 [.int .i64 m.size,.arr (m.tables.map Tl.d)],.box 26 [.int .i64 0,.nil],.row 3 1 (B.map fun s=>[OT.int s]),.box 26 [.int .i64 m.size,.nil],.box 44 [.str t.name,.int .i64 t.arity,.bool t.pred,.arr (t.vals.map fun n=>[D.int n])],.box 44 [.str t.name,.int .i64 t.arity,.bool t.pred,.nil]]⟩) (fun a=>∃ d:Nat,a.1=d∧(d:Int)≤t.arity∧1≤a.2.2.1∧a.2.2.1*pw m.size (t.arity.toNat-d)=pw m.size t.arity.toNat∧0≤a.2.1∧a.2.1<a.2.2.1∧0≤a.2.2.2∧a.2.2.2<pw m.size (t.arity.toNat-d)∧a.2.1+a.2.2.1*dg m.size (pf B) (t.arity.toNat-d) a.2.2.2=dg m.size (pf B) t.arity.toNat n) (fun a=>t.arity.toNat-a.1.toNat) (0,0,1,n) ⟨0,rfl,by (try dsimp only); omega,by (try dsimp only); omega,by (try dsimp only); rw [zO,zZ],by (try dsimp only); omega,by (try dsimp only); omega,by (try dsimp only); omega,by (try dsimp only); rw [zO]; omega,by (try dsimp only); rw [zO,zZ,yC]⟩ (by simp (disch:=omega) only [go_sem,Ab]) ?_
      rintro ⟨d,a,w,u⟩ ⟨d0,hd,hda,hw1,hwp,ha0,haw,hu0,hup,hD⟩
      dsimp only at hd hda hw1 hwp ha0 haw hu0 hup hD
      rcases yG d t.arity with hdl | hdg
      ·obtain ⟨b,hbb⟩:∃ b,t.arity.toNat-d0=b+1:=⟨t.arity.toNat-d0-1,by omega⟩
       have hb2:t.arity.toNat-(d0+1)=b:=by omega
       rw [hbb,pw] at hwp hup
       rw [hbb,Ls] at hD
       obtain ⟨u0,u1,m0,m1⟩:=Jl s1 hu0 hup
       obtain ⟨q0,q1⟩:=hon _ m0 m1
       have hpb:=Dl s1 s3 (k:=b) (by omega)
       have hws:w*m.size*pw m.size b=pw m.size t.arity.toNat:=by rw [←hwp,yU,yJ m.size]
       have k1:=z8 (show 0≤w by omega) q0
       have k2:w*(pf B (u.tmod m.size)+1)≤w*m.size:=zH (by omega) (by omega)
       rw [y6,yE] at k2
       have k3:w*m.size*1≤w*m.size*pw m.size b:=zH (by omega) (by omega)
       rw [yE,hws] at k3
       have hmi:(u.tmod m.size).toNat<B.length:=by omega
       have hgp:=get_at (fun s=>[OT.int s]) hmi
       have hpfe:B[(u.tmod m.size).toNat]=pf B (u.tmod m.size):=(CH hmi).symm
       rw [hpfe] at hgp
       have hsz0:m.size≠0:=by omega
       simp (disch:=omega) only [go_sem,Ab,hgp,hsz0]
       refine ⟨(d+1,a+w*pf B (u.tmod m.size),w*m.size,u.tdiv m.size),⟨d0+1,by dsimp only; omega,by omega,by dsimp only; omega,by dsimp only; rw [hb2]; exact hws,by dsimp only; omega,by dsimp only; omega,u0,by dsimp only; rw [hb2]; exact u1,by dsimp only; rw [hb2]; exact hD⟩,by dsimp only; omega,?_⟩
       first | trivial | rfl | exact ⟨rfl,rfl⟩
      ·have hz:t.arity.toNat-d0=0:=by omega
       rw [hz,dg,y2,y3] at hD
       have hin:a.toNat<t.vals.length:=by omega
       have hgv:=get_at (fun n=>[D.int n]) hin
       have hvr:=Dk.1 (hvl.2 t.vals[a.toNat] (zF hin))
       have hat:atV m.size p t j=IH p t t.vals[a.toNat]:=by unfold atV; rw [←hB,← hn,← hD,CH hin]
       have hsn:=Hq (atV m.size p t) j
       rw [hat] at hsn
       rw [hr0,zR,zR,yZ] at hsn
       have hlr:((zP j).map (atV m.size p t)).length=j:=by simp
       cases hpr:t.pred with
       | true =>
        rw [FG,hpr,cond_true] at hsn
        simp (disch:=omega) only [go_sem,Ab,hgv,hpr,hlr]
        refine ⟨n+1,⟨j+1,by omega,hjl⟩,by omega,?_⟩
        simp (disch:=omega) only [go_sem,Ab,hn1,if_false,hnn1,hpr,hsn]
       | false =>
        rw [FG,hpr,cond_false] at hsn
        unfold kinds at hvr
        rw [hpr,if_neg (by simp)] at hvr
        have hmi:(t.vals[a.toNat]).toNat<p.length:=by omega
        have hgp:=get_at (fun s=>[D.int s]) hmi
        have hpfe:p[(t.vals[a.toNat]).toNat]=pf p t.vals[a.toNat]:=(CH hmi).symm
        rw [hpfe] at hgp
        simp (disch:=omega) only [go_sem,Ab,hgv,hgp,hpr,hlr]
        refine ⟨n+1,⟨j+1,by omega,hjl⟩,by omega,?_⟩
        simp (disch:=omega) only [go_sem,Ab,hn1,if_false,hnn1,hpr,hsn]
     ·have hn0:(n=0)=False:=eq_false (by omega)
      simp (disch:=omega) only [go_sem,Ab,hnn,hn0,if_false]
      refine go_loop (α:=Int × Int × Int × Int) (fun a=>⟨slots 145 0 [(1,.arr (p.map fun s=>[D.int s])),(2,.ptr 0 0),(4,.ptr 1 0),(6,.ref 2),(8,.ptr 3 0),(9,.int .i64 i),(10,.ptr 4 0),(11,.ptr 5 0),(12,.int .i64 n),(13,.int .i64 a.2.1),(14,.int .i64 a.2.2.1),(15,.int .i64 a.2.2.2),(16,.int .i64 a.1)],[.box 26 [.int .i64 m.size,.arr (m.tables.map Tl.d)],.box 26 [.int .i64 0,.nil],.row 3 1 (B.map fun s=>[OT.int s]),.box 26 [.int .i64 m.size,.nil],.box 44 [.str t.name,.int .i64 t.arity,.bool t.pred,.arr (t.vals.map fun n=>[D.int n])],.box 44 [.str t.name,.int .i64 t.arity,.bool t.pred,.ref 6],.row 3 1 (((zP j).map (atV m.size p t)).map fun s=>[OT.int s])]⟩) (fun a=>∃ d:Nat,a.1=d∧(d:Int)≤t.arity∧1≤a.2.2.1∧a.2.2.1*pw m.size (t.arity.toNat-d)=pw m.size t.arity.toNat∧0≤a.2.1∧a.2.1<a.2.2.1∧0≤a.2.2.2∧a.2.2.2<pw m.size (t.arity.toNat-d)∧a.2.1+a.2.2.1*dg m.size (pf B) (t.arity.toNat-d) a.2.2.2=dg m.size (pf B) t.arity.toNat n) (fun a=>t.arity.toNat-a.1.toNat) (0,0,1,n) ⟨0,rfl,by (try dsimp only); omega,by (try dsimp only); omega,by (try dsimp only); rw [zO,zZ],by (try dsimp only); omega,by (try dsimp only); omega,by (try dsimp only); omega,by (try dsimp only); rw [zO]; omega,by (try dsimp only); rw [zO,zZ,yC]⟩ (by simp (disch:=omega) only [go_sem,Ab]) ?_
      rintro ⟨d,a,w,u⟩ ⟨d0,hd,hda,hw1,hwp,ha0,haw,hu0,hup,hD⟩
      dsimp only at hd hda hw1 hwp ha0 haw hu0 hup hD
      rcases yG d t.arity with hdl | hdg
      ·obtain ⟨b,hbb⟩:∃ b,t.arity.toNat-d0=b+1:=⟨t.arity.toNat-d0-1,by omega⟩
       have hb2:t.arity.toNat-(d0+1)=b:=by omega
       rw [hbb,pw] at hwp hup
       rw [hbb,Ls] at hD
       obtain ⟨u0,u1,m0,m1⟩:=Jl s1 hu0 hup
       obtain ⟨q0,q1⟩:=hon _ m0 m1
       have hpb:=Dl s1 s3 (k:=b) (by omega)
       have hws:w*m.size*pw m.size b=pw m.size t.arity.toNat:=by rw [←hwp,yU,yJ m.size]
       have k1:=z8 (show 0≤w by omega) q0
       have k2:w*(pf B (u.tmod m.size)+1)≤w*m.size:=zH (by omega) (by omega)
       rw [y6,yE] at k2
       have k3:w*m.size*1≤w*m.size*pw m.size b:=zH (by omega) (by omega)
       rw [yE,hws] at k3
       have hmi:(u.tmod m.size).toNat<B.length:=by omega
       have hgp:=get_at (fun s=>[OT.int s]) hmi
       have hpfe:B[(u.tmod m.size).toNat]=pf B (u.tmod m.size):=(CH hmi).symm
       rw [hpfe] at hgp
       have hsz0:m.size≠0:=by omega
       simp (disch:=omega) only [go_sem,Ab,hgp,hsz0]
       refine ⟨(d+1,a+w*pf B (u.tmod m.size),w*m.size,u.tdiv m.size),⟨d0+1,by dsimp only; omega,by omega,by dsimp only; omega,by dsimp only; rw [hb2]; exact hws,by dsimp only; omega,by dsimp only; omega,u0,by dsimp only; rw [hb2]; exact u1,by dsimp only; rw [hb2]; exact hD⟩,by dsimp only; omega,?_⟩
       first | trivial | rfl | exact ⟨rfl,rfl⟩
      ·have hz:t.arity.toNat-d0=0:=by omega
       rw [hz,dg,y2,y3] at hD
       have hin:a.toNat<t.vals.length:=by omega
       have hgv:=get_at (fun n=>[D.int n]) hin
       have hvr:=Dk.1 (hvl.2 t.vals[a.toNat] (zF hin))
       have hat:atV m.size p t j=IH p t t.vals[a.toNat]:=by unfold atV; rw [←hB,← hn,← hD,CH hin]
       have hsn:=Hq (atV m.size p t) j
       rw [hat] at hsn
       have hlr:((zP j).map (atV m.size p t)).length=j:=by simp
       cases hpr:t.pred with
       | true =>
        rw [FG,hpr,cond_true] at hsn
        simp (disch:=omega) only [go_sem,Ab,hgv,hpr,hlr]
        refine ⟨n+1,⟨j+1,by omega,hjl⟩,by omega,?_⟩
        simp (disch:=omega) only [go_sem,Ab,hn1,if_false,hnn1,hpr,hsn]
       | false =>
        rw [FG,hpr,cond_false] at hsn
        unfold kinds at hvr
        rw [hpr,if_neg (by simp)] at hvr
        have hmi:(t.vals[a.toNat]).toNat<p.length:=by omega
        have hgp:=get_at (fun s=>[D.int s]) hmi
        have hpfe:p[(t.vals[a.toNat]).toNat]=pf p t.vals[a.toNat]:=(CH hmi).symm
        rw [hpfe] at hgp
        simp (disch:=omega) only [go_sem,Ab,hgv,hgp,hpr,hlr]
        refine ⟨n+1,⟨j+1,by omega,hjl⟩,by omega,?_⟩
        simp (disch:=omega) only [go_sem,Ab,hn1,if_false,hnn1,hpr,hsn]
    ·obtain rfl:j=t.vals.length:=by omega
     have hn0:(n=0)=False:=eq_false (by omega)
     simp (disch:=omega) only [go_sem,Ab,hnn,hn0,if_false,htl]
     refine ⟨i+1,⟨k+1,by omega,hlt⟩,by omega,?_⟩
     simp (disch:=omega) only [go_sem,Ab,hi1,if_false,hni1,hs]
   ·have hi0:(i=0)=False:=eq_false (by omega)
    simp (disch:=omega) only [go_sem,Ab,hni,hg,hi0,if_false]
    refine go_loop (α:=Int) (fun n=>⟨slots 145 0 [(1,.arr (p.map fun s=>[D.int s])),(2,.ptr 0 0),(4,.ptr 1 0),(6,.ref 2),(8,.ptr 3 0),(9,.int .i64 i),(10,.ptr 4 0),(11,.ptr 5 0),(12,.int .i64 n)],(if n=0 then [.box 26 [.int .i64 m.size,.arr (m.tables.map Tl.d)],.box 26 [.int .i64 0,.nil],.row 3 1 (B.map fun s=>[OT.int s]),.box 26 [.int .i64 m.size,.ref 6],.box 44 [.str t.name,.int .i64 t.arity,.bool t.pred,.arr (t.vals.map fun n=>[D.int n])],.box 44 [.str t.name,.int .i64 t.arity,.bool t.pred,.nil],.row 44 4 (((m.tables.take k).map (Tl.rn m.size p)).map Tl.o)] else [.box 26 [.int .i64 m.size,.arr (m.tables.map Tl.d)],.box 26 [.int .i64 0,.nil],.row 3 1 (B.map fun s=>[OT.int s]),.box 26 [.int .i64 m.size,.ref 6],.box 44 [.str t.name,.int .i64 t.arity,.bool t.pred,.arr (t.vals.map fun n=>[D.int n])],.box 44 [.str t.name,.int .i64 t.arity,.bool t.pred,.ref 7],.row 44 4 (((m.tables.take k).map (Tl.rn m.size p)).map Tl.o),.row 3 1 (((zP n.toNat).map (atV m.size p t)).map fun s=>[OT.int s])])⟩) (fun n=>∃ j:Nat,n=j∧j≤t.vals.length) (fun n=>t.vals.length-n.toNat) 0 ⟨0,rfl,zJ _⟩ (by simp (disch:=omega) only [go_sem,Ab,eq_self,if_true]) ?_
    rintro n ⟨j,hn,hj⟩
    have hnn:n.toNat=j:=by omega
    have hnn1:(n+1).toNat=j+1:=by omega
    have hn1:(n+1=0)=False:=eq_false (by omega)
    rcases zC j t.vals.length with hjl | hjg
    ·have hdr:=El s1 hon t.arity.toNat n (by omega) (by omega)
     have hP3:=Dl s1 s3 (k:=t.arity.toNat) (by omega)
     rcases yO j with hj0 | hj0
     ·have hn0:(n=0)=True:=eq_true (by omega)
      have hr0:zP j=[]:=by rw [hj0]; rfl
      simp (disch:=omega) only [go_sem,Ab,hnn,hn0,if_true]
      refine go_loop (α:=Int × Int × Int × Int) (fun a=>⟨slots 145 0 [(1,.arr (p.map fun s=>[D.int s])),(2,.ptr 0 0),(4,.ptr 1 0),(6,.ref 2),(8,.ptr 3 0),(9,.int .i64 i),(10,.ptr 4 0),(11,.ptr 5 0),(12,.int .i64 n),(13,.int .i64 a.2.1),(14,.int .i64 a.2.2.1),(15,.int .i64 a.2.2.2),(16,.int .i64 a.1)],[.box 26 [.int .i64 m.size,.arr (m.tables.map Tl.d)],.box 26 [.int .i64 0,.nil],.row 3 1 (B.map fun s=>[OT.int s]),.box 26 [.int .i64 m.size,.ref 6],.box 44 [.str t.name,.int .i64 t.arity,.bool t.pred,.arr (t.vals.map fun n=>[D.int n])],.box 44 [.str t.name,.int .i64 t.arity,.bool t.pred,.nil],.row 44 4 (((m.tables.take k).map (Tl.rn m.size p)).map Tl.o)]⟩) (fun a=>∃ d:Nat,a.1=d∧(d:Int)≤t.arity∧1≤a.2.2.1∧a.2.2.1*pw m.size (t.arity.toNat-d)=pw m.size t.arity.toNat∧0≤a.2.1∧a.2.1<a.2.2.1∧0≤a.2.2.2∧a.2.2.2<pw m.size (t.arity.toNat-d)∧a.2.1+a.2.2.1*dg m.size (pf B) (t.arity.toNat-d) a.2.2.2=dg m.size (pf B) t.arity.toNat n) (fun a=>t.arity.toNat-a.1.toNat) (0,0,1,n) ⟨0,rfl,by (try dsimp only); omega,by (try dsimp only); omega,by (try dsimp only); rw [zO,zZ],by (try dsimp only); omega,by (try dsimp only); omega,by (try dsimp only); omega,by (try dsimp only); rw [zO]; omega,by (try dsimp only); rw [zO,zZ,yC]⟩ (by simp (disch:=omega) only [go_sem,Ab]) ?_
      rintro ⟨d,a,w,u⟩ ⟨d0,hd,hda,hw1,hwp,ha0,haw,hu0,hup,hD⟩
      dsimp only at hd hda hw1 hwp ha0 haw hu0 hup hD
      rcases yG d t.arity with hdl | hdg
      ·obtain ⟨b,hbb⟩:∃ b,t.arity.toNat-d0=b+1:=⟨t.arity.toNat-d0-1,by omega⟩
       have hb2:t.arity.toNat-(d0+1)=b:=by omega
       rw [hbb,pw] at hwp hup
       rw [hbb,Ls] at hD
       obtain ⟨u0,u1,m0,m1⟩:=Jl s1 hu0 hup
       obtain ⟨q0,q1⟩:=hon _ m0 m1
       have hpb:=Dl s1 s3 (k:=b) (by omega)
       have hws:w*m.size*pw m.size b=pw m.size t.arity.toNat:=by rw [←hwp,yU,yJ m.size]
       have k1:=z8 (show 0≤w by omega) q0
       have k2:w*(pf B (u.tmod m.size)+1)≤w*m.size:=zH (by omega) (by omega)
       rw [y6,yE] at k2
       have k3:w*m.size*1≤w*m.size*pw m.size b:=zH (by omega) (by omega)
       rw [yE,hws] at k3
       have hmi:(u.tmod m.size).toNat<B.length:=by omega
       have hgp:=get_at (fun s=>[OT.int s]) hmi
       have hpfe:B[(u.tmod m.size).toNat]=pf B (u.tmod m.size):=(CH hmi).symm
       rw [hpfe] at hgp
       have hsz0:m.size≠0:=by omega
       simp (disch:=omega) only [go_sem,Ab,hgp,hsz0]
       refine ⟨(d+1,a+w*pf B (u.tmod m.size),w*m.size,u.tdiv m.size),⟨d0+1,by dsimp only; omega,by omega,by dsimp only; omega,by dsimp only; rw [hb2]; exact hws,by dsimp only; omega,by dsimp only; omega,u0,by dsimp only; rw [hb2]; exact u1,by dsimp only; rw [hb2]; exact hD⟩,by dsimp only; omega,?_⟩
       first | trivial | rfl | exact ⟨rfl,rfl⟩
      ·have hz:t.arity.toNat-d0=0:=by omega
       rw [hz,dg,y2,y3] at hD
       have hin:a.toNat<t.vals.length:=by omega
       have hgv:=get_at (fun n=>[D.int n]) hin
       have hvr:=Dk.1 (hvl.2 t.vals[a.toNat] (zF hin))
       have hat:atV m.size p t j=IH p t t.vals[a.toNat]:=by unfold atV; rw [←hB,← hn,← hD,CH hin]
       have hsn:=Hq (atV m.size p t) j
       rw [hat] at hsn
       rw [hr0,zR,zR,yZ] at hsn
       have hlr:((zP j).map (atV m.size p t)).length=j:=by simp
       cases hpr:t.pred with
       | true =>
        rw [FG,hpr,cond_true] at hsn
        simp (disch:=omega) only [go_sem,Ab,hgv,hpr,hlr]
        refine ⟨n+1,⟨j+1,by omega,hjl⟩,by omega,?_⟩
        simp (disch:=omega) only [go_sem,Ab,hn1,if_false,hnn1,hpr,hsn]
       | false =>
        rw [FG,hpr,cond_false] at hsn
        unfold kinds at hvr
        rw [hpr,if_neg (by simp)] at hvr
        have hmi:(t.vals[a.toNat]).toNat<p.length:=by omega
        have hgp:=get_at (fun s=>[D.int s]) hmi
        have hpfe:p[(t.vals[a.toNat]).toNat]=pf p t.vals[a.toNat]:=(CH hmi).symm
        rw [hpfe] at hgp
        simp (disch:=omega) only [go_sem,Ab,hgv,hgp,hpr,hlr]
        refine ⟨n+1,⟨j+1,by omega,hjl⟩,by omega,?_⟩
        simp (disch:=omega) only [go_sem,Ab,hn1,if_false,hnn1,hpr,hsn]
     ·have hn0:(n=0)=False:=eq_false (by omega)
      simp (disch:=omega) only [go_sem,Ab,hnn,hn0,if_false]
      refine go_loop (α:=Int × Int × Int × Int) (fun a=>⟨slots 145 0 [(1,.arr (p.map fun s=>[D.int s])),(2,.ptr 0 0),(4,.ptr 1 0),(6,.ref 2),(8,.ptr 3 0),(9,.int .i64 i),(10,.ptr 4 0),(11,.ptr 5 0),(12,.int .i64 n),(13,.int .i64 a.2.1),(14,.int .i64 a.2.2.1),(15,.int .i64 a.2.2.2),(16,.int .i64 a.1)],[.box 26 [.int .i64 m.size,.arr (m.tables.map Tl.d)],.box 26 [.int .i64 0,.nil],.row 3 1 (B.map fun s=>[OT.int s]),.box 26 [.int .i64 m.size,.ref 6],.box 44 [.str t.name,.int .i64 t.arity,.bool t.pred,.arr (t.vals.map fun n=>[D.int n])],.box 44 [.str t.name,.int .i64 t.arity,.bool t.pred,.ref 7],.row 44 4 (((m.tables.take k).map (Tl.rn m.size p)).map Tl.o),.row 3 1 (((zP j).map (atV m.size p t)).map fun s=>[OT.int s])]⟩) (fun a=>∃ d:Nat,a.1=d∧(d:Int)≤t.arity∧1≤a.2.2.1∧a.2.2.1*pw m.size (t.arity.toNat-d)=pw m.size t.arity.toNat∧0≤a.2.1∧a.2.1<a.2.2.1∧0≤a.2.2.2∧a.2.2.2<pw m.size (t.arity.toNat-d)∧a.2.1+a.2.2.1*dg m.size (pf B) (t.arity.toNat-d) a.2.2.2=dg m.size (pf B) t.arity.toNat n) (fun a=>t.arity.toNat-a.1.toNat) (0,0,1,n) ⟨0,rfl,by (try dsimp only); omega,by (try dsimp only); omega,by (try dsimp only); rw [zO,zZ],by (try dsimp only); omega,by (try dsimp only); omega,by (try dsimp only); omega,by (try dsimp only); rw [zO]; omega,by (try dsimp only); rw [zO,zZ,yC]⟩ (by simp (disch:=omega) only [go_sem,Ab]) ?_
      rintro ⟨d,a,w,u⟩ ⟨d0,hd,hda,hw1,hwp,ha0,haw,hu0,hup,hD⟩
      dsimp only at hd hda hw1 hwp ha0 haw hu0 hup hD
      rcases yG d t.arity with hdl | hdg
      ·obtain ⟨b,hbb⟩:∃ b,t.arity.toNat-d0=b+1:=⟨t.arity.toNat-d0-1,by omega⟩
       have hb2:t.arity.toNat-(d0+1)=b:=by omega
       rw [hbb,pw] at hwp hup
       rw [hbb,Ls] at hD
       obtain ⟨u0,u1,m0,m1⟩:=Jl s1 hu0 hup
       obtain ⟨q0,q1⟩:=hon _ m0 m1
       have hpb:=Dl s1 s3 (k:=b) (by omega)
       have hws:w*m.size*pw m.size b=pw m.size t.arity.toNat:=by rw [←hwp,yU,yJ m.size]
       have k1:=z8 (show 0≤w by omega) q0
       have k2:w*(pf B (u.tmod m.size)+1)≤w*m.size:=zH (by omega) (by omega)
       rw [y6,yE] at k2
       have k3:w*m.size*1≤w*m.size*pw m.size b:=zH (by omega) (by omega)
       rw [yE,hws] at k3
       have hmi:(u.tmod m.size).toNat<B.length:=by omega
       have hgp:=get_at (fun s=>[OT.int s]) hmi
       have hpfe:B[(u.tmod m.size).toNat]=pf B (u.tmod m.size):=(CH hmi).symm
       rw [hpfe] at hgp
       have hsz0:m.size≠0:=by omega
       simp (disch:=omega) only [go_sem,Ab,hgp,hsz0]
       refine ⟨(d+1,a+w*pf B (u.tmod m.size),w*m.size,u.tdiv m.size),⟨d0+1,by dsimp only; omega,by omega,by dsimp only; omega,by dsimp only; rw [hb2]; exact hws,by dsimp only; omega,by dsimp only; omega,u0,by dsimp only; rw [hb2]; exact u1,by dsimp only; rw [hb2]; exact hD⟩,by dsimp only; omega,?_⟩
       first | trivial | rfl | exact ⟨rfl,rfl⟩
      ·have hz:t.arity.toNat-d0=0:=by omega
       rw [hz,dg,y2,y3] at hD
       have hin:a.toNat<t.vals.length:=by omega
       have hgv:=get_at (fun n=>[D.int n]) hin
       have hvr:=Dk.1 (hvl.2 t.vals[a.toNat] (zF hin))
       have hat:atV m.size p t j=IH p t t.vals[a.toNat]:=by unfold atV; rw [←hB,← hn,← hD,CH hin]
       have hsn:=Hq (atV m.size p t) j
       rw [hat] at hsn
       have hlr:((zP j).map (atV m.size p t)).length=j:=by simp
       cases hpr:t.pred with
       | true =>
        rw [FG,hpr,cond_true] at hsn
        simp (disch:=omega) only [go_sem,Ab,hgv,hpr,hlr]
        refine ⟨n+1,⟨j+1,by omega,hjl⟩,by omega,?_⟩
        simp (disch:=omega) only [go_sem,Ab,hn1,if_false,hnn1,hpr,hsn]
       | false =>
        rw [FG,hpr,cond_false] at hsn
        unfold kinds at hvr
        rw [hpr,if_neg (by simp)] at hvr
        have hmi:(t.vals[a.toNat]).toNat<p.length:=by omega
        have hgp:=get_at (fun s=>[D.int s]) hmi
        have hpfe:p[(t.vals[a.toNat]).toNat]=pf p t.vals[a.toNat]:=(CH hmi).symm
        rw [hpfe] at hgp
        simp (disch:=omega) only [go_sem,Ab,hgv,hgp,hpr,hlr]
        refine ⟨n+1,⟨j+1,by omega,hjl⟩,by omega,?_⟩
        simp (disch:=omega) only [go_sem,Ab,hn1,if_false,hnn1,hpr,hsn]
    ·obtain rfl:j=t.vals.length:=by omega
     have hn0:(n=0)=False:=eq_false (by omega)
     simp (disch:=omega) only [go_sem,Ab,hnn,hn0,if_false,htl]
     refine ⟨i+1,⟨k+1,by omega,hlt⟩,by omega,?_⟩
     simp (disch:=omega) only [go_sem,Ab,hi1,if_false,hni1,hs]
  ·obtain rfl:k=m.tables.length:=by omega
   have ht1:m.tables.take m.tables.length=m.tables:=yK
   rcases yO m.tables.length with hk0 | hk0
   ·have hx:m.tables=[]:=yW hk0
    obtain rfl:i=0:=by omega
    simp (disch:=omega) only [go_sem,Ab,hni,hx,eq_self,if_true,zR,yN,Tl.erss,Tl.noss]
    try first | rfl | exact ⟨rfl,rfl⟩
   ·have hi0:(i=0)=False:=eq_false (by omega)
    simp (disch:=omega) only [go_sem,Ab,hni,hi0,if_false,ht1,Tl.erss,Tl.noss]
    try first | rfl | exact ⟨rfl,rfl⟩
def Dc:SC:=(.seq (.reg [⟨some 2,none,.boxv 26 2 (.t 0)⟩,⟨some 4,none,.mv (.c (.mp true nomap))⟩,⟨some 5,none,.mv (.c (.bool false))⟩]) (.seq (.reg [⟨some 9,none,.mkmap true none⟩,⟨some 6,none,.mv (.t 9)⟩]) (.seq (.seq (.reg [⟨some 10,none,.mv (.t 1)⟩,⟨some 11,none,.len false (.t 10)⟩,⟨some 12,none,.mv (.c (.int .i64 0))⟩]) (.block 0 (.loop [0,1,1,0,0,0,1,0,0,0,1,1,1,0,0,0,0,0,0,0,0,0,0,0,0,0,0,0,0,0,0,0,0,0,0,0,0,0,0,0,0,0,0,0,0,0,0,0,0,0,0,0] (.seq (.reg [⟨some 13,none,.bin .lss false (.t 12) (.t 11)⟩]) (.seq (.cond (.t 13) .skip (.exit 0)) (.seq (.block 1 (.seq (.reg [⟨some 14,none,.mv (.t 12)⟩,⟨some 15,none,.iaddr 2 (.t 10) (.t 12)⟩,⟨some 16,none,.load true 2 (.t 15)⟩,⟨(some 8),none,(.alloc 76 [(.str ⟨#[]⟩),(.int .i64 0)])⟩,⟨some 7,none,.mv (.t 14)⟩,⟨none,none,(.store 2 (.t 8) (.t 16))⟩]) (.seq (.seq (.dreg [[],[0],[1,0],[2,1,0],[3,2,1,0],[4,3,2,1,0],[5,4,3,2,1,0],[4,3,2,1,0],[7,4,3,2,1,0],[8,7,4,3,2,1,0],[6,5,4,3,2,1,0,9,8,7],[10,6,5,4,3,2,1,0,9,8,7],[4,3,2,1,0,11,10,6,5,9,8,7],[12,4,3,2,1,0,11,10,6,5,9,8,7],[13,12,4,3,2,1,0,11,10,6,5,9,8,7],[14,13,12,4,3,2,1,0,11,10,6,5,9,8,7],[15,14,13,12,4,3,2,1,0,11,10,6,5,9,8,7],[16,15,14,13,12,4,3,2,1,0,11,10,6,5,9,8,7],[17,16,15,14,13,12,4,3,2,1,0,11,10,6,5,9,8,7],[16,15,14,13,12,4,3,2,1,0,11,10,6,5,9,8,7],[16,15,14,13,12,4,3,2,1,0,11,10,6,5,9,8,7],[20,16,15,14,13,12,4,3,2,1,0,11,10,6,5,9,8,7],[19,16,15,14,13,12,4,3,2,1,0,11,10,6,5,9,8,7,21,20],[22,19,16,15,14,13,12,4,3,2,1,0,11,10,6,5,9,8,7,21,20],[23,22,19,16,15,14,13,12,4,3,2,1,0,11,10,6,5,9,8,7,21,20],[18,17,16,15,14,13,12,4,3,2,1,0,11,10,6,5,9,8,7,24,23,22,19,21,20],[16,15,14,13,12,4,3,2,1,0,11,10,6,5,9,8,7,25,18,17,24,23,22,19,21,20],[13,12,4,3,2,1,0,11,10,6,5,9,8,7,26,16,15,14,25,18,17,24,23,22,19,21,20]] [⟨some 17,none,.faddr 0 (.t 8)⟩,⟨some 18,none,.load false 1 (.t 17)⟩,⟨some 19,none,.call 42 [(.t 18)]⟩,⟨some 20,none,.un .not (.t 19)⟩,⟨some 21,none,.mv (.t 20)⟩,⟨(some 22),(some (21,false)),(.faddr 1 (.t 8))⟩,⟨(some 23),(some (21,false)),(.load false 1 (.t 22))⟩,⟨(some 24),(some (21,false)),(.faddr 0 (.t 2))⟩,⟨(some 25),(some (21,false)),(.load false 1 (.t 24))⟩,⟨(some 26),(some (21,false)),(.bin .sub false (.t 25) (.c (.int .i64 1)))⟩,⟨(some 27),(some (21,false)),(.call 43 [(.t 23),(.c (.int .i64 0)),(.t 26)])⟩,⟨(some 28),(some (21,false)),(.un .not (.t 27))⟩,⟨some 29,none,.pick (.t 21) (.c (.bool true)) (.t 28)⟩,⟨some 30,none,.mv (.t 29)⟩,⟨(some 31),(some (30,false)),(.mv (.t 7))⟩,⟨(some 32),(some (30,false)),(.bin .gtr false (.t 31) (.c (.int .i64 0)))⟩,⟨(some 33),(some (30,false)),(.mv (.t 32))⟩,⟨(some 34),(some (33,true)),(.faddr 0 (.t 8))⟩,⟨(some 35),(some (33,true)),(.load false 1 (.t 34))⟩,⟨(some 36),(some (33,true)),(.mv (.t 1))⟩,⟨(some 37),(some (33,true)),(.mv (.t 7))⟩,⟨(some 38),(some (33,true)),(.bin .sub false (.t 37) (.c (.int .i64 1)))⟩,⟨(some 39),(some (33,true)),(.iaddr 2 (.t 36) (.t 38))⟩,⟨(some 40),(some (33,true)),(.faddr 0 (.t 39))⟩,⟨(some 41),(some (33,true)),(.load false 1 (.t 40))⟩,⟨(some 42),(some (33,true)),(.bin .leq false (.t 35) (.t 41))⟩,⟨(some 43),(some (30,false)),(.pick (.t 33) (.t 42) (.c (.bool false)))⟩,⟨some 44,none,.pick (.t 30) (.c (.bool true)) (.t 43)⟩]) (.cond (.t 44) (.seq (.reg [⟨some 4,none,.mv (.c (.mp true nomap))⟩,⟨some 5,none,.mv (.c (.bool false))⟩]) .ret) .skip)) (.reg [⟨some 45,none,.mv (.t 6)⟩,⟨some 46,none,.faddr 0 (.t 8)⟩,⟨some 47,none,.load false 1 (.t 46)⟩,⟨some 48,none,.faddr 1 (.t 8)⟩,⟨some 49,none,.load false 1 (.t 48)⟩,⟨none,none,(.mset true (.t 45) (.t 47) (.t 49))⟩])))) (.reg [⟨some 50,none,.bin .add false (.t 12) (.c (.int .i64 1))⟩,⟨some 12,none,.mv (.t 50)⟩]))))))) (.seq (.reg [⟨some 51,none,.mv (.t 6)⟩,⟨some 4,none,.mv (.t 51)⟩,⟨some 5,none,.mv (.c (.bool true))⟩]) .ret))))
theorem ET:Aq Tryz.prog 19=some ⟨52,Dc,[(.tmp 4),(.tmp 5)]⟩:=by kernel_rfl
theorem AZ:modes 19=⟨[],.frz,none,false⟩:=by unfold modes; rfl
def CK:SC:=(.seq (.reg [⟨some 4,none,.boxv 26 2 (.t 0)⟩,⟨some 5,none,.boxv 9 1 (.t 1)⟩,⟨some 6,none,.boxv 3 1 (.t 2)⟩,⟨some 7,none,.boxv 4 1 (.t 3)⟩,⟨(some 8),none,(.alloc 44 [(.str ⟨#[]⟩),(.int .i64 0),(.bool false),.nil])⟩,⟨some 9,none,.mv (.c (.bool false))⟩]) (.seq (.reg [⟨some 11,none,.faddr 1 (.t 4)⟩,⟨some 12,none,.load false 1 (.t 11)⟩,⟨some 13,none,.mkfn 128 [(.t 5),(.t 6),(.t 7)]⟩,⟨some 14,none,.call 82 [(.t 12),(.t 13)]⟩,⟨some 10,none,.mv (.t 14)⟩]) (.seq (.seq (.reg [⟨some 15,none,.mv (.t 10)⟩,⟨some 16,none,.bin .lss false (.t 15) (.c (.int .i64 0))⟩]) (.cond (.t 16) (.seq (.reg [⟨(some 17),none,(.build [(.str ⟨#[]⟩),(.int .i64 0),(.bool false),.nil] [])⟩,⟨none,none,(.store 4 (.t 8) (.t 17))⟩,⟨some 9,none,.mv (.c (.bool false))⟩]) .ret) .skip)) (.seq (.reg [⟨some 18,none,.faddr 1 (.t 4)⟩,⟨some 19,none,.load false 1 (.t 18)⟩,⟨some 20,none,.mv (.t 10)⟩,⟨some 21,none,.iaddr 4 (.t 19) (.t 20)⟩,⟨some 22,none,.load true 4 (.t 21)⟩,⟨none,none,(.store 4 (.t 8) (.t 22))⟩,⟨some 9,none,.mv (.c (.bool true))⟩]) .ret))))
theorem Eb:Aq Tryz.prog 112=some ⟨23,CK,[(.cell 8 true 4),(.tmp 9)]⟩:=by kernel_rfl
theorem Cg:modes 112=⟨[],.asis,none,false⟩:=by unfold modes; rfl
def BS:SC:=(.seq (.reg [⟨some 4,none,.boxv 44 4 (.t 0)⟩,⟨some 5,none,.mv (.c (.bool false))⟩]) (.seq (.reg [⟨some 6,none,.faddr 0 (.t 4)⟩,⟨some 7,none,.load false 1 (.t 6)⟩,⟨some 8,none,.load false 1 (.t 1)⟩,⟨some 9,none,.bin .eql false (.t 7) (.t 8)⟩,⟨some 10,none,.mv (.t 9)⟩,⟨(some 11),(some (10,true)),(.faddr 1 (.t 4))⟩,⟨(some 12),(some (10,true)),(.load false 1 (.t 11))⟩,⟨(some 13),(some (10,true)),(.load false 1 (.t 2))⟩,⟨(some 14),(some (10,true)),(.bin .eql false (.t 12) (.t 13))⟩,⟨some 15,none,.pick (.t 10) (.t 14) (.c (.bool false))⟩,⟨some 16,none,.mv (.t 15)⟩,⟨(some 17),(some (16,true)),(.faddr 2 (.t 4))⟩,⟨(some 18),(some (16,true)),(.load false 1 (.t 17))⟩,⟨(some 19),(some (16,true)),(.load false 1 (.t 3))⟩,⟨(some 20),(some (16,true)),(.bin .eql true (.t 18) (.t 19))⟩,⟨some 21,none,.pick (.t 16) (.t 20) (.c (.bool false))⟩,⟨some 5,none,.mv (.t 21)⟩]) .ret))
theorem CB:Aq Tryz.prog 128=some ⟨22,BS,[(.tmp 5)]⟩:=by kernel_rfl
theorem BA:modes 128=⟨[],.asis,none,false⟩:=by unfold modes; rfl
theorem DA:IG Tryz.prog 128=true:=by kernel_rfl
def CI:SC:=(.seq (.reg [⟨some 4,none,.boxv 26 2 (.t 0)⟩,⟨some 5,none,.boxv 30 2 (.t 1)⟩,⟨some 8,none,.mv (.c (.int .i64 0))⟩,⟨some 9,none,.mv (.c (.bool false))⟩]) (.seq (.reg [⟨some 18,none,.load true 2 (.t 4)⟩,⟨some 19,none,.faddr 0 (.t 5)⟩,⟨some 20,none,.load false 1 (.t 19)⟩,⟨some 21,none,.faddr 1 (.t 5)⟩,⟨some 22,none,.load false 1 (.t 21)⟩,⟨some 23,none,.len false (.t 22)⟩,⟨some 24,none,.mv (.t 3)⟩,⟨some 25,none,.call 112 [(.t 18),(.t 20),(.t 23),(.t 24)]⟩,⟨some 17,none,.mv (.t 25)⟩,⟨some 26,none,.ext (.t 17) 0⟩,⟨some 27,none,.ext (.t 17) 1⟩,⟨(some 10),none,(.alloc 44 [(.str ⟨#[]⟩),(.int .i64 0),(.bool false),.nil])⟩,⟨none,none,(.store 4 (.t 10) (.t 26))⟩,⟨some 11,none,.mv (.t 27)⟩]) (.seq (.seq (.reg [⟨some 28,none,.mv (.t 11)⟩,⟨some 29,none,.un .not (.t 28)⟩]) (.cond (.t 29) (.seq (.reg [⟨some 8,none,.mv (.c (.int .i64 0))⟩,⟨some 9,none,.mv (.c (.bool false))⟩]) .ret) .skip)) (.seq (.reg [⟨some 12,none,.mv (.c (.int .i64 0))⟩]) (.seq (.seq (.reg [⟨some 30,none,.faddr 1 (.t 5)⟩,⟨some 31,none,.load false 1 (.t 30)⟩,⟨some 32,none,.len false (.t 31)⟩,⟨some 33,none,.mv (.c (.int .i64 0))⟩]) (.block 0 (.loop [0,0,1,0,1,0,0,0,0,0,1,0,1,0,0,0,0,0,0,0,0,0,0,0,0,0,0,0,0,0,0,1,1,1,0,0,0,0,0,0,0,0,0,0,0,0,0,0,0,0,0,0,0,0,0,0,0,0] (.seq (.reg [⟨some 34,none,.bin .lss false (.t 33) (.t 32)⟩]) (.seq (.cond (.t 34) .skip (.exit 0)) (.seq (.block 1 (.seq (.reg [⟨some 35,none,.iaddr 2 (.t 31) (.t 33)⟩,⟨some 36,none,.load true 2 (.t 35)⟩,⟨(some 14),none,(.alloc 30 [(.str ⟨#[]⟩),.nil])⟩,⟨none,none,(.store 2 (.t 14) (.t 36))⟩]) (.seq (.reg [⟨some 38,none,.load true 2 (.t 4)⟩,⟨some 39,none,.load true 2 (.t 14)⟩,⟨some 40,none,.mv (.t 2)⟩,⟨some 41,none,.call 89 [(.t 38),(.t 39),(.t 40)]⟩,⟨some 37,none,.mv (.t 41)⟩,⟨some 42,none,.ext (.t 37) 0⟩,⟨some 43,none,.ext (.t 37) 1⟩,⟨some 15,none,.mv (.t 42)⟩,⟨some 16,none,.mv (.t 43)⟩]) (.seq (.seq (.reg [⟨some 44,none,.mv (.t 16)⟩,⟨some 45,none,.un .not (.t 44)⟩]) (.cond (.t 45) (.seq (.reg [⟨some 8,none,.mv (.c (.int .i64 0))⟩,⟨some 9,none,.mv (.c (.bool false))⟩]) .ret) .skip)) (.reg [⟨some 46,none,.mv (.t 12)⟩,⟨some 47,none,.faddr 0 (.t 4)⟩,⟨some 48,none,.load false 1 (.t 47)⟩,⟨some 49,none,.bin .mul false (.t 46) (.t 48)⟩,⟨some 50,none,.mv (.t 15)⟩,⟨some 51,none,.bin .add false (.t 49) (.t 50)⟩,⟨some 12,none,.mv (.t 51)⟩]))))) (.reg [⟨some 52,none,.bin .add false (.t 33) (.c (.int .i64 1))⟩,⟨some 33,none,.mv (.t 52)⟩]))))))) (.seq (.reg [⟨some 53,none,.faddr 3 (.t 10)⟩,⟨some 54,none,.load false 1 (.t 53)⟩,⟨some 55,none,.mv (.t 12)⟩,⟨some 56,none,.iaddr 1 (.t 54) (.t 55)⟩,⟨some 57,none,.load false 1 (.t 56)⟩,⟨some 8,none,.mv (.t 57)⟩,⟨some 9,none,.mv (.c (.bool true))⟩]) .ret))))))
theorem DN:Aq Tryz.prog 90=some ⟨58,CI,[(.tmp 8),(.tmp 9)]⟩:=by kernel_rfl
theorem Ca:modes 90=⟨[],.asis,none,false⟩:=by unfold modes; rfl
def Ch:SC:=(.seq (.reg [⟨some 3,none,.boxv 26 2 (.t 0)⟩,⟨some 4,none,.boxv 30 2 (.t 1)⟩,⟨some 6,none,.mv (.c (.int .i64 0))⟩,⟨some 7,none,.mv (.c (.bool false))⟩]) (.seq (.seq (.reg [⟨some 10,none,.load true 2 (.t 4)⟩,⟨some 11,none,.call 111 [(.t 10)]⟩]) (.cond (.t 11) (.seq (.reg [⟨some 13,none,.mv (.t 2)⟩,⟨some 14,none,.faddr 0 (.t 4)⟩,⟨some 15,none,.load false 1 (.t 14)⟩,⟨some 16,none,.mget true true false [(.int .i64 0)] (.t 13) (.t 15)⟩,⟨some 12,none,.mv (.t 16)⟩,⟨some 17,none,.ext (.t 12) 0⟩,⟨some 18,none,.ext (.t 12) 1⟩,⟨some 8,none,.mv (.t 17)⟩,⟨some 9,none,.mv (.t 18)⟩]) (.seq (.reg [⟨some 19,none,.mv (.t 8)⟩,⟨some 20,none,.mv (.t 9)⟩,⟨some 6,none,.mv (.t 19)⟩,⟨some 7,none,.mv (.t 20)⟩]) .ret)) .skip)) (.seq (.reg [⟨some 21,none,.load true 2 (.t 3)⟩,⟨some 22,none,.load true 2 (.t 4)⟩,⟨some 23,none,.mv (.t 2)⟩,⟨some 24,none,.call 90 [(.t 21),(.t 22),(.t 23),(.c (.bool false))]⟩,⟨some 25,none,.ext (.t 24) 0⟩,⟨some 26,none,.ext (.t 24) 1⟩,⟨some 6,none,.mv (.t 25)⟩,⟨some 7,none,.mv (.t 26)⟩]) .ret)))
theorem CL:Aq Tryz.prog 89=some ⟨27,Ch,[(.tmp 6),(.tmp 7)]⟩:=by kernel_rfl
theorem AK:modes 89=⟨[],.asis,none,false⟩:=by unfold modes; rfl
def FY:SC:=(.seq (.reg [⟨some 2,none,.boxv 26 2 (.t 0)⟩,⟨some 4,none,.mv (.c (.bool false))⟩]) (.seq (.seq (.reg [⟨some 5,none,.mv (.c (.int .i64 0))⟩]) (.block 0 (.loop [0,1,1,0,0,1,0,0,0,0,0,0,0,0,0,0,0,0,0,0,0,0,0,0,0,0,0,0,0,0,0,0,0,0,0,0,0,0,0,0,0,0,0,0,0,0,0,0,0] (.seq (.seq (.reg [⟨some 6,none,.mv (.t 5)⟩,⟨some 7,none,.mv (.t 1)⟩,⟨some 8,none,.len false (.t 7)⟩,⟨some 9,none,.bin .lss false (.t 6) (.t 8)⟩]) (.cond (.t 9) .skip (.exit 0))) (.seq (.block 1 (.seq (.dreg [[],[],[0,1],[2,0,1],[3,2,0,1],[4,3,2,0,1],[5,4,3,2,0,1],[6,5,4,3,2,0,1],[7,6,5,4,3,2,0,1],[7,6,5,4,3,2,0,1],[8,7,6,5,4,3,2,0,1,9],[10,8,7,6,5,4,3,2,0,1,9],[11,10,8,7,6,5,4,3,2,0,1,9],[7,6,5,4,3,2,0,1],[13,7,6,5,4,3,2,0,1],[14,13,7,6,5,4,3,2,0,1],[12,11,10,8,7,6,5,4,3,2,0,1,9,15,14,13],[16,12,11,10,8,7,6,5,4,3,2,0,1,9,15,14,13],[7,6,5,4,3,2,0,1,17,16,12,11,10,8,9,15,14,13],[18,7,6,5,4,3,2,0,1,17,16,12,11,10,8,9,15,14,13],[19,18,7,6,5,4,3,2,0,1,17,16,12,11,10,8,9,15,14,13],[20,19,18,7,6,5,4,3,2,0,1,17,16,12,11,10,8,9,15,14,13],[21,20,19,18,7,6,5,4,3,2,0,1,17,16,12,11,10,8,9,15,14,13],[22,21,20,19,18,7,6,5,4,3,2,0,1,17,16,12,11,10,8,9,15,14,13],[22,21,20,19,18,7,6,5,4,3,2,0,1,17,16,12,11,10,8,9,15,14,13],[24,22,21,20,19,18,7,6,5,4,3,2,0,1,17,16,12,11,10,8,9,15,14,13],[23,22,21,20,19,18,7,6,5,4,3,2,0,1,17,16,12,11,10,8,9,15,14,13,25,24],[26,23,22,21,20,19,18,7,6,5,4,3,2,0,1,17,16,12,11,10,8,9,15,14,13,25,24],[27,26,23,22,21,20,19,18,7,6,5,4,3,2,0,1,17,16,12,11,10,8,9,15,14,13,25,24],[22,21,20,19,18,7,6,5,4,3,2,0,1,17,16,12,11,10,8,9,15,14,13],[22,21,20,19,18,7,6,5,4,3,2,0,1,17,16,12,11,10,8,9,15,14,13],[29,22,21,20,19,18,7,6,5,4,3,2,0,1,17,16,12,11,10,8,9,15,14,13,30],[31,29,22,21,20,19,18,7,6,5,4,3,2,0,1,17,16,12,11,10,8,9,15,14,13,30],[32,31,29,22,21,20,19,18,7,6,5,4,3,2,0,1,17,16,12,11,10,8,9,15,14,13,30],[28,27,26,23,22,21,20,19,18,7,6,5,4,3,2,0,1,17,16,12,11,10,8,9,15,14,13,25,24,33,32,31,29,30],[22,21,20,19,18,7,6,5,4,3,2,0,1,17,16,12,11,10,8,9,15,14,13,34,28,27,26,23,25,24,33,32,31,29,30],[19,18,7,6,5,4,3,2,0,1,17,16,12,11,10,8,9,15,14,13,35,22,21,20,34,28,27,26,23,25,24,33,32,31,29,30]] [⟨some 12,none,.mv (.t 1)⟩,⟨some 13,none,.mv (.t 5)⟩,⟨some 14,none,.iaddr 2 (.t 12) (.t 13)⟩,⟨some 15,none,.faddr 0 (.t 14)⟩,⟨some 16,none,.load false 1 (.t 15)⟩,⟨some 17,none,.call 62 [(.t 16)]⟩,⟨some 18,none,.un .not (.t 17)⟩,⟨some 19,none,.mv (.t 18)⟩,⟨(some 20),(some (19,false)),(.mv (.t 1))⟩,⟨(some 21),(some (19,false)),(.mv (.t 5))⟩,⟨(some 22),(some (19,false)),(.iaddr 2 (.t 20) (.t 21))⟩,⟨(some 23),(some (19,false)),(.faddr 1 (.t 22))⟩,⟨(some 24),(some (19,false)),(.load false 1 (.t 23))⟩,⟨(some 25),(some (19,false)),(.faddr 0 (.t 2))⟩,⟨(some 26),(some (19,false)),(.load false 1 (.t 25))⟩,⟨(some 27),(some (19,false)),(.bin .sub false (.t 26) (.c (.int .i64 1)))⟩,⟨(some 28),(some (19,false)),(.call 32 [(.t 24),(.c (.int .i64 0)),(.t 27)])⟩,⟨(some 29),(some (19,false)),(.un .not (.t 28))⟩,⟨some 30,none,.pick (.t 19) (.c (.bool true)) (.t 29)⟩,⟨some 31,none,.mv (.t 30)⟩,⟨(some 32),(some (31,false)),(.mv (.t 5))⟩,⟨(some 33),(some (31,false)),(.bin .gtr false (.t 32) (.c (.int .i64 0)))⟩,⟨(some 34),(some (31,false)),(.mv (.t 33))⟩,⟨(some 35),(some (34,true)),(.mv (.t 1))⟩,⟨(some 36),(some (34,true)),(.mv (.t 5))⟩,⟨(some 37),(some (34,true)),(.bin .sub false (.t 36) (.c (.int .i64 1)))⟩,⟨(some 38),(some (34,true)),(.iaddr 2 (.t 35) (.t 37))⟩,⟨(some 39),(some (34,true)),(.faddr 0 (.t 38))⟩,⟨(some 40),(some (34,true)),(.load false 1 (.t 39))⟩,⟨(some 41),(some (34,true)),(.mv (.t 1))⟩,⟨(some 42),(some (34,true)),(.mv (.t 5))⟩,⟨(some 43),(some (34,true)),(.iaddr 2 (.t 41) (.t 42))⟩,⟨(some 44),(some (34,true)),(.faddr 0 (.t 43))⟩,⟨(some 45),(some (34,true)),(.load false 1 (.t 44))⟩,⟨(some 46),(some (34,true)),(.bin .geq false (.t 40) (.t 45))⟩,⟨(some 47),(some (31,false)),(.pick (.t 34) (.t 46) (.c (.bool false)))⟩,⟨some 48,none,.pick (.t 31) (.c (.bool true)) (.t 47)⟩]) (.cond (.t 48) (.seq (.reg [⟨some 4,none,.mv (.c (.bool false))⟩]) .ret) .skip))) (.reg [⟨some 10,none,.mv (.t 5)⟩,⟨some 11,none,.bin .add false (.t 10) (.c (.int .i64 1))⟩,⟨some 5,none,.mv (.t 11)⟩])))))) (.seq (.reg [⟨some 4,none,.mv (.c (.bool true))⟩]) .ret)))
theorem Jq:Aq Tryz.prog 25=some ⟨49,FY,[(.tmp 4)]⟩:=by kernel_rfl
theorem CC:modes 25=⟨[],.asis,none,false⟩:=by unfold modes; rfl
def Jr:SC:=(.seq (.reg [⟨some 6,none,.mv (.c (.int .i64 0))⟩]) (.seq (.seq (.reg [⟨some 7,none,.mv (.c (.int .i64 0))⟩]) (.block 0 (.loop [1,1,1,0,0,0,0,1,0,0,0,0,0,0,0,0,0,0,0,0,0,0,0,0,0,0,0,0,0,0,0] (.seq (.seq (.reg [⟨some 8,none,.mv (.t 7)⟩,⟨some 9,none,.mv (.t 0)⟩,⟨some 10,none,.len false (.t 9)⟩,⟨some 11,none,.bin .lss false (.t 8) (.t 10)⟩]) (.cond (.t 11) .skip (.exit 0))) (.seq (.block 1 (.seq (.reg [⟨some 14,none,.mv (.t 0)⟩,⟨some 15,none,.mv (.t 7)⟩,⟨some 16,none,.iaddr 4 (.t 14) (.t 15)⟩,⟨some 17,none,.faddr 0 (.t 16)⟩,⟨some 18,none,.load false 1 (.t 17)⟩,⟨some 19,none,.mv (.t 1)⟩,⟨some 20,none,.bin .eql false (.t 18) (.t 19)⟩,⟨some 21,none,.mv (.t 20)⟩,⟨(some 22),(some (21,true)),(.mv (.t 0))⟩,⟨(some 23),(some (21,true)),(.mv (.t 7))⟩,⟨(some 24),(some (21,true)),(.iaddr 4 (.t 22) (.t 23))⟩,⟨(some 25),(some (21,true)),(.faddr 1 (.t 24))⟩,⟨(some 26),(some (21,true)),(.load false 1 (.t 25))⟩,⟨(some 27),(some (21,true)),(.mv (.t 2))⟩,⟨(some 28),(some (21,true)),(.bin .eql false (.t 26) (.t 27))⟩,⟨some 29,none,.pick (.t 21) (.t 28) (.c (.bool false))⟩]) (.cond (.t 29) (.seq (.reg [⟨some 30,none,.mv (.t 7)⟩,⟨some 6,none,.mv (.t 30)⟩]) .ret) .skip))) (.reg [⟨some 12,none,.mv (.t 7)⟩,⟨some 13,none,.bin .add false (.t 12) (.c (.int .i64 1))⟩,⟨some 7,none,.mv (.t 13)⟩])))))) (.seq (.reg [⟨some 6,none,.mv (.c (.int .i64 (-(0+1))))⟩]) .ret)))
theorem Ow:Aq Tryz.prog 98=some ⟨31,Jr,[(.tmp 6)]⟩:=by kernel_rfl
theorem CV:modes 98=⟨[],.asis,none,false⟩:=by unfold modes; rfl
def EH:SC:=(.seq (.reg [⟨some 4,none,.boxv 26 2 (.t 0)⟩,⟨some 6,none,.boxv 30 2 (.t 2)⟩,⟨some 8,none,.mv (.c (.int .i64 0))⟩,⟨some 9,none,.mv (.c (.bool false))⟩]) (.seq (.seq (.reg [⟨some 16,none,.faddr 0 (.t 6)⟩,⟨some 17,none,.load false 1 (.t 16)⟩,⟨some 18,none,.call 62 [(.t 17)]⟩]) (.cond (.t 18) (.seq (.seq (.reg [⟨some 10,none,.mv (.c (.int .i64 0))⟩]) (.block 0 (.loop [0,1,0,0,0,0,1,0,0,0,1,0,0,0,0,0,0,0,0,0,0,0,0,0,0,0,0,0,0,0,0,0,0,0,0,0,0,0,0,0,0,0,0,0,0,0,0,0,0,0,0,0,0,0,0,0,0,0,0,0,0,0,0,0,0,0,0,0,0,0,0,0,0,0,0,0,0,0,0,0,0,0,0,0,0,0,0,0,0,0,0,0,0,0,0,0,0,0,0,0,0,0,0,0,0,0,0,0] (.seq (.seq (.reg [⟨some 19,none,.mv (.t 10)⟩,⟨some 20,none,.mv (.t 1)⟩,⟨some 21,none,.len false (.t 20)⟩,⟨some 22,none,.bin .lss false (.t 19) (.t 21)⟩]) (.cond (.t 22) .skip (.exit 0))) (.seq (.block 1 (.seq (.dreg [[],[],[0,1],[2,0,1],[3,2,0,1],[],[5],[4,3,2,0,1,6,5]] [⟨some 25,none,.mv (.t 1)⟩,⟨some 26,none,.mv (.t 10)⟩,⟨some 27,none,.iaddr 2 (.t 25) (.t 26)⟩,⟨some 28,none,.faddr 0 (.t 27)⟩,⟨some 29,none,.load false 1 (.t 28)⟩,⟨some 30,none,.faddr 0 (.t 6)⟩,⟨some 31,none,.load false 1 (.t 30)⟩,⟨some 32,none,.bin .eql false (.t 29) (.t 31)⟩]) (.cond (.t 32) (.seq (.reg [⟨some 33,none,.mv (.t 1)⟩,⟨some 34,none,.mv (.t 10)⟩,⟨some 35,none,.iaddr 2 (.t 33) (.t 34)⟩,⟨some 36,none,.faddr 1 (.t 35)⟩,⟨some 37,none,.load false 1 (.t 36)⟩,⟨some 8,none,.mv (.t 37)⟩,⟨some 9,none,.mv (.c (.bool true))⟩]) .ret) .skip))) (.reg [⟨some 23,none,.mv (.t 10)⟩,⟨some 24,none,.bin .add false (.t 23) (.c (.int .i64 1))⟩,⟨some 10,none,.mv (.t 24)⟩])))))) (.seq (.reg [⟨some 8,none,.mv (.c (.int .i64 0))⟩,⟨some 9,none,.mv (.c (.bool false))⟩]) .ret)) .skip)) (.seq (.reg [⟨some 11,none,.mv (.c (.int .i64 0))⟩]) (.seq (.seq (.reg [⟨some 12,none,.mv (.c (.int .i64 0))⟩]) (.block 2 (.loop [0,1,0,1,1,0,1,0,0,0,0,1,1,0,0,0,0,0,0,0,0,0,0,0,0,0,0,0,0,0,0,0,0,0,0,0,0,0,0,0,0,0,0,0,0,0,0,0,0,0,0,0,0,0,0,0,0,0,0,0,0,0,0,0,0,0,0,0,0,0,0,0,0,0,0,0,0,0,0,0,0,0,0,0,0,0,0,0,0,0,0,0,0,0,0,0,0,0,0,0,0,0,0,0,0,0,0,0] (.seq (.seq (.reg [⟨some 38,none,.mv (.t 12)⟩,⟨some 39,none,.faddr 1 (.t 6)⟩,⟨some 40,none,.load false 1 (.t 39)⟩,⟨some 41,none,.len false (.t 40)⟩,⟨some 42,none,.bin .lss false (.t 38) (.t 41)⟩]) (.cond (.t 42) .skip (.exit 2))) (.seq (.block 3 (.seq (.dreg [[],[],[],[2],[],[3,2,4],[5,3,2,4],[0,1,6,5,3,2,4],[7,0,1,6,5,3,2,4],[8,7,0,1,6,5,3,2,4],[8,7,0,1,6,5,3,2,4],[9,8,7,0,1,6,5,3,2,4],[10,8,7,0,1,6,5,3,2,4,11,9]] [⟨some 46,none,.load true 2 (.t 4)⟩,⟨some 47,none,.mv (.t 1)⟩,⟨some 48,none,.faddr 1 (.t 6)⟩,⟨some 49,none,.load false 1 (.t 48)⟩,⟨some 50,none,.mv (.t 12)⟩,⟨some 51,none,.iaddr 2 (.t 49) (.t 50)⟩,⟨some 52,none,.load true 2 (.t 51)⟩,⟨some 53,none,.call 65 [(.t 46),(.t 47),(.t 52),(.c (.bool false))]⟩,⟨some 45,none,.mv (.t 53)⟩,⟨some 54,none,.ext (.t 45) 0⟩,⟨some 55,none,.ext (.t 45) 1⟩,⟨some 13,none,.mv (.t 54)⟩,⟨some 14,none,.mv (.t 55)⟩]) (.seq (.seq (.reg [⟨some 56,none,.mv (.t 14)⟩,⟨some 57,none,.un .not (.t 56)⟩]) (.cond (.t 57) (.seq (.reg [⟨some 8,none,.mv (.c (.int .i64 0))⟩,⟨some 9,none,.mv (.c (.bool false))⟩]) .ret) .skip)) (.reg [⟨some 58,none,.mv (.t 11)⟩,⟨some 59,none,.faddr 0 (.t 4)⟩,⟨some 60,none,.load false 1 (.t 59)⟩,⟨some 61,none,.bin .mul false (.t 58) (.t 60)⟩,⟨some 62,none,.mv (.t 13)⟩,⟨some 63,none,.bin .add false (.t 61) (.t 62)⟩,⟨some 11,none,.mv (.t 63)⟩])))) (.reg [⟨some 43,none,.mv (.t 12)⟩,⟨some 44,none,.bin .add false (.t 43) (.c (.int .i64 1))⟩,⟨some 12,none,.mv (.t 44)⟩])))))) (.seq (.seq (.reg [⟨some 64,none,.mv (.t 3)⟩,⟨some 65,none,.mv (.t 64)⟩,⟨(some 66),(some (65,true)),(.faddr 0 (.t 6))⟩,⟨(some 67),(some (65,true)),(.load false 1 (.t 66))⟩,⟨(some 68),(some (65,true)),(.bin .eql false (.t 67) (.c (.str ⟨#[61]⟩)))⟩,⟨some 69,none,.pick (.t 65) (.t 68) (.c (.bool false))⟩]) (.cond (.t 69) (.seq (.seq (.dreg [[],[],[1],[0,2,1],[],[],[5],[4,6,5],[3,0,2,1,7,4,6,5]] [⟨some 70,none,.mv (.t 11)⟩,⟨some 71,none,.faddr 0 (.t 4)⟩,⟨some 72,none,.load false 1 (.t 71)⟩,⟨some 73,none,.bin .rem false (.t 70) (.t 72)⟩,⟨some 74,none,.mv (.t 11)⟩,⟨some 75,none,.faddr 0 (.t 4)⟩,⟨some 76,none,.load false 1 (.t 75)⟩,⟨some 77,none,.bin .quo false (.t 74) (.t 76)⟩,⟨some 78,none,.bin .eql false (.t 73) (.t 77)⟩]) (.cond (.t 78) (.seq (.reg [⟨some 8,none,.mv (.c (.int .i64 1))⟩,⟨some 9,none,.mv (.c (.bool true))⟩]) .ret) .skip)) (.seq (.reg [⟨some 8,none,.mv (.c (.int .i64 0))⟩,⟨some 9,none,.mv (.c (.bool true))⟩]) .ret)) .skip)) (.seq (.reg [⟨some 79,none,.faddr 1 (.t 4)⟩,⟨some 80,none,.load false 1 (.t 79)⟩,⟨some 81,none,.faddr 0 (.t 6)⟩,⟨some 82,none,.load false 1 (.t 81)⟩,⟨some 83,none,.faddr 1 (.t 6)⟩,⟨some 84,none,.load false 1 (.t 83)⟩,⟨some 85,none,.len false (.t 84)⟩,⟨some 86,none,.call 98 [(.t 80),(.t 82),(.t 85)]⟩,⟨some 15,none,.mv (.t 86)⟩]) (.seq (.seq (.reg [⟨some 87,none,.mv (.t 15)⟩,⟨some 88,none,.bin .lss false (.t 87) (.c (.int .i64 0))⟩,⟨some 89,none,.mv (.t 88)⟩,⟨(some 90),(some (89,false)),(.faddr 1 (.t 4))⟩,⟨(some 91),(some (89,false)),(.load false 1 (.t 90))⟩,⟨(some 92),(some (89,false)),(.mv (.t 15))⟩,⟨(some 93),(some (89,false)),(.iaddr 4 (.t 91) (.t 92))⟩,⟨(some 94),(some (89,false)),(.faddr 2 (.t 93))⟩,⟨(some 95),(some (89,false)),(.load false 1 (.t 94))⟩,⟨(some 96),(some (89,false)),(.mv (.t 3))⟩,⟨(some 97),(some (89,false)),(.bin .neq true (.t 95) (.t 96))⟩,⟨some 98,none,.pick (.t 89) (.c (.bool true)) (.t 97)⟩]) (.cond (.t 98) (.seq (.reg [⟨some 8,none,.mv (.c (.int .i64 0))⟩,⟨some 9,none,.mv (.c (.bool false))⟩]) .ret) .skip)) (.seq (.reg [⟨some 99,none,.faddr 1 (.t 4)⟩,⟨some 100,none,.load false 1 (.t 99)⟩,⟨some 101,none,.mv (.t 15)⟩,⟨some 102,none,.iaddr 4 (.t 100) (.t 101)⟩,⟨some 103,none,.faddr 3 (.t 102)⟩,⟨some 104,none,.load false 1 (.t 103)⟩,⟨some 105,none,.mv (.t 11)⟩,⟨some 106,none,.iaddr 1 (.t 104) (.t 105)⟩,⟨some 107,none,.load false 1 (.t 106)⟩,⟨some 8,none,.mv (.t 107)⟩,⟨some 9,none,.mv (.c (.bool true))⟩]) .ret))))))))
theorem Gg:Aq Tryz.prog 65=some ⟨108,EH,[(.tmp 8),(.tmp 9)]⟩:=by kernel_rfl
theorem Bk:modes 65=⟨[],.asis,none,false⟩:=by unfold modes; rfl
theorem JH {α:Type} (p:α→Bool):∀ (xs:List α) (i:Int),(xs.find? p=none∧Cw p xs i=-1)∨∃ k t,∃ h:k<xs.length,xs.find? p=some t∧Cw p xs i=i+(k:Nat)∧xs[k]=t
 | [],i=>.inl ⟨rfl,rfl⟩
 | x :: xs,i=>by
  rw [Cw,yX]
  cases hp:p x with
  | true=>exact .inr ⟨0,x,by simp,rfl,by simp,rfl⟩
  | false =>
   simp only [yF,if_false]
   rcases JH p xs (i+1) with h | ⟨k,t,h,h1,h2,h3⟩
   ·exact .inl h
   ·exact .inr ⟨k+1,t,by simpa using h,h1,by rw [h2]; omega,by simpa using h3⟩
theorem MQ (m:Ip) (hsz:1≤m.size∧m.size≤3) (xs:List Ag) (hl:xs.length≤1099511627776):E 25 [m.sv,.arr (xs.map Ag.d)] []=some (.bool (JJ m.size xs),[]):=by
 refine Al Jq CC (of_decide_eq_true rfl) ?_
 simp (disch:=omega) only [FY,go_sem,Ab]
 refine go_loop (α:=Int) (fun a=>⟨slots 49 0 [(1,.arr (xs.map Ag.d)),(2,.ptr 0 0),(5,.int .i64 a)],[.box 26 [.int .i64 m.size,.arr (m.tables.map Tl.d)]]⟩) (fun a=>∃ k:Nat,a=k∧k≤(xs).length∧Dj (Qz m.size xs) k=true) (fun a=>(xs).length-(a).toNat) 0 ⟨0,rfl,zJ _,by rw [Dj]⟩ (by simp (disch:=omega) only [go_sem,Ab]) ?_
 rintro i ⟨k,hi,hk,hR⟩
 have hni:i.toNat=k:=by omega
 have hni1:(i+1).toNat=k+1:=by omega
 rcases zC k (xs).length with hlt | hge
 ·have hg:=get_at Ag.d hlt
  rw [Ag.d_eq] at hg
  have hs:=EY xs[k].var
  have hw:=NZ xs[k].elem 0 (m.size-1)
  have no:Qz m.size xs k=false→JJ m.size xs=false:=fun h=>Ln h hlt
  cases ha:Cc xs[k].var with
  | false =>
   rw [ha] at hs
   rw [no (by cases k with | zero=>rw [F6 hlt,ha,zA] | succ j=>rw [DQ hlt,ha,zA])]
   simp (disch:=omega) only [go_sem,Ab,hni,hg,hs,hw,An,Bl]
  | true =>
   rw [ha] at hs
   cases hb:inI xs[k].elem 0 (m.size-1) with
   | false =>
    rw [hb] at hw
    rw [no (by cases k with | zero=>rw [F6 hlt,hb,zK] | succ j=>rw [DQ hlt,hb,zA,zK])]
    simp (disch:=omega) only [go_sem,Ab,hni,hg,hs,hw,An,Bl]
   | true =>
    rw [hb] at hw
    cases k with
    | zero =>
     obtain rfl:i=0:=hi
     simp (disch:=omega) only [go_sem,Ab,hni,hg,hs,hw,An,Bl]
     exact ⟨1,⟨1,rfl,hlt,by rw [Dj,hR,F6 hlt,ha,hb]; rfl⟩,by omega,by first | trivial | rfl⟩
    | succ j =>
     have hj:j<xs.length:=by omega
     have hg2:=get_at Ag.d hj
     rw [Ag.d_eq] at hg2
     have hni2:(i-1).toNat=j:=by omega
     cases h1:strLt xs[j].var xs[j+1].var with
     | true =>
      simp (disch:=omega) only [go_sem,Ab,hni,hg,hs,hw,An,Bl,hni2,hg2,h1]
      exact ⟨i+1,⟨j+1+1,by omega,hlt,by rw [Dj,hR,DQ hlt,ha,hb,h1]; rfl⟩,by omega,by first | trivial | rfl⟩
     | false =>
      rw [no (by rw [DQ hlt,ha,hb,h1]; rfl)]
      simp (disch:=omega) only [go_sem,Ab,hni,hg,hs,hw,An,Bl,hni2,hg2,h1]
 ·obtain rfl:k=xs.length:=by omega
  unfold JJ
  rw [hR]
  simp (disch:=omega) only [go_sem,Ab,hni]
theorem GQ (m:Ip) (top:Int) (hA:(bif dec (inK .i64 (m.size-1)) then some (SV.int .i64 (m.size-1)) else some (SV.int .i64 (IntKind.wrap .i64 (m.size-1))))=some (SV.int .i64 top)) (xs:List Ag) (hl:xs.length≤1099511627776):E 19 [m.sv,.arr (xs.map Ag.d)] []=some (.tup [.mp true (bif JJ (top+1) xs then Dy (IC xs) else nomap),.bool (JJ (top+1) xs)],[]):=by
 have he0:Dy (IC ([]:List Ag))=nomap:=Vm
 refine Al ET AZ (of_decide_eq_true rfl) ?_
 simp (disch:=omega) only [Dc,go_sem,Ab]
 refine go_loop (α:=Int) (fun a=>⟨slots 52 0 [(1,.arr (xs.map Ag.d)),(2,.ptr 0 0),(6,.ref 1),(10,.arr (xs.map Ag.d)),(11,.int .i64 xs.length),(12,.int .i64 a)],[.box 26 [.int .i64 m.size,.arr (m.tables.map Tl.d)],.mp true (Dy (IC (xs.take a.toNat)))]⟩) (fun a=>∃ k:Nat,a=k∧k≤(xs).length∧Dj (Qz (top+1) xs) k=true) (fun a=>(xs).length-(a).toNat) 0 ⟨0,rfl,zJ _,by rw [Dj]⟩ (by simp (disch:=omega) only [go_sem,Ab,he0]) ?_
 rintro i ⟨k,hi,hk,hR⟩
 have hni:i.toNat=k:=by omega
 have hni1:(i+1).toNat=k+1:=by omega
 rcases zC k (xs).length with hlt | hge
 ·have hg:=get_at Ag.d hlt
  rw [Ag.d_eq] at hg
  have hs:=Dg xs[k].var
  have hw:=Lr xs[k].elem 0 top
  have ht1:top+1-1=top:=by omega
  have no:Qz (top+1) xs k=false→JJ (top+1) xs=false:=fun h=>Ln h hlt
  have hsn:Dy (C4 (IC (xs.take k)) xs[k].var xs[k].elem)=Dy (IC (xs.take (i+1).toNat)):=by rw [hni1,Tj hlt]
  cases ha:Cc xs[k].var with
  | false =>
   rw [ha] at hs
   rw [no (by cases k with | zero=>rw [F6 hlt,ha,zA] | succ j=>rw [DQ hlt,ha,zA])]
   simp (disch:=omega) only [go_sem,Ab,hni,hg,hs,hw,hA,Ae,Bo]
  | true =>
   rw [ha] at hs
   cases hb:inI xs[k].elem 0 top with
   | false =>
    rw [hb] at hw
    rw [no (by cases k with | zero=>rw [F6 hlt,ht1,hb,zK] | succ j=>rw [DQ hlt,ht1,hb,zA,zK])]
    simp (disch:=omega) only [go_sem,Ab,hni,hg,hs,hw,hA,Ae,Bo]
   | true =>
    rw [hb] at hw
    cases k with
    | zero =>
     obtain rfl:i=0:=hi
     have hs0:Dy (C4 (IC ([]:List Ag)) xs[0].var xs[0].elem)=Dy (IC (xs.take (Int.toNat 1))):=hsn
     simp (disch:=omega) only [go_sem,Ab,hni,hg,hs,hw,hA,Ae,Bo]
     exact ⟨1,⟨1,rfl,hlt,by rw [Dj,hR,F6 hlt,ht1,ha,hb]; rfl⟩,by omega,by simp only [Lp,hs0,and_self]⟩
    | succ j =>
     have hj:j<xs.length:=by omega
     have hg2:=get_at Ag.d hj
     rw [Ag.d_eq] at hg2
     have hni2:(i-1).toNat=j:=by omega
     cases h1:strLt xs[j].var xs[j+1].var with
     | true =>
      have h2:=M7 h1
      have h3:dec (xs[j+1].var=xs[j].var)=false:=Aj fun e=>Jg h1 e.symm
      simp (disch:=omega) only [go_sem,Ab,hni,hg,hs,hw,hA,Ae,Bo,hni2,hg2,h2,h3]
      exact ⟨i+1,⟨j+1+1,by omega,hlt,by rw [Dj,hR,DQ hlt,ht1,ha,hb,h1]; rfl⟩,by omega,by first | trivial | (simp only [Lp,hsn]; first | trivial | rfl) | (rw [Lp]; exact congrArg _ hsn)⟩
     | false =>
      rw [no (by rw [DQ hlt,ht1,ha,hb,h1]; rfl)]
      cases h2:strLt xs[j+1].var xs[j].var with
      | true=>simp (disch:=omega) only [go_sem,Ab,hni,hg,hs,hw,hA,Ae,Bo,hni2,hg2,h2]
      | false =>
       have h3:dec (xs[j+1].var=xs[j].var)=true:=Aw (Je h2 h1)
       simp (disch:=omega) only [go_sem,Ab,hni,hg,hs,hw,hA,Ae,Bo,hni2,hg2,h2,h3]
 ·obtain rfl:k=xs.length:=by omega
  have ht:xs.take xs.length=xs:=yK
  unfold JJ
  rw [hR,cond_true]
  simp (disch:=omega) only [go_sem,Ab,hni,ht]
theorem OP (m:Ip) (hsz:1≤m.size∧m.size≤3) (xs:List Ag) (hl:xs.length≤1099511627776):E 19 [m.sv,.arr (xs.map Ag.d)] []=some (.tup [.mp true (bif JJ m.size xs then Dy (asg xs) else nomap),.bool (JJ m.size xs)],[]):=by
 have h:=GQ m (m.size-1) (by rw [Er (by omega) (by omega)]; rfl) xs hl
 rw [show m.size-1+1=m.size by omega] at h
 rw [h]
 cases hb:JJ m.size xs with
 | false=>rfl
 | true=>rw [WT (Q0 hb).1]
theorem MR (m:Ip) (xs:List Ag) (hl:xs.length≤1099511627776):∃ f b,E 19 [m.sv,.arr (xs.map Ag.d)] []=some (.tup [.mp true f,.bool b],[]):=by
 cases hd:dec (inK .i64 (m.size-1)) with
 | true=>exact ⟨_,_,GQ m (m.size-1) (by rw [hd]; rfl) xs hl⟩
 | false=>exact ⟨_,_,GQ m (IntKind.wrap .i64 (m.size-1)) (by rw [hd]; rfl) xs hl⟩
theorem Zi (n:ByteArray) (z:Int) (b:Bool) (t:Tl):E 128 [t.sv,.ptr 0 0,.ptr 1 0,.ptr 2 0] [.box 9 [.str n],.box 3 [.int .i64 z],.box 4 [.bool b]]=some (.bool (dec (t.name=n)&&(dec (t.arity=z)&&(t.pred == b))),[.box 9 [.str n],.box 3 [.int .i64 z],.box 4 [.bool b]]):=by
 cases h1:dec (t.name=n) with
 | false =>
  rw [zA]
  refine Al CB BA (of_decide_eq_true rfl) ?_
  simp (disch:=omega) only [BS,go_sem,Ab,h1]
 | true =>
  rw [zD]
  cases h2:dec (t.arity=z) with
  | false =>
   rw [zA]
   refine Al CB BA (of_decide_eq_true rfl) ?_
   simp (disch:=omega) only [BS,go_sem,Ab,h1,h2]
  | true =>
   rw [zD]
   refine Al CB BA (of_decide_eq_true rfl) ?_
   simp (disch:=omega) only [BS,go_sem,Ab,h1,h2]
theorem V5 (n:ByteArray) (z:Int) (b:Bool) (xs:List Tl) (hl:xs.length≤1099511627776):E 82 [.arr (xs.map Tl.d),.fn 128 [.ptr 0 0,.ptr 1 0,.ptr 2 0]] [.box 9 [.str n],.box 3 [.int .i64 z],.box 4 [.bool b]]=some (.int .i64 (Cw (fun t=>dec (t.name=n)&&(dec (t.arity=z)&&(t.pred == b))) xs 0),[.box 9 [.str n],.box 3 [.int .i64 z],.box 4 [.bool b]]):=by
 have hE:=Zi n z b
 generalize hpp:(fun t:Tl=>dec (t.name=n)&&(dec (t.arity=z)&&(t.pred == b)))=p at *
 have hpe:∀ t:Tl,(dec (t.name=n)&&(dec (t.arity=z)&&(t.pred == b)))=p t:=fun t=>by rw [←hpp]
 refine Al Cy AQ (of_decide_eq_true rfl) ?_
 simp (disch:=omega) only [BF,go_sem,Ab]
 refine go_loop (α:=Int) (fun a=>⟨slots 19 0 [(0,.arr (xs.map Tl.d)),(1,.fn 128 [.ptr 0 0,.ptr 1 0,.ptr 2 0]),(7,.int .i64 xs.length),(8,.int .i64 a)],[.box 9 [.str n],.box 3 [.int .i64 z],.box 4 [.bool b]]⟩) (fun a=>∃ k:Nat,a=k∧k≤(xs).length∧Cw p (xs.drop k) a=Cw p xs 0) (fun a=>(xs).length-(a).toNat) 0 ⟨0,rfl,zJ _,by rw [zI]⟩ (by simp (disch:=omega) only [go_sem,Ab]) ?_
 rintro i ⟨k,hi,hk,hR⟩
 have hni:i.toNat=k:=by omega
 have hni1:(i+1).toNat=k+1:=by omega
 rcases zC k (xs).length with hlt | hge
 ·have hg':=get_at Tl.d hlt
  rw [Tl.d_eq] at hg'
  have hc:=hE xs[k]
  rw [hpe] at hc
  rw [zB hlt,Cw] at hR
  cases hp:p xs[k] with
  | true =>
   rw [hp] at hc hR
   simp (disch:=omega) only [go_sem,Ab,hni,hg',hc,DA,BA]
   simpa using hR
  | false =>
   rw [hp] at hc hR
   simp (disch:=omega) only [go_sem,Ab,hni,hg',hc,DA,BA]
   exact ⟨i+1,⟨k+1,by omega,hlt,by simpa using hR⟩,by omega,by first | trivial | rfl⟩
 ·rw [zG hge,Cw] at hR
  simp (disch:=omega) only [go_sem,Ab,hni]
  exact hR
noncomputable def Xv:Option Tl→SV
 | some t=>t.sv
 | none=>.agg [.str ⟨#[]⟩,.int .i64 0,.bool false,.nil]
theorem Zj (m:Ip) (hl:m.tables.length≤1099511627776) (n:ByteArray) (z:Int) (b:Bool):E 112 [m.sv,.str n,.int .i64 z,.bool b] []=some (.tup [Xv (Jh m.tables n z b),.bool (Jh m.tables n z b).isSome],[]):=by
 have h1:=V5 n z b m.tables hl
 unfold Jh
 rcases JH (fun t:Tl=>dec (t.name=n)&&(dec (t.arity=z)&&(t.pred == b))) m.tables 0 with ⟨h2,h3⟩ | ⟨k,t,hk,h2,h3,h4⟩
 ·rw [h2]
  rw [h3] at h1
  refine Al Eb Cg (of_decide_eq_true rfl) ?_
  simp (disch:=omega) only [CK,go_sem,Ab,h1,AQ]
  exact ⟨rfl,rfl⟩
 ·rw [h2]
  rw [h3,yC] at h1
  have hg:=get_at Tl.d hk
  rw [h4,Tl.d_eq] at hg
  obtain ⟨i,hi⟩:∃ i:Int,i=(k:Int):=⟨_,rfl⟩
  rw [←hi] at h1
  have hni:i.toNat=k:=by omega
  refine Al Eb Cg (of_decide_eq_true rfl) ?_
  simp (disch:=omega) only [CK,go_sem,Ab,h1,hni,hg,AQ]
  exact ⟨rfl,rfl⟩
abbrev Zk (o:Option Int):SV:=.tup [.int .i64 (o.getD 0),.bool o.isSome]
theorem RZ {a b c:Tl} (h1:DZ a b=true) (h2:DZ b c=true):DZ a c=true:=by
 unfold DZ at *
 rw [yM,zE,Ar,Ar] at *
 rcases h1 with h1 | ⟨h1,h1'⟩
 ·rcases h2 with h2 | ⟨h2,h2'⟩
  ·exact .inl (Jf h1 h2)
  ·rw [←h2]; exact .inl h1
 ·rcases h2 with h2 | ⟨h2,h2'⟩
  ·rw [h1]; exact .inl h2
  ·exact .inr ⟨h1.trans h2,by omega⟩
theorem PM {ts:List Tl} (h:Eu ts=true):ts.Pairwise fun x y=>DZ x y=true:=by
 unfold Eu at h
 rw [zE] at h
 have st:∀ j (hj:j+1<ts.length),DZ ts[j] ts[j+1]=true:=fun j hj=>by
  have:=Lm h.1 hj
  rw [DP hj,zE,zE] at this
  exact this.2.2
 have key:∀ i d (hi:i+d+1<ts.length),DZ (ts[i]'(by omega)) ts[i+d+1]=true:=by
  intro i d
  induction d with
  | zero=>intro hi; exact st i hi
  | succ d ih=>intro hi; exact RZ (ih (by omega)) (st (i+d+1) hi)
 rw [yL]
 intro i j hi hj hij
 obtain ⟨d,rfl⟩:∃ d,j=i+d+1:=⟨j-i-1,by omega⟩
 exact key i d hj
theorem Xw {a b:Tl} (h:DZ a b=true) (h1:a.name=b.name) (h2:a.arity=b.arity):False:=by
 unfold DZ at h
 rw [yM,zE,Ar,Ar] at h
 rcases h with h | ⟨_,h⟩
 ·exact Jg h h1
 ·omega
theorem KH {n:ByteArray} {z:Int} {p:Bool}:∀ {ts:List Tl},ts.Pairwise (fun x y=>DZ x y=true)→Jh ts n z p=match ts.find? (fun t=>dec (t.name=n)&&dec (t.arity=z)) with
  | some t=>bif t.pred == p then some t else none
  | none=>none
 | [],_=>rfl
 | t :: ts,h=>by
  obtain ⟨h1,h2⟩:=z7.1 h
  have ih:=KH (n:=n) (z:=z) (p:=p) h2
  unfold Jh at ih ⊢
  rw [yX,yX]
  cases ha:dec (t.name=n) with
  | false=>simp only [zA]; exact ih
  | true =>
   cases hb:dec (t.arity=z) with
   | false=>simp only [zA,zK]; exact ih
   | true =>
    simp only [zD]
    cases hc:t.pred == p with
    | true=>rfl
    | false =>
     simp only [cond_false]
     rw [y5]
     intro u hu hb2
     rw [zE,zE,Ar,Ar] at hb2
     exact Xw (h1 u hu) ((Ar.1 ha).trans hb2.1.symm) ((Ar.1 hb).trans hb2.2.1.symm)
abbrev VaC (m:Ip) (e:Env) (x:Tm):Prop:=E 89 [m.sv,x.sv,.mp true (Dy e)] []=some (Zk (x.val m e),[])
abbrev LvC (m:Ip) (a:List Ag) (x:Tm):Prop:=E 65 [m.sv,.arr (a.map Ag.d),x.sv,.bool false] []=some (Zk (x.val m (asg a)),[])
theorem at_next {s at_ v P:Int} (h1:1≤s) (h0:0≤at_) (hP:at_<P) (v0:0≤v) (v1:v<s):0≤at_*s+v∧at_*s+v<P*s∧0≤at_*s∧at_*s<P*s:=by
 have k1:=z8 h0 (show 0≤s by omega)
 have k2:(at_+1)*s≤P*s:=Int.mul_le_mul_of_nonneg_right (by omega) (by omega)
 rw [Int.add_mul,zZ] at k2
 omega
theorem PN (m:Ip) (hm:m.ok=true) (hml:m.tables.length≤1099511627776) (hvl:∀ t∈m.tables,t.vals.length≤1099511627776) (e:Env) (he:InE m.size e) (x:Tm) (hxl:x.args.length≤1099511627776) (p:Bool) (ih:∀ y∈x.args,VaC m e y):E 90 [m.sv,x.sv,.mp true (Dy e),.bool p] []=some (Zk (CT m.tables x.name x.args.length p (Tm.Cv m e x.args 0)),[]):=by
 have h1:=Zj m hml x.name x.args.length p
 unfold CT
 obtain ⟨⟨s1,s3⟩,hT,_⟩:=Ip.Cx hm
 cases ht:Jh m.tables x.name x.args.length p with
 | none =>
  rw [ht] at h1
  have hts:Xv none=.agg [.str ⟨#[]⟩,.int .i64 0,.bool false,.nil]:=rfl
  refine Al DN Ca (of_decide_eq_true rfl) ?_
  simp (disch:=omega) only [CI,go_sem,Ab,h1,hts,zQ,Cg]
  try exact ⟨rfl,rfl⟩
 | some t =>
  rw [ht] at h1
  have hts:Xv (some t)=.agg [.str t.name,.int .i64 t.arity,.bool t.pred,.arr (t.vals.map fun n=>[D.int n])]:=rfl
  obtain ⟨t1,t2,t3,t4⟩:=Gy ht
  have ha3:=(FT hT t1).2
  rw [t3] at ha3
  have hvt:=hvl t t1
  have hsome:(some t).isSome=true:=rfl
  refine Al DN Ca (of_decide_eq_true rfl) ?_
  simp (disch:=omega) only [CI,go_sem,Ab,h1,hts,hsome,Cg]
  refine go_loop (α:=Int × (Int)) (fun a=>⟨slots 58 0 [(2,.mp true (Dy e)),(4,.ptr 0 0),(10,.ptr 1 0),(12,.int .i64 (a.2)),(31,.arr (x.args.map Tm.d)),(32,.int .i64 x.args.length),(33,.int .i64 (a.1))],[.box 26 [.int .i64 m.size,.arr (m.tables.map Tl.d)],.box 44 [.str t.name,.int .i64 t.arity,.bool t.pred,.arr (t.vals.map fun n=>[D.int n])]]⟩) (fun a=>∃ k:Nat,a.1=k∧k≤(x.args).length∧0≤(a.2)∧(a.2)<pw m.size k∧Tm.Cv m e (x.args.drop k) (a.2)=Tm.Cv m e x.args 0) (fun a=>(x.args).length-(a.1).toNat) (0,0) ⟨0,rfl,zJ _,⟨Int.le_refl 0,by rw [pw]; omega,by rw [zI]⟩⟩ (by simp (disch:=omega) only [go_sem,Ab]) ?_
  rintro ⟨i,at_⟩ ⟨k,hi,hk,hR⟩
  dsimp only at hi hR
  have hni:i.toNat=k:=by omega
  have hni1:(i+1).toNat=k+1:=by omega
  rcases zC k (x.args).length with hlt | hge
  ·have hg:=get_at Tm.d hlt
   rw [Tm.d_eq] at hg
   obtain ⟨r0,r1,r2⟩:=hR
   have hc:=ih x.args[k] (zF hlt)
   rw [zB hlt,Tm.Cv] at r2
   have hps:=Dl s1 s3 (k:=k+1) (by omega)
   cases hv:x.args[k].val m e with
   | none =>
    rw [hv] at r2
    unfold VaC at hc
    rw [hv] at hc
    rw [←r2]
    simp (disch:=omega) only [go_sem,Ab,hni,hg,hc,zX,zQ,zN,zM,AK]
    try exact ⟨rfl,rfl⟩
   | some v =>
    rw [hv] at r2
    unfold VaC at hc
    rw [hv] at hc
    obtain ⟨v0,v1⟩:=Tm.H0 hm he _ v hv
    obtain ⟨q0,q1,q2,q3⟩:=at_next s1 r0 r1 v0 v1
    rw [pw] at hps
    simp (disch:=omega) only [go_sem,Ab,hni,hg,hc,zX,zQ,zN,zM,AK]
    refine ⟨(i+1,at_*m.size+v),⟨k+1,by dsimp only; omega,hlt,q0,(by rw [pw]; exact q1),r2⟩,by dsimp only; omega,?_⟩
    first | trivial | rfl | exact ⟨rfl,rfl⟩
  ·obtain rfl:k=x.args.length:=by omega
   obtain ⟨r0,r1,r2⟩:=hR
   rw [zG hge,Tm.Cv] at r2
   rw [←r2]
   obtain ⟨g1,g2,_,_⟩:=Ng hm ht r0 r1
   have hgv:=get_at (fun n=>[D.int n]) g1
   have hgd:(some (t.vals.getD at_.toNat 0)).getD 0=t.vals[at_.toNat]:=g2
   simp (disch:=omega) only [go_sem,Ab,hni,hgv,hgd,zM]
   try exact ⟨hgd.symm,rfl⟩
theorem Xx (m:Ip) (hm:m.ok=true) (hml:m.tables.length≤1099511627776) (hvl:∀ t∈m.tables,t.vals.length≤1099511627776) (e:Env) (he:InE m.size e) (x:Tm) (hx:x.names=true) (hxl:x.args.length≤1099511627776) (ih:∀ y∈x.args,VaC m e y):VaC m e x:=by
 have h1:=Uc x (Tm.JD x hx)
 have h2:=PN m hm hml hvl e he x hxl false ih
 unfold VaC
 rw [Tm.Ir]
 cases hb:Cc x.name with
 | true =>
  rw [hb] at h1
  rw [cond_true]
  cases hq:e x.name with
  | none =>
   have hme:Dy e (.str x.name)=none:=by rw [HT,hq]
   refine Al CL AK (of_decide_eq_true rfl) ?_
   simp (disch:=omega) only [Ch,go_sem,Ab,h1,hme,DE]
   try first | rfl | exact ⟨rfl,rfl⟩
  | some v =>
   have hme:Dy e (.str x.name)=some (false,[.int v]):=by rw [HT,hq]
   refine Al CL AK (of_decide_eq_true rfl) ?_
   simp (disch:=omega) only [Ch,go_sem,Ab,h1,hme,DE]
   try first | rfl | exact ⟨rfl,rfl⟩
 | false =>
  rw [hb] at h1
  rw [cond_false]
  generalize CT m.tables x.name x.args.length false (Tm.Cv m e x.args 0)=r at *
  refine Al CL AK (of_decide_eq_true rfl) ?_
  simp (disch:=omega) only [Ch,go_sem,Ab,h1,h2,DE,Ca]
theorem Ni (m:Ip) (hm:m.ok=true) (hml:m.tables.length≤1099511627776) (hvl:∀ t∈m.tables,t.vals.length≤1099511627776) (e:Env) (he:InE m.size e) (x:Tm) (hx:x.names=true) (hn:x.nodes≤1048576):VaC m e x :=
 Xx m hm hml hvl e he x hx (by have:=Tm.length_le x.args; have:=Tm.nodes_eq x; omega) fun y hy=>Ni m hm hml hvl e he y (Tm.LT hx hy) (by have:=Tm.nodes_mem hy; have:=Tm.nodes_eq x; omega)
termination_by SizeOf.sizeOf x
decreasing_by exact Tm.lt_of_mem hy
theorem PO (xs:List Tl) (hl:xs.length≤1099511627776) (n:ByteArray) (z:Int):E 98 [.arr (xs.map Tl.d),.str n,.int .i64 z] []=some (.int .i64 (Cw (fun t=>dec (t.name=n)&&dec (t.arity=z)) xs 0),[]):=by
 generalize hpp:(fun t:Tl=>dec (t.name=n)&&dec (t.arity=z))=p
 have hpe:∀ t:Tl,p t=(dec (t.name=n)&&dec (t.arity=z)):=fun t=>by rw [←hpp]
 refine Al Ow CV (of_decide_eq_true rfl) ?_
 simp (disch:=omega) only [Jr,go_sem,Ab]
 refine go_loop (α:=Int) (fun a=>⟨slots 31 0 [(0,.arr (xs.map Tl.d)),(1,.str n),(2,.int .i64 z),(7,.int .i64 a)],[]⟩) (fun a=>∃ k:Nat,a=k∧k≤(xs).length∧Cw p (xs.drop k) a=Cw p xs 0) (fun a=>(xs).length-(a).toNat) 0 ⟨0,rfl,zJ _,by rw [zI]⟩ (by simp (disch:=omega) only [go_sem,Ab]) ?_
 rintro i ⟨k,hi,hk,hR⟩
 have hni:i.toNat=k:=by omega
 have hni1:(i+1).toNat=k+1:=by omega
 rcases zC k (xs).length with hlt | hge
 ·have hg:=get_at Tl.d hlt
  rw [Tl.d_eq] at hg
  rw [zB hlt,Cw,hpe] at hR
  cases h1:dec (xs[k].name=n) with
  | false =>
   rw [h1] at hR
   simp (disch:=omega) only [go_sem,Ab,hni,hg,h1]
   exact ⟨i+1,⟨k+1,by omega,hlt,by simpa using hR⟩,by omega,by first | trivial | rfl⟩
  | true =>
   rw [h1] at hR
   cases h2:dec (xs[k].arity=z) with
   | false =>
    rw [h2] at hR
    simp (disch:=omega) only [go_sem,Ab,hni,hg,h1,h2]
    exact ⟨i+1,⟨k+1,by omega,hlt,by simpa using hR⟩,by omega,by first | trivial | rfl⟩
   | true =>
    rw [h2] at hR
    simp (disch:=omega) only [go_sem,Ab,hni,hg,h1,h2]
    simpa using hR
 ·rw [zG hge,Cw] at hR
  simp (disch:=omega) only [go_sem,Ab,hni]
  exact hR
theorem Sa (m:Ip) (hm:m.ok=true) (hml:m.tables.length≤1099511627776) (hvl:∀ t∈m.tables,t.vals.length≤1099511627776) (as_:List Ag) (hal:as_.length≤1099511627776) (he:InE m.size (asg as_)) (x:Tm) (hxl:x.args.length≤29) (ih:∀ y∈x.args,LvC m as_ y):LvC m as_ x:=by
 have h1:=EY x.name
 obtain ⟨⟨s1,s3⟩,hT,_⟩:=Ip.Cx hm
 unfold LvC
 rw [Tm.Ir]
 cases hb:Cc x.name with
 | true =>
  rw [hb] at h1
  rw [cond_true]
  refine Al Gg Bk (of_decide_eq_true rfl) ?_
  simp (disch:=omega) only [EH,go_sem,Ab,h1,An]
  refine go_loop (α:=Int) (fun a=>⟨slots 108 0 [(1,.arr (as_.map Ag.d)),(6,.ptr 0 0),(10,.int .i64 a)],[.box 30 [.str x.name,.arr (x.args.map Tm.d)]]⟩) (fun a=>∃ k:Nat,a=k∧k≤(as_).length∧asg (as_.drop k) x.name=asg as_ x.name) (fun a=>(as_).length-(a).toNat) 0 ⟨0,rfl,zJ _,by rw [zI]⟩ (by simp (disch:=omega) only [go_sem,Ab]) ?_
  rintro i ⟨k,hi,hk,hR⟩
  have hni:i.toNat=k:=by omega
  have hni1:(i+1).toNat=k+1:=by omega
  rcases zC k (as_).length with hlt | hge
  ·have hg:=get_at Ag.d hlt
   rw [Ag.d_eq] at hg
   rw [zB hlt,asg] at hR
   cases hd:dec (as_[k].var=x.name) with
   | true =>
    rw [hd,cond_true] at hR
    rw [←hR]
    simp (disch:=omega) only [go_sem,Ab,hni,hg,hd]
    try first | rfl | exact ⟨rfl,rfl⟩
   | false =>
    rw [hd,cond_false] at hR
    simp (disch:=omega) only [go_sem,Ab,hni,hg,hd]
    exact ⟨i+1,⟨k+1,by omega,hlt,hR⟩,by omega,by first | trivial | rfl⟩
  ·rw [zG hge,asg] at hR
   rw [←hR]
   simp (disch:=omega) only [go_sem,Ab,hni]
   try first | rfl | exact ⟨rfl,rfl⟩
 | false =>
  rw [hb] at h1
  rw [cond_false]
  have hf:=PO m.tables hml x.name x.args.length
  refine Al Gg Bk (of_decide_eq_true rfl) ?_
  simp (disch:=omega) only [EH,go_sem,Ab,h1,An]
  refine go_loop (α:=Int × (Int)) (fun a=>⟨slots 108 0 [(1,.arr (as_.map Ag.d)),(3,.bool false),(4,.ptr 0 0),(6,.ptr 1 0),(11,.int .i64 (a.2)),(12,.int .i64 (a.1))],[.box 26 [.int .i64 m.size,.arr (m.tables.map Tl.d)],.box 30 [.str x.name,.arr (x.args.map Tm.d)]]⟩) (fun a=>∃ k:Nat,a.1=k∧k≤(x.args).length∧0≤(a.2)∧(a.2)<pw m.size k∧Tm.Cv m (asg as_) (x.args.drop k) (a.2)=Tm.Cv m (asg as_) x.args 0) (fun a=>(x.args).length-(a.1).toNat) (0,0) ⟨0,rfl,zJ _,⟨Int.le_refl 0,by rw [pw]; omega,by rw [zI]⟩⟩ (by simp (disch:=omega) only [go_sem,Ab]) ?_
  rintro ⟨i,at_⟩ ⟨k,hi,hk,hR⟩
  dsimp only at hi hR
  have hni:i.toNat=k:=by omega
  have hni1:(i+1).toNat=k+1:=by omega
  rcases zC k (x.args).length with hlt | hge
  ·have hg:=get_at Tm.d hlt
   rw [Tm.d_eq] at hg
   obtain ⟨r0,r1,r2⟩:=hR
   have hc:=ih x.args[k] (zF hlt)
   rw [zB hlt,Tm.Cv] at r2
   have hps:=Th s1 s3 (k:=k+1) (by omega)
   cases hv:x.args[k].val m (asg as_) with
   | none =>
    rw [hv] at r2
    unfold LvC at hc
    rw [hv] at hc
    rw [←r2]
    have hrn:CT m.tables x.name x.args.length false none=none:=by unfold CT; split <;> first | rfl | (rename_i h; cases h)
    rw [hrn]
    simp (disch:=omega) only [go_sem,Ab,hni,hg,hc,zX,zQ,zN,zM,Bk]
    try first | rfl | exact ⟨rfl,rfl⟩
   | some v =>
    rw [hv] at r2
    unfold LvC at hc
    rw [hv] at hc
    obtain ⟨v0,v1⟩:=Tm.H0 hm he _ v hv
    obtain ⟨q0,q1,q2,q3⟩:=at_next s1 r0 r1 v0 v1
    rw [pw] at hps
    simp (disch:=omega) only [go_sem,Ab,hni,hg,hc,zX,zQ,zN,zM,Bk]
    refine ⟨(i+1,at_*m.size+v),⟨k+1,by dsimp only; omega,hlt,q0,(by rw [pw]; exact q1),r2⟩,by dsimp only; omega,?_⟩
    first | trivial | rfl | exact ⟨rfl,rfl⟩
  ·obtain rfl:k=x.args.length:=by omega
   obtain ⟨r0,r1,r2⟩:=hR
   rw [zG hge,Tm.Cv] at r2
   rw [←r2]
   have hTF:=KH (n:=x.name) (z:=x.args.length) (p:=false) (PM hT)
   rcases JH (fun t:Tl=>dec (t.name=x.name)&&dec (t.arity=(x.args.length:Int))) m.tables 0 with ⟨h2,h3⟩ | ⟨j,t,hj,h2,h3,h4⟩
   ·rw [h2] at hTF
    rw [h3] at hf
    have hrn:CT m.tables x.name x.args.length false (some at_)=none:=by unfold CT; rw [hTF]
    rw [hrn]
    simp (disch:=omega) only [go_sem,Ab,hni,hf,CV]
    try first | rfl | exact ⟨rfl,rfl⟩
   ·rw [h2] at hTF
    rw [h3,yC] at hf
    have hg:=get_at Tl.d hj
    rw [h4,Tl.d_eq] at hg
    obtain ⟨jj,hjj⟩:∃ jj:Int,jj=(j:Int):=⟨_,rfl⟩
    rw [←hjj] at hf
    have hnj:jj.toNat=j:=by omega
    simp only at hTF
    have hbt:(true == false)=false:=rfl
    have hbf:(false == false)=true:=rfl
    cases hpr:t.pred with
    | true =>
     rw [hpr] at hTF
     have hrn:CT m.tables x.name x.args.length false (some at_)=none:=by unfold CT; rw [hTF]; rfl
     rw [hrn]
     simp (disch:=omega) only [go_sem,Ab,hni,hf,hnj,hg,hpr,hbt,CV]
     try first | rfl | exact ⟨rfl,rfl⟩
    | false =>
     rw [hpr] at hTF
     have hTF:Jh m.tables x.name x.args.length false=some t:=hTF
     have hrn:CT m.tables x.name x.args.length false (some at_)=some (t.vals.getD at_.toNat 0):=by unfold CT; rw [hTF]
     obtain ⟨g1,g2,_,_⟩:=Ng hm hTF r0 r1
     have hgv:=get_at (fun n=>[D.int n]) g1
     have hvt:=hvl t (Gy hTF).1
     rw [hrn,g2]
     simp (disch:=omega) only [go_sem,Ab,hni,hf,hnj,hg,hgv,hpr,hbf,zN,zM,CV]
     try first | rfl | exact ⟨rfl,rfl⟩
theorem Ox (m:Ip) (hm:m.ok=true) (hml:m.tables.length≤1099511627776) (hvl:∀ t∈m.tables,t.vals.length≤1099511627776) (as_:List Ag) (hal:as_.length≤1099511627776) (he:InE m.size (asg as_)) (x:Tm) (hn:x.nodes≤30):LvC m as_ x :=
 Sa m hm hml hvl as_ hal he x (by have:=Tm.length_le x.args; have:=Tm.nodes_eq x; omega) fun y hy=>Ox m hm hml hvl as_ hal he y (by have:=Tm.nodes_mem hy; have:=Tm.nodes_eq x; omega)
termination_by SizeOf.sizeOf x
decreasing_by exact Tm.lt_of_mem hy
def B5:SC:=(.seq (.reg [⟨some 3,none,.boxv 26 2 (.t 0)⟩,⟨some 4,none,.boxv 30 2 (.t 1)⟩,⟨some 6,none,.mv (.c (.bool false))⟩,⟨some 7,none,.mv (.c (.bool false))⟩]) (.seq (.seq (.reg [⟨some 14,none,.load true 2 (.t 4)⟩,⟨some 15,none,.call 88 [(.t 14)]⟩]) (.cond (.t 15) (.seq (.dreg [[],[],[1],[2,1],[3,2,1],[],[0,4,3,2,1,5],[6,0,4,3,2,1,5],[7,6,0,4,3,2,1,5],[7,6,0,4,3,2,1,5],[8,7,6,0,4,3,2,1,5],[9,7,6,0,4,3,2,1,5,10,8]] [⟨some 17,none,.load true 2 (.t 3)⟩,⟨some 18,none,.faddr 1 (.t 4)⟩,⟨some 19,none,.load false 1 (.t 18)⟩,⟨some 20,none,.iaddr 2 (.t 19) (.c (.int .i64 0))⟩,⟨some 21,none,.load true 2 (.t 20)⟩,⟨some 22,none,.mv (.t 2)⟩,⟨some 23,none,.call 89 [(.t 17),(.t 21),(.t 22)]⟩,⟨some 16,none,.mv (.t 23)⟩,⟨some 24,none,.ext (.t 16) 0⟩,⟨some 25,none,.ext (.t 16) 1⟩,⟨some 8,none,.mv (.t 24)⟩,⟨some 9,none,.mv (.t 25)⟩]) (.seq (.dreg [[],[],[1],[2,1],[3,2,1],[],[0,4,3,2,1,5],[6,0,4,3,2,1,5],[7,6,0,4,3,2,1,5],[7,6,0,4,3,2,1,5],[8,7,6,0,4,3,2,1,5],[9,7,6,0,4,3,2,1,5,10,8]] [⟨some 27,none,.load true 2 (.t 3)⟩,⟨some 28,none,.faddr 1 (.t 4)⟩,⟨some 29,none,.load false 1 (.t 28)⟩,⟨some 30,none,.iaddr 2 (.t 29) (.c (.int .i64 1))⟩,⟨some 31,none,.load true 2 (.t 30)⟩,⟨some 32,none,.mv (.t 2)⟩,⟨some 33,none,.call 89 [(.t 27),(.t 31),(.t 32)]⟩,⟨some 26,none,.mv (.t 33)⟩,⟨some 34,none,.ext (.t 26) 0⟩,⟨some 35,none,.ext (.t 26) 1⟩,⟨some 10,none,.mv (.t 34)⟩,⟨some 11,none,.mv (.t 35)⟩]) (.seq (.reg [⟨some 36,none,.mv (.t 8)⟩,⟨some 37,none,.mv (.t 10)⟩,⟨some 38,none,.bin .eql false (.t 36) (.t 37)⟩,⟨some 39,none,.mv (.t 9)⟩,⟨some 40,none,.mv (.t 39)⟩,⟨(some 41),(some (40,true)),(.mv (.t 11))⟩,⟨some 42,none,.pick (.t 40) (.t 41) (.c (.bool false))⟩,⟨some 6,none,.mv (.t 38)⟩,⟨some 7,none,.mv (.t 42)⟩]) .ret))) .skip)) (.seq (.reg [⟨some 44,none,.load true 2 (.t 3)⟩,⟨some 45,none,.load true 2 (.t 4)⟩,⟨some 46,none,.mv (.t 2)⟩,⟨some 47,none,.call 90 [(.t 44),(.t 45),(.t 46),(.c (.bool true))]⟩,⟨some 43,none,.mv (.t 47)⟩,⟨some 48,none,.ext (.t 43) 0⟩,⟨some 49,none,.ext (.t 43) 1⟩,⟨some 12,none,.mv (.t 48)⟩,⟨some 13,none,.mv (.t 49)⟩]) (.seq (.reg [⟨some 50,none,.mv (.t 12)⟩,⟨some 51,none,.bin .eql false (.t 50) (.c (.int .i64 1))⟩,⟨some 52,none,.mv (.t 13)⟩,⟨some 6,none,.mv (.t 51)⟩,⟨some 7,none,.mv (.t 52)⟩]) .ret))))
theorem BJ:Aq Tryz.prog 53=some ⟨53,B5,[(.tmp 6),(.tmp 7)]⟩:=by kernel_rfl
theorem A3:modes 53=⟨[],.asis,none,false⟩:=by unfold modes; rfl
def Ft:SC:=(.seq (.reg [⟨some 6,none,.mv (.c (.mp true nomap))⟩]) (.seq (.reg [⟨some 10,none,.mkmap true none⟩,⟨some 7,none,.mv (.t 10)⟩]) (.seq (.seq (.reg [⟨some 11,none,.mv (.t 0)⟩,⟨some 12,none,.mkit (.t 11)⟩]) (.block 0 (.mloop [0,1,1,0,0,0,0,1,0,0,0,0,1,0,0,0,0,0,0,0,0,0,0,0,0] [0,1,1,0,0,0,1,1,0,0,0,0,0,0,0,0,0,0,0,0,0,0,0,0,0] (.t 12) 13 14 (.seq (.cond (.t 14) .skip (.exit 0)) (.block 1 (.seq (.reg [⟨some 15,none,.mcur (.t 12)⟩,⟨some 16,none,.ext (.t 15) 0⟩,⟨some 17,none,.ext (.t 15) 1⟩,⟨some 8,none,.mv (.t 16)⟩,⟨some 9,none,.mv (.t 17)⟩]) (.reg [⟨some 18,none,.mv (.t 7)⟩,⟨some 19,none,.mv (.t 8)⟩,⟨some 20,none,.mv (.t 9)⟩,⟨none,none,(.mset true (.t 18) (.t 19) (.t 20))⟩]))))))) (.seq (.reg [⟨some 21,none,.mv (.t 7)⟩,⟨some 22,none,.mv (.t 1)⟩,⟨some 23,none,.mv (.t 2)⟩,⟨none,none,(.mset true (.t 21) (.t 22) (.t 23))⟩]) (.seq (.reg [⟨some 24,none,.mv (.t 7)⟩,⟨some 6,none,.mv (.t 24)⟩]) .ret)))))
theorem II:Aq Tryz.prog 55=some ⟨25,Ft,[(.tmp 6)]⟩:=by kernel_rfl
theorem Bh:modes 55=⟨[],.frz,none,false⟩:=by unfold modes; rfl
theorem Tm.Xy {x:Tm} (hx:x.atom=true) (he:x.eqn=true):x.args.length=2:=by
 unfold Tm.atom at hx
 rw [he,if_pos rfl,zE,zE] at hx
 simpa using hx.1.1
theorem Xz {α:Type} {xs:List α} (h:xs.length=2):xs=[xs[0],xs[1]]:=by
 match xs,h with
 | [a,b],_=>rfl
theorem Tm.Zl {m:Ip} (hm:m.ok=true) {e:Env} (he:InE m.size e) {x:Tm} (hx:x.eqn=true) (hl:x.args.length=2):x.tru m e=match x.args[0].val m e,x.args[1].val m e with
  | some u,some v=>some (bif dec (u=v) then 1 else 0)
  | _,_=>none:=by
 have key:=Or hm he x.args[0] x.args[1]
 rw [←Xz hl] at key
 unfold Tm.tru
 rw [hx,if_pos rfl]
 exact key
theorem Ut (m:Ip) (hm:m.ok=true) (ht:m.tame) (e:Env) (he:InE m.size e) (x:Tm) (hx:x.atom=true):∃ b,E 53 [m.sv,x.sv,.mp true (Dy e)] []=some (.tup [.bool b,.bool (x.tru m e).isSome],[])∧∀ n,x.tru m e=some n→b=dec (n=1):=by
 have h1:=Io x
 have hnn:=Tm.Iu hx
 have hll:=Tm.length_le x.args
 have hnq:=Tm.nodes_eq x
 cases hq:x.eqn with
 | true =>
  rw [hq] at h1
  have hl:=Tm.Xy hx hq
  have hg0:=get_at Tm.d (xs:=x.args) (k:=0) (by omega)
  have hg1:=get_at Tm.d (xs:=x.args) (k:=1) (by omega)
  rw [Tm.d_eq] at hg0 hg1
  have hc0:=Ni m hm ht.1 (fun t h=>ht.2 t h) e he x.args[0] ((Tm.G0 hx).2 _ (zF _)) (by have:=Tm.nodes_le x.args 0 (by omega); omega)
  have hc1:=Ni m hm ht.1 (fun t h=>ht.2 t h) e he x.args[1] ((Tm.G0 hx).2 _ (zF _)) (by have:=Tm.nodes_le x.args 1 (by omega); omega)
  rw [Tm.Zl hm he hq hl]
  unfold VaC at hc0 hc1
  cases hv0:x.args[0].val m e with
  | none =>
   rw [hv0] at hc0
   cases hv1:x.args[1].val m e with
   | none =>
    rw [hv1] at hc1
    refine ⟨true,?_,fun n hn=>by cases hn⟩
    refine Al BJ A3 (of_decide_eq_true rfl) ?_
    simp (disch:=omega) only [B5,go_sem,Ab,h1,hg0,hg1,hc0,hc1,Bs,AK,zX,zQ,zN,zM]
   | some v =>
    rw [hv1] at hc1
    refine ⟨dec (0=v),?_,fun n hn=>by cases hn⟩
    refine Al BJ A3 (of_decide_eq_true rfl) ?_
    simp (disch:=omega) only [B5,go_sem,Ab,h1,hg0,hg1,hc0,hc1,Bs,AK,zX,zQ,zN,zM]
  | some u =>
   rw [hv0] at hc0
   cases hv1:x.args[1].val m e with
   | none =>
    rw [hv1] at hc1
    refine ⟨dec (u=0),?_,fun n hn=>by cases hn⟩
    refine Al BJ A3 (of_decide_eq_true rfl) ?_
    simp (disch:=omega) only [B5,go_sem,Ab,h1,hg0,hg1,hc0,hc1,Bs,AK,zX,zQ,zN,zM]
   | some v =>
    rw [hv1] at hc1
    refine ⟨dec (u=v),?_,fun n hn=>?_⟩
    ·refine Al BJ A3 (of_decide_eq_true rfl) ?_
     simp (disch:=omega) only [B5,go_sem,Ab,h1,hg0,hg1,hc0,hc1,Bs,AK,zX,zQ,zN,zM]
    ·obtain rfl:=yY hn
     cases dec (u=v) with
     | true=>exact (Aw rfl).symm
     | false=>exact (Aj (by simp)).symm
 | false =>
  rw [hq] at h1
  have hc:=PN m hm ht.1 (fun t h=>ht.2 t h) e he x (by omega) true fun y hy=>Ni m hm ht.1 (fun t h=>ht.2 t h) e he y ((Tm.G0 hx).2 _ hy) (by have:=Tm.nodes_mem hy; omega)
  have htr:x.tru m e=CT m.tables x.name x.args.length true (Tm.Cv m e x.args 0):=by unfold Tm.tru; rw [hq,if_neg (by simp)]
  rw [htr]
  generalize CT m.tables x.name x.args.length true (Tm.Cv m e x.args 0)=r at *
  refine ⟨dec (r.getD 0=1),?_,fun n hn=>by rw [hn]; rfl⟩
  refine Al BJ A3 (of_decide_eq_true rfl) ?_
  simp (disch:=omega) only [B5,go_sem,Ab,h1,hc,Bs,Ca]
theorem T0 (e:Env) (hf:FinE e) (n:ByteArray) (k:Int):E 55 [.mp true (Dy e),.str n,.int .i64 k] []=some (.mp true (Dy (C4 e n k)),[]):=by
 refine Al II Bh (of_decide_eq_true rfl) ?_
 simp (disch:=omega) only [Ft,go_sem,Ab]
 refine WI (Dy e) hf.enum (.exit 0,⟨slots 25 0 [(1,.str n),(2,.int .i64 k),(7,.ref 0)],[.mp true (Dy e)]⟩) (by simp (disch:=omega) only [go_sem,Ab,Lp]) (fun p=>⟨slots 25 0 [(1,.str n),(2,.int .i64 k),(7,.ref 0),(12,.ptr 1 0)],[.mp true (PK p),.it true (Dy e) (p.map (·.1)).reverse p.getLast?]⟩) 1 true (by simp (disch:=omega) only [go_sem,Ab]; exact ⟨rfl,rfl⟩) (fun p=>by simp (disch:=omega) only [go_sem,Ab]) (fun p q x _ _ hq _=>?_) (fun p hp=>?_)
 ·cases q with
  | int i=>cases hq
  | str s =>
   rw [HT] at hq
   cases hs:e s with
   | none=>rw [hs] at hq; cases hq
   | some v =>
    rw [hs] at hq
    obtain rfl:=yY hq
    simp (disch:=omega) only [go_sem,Ab,Tu,List.getLast?_append,yH,List.reverse_append]
    rfl
 ·simp (disch:=omega) only [go_sem,Ab,Xi hp]
def Ke:SC:=(.seq (.reg [⟨some 1,none,.boxv 33 5 (.t 0)⟩,⟨some 2,none,.mv (.c (.int .i64 0))⟩]) (.seq (.reg [⟨some 3,none,.mv (.c (.int .i64 1))⟩]) (.seq (.seq (.reg [⟨some 6,none,.faddr 4 (.t 1)⟩,⟨some 7,none,.load false 1 (.t 6)⟩,⟨some 8,none,.len false (.t 7)⟩,⟨some 9,none,.mv (.c (.int .i64 0))⟩]) (.block 0 (.loop [0,0,0,1,0,0,0,1,1,1,0,0,0,0,0,0,0,0,0,0,0,0] (.seq (.reg [⟨some 10,none,.bin .lss false (.t 9) (.t 8)⟩]) (.seq (.cond (.t 10) .skip (.exit 0)) (.seq (.block 1 (.seq (.reg [⟨some 11,none,.iaddr 5 (.t 7) (.t 9)⟩,⟨some 12,none,.load true 5 (.t 11)⟩,⟨(some 5),none,(.alloc 33 [(.int .i64 0),(.str ⟨#[]⟩),.nil,(.str ⟨#[]⟩),.nil])⟩,⟨none,none,(.store 5 (.t 5) (.t 12))⟩]) (.seq (.seq (.reg [⟨some 13,none,.mv (.t 3)⟩,⟨some 14,none,.bin .gtr false (.t 13) (.c (.int .i64 40))⟩]) (.cond (.t 14) (.seq (.reg [⟨some 15,none,.mv (.t 3)⟩,⟨some 2,none,.mv (.t 15)⟩]) .ret) .skip)) (.reg [⟨some 16,none,.mv (.t 3)⟩,⟨some 17,none,.load true 5 (.t 5)⟩,⟨some 18,none,.call 51 [(.t 17)]⟩,⟨some 19,none,.bin .add false (.t 16) (.t 18)⟩,⟨some 3,none,.mv (.t 19)⟩])))) (.reg [⟨some 20,none,.bin .add false (.t 9) (.c (.int .i64 1))⟩,⟨some 9,none,.mv (.t 20)⟩]))))))) (.seq (.reg [⟨some 21,none,.mv (.t 3)⟩,⟨some 2,none,.mv (.t 21)⟩]) .ret))))
theorem OQ:Aq Tryz.prog 51=some ⟨22,Ke,[(.tmp 2)]⟩:=by kernel_rfl
theorem EA:modes 51=⟨[],.asis,none,false⟩:=by unfold modes; rfl
theorem X1 (x:Fm) (hn:x.nodes≤1099511627776) (ih:∀ y∈x.parts,E 51 [y.sv] []=some (.int .i64 y.cap,[])):E 51 [x.sv] []=some (.int .i64 x.cap,[]):=by
 have hl:=Fm.length_le x.parts
 have hx:=Fm.nodes_eq x
 rw [Fm.cap_eq]
 refine Al OQ EA (of_decide_eq_true rfl) ?_
 simp (disch:=omega) only [Ke,go_sem,Ab]
 refine go_loop (α:=Int × Int) (fun a=>⟨slots 22 0 [(3,.int .i64 a.2),(7,.arr (x.parts.map Fm.d)),(8,.int .i64 x.parts.length),(9,.int .i64 a.1)],[]⟩) (fun a=>∃ k:Nat,a.1=k∧k≤x.parts.length∧1≤a.2∧a.2+Fm.nodeS (x.parts.drop k)≤x.nodes∧Fm.capL (x.parts.drop k) a.2=Fm.capL x.parts 1) (fun a=>x.parts.length-a.1.toNat) (0,1) ⟨0,rfl,zJ _,by dsimp only; omega,by rw [zI]; dsimp only; omega,rfl⟩ (by simp (disch:=omega) only [go_sem,Ab]) ?_
 rintro ⟨i,n⟩ ⟨k,hi,hk,hn0,hn1,hs⟩
 dsimp only at hi hn0 hn1 hs
 have hni:i.toNat=k:=by omega
 rcases zC k x.parts.length with hlt | hge
 ·have hg:=get_at Fm.d hlt
  rw [Fm.d_eq] at hg
  have hd:x.parts.drop k=x.parts[k] :: x.parts.drop (k+1):=zB hlt
  have hc:=ih x.parts[k] (zF hlt)
  have hp:=Fm.cap_spec x.parts[k]
  rw [hd,Fm.capL] at hs
  rw [hd,Fm.nodeS] at hn1
  rcases yG 40 n with h30 | h30
  ·rw [if_pos h30] at hs
   simp (disch:=omega) only [go_sem,Ab,hni,hg,hc,EA]
   exact hs
  ·rw [if_neg (by omega)] at hs
   simp (disch:=omega) only [go_sem,Ab,hni,hg,hc,EA]
   refine ⟨(i+1,n+x.parts[k].cap),⟨k+1,by dsimp only; omega,hlt,by dsimp only; omega,by dsimp only; omega,hs⟩,by dsimp only; omega,?_⟩
   simp only [and_self]
 ·have hd:x.parts.drop k=[]:=zG hge
  rw [hd,Fm.capL] at hs
  simp (disch:=omega) only [go_sem,Ab,hni]
  exact hs
theorem Uu (x:Fm) (hn:x.nodes≤1099511627776):E 51 [x.sv] []=some (.int .i64 x.cap,[]) :=
 X1 x hn fun y hy=>Uu y (by have:=Fm.nodes_mem hy; have:=Fm.nodes_eq x; omega)
termination_by SizeOf.sizeOf x
decreasing_by exact Fm.lt_of_mem hy
def Kf:SC:=(.seq (.reg [⟨some 2,none,.boxv 33 5 (.t 0)⟩,⟨some 4,none,.mv (.c (.int .i64 0))⟩]) (.seq (.reg [⟨some 5,none,.mv (.c (.int .i64 1))⟩]) (.seq (.seq (.reg [⟨some 6,none,.mv (.c (.int .i64 0))⟩]) (.block 0 (.loop [0,1,1,0,0,1,1,0,0,0,0,0,0,0,0,0,0,0,0,0,0,0,0,0,0,0,0,0,0,0,0] (.seq (.seq (.reg [⟨some 7,none,.mv (.t 6)⟩,⟨some 8,none,.faddr 4 (.t 2)⟩,⟨some 9,none,.load false 1 (.t 8)⟩,⟨some 10,none,.len false (.t 9)⟩,⟨some 11,none,.bin .lss false (.t 7) (.t 10)⟩,⟨some 12,none,.mv (.t 11)⟩,⟨(some 13),(some (12,true)),(.mv (.t 5))⟩,⟨(some 14),(some (12,true)),(.mv (.t 1))⟩,⟨(some 15),(some (12,true)),(.bin .leq false (.t 13) (.t 14))⟩,⟨some 16,none,.pick (.t 12) (.t 15) (.c (.bool false))⟩]) (.cond (.t 16) .skip (.exit 0))) (.seq (.block 1 (.reg [⟨some 19,none,.mv (.t 5)⟩,⟨some 20,none,.faddr 4 (.t 2)⟩,⟨some 21,none,.load false 1 (.t 20)⟩,⟨some 22,none,.mv (.t 6)⟩,⟨some 23,none,.iaddr 5 (.t 21) (.t 22)⟩,⟨some 24,none,.load true 5 (.t 23)⟩,⟨some 25,none,.mv (.t 1)⟩,⟨some 26,none,.mv (.t 5)⟩,⟨some 27,none,.bin .sub false (.t 25) (.t 26)⟩,⟨some 28,none,.call 63 [(.t 24),(.t 27)]⟩,⟨some 29,none,.bin .add false (.t 19) (.t 28)⟩,⟨some 5,none,.mv (.t 29)⟩])) (.reg [⟨some 17,none,.mv (.t 6)⟩,⟨some 18,none,.bin .add false (.t 17) (.c (.int .i64 1))⟩,⟨some 6,none,.mv (.t 18)⟩])))))) (.seq (.reg [⟨some 30,none,.mv (.t 5)⟩,⟨some 4,none,.mv (.t 30)⟩]) .ret))))
theorem OR:Aq Tryz.prog 63=some ⟨31,Kf,[(.tmp 4)]⟩:=by kernel_rfl
theorem EB:modes 63=⟨[],.asis,none,false⟩:=by unfold modes; rfl
theorem X2 (x:Fm) (m:Int) (hm:0≤m) (hm1:m≤1099511627776) (hn:x.nodes≤1099511627776) (ih:∀ y∈x.parts,∀ m:Int,0≤m→m≤1099511627776→E 63 [y.sv,.int .i64 m] []=some (.int .i64 (y.many m),[])):E 63 [x.sv,.int .i64 m] []=some (.int .i64 (x.many m),[]):=by
 have hl:=Fm.length_le x.parts
 have hx:=Fm.nodes_eq x
 rw [Fm.many_eq]
 refine Al OR EB (of_decide_eq_true rfl) ?_
 simp (disch:=omega) only [Kf,go_sem,Ab]
 refine go_loop (α:=Int × Int) (fun a=>⟨slots 31 0 [(1,.int .i64 m),(2,.ptr 0 0),(5,.int .i64 a.2),(6,.int .i64 a.1)],[.box 33 [.int .i64 x.op,.str x.atom.name,.arr (x.atom.args.map Tm.d),.str x.var,.arr (x.parts.map Fm.d)]]⟩) (fun a=>∃ k:Nat,a.1=k∧k≤x.parts.length∧1≤a.2∧a.2+Fm.nodeS (x.parts.drop k)≤x.nodes∧Fm.manyL (x.parts.drop k) m a.2=Fm.manyL x.parts m 1) (fun a=>x.parts.length-a.1.toNat) (0,1) ⟨0,rfl,zJ _,by dsimp only; omega,by rw [zI]; dsimp only; omega,rfl⟩ (by simp (disch:=omega) only [go_sem,Ab]) ?_
 rintro ⟨i,n⟩ ⟨k,hi,hk,hn0,hn1,hs⟩
 dsimp only at hi hn0 hn1 hs
 have hni:i.toNat=k:=by omega
 rcases zC k x.parts.length with hlt | hge
 ·have hg:=get_at Fm.d hlt
  rw [Fm.d_eq] at hg
  have hd:x.parts.drop k=x.parts[k] :: x.parts.drop (k+1):=zB hlt
  rw [hd,Fm.manyL] at hs
  rw [hd,Fm.nodeS] at hn1
  rcases yG m n with h30 | h30
  ·rw [if_neg (by omega)] at hs
   simp (disch:=omega) only [go_sem,Ab,hni,hg,EB]
   exact hs
  ·rw [if_pos h30] at hs
   have hc:=ih x.parts[k] (zF hlt) (m-n) (by omega) (by omega)
   have hp:=Fm.many_spec x.parts[k] (m-n)
   simp (disch:=omega) only [go_sem,Ab,hni,hg,hc,EB]
   refine ⟨(i+1,n+x.parts[k].many (m-n)),⟨k+1,by dsimp only; omega,hlt,by dsimp only; omega,by dsimp only; omega,hs⟩,by dsimp only; omega,?_⟩
   simp only [and_self]
 ·have hd:x.parts.drop k=[]:=zG hge
  rw [hd,Fm.manyL] at hs
  simp (disch:=omega) only [go_sem,Ab,hni]
  exact hs
theorem Uv (x:Fm) (m:Int) (hm:0≤m) (hm1:m≤1099511627776) (hn:x.nodes≤1099511627776):E 63 [x.sv,.int .i64 m] []=some (.int .i64 (x.many m),[]) :=
 X2 x m hm hm1 hn fun y hy m hm hm1=>Uv y m hm hm1 (by have:=Fm.nodes_mem hy; have:=Fm.nodes_eq x; omega)
termination_by SizeOf.sizeOf x
decreasing_by exact Fm.lt_of_mem hy
def E0:SC:=(.seq (.reg [⟨some 2,none,.mv (.c (.bool false))⟩]) (.seq (.reg [⟨some 3,none,.mv (.t 0)⟩,⟨some 4,none,.bin .eql false (.t 3) (.c (.int .i64 8))⟩,⟨some 5,none,.mv (.t 4)⟩,⟨(some 6),(some (5,false)),(.mv (.t 0))⟩,⟨(some 7),(some (5,false)),(.bin .eql false (.t 6) (.c (.int .i64 9)))⟩,⟨some 8,none,.pick (.t 5) (.c (.bool true)) (.t 7)⟩,⟨some 2,none,.mv (.t 8)⟩]) .ret))
theorem Gj:Aq Tryz.prog 54=some ⟨9,E0,[(.tmp 2)]⟩:=by kernel_rfl
theorem Ac:modes 54=⟨[],.asis,none,false⟩:=by unfold modes; rfl
def IF:SC:=(.seq (.reg [⟨some 2,none,.mv (.c (.bool false))⟩]) (.seq (.reg [⟨some 3,none,.mv (.t 0)⟩,⟨some 4,none,.bin .eql false (.t 3) (.c (.int .i64 5))⟩,⟨some 5,none,.mv (.t 4)⟩,⟨(some 6),(some (5,false)),(.mv (.t 0))⟩,⟨(some 7),(some (5,false)),(.bin .eql false (.t 6) (.c (.int .i64 6)))⟩,⟨some 8,none,.pick (.t 5) (.c (.bool true)) (.t 7)⟩,⟨some 9,none,.mv (.t 8)⟩,⟨(some 10),(some (9,false)),(.mv (.t 0))⟩,⟨(some 11),(some (9,false)),(.bin .eql false (.t 10) (.c (.int .i64 7)))⟩,⟨some 12,none,.pick (.t 9) (.c (.bool true)) (.t 11)⟩,⟨some 2,none,.mv (.t 12)⟩]) .ret))
theorem MS:Aq Tryz.prog 84=some ⟨13,IF,[(.tmp 2)]⟩:=by kernel_rfl
theorem Ai:modes 84=⟨[],.asis,none,false⟩:=by unfold modes; rfl
def Fn:SC:=(.seq (.reg [⟨some 1,none,.boxv 30 2 (.t 0)⟩,⟨some 2,none,.mv (.c (.bool false))⟩]) (.seq (.reg [⟨some 3,none,.faddr 0 (.t 1)⟩,⟨some 4,none,.load false 1 (.t 3)⟩,⟨(some 5),none,(.bin .eql false (.t 4) (.c (.str ⟨#[]⟩)))⟩,⟨some 6,none,.mv (.t 5)⟩,⟨(some 7),(some (6,true)),(.faddr 1 (.t 1))⟩,⟨(some 8),(some (6,true)),(.load false 1 (.t 7))⟩,⟨(some 9),(some (6,true)),(.len false (.t 8))⟩,⟨(some 10),(some (6,true)),(.bin .eql false (.t 9) (.c (.int .i64 0)))⟩,⟨some 11,none,.pick (.t 6) (.t 10) (.c (.bool false))⟩,⟨some 2,none,.mv (.t 11)⟩]) .ret))
theorem Hr:Aq Tryz.prog 86=some ⟨12,Fn,[(.tmp 2)]⟩:=by kernel_rfl
theorem Af:modes 86=⟨[],.asis,none,false⟩:=by unfold modes; rfl
def H5:SC:=(.seq (.reg [⟨some 1,none,.boxv 30 2 (.t 0)⟩,⟨some 2,none,.mv (.c (.bool false))⟩]) (.seq (.reg [⟨some 3,none,.faddr 0 (.t 1)⟩,⟨some 4,none,.load false 1 (.t 3)⟩,⟨(some 5),none,(.bin .eql false (.t 4) (.c (.str ⟨#[]⟩)))⟩,⟨some 6,none,.mv (.t 5)⟩,⟨(some 7),(some (6,true)),(.faddr 1 (.t 1))⟩,⟨(some 8),(some (6,true)),(.load false 1 (.t 7))⟩,⟨(some 9),(some (6,true)),(.len false (.t 8))⟩,⟨(some 10),(some (6,true)),(.bin .eql false (.t 9) (.c (.int .i64 0)))⟩,⟨some 11,none,.pick (.t 6) (.t 10) (.c (.bool false))⟩,⟨some 2,none,.mv (.t 11)⟩]) .ret))
theorem Kg:Aq Tryz.prog 117=some ⟨12,H5,[(.tmp 2)]⟩:=by kernel_rfl
theorem Ap:modes 117=⟨[],.asis,none,false⟩:=by unfold modes; rfl
def B7:SC:=(.seq (.reg [⟨some 4,none,.mv (.c (.int .i64 0))⟩]) (.seq (.seq (.reg [⟨some 6,none,.mv (.t 0)⟩,⟨some 7,none,.len false (.t 6)⟩,⟨some 8,none,.mv (.c (.int .i64 0))⟩]) (.block 0 (.loop [1,1,0,0,0,0,0,1,1,0,0,0,0,0,0,0,0,0,0] (.seq (.reg [⟨some 9,none,.bin .lss false (.t 8) (.t 7)⟩]) (.seq (.cond (.t 9) .skip (.exit 0)) (.seq (.block 1 (.seq (.reg [⟨some 10,none,.mv (.t 8)⟩,⟨some 5,none,.mv (.t 10)⟩]) (.seq (.reg [⟨some 11,none,.mv (.t 1)⟩,⟨some 12,none,.mv (.t 0)⟩,⟨some 13,none,.mv (.t 5)⟩,⟨some 14,none,.iaddr 5 (.t 12) (.t 13)⟩,⟨some 15,none,.load true 5 (.t 14)⟩,⟨some 16,none,.callv (.t 11) [(.t 15)]⟩]) (.cond (.t 16) (.seq (.reg [⟨some 17,none,.mv (.t 5)⟩,⟨some 4,none,.mv (.t 17)⟩]) .ret) .skip)))) (.reg [⟨some 18,none,.bin .add false (.t 8) (.c (.int .i64 1))⟩,⟨some 8,none,.mv (.t 18)⟩]))))))) (.seq (.reg [⟨some 4,none,.mv (.c (.int .i64 (-(0+1))))⟩]) .ret)))
theorem Ce:Aq Tryz.prog 91=some ⟨19,B7,[(.tmp 4)]⟩:=by kernel_rfl
theorem Be:modes 91=⟨[],.asis,none,false⟩:=by unfold modes; rfl
def By:SC:=(.seq (.reg [⟨some 4,none,.mv (.c (.bool false))⟩]) (.seq (.reg [⟨some 5,none,.mv (.t 0)⟩,⟨some 6,none,.mv (.t 1)⟩,⟨some 7,none,.call 91 [(.t 5),(.t 6)]⟩,⟨some 8,none,.bin .geq false (.t 7) (.c (.int .i64 0))⟩,⟨some 4,none,.mv (.t 8)⟩]) .ret))
theorem BT:Aq Tryz.prog 56=some ⟨9,By,[(.tmp 4)]⟩:=by kernel_rfl
theorem Aa:modes 56=⟨[],.asis,none,false⟩:=by unfold modes; rfl
theorem MT (fid:Nat) (p:Fm→Bool) (xs:List Fm) (hl:xs.length≤1099511627776) (hg:IG Tryz.prog fid=true) (hm:(modes fid).hand=[]) (hE:∀ x∈xs,E fid [x.sv] []=some (.bool (p x),[])):E 91 [.arr (xs.map Fm.d),.fn fid []] []=some (.int .i64 (Cw p xs 0),[]):=by
 refine Al Ce Be (of_decide_eq_true rfl) ?_
 simp (disch:=omega) only [B7,go_sem,Ab]
 refine go_loop (α:=Int) (fun a=>⟨slots 19 0 [(0,.arr (xs.map Fm.d)),(1,.fn fid []),(7,.int .i64 xs.length),(8,.int .i64 a)],[]⟩) (fun a=>∃ k:Nat,a=k∧k≤(xs).length∧Cw p (xs.drop k) a=Cw p xs 0) (fun a=>(xs).length-(a).toNat) 0 ⟨0,rfl,zJ _,by rw [zI]⟩ (by simp (disch:=omega) only [go_sem,Ab]) ?_
 rintro i ⟨k,hi,hk,hR⟩
 have hni:i.toNat=k:=by omega
 have hni1:(i+1).toNat=k+1:=by omega
 rcases zC k (xs).length with hlt | hge
 ·have hg':=get_at Fm.d hlt
  rw [Fm.d_eq] at hg'
  have hc:=hE xs[k] (zF hlt)
  rw [zB hlt,Cw] at hR
  cases hp:p xs[k] with
  | true =>
   rw [hp] at hc hR
   simp (disch:=omega) only [go_sem,Ab,hni,hg',hc,hg,hm]
   simpa using hR
  | false =>
   rw [hp] at hc hR
   simp (disch:=omega) only [go_sem,Ab,hni,hg',hc,hg,hm]
   exact ⟨i+1,⟨k+1,by omega,hlt,by simpa using hR⟩,by omega,by first | trivial | rfl⟩
 ·rw [zG hge,Cw] at hR
  simp (disch:=omega) only [go_sem,Ab,hni]
  exact hR
theorem KI (fid:Nat) (p:Fm→Bool) (xs:List Fm) (hl:xs.length≤1099511627776) (hg:IG Tryz.prog fid=true) (hm:(modes fid).hand=[]) (hE:∀ x∈xs,E fid [x.sv] []=some (.bool (p x),[])):E 56 [.arr (xs.map Fm.d),.fn fid []] []=some (.bool (xs.any p),[]):=by
 have h:=MT fid p xs hl hg hm hE
 refine Al BT Aa (of_decide_eq_true rfl) ?_
 simp (disch:=omega) only [By,go_sem,Ab,h,Be]
 rw [EZ]
def AE:SC:=(.seq (.reg [⟨some 1,none,.boxv 33 5 (.t 0)⟩,⟨some 2,none,.mv (.c (.bool false))⟩]) (.seq (.reg [⟨some 3,none,.mv (.c (.int .i64 0))⟩]) (.seq (.block 0 (.seq (.seq (.reg [⟨some 5,none,.faddr 0 (.t 1)⟩,⟨some 6,none,.load false 1 (.t 5)⟩,⟨some 7,none,.bin .eql false (.t 6) (.c (.int .i64 1))⟩,⟨some 4,none,.mv (.t 7)⟩]) (.cond (.t 4) .skip (.seq (.reg [⟨some 8,none,.faddr 0 (.t 1)⟩,⟨some 9,none,.load false 1 (.t 8)⟩,⟨some 10,none,.bin .eql false (.t 9) (.c (.int .i64 2))⟩,⟨some 4,none,.mv (.t 10)⟩]) (.cond (.t 4) .skip (.reg [⟨some 11,none,.faddr 0 (.t 1)⟩,⟨some 12,none,.load false 1 (.t 11)⟩,⟨some 13,none,.bin .eql false (.t 12) (.c (.int .i64 3))⟩,⟨some 4,none,.mv (.t 13)⟩]))))) (.cond (.t 4) .skip (.seq (.seq (.reg [⟨some 15,none,.faddr 0 (.t 1)⟩,⟨some 16,none,.load false 1 (.t 15)⟩,⟨some 17,none,.bin .eql false (.t 16) (.c (.int .i64 4))⟩,⟨some 14,none,.mv (.t 17)⟩]) (.cond (.t 14) .skip (.reg [⟨some 18,none,.faddr 0 (.t 1)⟩,⟨some 19,none,.load false 1 (.t 18)⟩,⟨some 20,none,.call 54 [(.t 19)]⟩,⟨some 14,none,.mv (.t 20)⟩]))) (.cond (.t 14) (.reg [⟨some 3,none,.mv (.c (.int .i64 1))⟩]) (.seq (.reg [⟨some 22,none,.faddr 0 (.t 1)⟩,⟨some 23,none,.load false 1 (.t 22)⟩,⟨some 24,none,.call 84 [(.t 23)]⟩,⟨some 21,none,.mv (.t 24)⟩]) (.cond (.t 21) (.reg [⟨some 3,none,.mv (.c (.int .i64 2))⟩]) (.seq (.reg [⟨some 2,none,.mv (.c (.bool false))⟩]) .ret)))))))) (.seq (.seq (.reg [⟨some 25,none,.faddr 4 (.t 1)⟩,⟨some 26,none,.load false 1 (.t 25)⟩,⟨some 27,none,.len false (.t 26)⟩,⟨some 28,none,.mv (.t 3)⟩,⟨some 29,none,.bin .neq false (.t 27) (.t 28)⟩,⟨some 30,none,.mv (.t 29)⟩,⟨(some 31),(some (30,false)),(.faddr 0 (.t 1))⟩,⟨(some 32),(some (30,false)),(.load false 1 (.t 31))⟩,⟨(some 33),(some (30,false)),(.call 54 [(.t 32)])⟩,⟨(some 34),(some (30,false)),(.mv (.t 33))⟩,⟨(some 35),(some (34,true)),(.faddr 3 (.t 1))⟩,⟨(some 36),(some (34,true)),(.load false 1 (.t 35))⟩,⟨(some 37),(some (34,true)),(.call 42 [(.t 36)])⟩,⟨(some 38),(some (34,true)),(.un .not (.t 37))⟩,⟨(some 39),(some (30,false)),(.pick (.t 34) (.t 38) (.c (.bool false)))⟩,⟨some 40,none,.pick (.t 30) (.c (.bool true)) (.t 39)⟩,⟨some 41,none,.mv (.t 40)⟩,⟨(some 42),(some (41,false)),(.faddr 0 (.t 1))⟩,⟨(some 43),(some (41,false)),(.load false 1 (.t 42))⟩,⟨(some 44),(some (41,false)),(.call 54 [(.t 43)])⟩,⟨(some 45),(some (41,false)),(.un .not (.t 44))⟩,⟨(some 46),(some (41,false)),(.mv (.t 45))⟩,⟨(some 47),(some (46,true)),(.faddr 3 (.t 1))⟩,⟨(some 48),(some (46,true)),(.load false 1 (.t 47))⟩,⟨(some 49),(some (46,true)),(.bin .neq false (.t 48) (.c (.str ⟨#[]⟩)))⟩,⟨(some 50),(some (41,false)),(.pick (.t 46) (.t 49) (.c (.bool false)))⟩,⟨some 51,none,.pick (.t 41) (.c (.bool true)) (.t 50)⟩]) (.cond (.t 51) (.seq (.reg [⟨some 2,none,.mv (.c (.bool false))⟩]) .ret) .skip)) (.seq (.seq (.reg [⟨some 52,none,.faddr 0 (.t 1)⟩,⟨some 53,none,.load false 1 (.t 52)⟩,⟨some 54,none,.bin .eql false (.t 53) (.c (.int .i64 3))⟩,⟨some 55,none,.mv (.t 54)⟩,⟨(some 56),(some (55,true)),(.faddr 1 (.t 1))⟩,⟨(some 57),(some (55,true)),(.load true 2 (.t 56))⟩,⟨(some 58),(some (55,true)),(.call 85 [(.t 57)])⟩,⟨(some 59),(some (55,true)),(.un .not (.t 58))⟩,⟨some 60,none,.pick (.t 55) (.t 59) (.c (.bool false))⟩,⟨some 61,none,.mv (.t 60)⟩,⟨(some 62),(some (61,false)),(.faddr 0 (.t 1))⟩,⟨(some 63),(some (61,false)),(.load false 1 (.t 62))⟩,⟨(some 64),(some (61,false)),(.bin .neq false (.t 63) (.c (.int .i64 3)))⟩,⟨(some 65),(some (61,false)),(.mv (.t 64))⟩,⟨(some 66),(some (65,true)),(.faddr 1 (.t 1))⟩,⟨(some 67),(some (65,true)),(.load true 2 (.t 66))⟩,⟨(some 68),(some (65,true)),(.call 86 [(.t 67)])⟩,⟨(some 69),(some (65,true)),(.un .not (.t 68))⟩,⟨(some 70),(some (61,false)),(.pick (.t 65) (.t 69) (.c (.bool false)))⟩,⟨some 71,none,.pick (.t 61) (.c (.bool true)) (.t 70)⟩]) (.cond (.t 71) (.seq (.reg [⟨some 2,none,.mv (.c (.bool false))⟩]) .ret) .skip)) (.seq (.reg [⟨some 72,none,.faddr 4 (.t 1)⟩,⟨some 73,none,.load false 1 (.t 72)⟩,⟨some 74,none,.call 56 [(.t 73),(.c (.fn 87 []))]⟩,⟨some 75,none,.un .not (.t 74)⟩,⟨some 2,none,.mv (.t 75)⟩]) .ret))))))
theorem AH:Aq Tryz.prog 52=some ⟨76,AE,[(.tmp 2)]⟩:=by kernel_rfl
theorem A9:modes 52=⟨[],.asis,none,false⟩:=by unfold modes; rfl
def Ia:SC:=(.seq (.reg [⟨some 1,none,.boxv 33 5 (.t 0)⟩,⟨some 2,none,.mv (.c (.bool false))⟩]) (.seq (.reg [⟨some 3,none,.load true 5 (.t 1)⟩,⟨some 4,none,.call 52 [(.t 3)]⟩,⟨some 5,none,.un .not (.t 4)⟩,⟨some 2,none,.mv (.t 5)⟩]) .ret))
theorem Md:Aq Tryz.prog 87=some ⟨6,Ia,[(.tmp 2)]⟩:=by kernel_rfl
theorem Ib:modes 87=⟨[],.asis,none,false⟩:=by unfold modes; rfl
theorem Me:IG Tryz.prog 87=true:=by kernel_rfl
def Bp:SC:=(.seq (.reg [⟨some 1,none,.boxv 33 5 (.t 0)⟩,⟨some 2,none,.mv (.c (.bool false))⟩]) (.seq (.reg [⟨some 4,none,.faddr 4 (.t 1)⟩,⟨some 5,none,.load false 1 (.t 4)⟩,⟨some 6,none,.len false (.t 5)⟩,⟨some 3,none,.mv (.t 6)⟩]) (.seq (.seq (.reg [⟨some 7,none,.faddr 0 (.t 1)⟩,⟨some 8,none,.load false 1 (.t 7)⟩]) (.block 0 (.seq (.seq (.reg [⟨some 10,none,.bin .eql false (.t 8) (.c (.int .i64 1))⟩,⟨some 9,none,.mv (.t 10)⟩]) (.cond (.t 9) .skip (.reg [⟨some 11,none,.bin .eql false (.t 8) (.c (.int .i64 2))⟩,⟨some 9,none,.mv (.t 11)⟩]))) (.cond (.t 9) (.seq (.reg [⟨some 12,none,.mv (.t 3)⟩,⟨some 13,none,.bin .eql false (.t 12) (.c (.int .i64 0))⟩,⟨some 14,none,.mv (.t 13)⟩,⟨(some 15),(some (14,true)),(.faddr 1 (.t 1))⟩,⟨(some 16),(some (14,true)),(.load true 2 (.t 15))⟩,⟨(some 17),(some (14,true)),(.call 117 [(.t 16)])⟩,⟨some 18,none,.pick (.t 14) (.t 17) (.c (.bool false))⟩,⟨some 19,none,.mv (.t 18)⟩,⟨(some 20),(some (19,true)),(.faddr 3 (.t 1))⟩,⟨(some 21),(some (19,true)),(.load false 1 (.t 20))⟩,⟨(some 22),(some (19,true)),(.bin .eql false (.t 21) (.c (.str ⟨#[]⟩)))⟩,⟨some 23,none,.pick (.t 19) (.t 22) (.c (.bool false))⟩,⟨some 2,none,.mv (.t 23)⟩]) .ret) (.seq (.reg [⟨some 25,none,.bin .eql false (.t 8) (.c (.int .i64 3))⟩,⟨some 24,none,.mv (.t 25)⟩]) (.cond (.t 24) (.seq (.reg [⟨some 26,none,.mv (.t 3)⟩,⟨some 27,none,.bin .eql false (.t 26) (.c (.int .i64 0))⟩,⟨some 28,none,.mv (.t 27)⟩,⟨(some 29),(some (28,true)),(.faddr 1 (.t 1))⟩,⟨(some 30),(some (28,true)),(.load true 2 (.t 29))⟩,⟨(some 31),(some (28,true)),(.call 118 [(.t 30)])⟩,⟨some 32,none,.pick (.t 28) (.t 31) (.c (.bool false))⟩,⟨some 33,none,.mv (.t 32)⟩,⟨(some 34),(some (33,true)),(.faddr 3 (.t 1))⟩,⟨(some 35),(some (33,true)),(.load false 1 (.t 34))⟩,⟨(some 36),(some (33,true)),(.bin .eql false (.t 35) (.c (.str ⟨#[]⟩)))⟩,⟨some 37,none,.pick (.t 33) (.t 36) (.c (.bool false))⟩,⟨some 2,none,.mv (.t 37)⟩]) .ret) (.seq (.reg [⟨some 39,none,.bin .eql false (.t 8) (.c (.int .i64 4))⟩,⟨some 38,none,.mv (.t 39)⟩]) (.cond (.t 38) (.seq (.reg [⟨some 40,none,.mv (.t 3)⟩,⟨some 41,none,.bin .eql false (.t 40) (.c (.int .i64 1))⟩,⟨some 42,none,.mv (.t 41)⟩,⟨(some 43),(some (42,true)),(.faddr 1 (.t 1))⟩,⟨(some 44),(some (42,true)),(.load true 2 (.t 43))⟩,⟨(some 45),(some (42,true)),(.call 117 [(.t 44)])⟩,⟨some 46,none,.pick (.t 42) (.t 45) (.c (.bool false))⟩,⟨some 47,none,.mv (.t 46)⟩,⟨(some 48),(some (47,true)),(.faddr 3 (.t 1))⟩,⟨(some 49),(some (47,true)),(.load false 1 (.t 48))⟩,⟨(some 50),(some (47,true)),(.bin .eql false (.t 49) (.c (.str ⟨#[]⟩)))⟩,⟨some 51,none,.pick (.t 47) (.t 50) (.c (.bool false))⟩,⟨some 2,none,.mv (.t 51)⟩]) .ret) (.seq (.seq (.reg [⟨some 53,none,.bin .eql false (.t 8) (.c (.int .i64 5))⟩,⟨some 52,none,.mv (.t 53)⟩]) (.cond (.t 52) .skip (.seq (.reg [⟨some 54,none,.bin .eql false (.t 8) (.c (.int .i64 6))⟩,⟨some 52,none,.mv (.t 54)⟩]) (.cond (.t 52) .skip (.reg [⟨some 55,none,.bin .eql false (.t 8) (.c (.int .i64 7))⟩,⟨some 52,none,.mv (.t 55)⟩]))))) (.cond (.t 52) (.seq (.reg [⟨some 56,none,.mv (.t 3)⟩,⟨some 57,none,.bin .eql false (.t 56) (.c (.int .i64 2))⟩,⟨some 58,none,.mv (.t 57)⟩,⟨(some 59),(some (58,true)),(.faddr 1 (.t 1))⟩,⟨(some 60),(some (58,true)),(.load true 2 (.t 59))⟩,⟨(some 61),(some (58,true)),(.call 117 [(.t 60)])⟩,⟨some 62,none,.pick (.t 58) (.t 61) (.c (.bool false))⟩,⟨some 63,none,.mv (.t 62)⟩,⟨(some 64),(some (63,true)),(.faddr 3 (.t 1))⟩,⟨(some 65),(some (63,true)),(.load false 1 (.t 64))⟩,⟨(some 66),(some (63,true)),(.bin .eql false (.t 65) (.c (.str ⟨#[]⟩)))⟩,⟨some 67,none,.pick (.t 63) (.t 66) (.c (.bool false))⟩,⟨some 2,none,.mv (.t 67)⟩]) .ret) (.seq (.seq (.reg [⟨some 69,none,.bin .eql false (.t 8) (.c (.int .i64 8))⟩,⟨some 68,none,.mv (.t 69)⟩]) (.cond (.t 68) .skip (.reg [⟨some 70,none,.bin .eql false (.t 8) (.c (.int .i64 9))⟩,⟨some 68,none,.mv (.t 70)⟩]))) (.cond (.t 68) (.seq (.reg [⟨some 71,none,.mv (.t 3)⟩,⟨some 72,none,.bin .eql false (.t 71) (.c (.int .i64 1))⟩,⟨some 73,none,.mv (.t 72)⟩,⟨(some 74),(some (73,true)),(.faddr 1 (.t 1))⟩,⟨(some 75),(some (73,true)),(.load true 2 (.t 74))⟩,⟨(some 76),(some (73,true)),(.call 117 [(.t 75)])⟩,⟨some 77,none,.pick (.t 73) (.t 76) (.c (.bool false))⟩,⟨some 78,none,.mv (.t 77)⟩,⟨(some 79),(some (78,true)),(.faddr 3 (.t 1))⟩,⟨(some 80),(some (78,true)),(.load false 1 (.t 79))⟩,⟨(some 81),(some (78,true)),(.call 62 [(.t 80)])⟩,⟨some 82,none,.pick (.t 78) (.t 81) (.c (.bool false))⟩,⟨some 2,none,.mv (.t 82)⟩]) .ret) .skip)))))))))))) (.seq (.reg [⟨some 2,none,.mv (.c (.bool false))⟩]) .ret))))
theorem Bv:Aq Tryz.prog 97=some ⟨83,Bp,[(.tmp 2)]⟩:=by kernel_rfl
theorem Bi:modes 97=⟨[],.asis,none,false⟩:=by unfold modes; rfl
def GR:SC:=(.seq (.reg [⟨some 1,none,.boxv 33 5 (.t 0)⟩,⟨some 2,none,.mv (.c (.bool false))⟩]) (.seq (.seq (.reg [⟨some 4,none,.load true 5 (.t 1)⟩,⟨some 5,none,.call 97 [(.t 4)]⟩,⟨some 6,none,.un .not (.t 5)⟩]) (.cond (.t 6) (.seq (.reg [⟨some 2,none,.mv (.c (.bool false))⟩]) .ret) .skip)) (.seq (.seq (.reg [⟨some 3,none,.mv (.c (.int .i64 0))⟩]) (.block 0 (.loop [0,1,0,1,0,0,0,0,0,0,0,0,0,0,0,0,0,0,0,0,0] (.seq (.seq (.reg [⟨some 7,none,.mv (.t 3)⟩,⟨some 8,none,.faddr 4 (.t 1)⟩,⟨some 9,none,.load false 1 (.t 8)⟩,⟨some 10,none,.len false (.t 9)⟩,⟨some 11,none,.bin .lss false (.t 7) (.t 10)⟩]) (.cond (.t 11) .skip (.exit 0))) (.seq (.block 1 (.seq (.reg [⟨some 14,none,.faddr 4 (.t 1)⟩,⟨some 15,none,.load false 1 (.t 14)⟩,⟨some 16,none,.mv (.t 3)⟩,⟨some 17,none,.iaddr 5 (.t 15) (.t 16)⟩,⟨some 18,none,.load true 5 (.t 17)⟩,⟨some 19,none,.call 64 [(.t 18)]⟩,⟨some 20,none,.un .not (.t 19)⟩]) (.cond (.t 20) (.seq (.reg [⟨some 2,none,.mv (.c (.bool false))⟩]) .ret) .skip))) (.reg [⟨some 12,none,.mv (.t 3)⟩,⟨some 13,none,.bin .add false (.t 12) (.c (.int .i64 1))⟩,⟨some 3,none,.mv (.t 13)⟩])))))) (.seq (.reg [⟨some 2,none,.mv (.c (.bool true))⟩]) .ret))))
theorem Js:Aq Tryz.prog 64=some ⟨21,GR,[(.tmp 2)]⟩:=by kernel_rfl
theorem D2:modes 64=⟨[],.asis,none,false⟩:=by unfold modes; rfl
def DV:SC:=(.seq (.reg [⟨some 1,none,.boxv 33 5 (.t 0)⟩,⟨some 2,none,.mv (.c (.bool false))⟩]) (.seq (.reg [⟨some 3,none,.load true 5 (.t 1)⟩,⟨some 4,none,.call 51 [(.t 3)]⟩,⟨some 5,none,.bin .leq false (.t 4) (.c (.int .i64 40))⟩,⟨some 6,none,.mv (.t 5)⟩,⟨(some 7),(some (6,true)),(.load true 5 (.t 1))⟩,⟨(some 8),(some (6,true)),(.call 52 [(.t 7)])⟩,⟨some 9,none,.pick (.t 6) (.t 8) (.c (.bool false))⟩,⟨some 2,none,.mv (.t 9)⟩]) .ret))
theorem Fu:Aq Tryz.prog 21=some ⟨10,DV,[(.tmp 2)]⟩:=by kernel_rfl
theorem BG:modes 21=⟨[],.asis,none,false⟩:=by unfold modes; rfl
def H6:SC:=(.seq (.reg [⟨some 1,none,.boxv 33 5 (.t 0)⟩,⟨some 2,none,.mv (.c (.bool false))⟩]) (.seq (.reg [⟨some 3,none,.load true 5 (.t 1)⟩,⟨some 4,none,.call 63 [(.t 3),(.c (.int .i64 40))]⟩,⟨some 5,none,.bin .leq false (.t 4) (.c (.int .i64 40))⟩,⟨some 6,none,.mv (.t 5)⟩,⟨(some 7),(some (6,true)),(.load true 5 (.t 1))⟩,⟨(some 8),(some (6,true)),(.call 64 [(.t 7)])⟩,⟨some 9,none,.pick (.t 6) (.t 8) (.c (.bool false))⟩,⟨some 2,none,.mv (.t 9)⟩]) .ret))
theorem Kh:Aq Tryz.prog 26=some ⟨10,H6,[(.tmp 2)]⟩:=by kernel_rfl
theorem C5:modes 26=⟨[],.asis,none,false⟩:=by unfold modes; rfl
theorem CD (n:Int):E 54 [.int .i64 n] []=some (.bool (dec (n=8) || dec (n=9)),[]):=by
 cases h1:dec (n=8) with
 | true =>
  refine Al Gj Ac (of_decide_eq_true rfl) ?_
  simp (disch:=omega) only [E0,go_sem,Ab,h1]
 | false =>
  refine Al Gj Ac (of_decide_eq_true rfl) ?_
  simp (disch:=omega) only [E0,go_sem,Ab,h1]
theorem FB (n:Int):E 84 [.int .i64 n] []=some (.bool (dec (n=5) || dec (n=6) || dec (n=7)),[]):=by
 cases h1:dec (n=5) <;> cases h2:dec (n=6)
 all_goals
  refine Al MS Ai (of_decide_eq_true rfl) ?_
  simp (disch:=omega) only [IF,go_sem,Ab,h1,h2]
theorem Gu (x:Tm):E 86 [x.sv] []=some (.bool x.isZ,[]):=by
 unfold Tm.isZ
 have hl:dec ((x.args.length:Int)=0)=(x.args.length == 0):=by
  rw [IR]
  cases x.args <;> simp <;> omega
 cases h1:dec (x.name=⟨#[]⟩) with
 | true =>
  refine Al Hr Af (of_decide_eq_true rfl) ?_
  simp (disch:=omega) only [Fn,go_sem,Ab,h1]
  try rw [hl]
 | false =>
  refine Al Hr Af (of_decide_eq_true rfl) ?_
  simp (disch:=omega) only [Fn,go_sem,Ab,h1]
theorem L2 (x:Tm):E 117 [x.sv] []=some (.bool x.isZ,[]):=by
 unfold Tm.isZ
 have hl:dec ((x.args.length:Int)=0)=(x.args.length == 0):=by
  rw [IR]
  cases x.args <;> simp <;> omega
 cases h1:dec (x.name=⟨#[]⟩) with
 | true =>
  refine Al Kg Ap (of_decide_eq_true rfl) ?_
  simp (disch:=omega) only [H5,go_sem,Ab,h1]
  try rw [hl]
 | false =>
  refine Al Kg Ap (of_decide_eq_true rfl) ?_
  simp (disch:=omega) only [H5,go_sem,Ab,h1]
theorem Sc (x:Fm) (hn:x.atom.nodes≤1099511627776) (ho:x.op=1∨x.op=2):E 97 [x.sv] []=some (.bool x.form,[]):=by
 have hf:x.form=(x.parts.length == 0&&x.atom.isZ&&dec (x.var=⟨#[]⟩)):=by unfold Fm.form; rcases ho with ho | ho <;> simp [ho]
 rcases ho with ho | ho
 all_goals
  first
   |(have o1:dec (x.op=1)=true:=Aw ho)
   |(have o1:dec (x.op=1)=false:=Aj (by omega))
  first
   |(have o2:dec (x.op=2)=true:=Aw ho)
   |(have o2:dec (x.op=2)=false:=Aj (by omega))
  have o3:dec (x.op=3)=false:=Aj (by omega)
  have o4:dec (x.op=4)=false:=Aj (by omega)
  have o5:dec (x.op=5)=false:=Aj (by omega)
  have o6:dec (x.op=6)=false:=Aj (by omega)
  have o7:dec (x.op=7)=false:=Aj (by omega)
  have o8:dec (x.op=8)=false:=Aj (by omega)
  have o9:dec (x.op=9)=false:=Aj (by omega)
  have ha:=L2 x.atom
  have hv:=EY x.var
  rw [hf]
  by_cases hl:x.parts.length=0
  ·have hl2:dec ((x.parts.length:Int)=0)=true:=Aw (by omega)
   rw [hl,beq_self_eq_true,zD]
   cases hq:x.atom.isZ with
   | true =>
    rw [hq] at ha
    rw [zD]
    refine Al Bv Bi (of_decide_eq_true rfl) ?_
    simp (disch:=omega) only [Bp,go_sem,o1,o2,o3,o4,o5,o6,o7,o8,o9,hl2,ha,hv,Ao,Ap,An]
    repeat ((first | (refine At ?_ ?_; (focus (simp (disch:=omega) only [go_sem,o1,o2,o3,o4,o5,o6,o7,o8,o9,hl2,ha,hv,Ao,Ap,An]; done))) | (refine Au ?_ ?_; (focus (simp (disch:=omega) only [go_sem,o1,o2,o3,o4,o5,o6,o7,o8,o9,hl2,ha,hv,Ao,Ap,An]; done)))); (try simp (disch:=omega) only [go_sem,o1,o2,o3,o4,o5,o6,o7,o8,o9,hl2,ha,hv,Ao,Ap,An]))
   | false =>
    rw [hq] at ha
    rw [zA]
    refine Al Bv Bi (of_decide_eq_true rfl) ?_
    simp (disch:=omega) only [Bp,go_sem,o1,o2,o3,o4,o5,o6,o7,o8,o9,hl2,ha,hv,Ao,Ap,An]
    repeat ((first | (refine At ?_ ?_; (focus (simp (disch:=omega) only [go_sem,o1,o2,o3,o4,o5,o6,o7,o8,o9,hl2,ha,hv,Ao,Ap,An]; done))) | (refine Au ?_ ?_; (focus (simp (disch:=omega) only [go_sem,o1,o2,o3,o4,o5,o6,o7,o8,o9,hl2,ha,hv,Ao,Ap,An]; done)))); (try simp (disch:=omega) only [go_sem,o1,o2,o3,o4,o5,o6,o7,o8,o9,hl2,ha,hv,Ao,Ap,An]))
  ·have hl2:dec ((x.parts.length:Int)=0)=false:=Aj (by omega)
   have hl3:(x.parts.length == 0)=false:=by simpa using hl
   rw [hl3,zA,zA]
   refine Al Bv Bi (of_decide_eq_true rfl) ?_
   simp (disch:=omega) only [Bp,go_sem,o1,o2,o3,o4,o5,o6,o7,o8,o9,hl2,ha,hv,Ao,Ap,An]
   repeat ((first | (refine At ?_ ?_; (focus (simp (disch:=omega) only [go_sem,o1,o2,o3,o4,o5,o6,o7,o8,o9,hl2,ha,hv,Ao,Ap,An]; done))) | (refine Au ?_ ?_; (focus (simp (disch:=omega) only [go_sem,o1,o2,o3,o4,o5,o6,o7,o8,o9,hl2,ha,hv,Ao,Ap,An]; done)))); (try simp (disch:=omega) only [go_sem,o1,o2,o3,o4,o5,o6,o7,o8,o9,hl2,ha,hv,Ao,Ap,An]))
theorem X3 (x:Fm) (hn:x.atom.nodes≤1099511627776) (ho:x.op=3):E 97 [x.sv] []=some (.bool x.form,[]):=by
 have hf:x.form=(x.parts.length == 0&&x.atom.atom&&dec (x.var=⟨#[]⟩)):=by unfold Fm.form; rcases ho with ho <;> simp [ho]
 rcases ho with ho
 all_goals
  have o1:dec (x.op=1)=false:=Aj (by omega)
  have o2:dec (x.op=2)=false:=Aj (by omega)
  have o3:dec (x.op=3)=true:=Aw ho
  have o4:dec (x.op=4)=false:=Aj (by omega)
  have o5:dec (x.op=5)=false:=Aj (by omega)
  have o6:dec (x.op=6)=false:=Aj (by omega)
  have o7:dec (x.op=7)=false:=Aj (by omega)
  have o8:dec (x.op=8)=false:=Aj (by omega)
  have o9:dec (x.op=9)=false:=Aj (by omega)
  have ha:=WP x.atom (by omega)
  have hv:=EY x.var
  rw [hf]
  by_cases hl:x.parts.length=0
  ·have hl2:dec ((x.parts.length:Int)=0)=true:=Aw (by omega)
   rw [hl,beq_self_eq_true,zD]
   cases hq:x.atom.atom with
   | true =>
    rw [hq] at ha
    rw [zD]
    refine Al Bv Bi (of_decide_eq_true rfl) ?_
    simp (disch:=omega) only [Bp,go_sem,o1,o2,o3,o4,o5,o6,o7,o8,o9,hl2,ha,hv,Ao,Ap,An]
    repeat ((first | (refine At ?_ ?_; (focus (simp (disch:=omega) only [go_sem,o1,o2,o3,o4,o5,o6,o7,o8,o9,hl2,ha,hv,Ao,Ap,An]; done))) | (refine Au ?_ ?_; (focus (simp (disch:=omega) only [go_sem,o1,o2,o3,o4,o5,o6,o7,o8,o9,hl2,ha,hv,Ao,Ap,An]; done)))); (try simp (disch:=omega) only [go_sem,o1,o2,o3,o4,o5,o6,o7,o8,o9,hl2,ha,hv,Ao,Ap,An]))
   | false =>
    rw [hq] at ha
    rw [zA]
    refine Al Bv Bi (of_decide_eq_true rfl) ?_
    simp (disch:=omega) only [Bp,go_sem,o1,o2,o3,o4,o5,o6,o7,o8,o9,hl2,ha,hv,Ao,Ap,An]
    repeat ((first | (refine At ?_ ?_; (focus (simp (disch:=omega) only [go_sem,o1,o2,o3,o4,o5,o6,o7,o8,o9,hl2,ha,hv,Ao,Ap,An]; done))) | (refine Au ?_ ?_; (focus (simp (disch:=omega) only [go_sem,o1,o2,o3,o4,o5,o6,o7,o8,o9,hl2,ha,hv,Ao,Ap,An]; done)))); (try simp (disch:=omega) only [go_sem,o1,o2,o3,o4,o5,o6,o7,o8,o9,hl2,ha,hv,Ao,Ap,An]))
  ·have hl2:dec ((x.parts.length:Int)=0)=false:=Aj (by omega)
   have hl3:(x.parts.length == 0)=false:=by simpa using hl
   rw [hl3,zA,zA]
   refine Al Bv Bi (of_decide_eq_true rfl) ?_
   simp (disch:=omega) only [Bp,go_sem,o1,o2,o3,o4,o5,o6,o7,o8,o9,hl2,ha,hv,Ao,Ap,An]
   repeat ((first | (refine At ?_ ?_; (focus (simp (disch:=omega) only [go_sem,o1,o2,o3,o4,o5,o6,o7,o8,o9,hl2,ha,hv,Ao,Ap,An]; done))) | (refine Au ?_ ?_; (focus (simp (disch:=omega) only [go_sem,o1,o2,o3,o4,o5,o6,o7,o8,o9,hl2,ha,hv,Ao,Ap,An]; done)))); (try simp (disch:=omega) only [go_sem,o1,o2,o3,o4,o5,o6,o7,o8,o9,hl2,ha,hv,Ao,Ap,An]))
theorem X4 (x:Fm) (hn:x.atom.nodes≤1099511627776) (ho:x.op=4):E 97 [x.sv] []=some (.bool x.form,[]):=by
 have hf:x.form=(x.parts.length == 1&&x.atom.isZ&&dec (x.var=⟨#[]⟩)):=by unfold Fm.form; rcases ho with ho <;> simp [ho]
 rcases ho with ho
 all_goals
  have o1:dec (x.op=1)=false:=Aj (by omega)
  have o2:dec (x.op=2)=false:=Aj (by omega)
  have o3:dec (x.op=3)=false:=Aj (by omega)
  have o4:dec (x.op=4)=true:=Aw ho
  have o5:dec (x.op=5)=false:=Aj (by omega)
  have o6:dec (x.op=6)=false:=Aj (by omega)
  have o7:dec (x.op=7)=false:=Aj (by omega)
  have o8:dec (x.op=8)=false:=Aj (by omega)
  have o9:dec (x.op=9)=false:=Aj (by omega)
  have ha:=L2 x.atom
  have hv:=EY x.var
  rw [hf]
  by_cases hl:x.parts.length=1
  ·have hl2:dec ((x.parts.length:Int)=1)=true:=Aw (by omega)
   rw [hl,beq_self_eq_true,zD]
   cases hq:x.atom.isZ with
   | true =>
    rw [hq] at ha
    rw [zD]
    refine Al Bv Bi (of_decide_eq_true rfl) ?_
    simp (disch:=omega) only [Bp,go_sem,o1,o2,o3,o4,o5,o6,o7,o8,o9,hl2,ha,hv,Ao,Ap,An]
    repeat ((first | (refine At ?_ ?_; (focus (simp (disch:=omega) only [go_sem,o1,o2,o3,o4,o5,o6,o7,o8,o9,hl2,ha,hv,Ao,Ap,An]; done))) | (refine Au ?_ ?_; (focus (simp (disch:=omega) only [go_sem,o1,o2,o3,o4,o5,o6,o7,o8,o9,hl2,ha,hv,Ao,Ap,An]; done)))); (try simp (disch:=omega) only [go_sem,o1,o2,o3,o4,o5,o6,o7,o8,o9,hl2,ha,hv,Ao,Ap,An]))
   | false =>
    rw [hq] at ha
    rw [zA]
    refine Al Bv Bi (of_decide_eq_true rfl) ?_
    simp (disch:=omega) only [Bp,go_sem,o1,o2,o3,o4,o5,o6,o7,o8,o9,hl2,ha,hv,Ao,Ap,An]
    repeat ((first | (refine At ?_ ?_; (focus (simp (disch:=omega) only [go_sem,o1,o2,o3,o4,o5,o6,o7,o8,o9,hl2,ha,hv,Ao,Ap,An]; done))) | (refine Au ?_ ?_; (focus (simp (disch:=omega) only [go_sem,o1,o2,o3,o4,o5,o6,o7,o8,o9,hl2,ha,hv,Ao,Ap,An]; done)))); (try simp (disch:=omega) only [go_sem,o1,o2,o3,o4,o5,o6,o7,o8,o9,hl2,ha,hv,Ao,Ap,An]))
  ·have hl2:dec ((x.parts.length:Int)=1)=false:=Aj (by omega)
   have hl3:(x.parts.length == 1)=false:=by simpa using hl
   rw [hl3,zA,zA]
   refine Al Bv Bi (of_decide_eq_true rfl) ?_
   simp (disch:=omega) only [Bp,go_sem,o1,o2,o3,o4,o5,o6,o7,o8,o9,hl2,ha,hv,Ao,Ap,An]
   repeat ((first | (refine At ?_ ?_; (focus (simp (disch:=omega) only [go_sem,o1,o2,o3,o4,o5,o6,o7,o8,o9,hl2,ha,hv,Ao,Ap,An]; done))) | (refine Au ?_ ?_; (focus (simp (disch:=omega) only [go_sem,o1,o2,o3,o4,o5,o6,o7,o8,o9,hl2,ha,hv,Ao,Ap,An]; done)))); (try simp (disch:=omega) only [go_sem,o1,o2,o3,o4,o5,o6,o7,o8,o9,hl2,ha,hv,Ao,Ap,An]))
theorem Oy (x:Fm) (hn:x.atom.nodes≤1099511627776) (ho:x.op=5∨x.op=6∨x.op=7):E 97 [x.sv] []=some (.bool x.form,[]):=by
 have hf:x.form=(x.parts.length == 2&&x.atom.isZ&&dec (x.var=⟨#[]⟩)):=by unfold Fm.form; rcases ho with ho | ho | ho <;> simp [ho]
 rcases ho with ho | ho | ho
 all_goals
  have o1:dec (x.op=1)=false:=Aj (by omega)
  have o2:dec (x.op=2)=false:=Aj (by omega)
  have o3:dec (x.op=3)=false:=Aj (by omega)
  have o4:dec (x.op=4)=false:=Aj (by omega)
  first
   |(have o5:dec (x.op=5)=true:=Aw ho)
   |(have o5:dec (x.op=5)=false:=Aj (by omega))
  first
   |(have o6:dec (x.op=6)=true:=Aw ho)
   |(have o6:dec (x.op=6)=false:=Aj (by omega))
  first
   |(have o7:dec (x.op=7)=true:=Aw ho)
   |(have o7:dec (x.op=7)=false:=Aj (by omega))
  have o8:dec (x.op=8)=false:=Aj (by omega)
  have o9:dec (x.op=9)=false:=Aj (by omega)
  have ha:=L2 x.atom
  have hv:=EY x.var
  rw [hf]
  by_cases hl:x.parts.length=2
  ·have hl2:dec ((x.parts.length:Int)=2)=true:=Aw (by omega)
   rw [hl,beq_self_eq_true,zD]
   cases hq:x.atom.isZ with
   | true =>
    rw [hq] at ha
    rw [zD]
    refine Al Bv Bi (of_decide_eq_true rfl) ?_
    simp (disch:=omega) only [Bp,go_sem,o1,o2,o3,o4,o5,o6,o7,o8,o9,hl2,ha,hv,Ao,Ap,An]
    repeat ((first | (refine At ?_ ?_; (focus (simp (disch:=omega) only [go_sem,o1,o2,o3,o4,o5,o6,o7,o8,o9,hl2,ha,hv,Ao,Ap,An]; done))) | (refine Au ?_ ?_; (focus (simp (disch:=omega) only [go_sem,o1,o2,o3,o4,o5,o6,o7,o8,o9,hl2,ha,hv,Ao,Ap,An]; done)))); (try simp (disch:=omega) only [go_sem,o1,o2,o3,o4,o5,o6,o7,o8,o9,hl2,ha,hv,Ao,Ap,An]))
   | false =>
    rw [hq] at ha
    rw [zA]
    refine Al Bv Bi (of_decide_eq_true rfl) ?_
    simp (disch:=omega) only [Bp,go_sem,o1,o2,o3,o4,o5,o6,o7,o8,o9,hl2,ha,hv,Ao,Ap,An]
    repeat ((first | (refine At ?_ ?_; (focus (simp (disch:=omega) only [go_sem,o1,o2,o3,o4,o5,o6,o7,o8,o9,hl2,ha,hv,Ao,Ap,An]; done))) | (refine Au ?_ ?_; (focus (simp (disch:=omega) only [go_sem,o1,o2,o3,o4,o5,o6,o7,o8,o9,hl2,ha,hv,Ao,Ap,An]; done)))); (try simp (disch:=omega) only [go_sem,o1,o2,o3,o4,o5,o6,o7,o8,o9,hl2,ha,hv,Ao,Ap,An]))
  ·have hl2:dec ((x.parts.length:Int)=2)=false:=Aj (by omega)
   have hl3:(x.parts.length == 2)=false:=by simpa using hl
   rw [hl3,zA,zA]
   refine Al Bv Bi (of_decide_eq_true rfl) ?_
   simp (disch:=omega) only [Bp,go_sem,o1,o2,o3,o4,o5,o6,o7,o8,o9,hl2,ha,hv,Ao,Ap,An]
   repeat ((first | (refine At ?_ ?_; (focus (simp (disch:=omega) only [go_sem,o1,o2,o3,o4,o5,o6,o7,o8,o9,hl2,ha,hv,Ao,Ap,An]; done))) | (refine Au ?_ ?_; (focus (simp (disch:=omega) only [go_sem,o1,o2,o3,o4,o5,o6,o7,o8,o9,hl2,ha,hv,Ao,Ap,An]; done)))); (try simp (disch:=omega) only [go_sem,o1,o2,o3,o4,o5,o6,o7,o8,o9,hl2,ha,hv,Ao,Ap,An]))
theorem Sd (x:Fm) (hn:x.atom.nodes≤1099511627776) (ho:x.op=8∨x.op=9):E 97 [x.sv] []=some (.bool x.form,[]):=by
 have hf:x.form=(x.parts.length == 1&&x.atom.isZ&&Cc x.var):=by unfold Fm.form; rcases ho with ho | ho <;> simp [ho]
 rcases ho with ho | ho
 all_goals
  have o1:dec (x.op=1)=false:=Aj (by omega)
  have o2:dec (x.op=2)=false:=Aj (by omega)
  have o3:dec (x.op=3)=false:=Aj (by omega)
  have o4:dec (x.op=4)=false:=Aj (by omega)
  have o5:dec (x.op=5)=false:=Aj (by omega)
  have o6:dec (x.op=6)=false:=Aj (by omega)
  have o7:dec (x.op=7)=false:=Aj (by omega)
  first
   |(have o8:dec (x.op=8)=true:=Aw ho)
   |(have o8:dec (x.op=8)=false:=Aj (by omega))
  first
   |(have o9:dec (x.op=9)=true:=Aw ho)
   |(have o9:dec (x.op=9)=false:=Aj (by omega))
  have ha:=L2 x.atom
  have hv:=EY x.var
  rw [hf]
  by_cases hl:x.parts.length=1
  ·have hl2:dec ((x.parts.length:Int)=1)=true:=Aw (by omega)
   rw [hl,beq_self_eq_true,zD]
   cases hq:x.atom.isZ with
   | true =>
    rw [hq] at ha
    rw [zD]
    refine Al Bv Bi (of_decide_eq_true rfl) ?_
    simp (disch:=omega) only [Bp,go_sem,o1,o2,o3,o4,o5,o6,o7,o8,o9,hl2,ha,hv,Ao,Ap,An]
    repeat ((first | (refine At ?_ ?_; (focus (simp (disch:=omega) only [go_sem,o1,o2,o3,o4,o5,o6,o7,o8,o9,hl2,ha,hv,Ao,Ap,An]; done))) | (refine Au ?_ ?_; (focus (simp (disch:=omega) only [go_sem,o1,o2,o3,o4,o5,o6,o7,o8,o9,hl2,ha,hv,Ao,Ap,An]; done)))); (try simp (disch:=omega) only [go_sem,o1,o2,o3,o4,o5,o6,o7,o8,o9,hl2,ha,hv,Ao,Ap,An]))
   | false =>
    rw [hq] at ha
    rw [zA]
    refine Al Bv Bi (of_decide_eq_true rfl) ?_
    simp (disch:=omega) only [Bp,go_sem,o1,o2,o3,o4,o5,o6,o7,o8,o9,hl2,ha,hv,Ao,Ap,An]
    repeat ((first | (refine At ?_ ?_; (focus (simp (disch:=omega) only [go_sem,o1,o2,o3,o4,o5,o6,o7,o8,o9,hl2,ha,hv,Ao,Ap,An]; done))) | (refine Au ?_ ?_; (focus (simp (disch:=omega) only [go_sem,o1,o2,o3,o4,o5,o6,o7,o8,o9,hl2,ha,hv,Ao,Ap,An]; done)))); (try simp (disch:=omega) only [go_sem,o1,o2,o3,o4,o5,o6,o7,o8,o9,hl2,ha,hv,Ao,Ap,An]))
  ·have hl2:dec ((x.parts.length:Int)=1)=false:=Aj (by omega)
   have hl3:(x.parts.length == 1)=false:=by simpa using hl
   rw [hl3,zA,zA]
   refine Al Bv Bi (of_decide_eq_true rfl) ?_
   simp (disch:=omega) only [Bp,go_sem,o1,o2,o3,o4,o5,o6,o7,o8,o9,hl2,ha,hv,Ao,Ap,An]
   repeat ((first | (refine At ?_ ?_; (focus (simp (disch:=omega) only [go_sem,o1,o2,o3,o4,o5,o6,o7,o8,o9,hl2,ha,hv,Ao,Ap,An]; done))) | (refine Au ?_ ?_; (focus (simp (disch:=omega) only [go_sem,o1,o2,o3,o4,o5,o6,o7,o8,o9,hl2,ha,hv,Ao,Ap,An]; done)))); (try simp (disch:=omega) only [go_sem,o1,o2,o3,o4,o5,o6,o7,o8,o9,hl2,ha,hv,Ao,Ap,An]))
theorem X5 (x:Fm) (hn:x.atom.nodes≤1099511627776):E 97 [x.sv] []=some (.bool x.form,[]):=by
 rcases Oe x.op with h | h | h | h | h | h | h | h | h | h
 ·exact Sc x hn (.inl h)
 ·exact Sc x hn (.inr h)
 ·exact X3 x hn h
 ·exact X4 x hn h
 ·exact Oy x hn (.inl h)
 ·exact Oy x hn (.inr (.inl h))
 ·exact Oy x hn (.inr (.inr h))
 ·exact Sd x hn (.inl h)
 ·exact Sd x hn (.inr h)
 ·obtain ⟨h1,h2,h3,h4,h5,h6,h7,h8,h9⟩:=h
  have hf:x.form=false:=by unfold Fm.form; simp [h1,h2,h3,h4,h5,h6,h7,h8,h9]
  have o1:=Aj h1
  have o2:=Aj h2
  have o3:=Aj h3
  have o4:=Aj h4
  have o5:=Aj h5
  have o6:=Aj h6
  have o7:=Aj h7
  have o8:=Aj h8
  have o9:=Aj h9
  rw [hf]
  refine Al Bv Bi (of_decide_eq_true rfl) ?_
  simp (disch:=omega) only [Bp,go_sem,o1,o2,o3,o4,o5,o6,o7,o8,o9]
  repeat ((first | (refine At ?_ ?_; (focus (simp (disch:=omega) only [go_sem,o1,o2,o3,o4,o5,o6,o7,o8,o9]; done))) | (refine Au ?_ ?_; (focus (simp (disch:=omega) only [go_sem,o1,o2,o3,o4,o5,o6,o7,o8,o9]; done)))); (try simp (disch:=omega) only [go_sem,o1,o2,o3,o4,o5,o6,o7,o8,o9]))
theorem T1 (x:Fm) (ht:x.tame) (hn:x.nodes≤1099511627776) (ih:∀ y∈x.parts,E 64 [y.sv] []=some (.bool y.forms,[])):E 64 [x.sv] []=some (.bool x.forms,[]):=by
 have hl:=Fm.length_le x.parts
 have hx:=Fm.nodes_eq x
 have hf:=X5 x (Fm.Lv ht)
 rw [Fm.E8]
 cases hq:x.form with
 | false =>
  rw [hq] at hf
  rw [zA]
  refine Al Js D2 (of_decide_eq_true rfl) ?_
  simp (disch:=omega) only [GR,go_sem,Ab,hf,Bi]
 | true =>
  rw [hq] at hf
  rw [zD]
  refine Al Js D2 (of_decide_eq_true rfl) ?_
  simp (disch:=omega) only [GR,go_sem,Ab,hf,Bi]
  refine go_loop (α:=Int) (fun a=>⟨slots 21 0 [(1,.ptr 0 0),(3,.int .i64 a)],[.box 33 [.int .i64 x.op,.str x.atom.name,.arr (x.atom.args.map Tm.d),.str x.var,.arr (x.parts.map Fm.d)]]⟩) (fun a=>∃ k:Nat,a=k∧k≤(x.parts).length∧Fm.JS (x.parts.drop k)=Fm.JS x.parts) (fun a=>(x.parts).length-(a).toNat) 0 ⟨0,rfl,zJ _,by rw [zI]⟩ (by simp (disch:=omega) only [go_sem,Ab]) ?_
  rintro i ⟨k,hi,hk,hR⟩
  have hni:i.toNat=k:=by omega
  have hni1:(i+1).toNat=k+1:=by omega
  rcases zC k (x.parts).length with hlt | hge
  ·have hg:=get_at Fm.d hlt
   rw [Fm.d_eq] at hg
   have hc:=ih x.parts[k] (zF hlt)
   rw [zB hlt,Fm.JS] at hR
   cases hp:x.parts[k].forms with
   | true =>
    rw [hp] at hc hR
    rw [zD] at hR
    simp (disch:=omega) only [go_sem,Ab,hni,hg,hc,D2]
    exact ⟨i+1,⟨k+1,by omega,hlt,hR⟩,by omega,by first | trivial | rfl⟩
   | false =>
    rw [hp] at hc hR
    rw [zA] at hR
    simp (disch:=omega) only [go_sem,Ab,hni,hg,hc,D2]
    exact hR
  ·rw [zG hge,Fm.JS] at hR
   simp (disch:=omega) only [go_sem,Ab,hni]
   exact hR
theorem PP (x:Fm) (ht:x.tame) (hn:x.nodes≤1099511627776):E 64 [x.sv] []=some (.bool x.forms,[]) :=
 T1 x ht hn fun y hy=>PP y (Fm.Ma ht hy) (by have:=Fm.nodes_mem hy; have:=Fm.nodes_eq x; omega)
termination_by SizeOf.sizeOf x
decreasing_by exact Fm.lt_of_mem hy
theorem PQ (x:Fm) (hn:x.atom.nodes≤1099511627776) (hl0:x.parts.length≤1099511627776) (ho:x.op=1∨x.op=2) (h2:E 56 [.arr (x.parts.map Fm.d),.fn 87 []] []=some (.bool (x.parts.any fun y=>!y.forms),[])):E 52 [x.sv] []=some (.bool x.forms,[]):=by
 have hf:x.form=(x.parts.length == 0&&x.atom.isZ&&dec (x.var=⟨#[]⟩)):=by unfold Fm.form; rcases ho with ho | ho <;> simp [ho]
 rcases ho with ho | ho
 all_goals
  first
   |(have o1:dec (x.op=1)=true:=Aw ho)
   |(have o1:dec (x.op=1)=false:=Aj (by omega))
  first
   |(have o2:dec (x.op=2)=true:=Aw ho)
   |(have o2:dec (x.op=2)=false:=Aj (by omega))
  have o3:dec (x.op=3)=false:=Aj (by omega)
  have o4:dec (x.op=4)=false:=Aj (by omega)
  have o5:dec (x.op=5)=false:=Aj (by omega)
  have o6:dec (x.op=6)=false:=Aj (by omega)
  have o7:dec (x.op=7)=false:=Aj (by omega)
  have o8:dec (x.op=8)=false:=Aj (by omega)
  have o9:dec (x.op=9)=false:=Aj (by omega)
  have ha:=Gu x.atom
  have hv:=Dg x.var
  have hb:=FB x.op
  have hu:=CD x.op
  rw [o5,o6,o7] at hb
  rw [o8,o9] at hu
  rw [Fm.E8,hf,← Fm.any_not]
  by_cases hl:x.parts.length=0
  ·have hl2:dec ((x.parts.length:Int)=0)=true:=Aw (by omega)
   rw [hl,beq_self_eq_true,zD]
   cases hw:dec (x.var=⟨#[]⟩) with
   | false =>
    try rw [hw] at hv
    rw [zK,zA]
    refine Al AH A9 (of_decide_eq_true rfl) ?_
    simp (disch:=omega) only [AE,go_sem,o1,o2,o3,o4,o5,o6,o7,o8,o9,hl2,ha,hv,hb,hu,hw,h2,Ad,Af,Ae,Ac,Ai,Aa]
    repeat ((first | (refine At ?_ ?_; (focus (simp (disch:=omega) only [go_sem,o1,o2,o3,o4,o5,o6,o7,o8,o9,hl2,ha,hv,hb,hu,hw,h2,Ad,Af,Ae,Ac,Ai,Aa]; done))) | (refine Au ?_ ?_; (focus (simp (disch:=omega) only [go_sem,o1,o2,o3,o4,o5,o6,o7,o8,o9,hl2,ha,hv,hb,hu,hw,h2,Ad,Af,Ae,Ac,Ai,Aa]; done)))); (try simp (disch:=omega) only [go_sem,o1,o2,o3,o4,o5,o6,o7,o8,o9,hl2,ha,hv,hb,hu,hw,h2,Ad,Af,Ae,Ac,Ai,Aa]))
   | true =>
    try rw [hw] at hv
    rw [yV]
    cases hq:x.atom.isZ with
    | true =>
     rw [hq] at ha
     rw [zD]
     refine Al AH A9 (of_decide_eq_true rfl) ?_
     simp (disch:=omega) only [AE,go_sem,o1,o2,o3,o4,o5,o6,o7,o8,o9,hl2,ha,hv,hb,hu,hw,h2,Ad,Af,Ae,Ac,Ai,Aa]
     repeat ((first | (refine At ?_ ?_; (focus (simp (disch:=omega) only [go_sem,o1,o2,o3,o4,o5,o6,o7,o8,o9,hl2,ha,hv,hb,hu,hw,h2,Ad,Af,Ae,Ac,Ai,Aa]; done))) | (refine Au ?_ ?_; (focus (simp (disch:=omega) only [go_sem,o1,o2,o3,o4,o5,o6,o7,o8,o9,hl2,ha,hv,hb,hu,hw,h2,Ad,Af,Ae,Ac,Ai,Aa]; done)))); (try simp (disch:=omega) only [go_sem,o1,o2,o3,o4,o5,o6,o7,o8,o9,hl2,ha,hv,hb,hu,hw,h2,Ad,Af,Ae,Ac,Ai,Aa]))
    | false =>
     rw [hq] at ha
     rw [zA]
     refine Al AH A9 (of_decide_eq_true rfl) ?_
     simp (disch:=omega) only [AE,go_sem,o1,o2,o3,o4,o5,o6,o7,o8,o9,hl2,ha,hv,hb,hu,hw,h2,Ad,Af,Ae,Ac,Ai,Aa]
     repeat ((first | (refine At ?_ ?_; (focus (simp (disch:=omega) only [go_sem,o1,o2,o3,o4,o5,o6,o7,o8,o9,hl2,ha,hv,hb,hu,hw,h2,Ad,Af,Ae,Ac,Ai,Aa]; done))) | (refine Au ?_ ?_; (focus (simp (disch:=omega) only [go_sem,o1,o2,o3,o4,o5,o6,o7,o8,o9,hl2,ha,hv,hb,hu,hw,h2,Ad,Af,Ae,Ac,Ai,Aa]; done)))); (try simp (disch:=omega) only [go_sem,o1,o2,o3,o4,o5,o6,o7,o8,o9,hl2,ha,hv,hb,hu,hw,h2,Ad,Af,Ae,Ac,Ai,Aa]))
  ·have hl2:dec ((x.parts.length:Int)=0)=false:=Aj (by omega)
   have hl3:(x.parts.length == 0)=false:=by simpa using hl
   rw [hl3,zA,zA,zA]
   refine Al AH A9 (of_decide_eq_true rfl) ?_
   simp (disch:=omega) only [AE,go_sem,o1,o2,o3,o4,o5,o6,o7,o8,o9,hl2,ha,hv,hb,hu, h2,Ad,Af,Ae,Ac,Ai,Aa]
   repeat ((first | (refine At ?_ ?_; (focus (simp (disch:=omega) only [go_sem,o1,o2,o3,o4,o5,o6,o7,o8,o9,hl2,ha,hv,hb,hu, h2,Ad,Af,Ae,Ac,Ai,Aa]; done))) | (refine Au ?_ ?_; (focus (simp (disch:=omega) only [go_sem,o1,o2,o3,o4,o5,o6,o7,o8,o9,hl2,ha,hv,hb,hu, h2,Ad,Af,Ae,Ac,Ai,Aa]; done)))); (try simp (disch:=omega) only [go_sem,o1,o2,o3,o4,o5,o6,o7,o8,o9,hl2,ha,hv,hb,hu, h2,Ad,Af,Ae,Ac,Ai,Aa]))
theorem V6 (x:Fm) (hn:x.atom.nodes≤1099511627776) (hl0:x.parts.length≤1099511627776) (ho:x.op=3) (h2:E 56 [.arr (x.parts.map Fm.d),.fn 87 []] []=some (.bool (x.parts.any fun y=>!y.forms),[])):E 52 [x.sv] []=some (.bool x.forms,[]):=by
 have hf:x.form=(x.parts.length == 0&&x.atom.atom&&dec (x.var=⟨#[]⟩)):=by unfold Fm.form; rcases ho with ho <;> simp [ho]
 rcases ho with ho
 all_goals
  have o1:dec (x.op=1)=false:=Aj (by omega)
  have o2:dec (x.op=2)=false:=Aj (by omega)
  have o3:dec (x.op=3)=true:=Aw ho
  have o4:dec (x.op=4)=false:=Aj (by omega)
  have o5:dec (x.op=5)=false:=Aj (by omega)
  have o6:dec (x.op=6)=false:=Aj (by omega)
  have o7:dec (x.op=7)=false:=Aj (by omega)
  have o8:dec (x.op=8)=false:=Aj (by omega)
  have o9:dec (x.op=9)=false:=Aj (by omega)
  have ha:=OK x.atom (by omega)
  have hv:=Dg x.var
  have hb:=FB x.op
  have hu:=CD x.op
  rw [o5,o6,o7] at hb
  rw [o8,o9] at hu
  rw [Fm.E8,hf,← Fm.any_not]
  by_cases hl:x.parts.length=0
  ·have hl2:dec ((x.parts.length:Int)=0)=true:=Aw (by omega)
   rw [hl,beq_self_eq_true,zD]
   cases hw:dec (x.var=⟨#[]⟩) with
   | false =>
    try rw [hw] at hv
    rw [zK,zA]
    refine Al AH A9 (of_decide_eq_true rfl) ?_
    simp (disch:=omega) only [AE,go_sem,o1,o2,o3,o4,o5,o6,o7,o8,o9,hl2,ha,hv,hb,hu,hw,h2,Ad,Af,Ae,Ac,Ai,Aa]
    repeat ((first | (refine At ?_ ?_; (focus (simp (disch:=omega) only [go_sem,o1,o2,o3,o4,o5,o6,o7,o8,o9,hl2,ha,hv,hb,hu,hw,h2,Ad,Af,Ae,Ac,Ai,Aa]; done))) | (refine Au ?_ ?_; (focus (simp (disch:=omega) only [go_sem,o1,o2,o3,o4,o5,o6,o7,o8,o9,hl2,ha,hv,hb,hu,hw,h2,Ad,Af,Ae,Ac,Ai,Aa]; done)))); (try simp (disch:=omega) only [go_sem,o1,o2,o3,o4,o5,o6,o7,o8,o9,hl2,ha,hv,hb,hu,hw,h2,Ad,Af,Ae,Ac,Ai,Aa]))
   | true =>
    try rw [hw] at hv
    rw [yV]
    cases hq:x.atom.atom with
    | true =>
     rw [hq] at ha
     rw [zD]
     refine Al AH A9 (of_decide_eq_true rfl) ?_
     simp (disch:=omega) only [AE,go_sem,o1,o2,o3,o4,o5,o6,o7,o8,o9,hl2,ha,hv,hb,hu,hw,h2,Ad,Af,Ae,Ac,Ai,Aa]
     repeat ((first | (refine At ?_ ?_; (focus (simp (disch:=omega) only [go_sem,o1,o2,o3,o4,o5,o6,o7,o8,o9,hl2,ha,hv,hb,hu,hw,h2,Ad,Af,Ae,Ac,Ai,Aa]; done))) | (refine Au ?_ ?_; (focus (simp (disch:=omega) only [go_sem,o1,o2,o3,o4,o5,o6,o7,o8,o9,hl2,ha,hv,hb,hu,hw,h2,Ad,Af,Ae,Ac,Ai,Aa]; done)))); (try simp (disch:=omega) only [go_sem,o1,o2,o3,o4,o5,o6,o7,o8,o9,hl2,ha,hv,hb,hu,hw,h2,Ad,Af,Ae,Ac,Ai,Aa]))
    | false =>
     rw [hq] at ha
     rw [zA]
     refine Al AH A9 (of_decide_eq_true rfl) ?_
     simp (disch:=omega) only [AE,go_sem,o1,o2,o3,o4,o5,o6,o7,o8,o9,hl2,ha,hv,hb,hu,hw,h2,Ad,Af,Ae,Ac,Ai,Aa]
     repeat ((first | (refine At ?_ ?_; (focus (simp (disch:=omega) only [go_sem,o1,o2,o3,o4,o5,o6,o7,o8,o9,hl2,ha,hv,hb,hu,hw,h2,Ad,Af,Ae,Ac,Ai,Aa]; done))) | (refine Au ?_ ?_; (focus (simp (disch:=omega) only [go_sem,o1,o2,o3,o4,o5,o6,o7,o8,o9,hl2,ha,hv,hb,hu,hw,h2,Ad,Af,Ae,Ac,Ai,Aa]; done)))); (try simp (disch:=omega) only [go_sem,o1,o2,o3,o4,o5,o6,o7,o8,o9,hl2,ha,hv,hb,hu,hw,h2,Ad,Af,Ae,Ac,Ai,Aa]))
  ·have hl2:dec ((x.parts.length:Int)=0)=false:=Aj (by omega)
   have hl3:(x.parts.length == 0)=false:=by simpa using hl
   rw [hl3,zA,zA,zA]
   refine Al AH A9 (of_decide_eq_true rfl) ?_
   simp (disch:=omega) only [AE,go_sem,o1,o2,o3,o4,o5,o6,o7,o8,o9,hl2,ha,hv,hb,hu, h2,Ad,Af,Ae,Ac,Ai,Aa]
   repeat ((first | (refine At ?_ ?_; (focus (simp (disch:=omega) only [go_sem,o1,o2,o3,o4,o5,o6,o7,o8,o9,hl2,ha,hv,hb,hu, h2,Ad,Af,Ae,Ac,Ai,Aa]; done))) | (refine Au ?_ ?_; (focus (simp (disch:=omega) only [go_sem,o1,o2,o3,o4,o5,o6,o7,o8,o9,hl2,ha,hv,hb,hu, h2,Ad,Af,Ae,Ac,Ai,Aa]; done)))); (try simp (disch:=omega) only [go_sem,o1,o2,o3,o4,o5,o6,o7,o8,o9,hl2,ha,hv,hb,hu, h2,Ad,Af,Ae,Ac,Ai,Aa]))
theorem V7 (x:Fm) (hn:x.atom.nodes≤1099511627776) (hl0:x.parts.length≤1099511627776) (ho:x.op=4) (h2:E 56 [.arr (x.parts.map Fm.d),.fn 87 []] []=some (.bool (x.parts.any fun y=>!y.forms),[])):E 52 [x.sv] []=some (.bool x.forms,[]):=by
 have hf:x.form=(x.parts.length == 1&&x.atom.isZ&&dec (x.var=⟨#[]⟩)):=by unfold Fm.form; rcases ho with ho <;> simp [ho]
 rcases ho with ho
 all_goals
  have o1:dec (x.op=1)=false:=Aj (by omega)
  have o2:dec (x.op=2)=false:=Aj (by omega)
  have o3:dec (x.op=3)=false:=Aj (by omega)
  have o4:dec (x.op=4)=true:=Aw ho
  have o5:dec (x.op=5)=false:=Aj (by omega)
  have o6:dec (x.op=6)=false:=Aj (by omega)
  have o7:dec (x.op=7)=false:=Aj (by omega)
  have o8:dec (x.op=8)=false:=Aj (by omega)
  have o9:dec (x.op=9)=false:=Aj (by omega)
  have ha:=Gu x.atom
  have hv:=Dg x.var
  have hb:=FB x.op
  have hu:=CD x.op
  rw [o5,o6,o7] at hb
  rw [o8,o9] at hu
  rw [Fm.E8,hf,← Fm.any_not]
  by_cases hl:x.parts.length=1
  ·have hl2:dec ((x.parts.length:Int)=1)=true:=Aw (by omega)
   rw [hl,beq_self_eq_true,zD]
   cases hw:dec (x.var=⟨#[]⟩) with
   | false =>
    try rw [hw] at hv
    rw [zK,zA]
    refine Al AH A9 (of_decide_eq_true rfl) ?_
    simp (disch:=omega) only [AE,go_sem,o1,o2,o3,o4,o5,o6,o7,o8,o9,hl2,ha,hv,hb,hu,hw,h2,Ad,Af,Ae,Ac,Ai,Aa]
    repeat ((first | (refine At ?_ ?_; (focus (simp (disch:=omega) only [go_sem,o1,o2,o3,o4,o5,o6,o7,o8,o9,hl2,ha,hv,hb,hu,hw,h2,Ad,Af,Ae,Ac,Ai,Aa]; done))) | (refine Au ?_ ?_; (focus (simp (disch:=omega) only [go_sem,o1,o2,o3,o4,o5,o6,o7,o8,o9,hl2,ha,hv,hb,hu,hw,h2,Ad,Af,Ae,Ac,Ai,Aa]; done)))); (try simp (disch:=omega) only [go_sem,o1,o2,o3,o4,o5,o6,o7,o8,o9,hl2,ha,hv,hb,hu,hw,h2,Ad,Af,Ae,Ac,Ai,Aa]))
   | true =>
    try rw [hw] at hv
    rw [yV]
    cases hq:x.atom.isZ with
    | true =>
     rw [hq] at ha
     rw [zD]
     refine Al AH A9 (of_decide_eq_true rfl) ?_
     simp (disch:=omega) only [AE,go_sem,o1,o2,o3,o4,o5,o6,o7,o8,o9,hl2,ha,hv,hb,hu,hw,h2,Ad,Af,Ae,Ac,Ai,Aa]
     repeat ((first | (refine At ?_ ?_; (focus (simp (disch:=omega) only [go_sem,o1,o2,o3,o4,o5,o6,o7,o8,o9,hl2,ha,hv,hb,hu,hw,h2,Ad,Af,Ae,Ac,Ai,Aa]; done))) | (refine Au ?_ ?_; (focus (simp (disch:=omega) only [go_sem,o1,o2,o3,o4,o5,o6,o7,o8,o9,hl2,ha,hv,hb,hu,hw,h2,Ad,Af,Ae,Ac,Ai,Aa]; done)))); (try simp (disch:=omega) only [go_sem,o1,o2,o3,o4,o5,o6,o7,o8,o9,hl2,ha,hv,hb,hu,hw,h2,Ad,Af,Ae,Ac,Ai,Aa]))
    | false =>
     rw [hq] at ha
     rw [zA]
     refine Al AH A9 (of_decide_eq_true rfl) ?_
     simp (disch:=omega) only [AE,go_sem,o1,o2,o3,o4,o5,o6,o7,o8,o9,hl2,ha,hv,hb,hu,hw,h2,Ad,Af,Ae,Ac,Ai,Aa]
     repeat ((first | (refine At ?_ ?_; (focus (simp (disch:=omega) only [go_sem,o1,o2,o3,o4,o5,o6,o7,o8,o9,hl2,ha,hv,hb,hu,hw,h2,Ad,Af,Ae,Ac,Ai,Aa]; done))) | (refine Au ?_ ?_; (focus (simp (disch:=omega) only [go_sem,o1,o2,o3,o4,o5,o6,o7,o8,o9,hl2,ha,hv,hb,hu,hw,h2,Ad,Af,Ae,Ac,Ai,Aa]; done)))); (try simp (disch:=omega) only [go_sem,o1,o2,o3,o4,o5,o6,o7,o8,o9,hl2,ha,hv,hb,hu,hw,h2,Ad,Af,Ae,Ac,Ai,Aa]))
  ·have hl2:dec ((x.parts.length:Int)=1)=false:=Aj (by omega)
   have hl3:(x.parts.length == 1)=false:=by simpa using hl
   rw [hl3,zA,zA,zA]
   refine Al AH A9 (of_decide_eq_true rfl) ?_
   simp (disch:=omega) only [AE,go_sem,o1,o2,o3,o4,o5,o6,o7,o8,o9,hl2,ha,hv,hb,hu, h2,Ad,Af,Ae,Ac,Ai,Aa]
   repeat ((first | (refine At ?_ ?_; (focus (simp (disch:=omega) only [go_sem,o1,o2,o3,o4,o5,o6,o7,o8,o9,hl2,ha,hv,hb,hu, h2,Ad,Af,Ae,Ac,Ai,Aa]; done))) | (refine Au ?_ ?_; (focus (simp (disch:=omega) only [go_sem,o1,o2,o3,o4,o5,o6,o7,o8,o9,hl2,ha,hv,hb,hu, h2,Ad,Af,Ae,Ac,Ai,Aa]; done)))); (try simp (disch:=omega) only [go_sem,o1,o2,o3,o4,o5,o6,o7,o8,o9,hl2,ha,hv,hb,hu, h2,Ad,Af,Ae,Ac,Ai,Aa]))
theorem Mf (x:Fm) (hn:x.atom.nodes≤1099511627776) (hl0:x.parts.length≤1099511627776) (ho:x.op=5∨x.op=6∨x.op=7) (h2:E 56 [.arr (x.parts.map Fm.d),.fn 87 []] []=some (.bool (x.parts.any fun y=>!y.forms),[])):E 52 [x.sv] []=some (.bool x.forms,[]):=by
 have hf:x.form=(x.parts.length == 2&&x.atom.isZ&&dec (x.var=⟨#[]⟩)):=by unfold Fm.form; rcases ho with ho | ho | ho <;> simp [ho]
 rcases ho with ho | ho | ho
 all_goals
  have o1:dec (x.op=1)=false:=Aj (by omega)
  have o2:dec (x.op=2)=false:=Aj (by omega)
  have o3:dec (x.op=3)=false:=Aj (by omega)
  have o4:dec (x.op=4)=false:=Aj (by omega)
  first
   |(have o5:dec (x.op=5)=true:=Aw ho)
   |(have o5:dec (x.op=5)=false:=Aj (by omega))
  first
   |(have o6:dec (x.op=6)=true:=Aw ho)
   |(have o6:dec (x.op=6)=false:=Aj (by omega))
  first
   |(have o7:dec (x.op=7)=true:=Aw ho)
   |(have o7:dec (x.op=7)=false:=Aj (by omega))
  have o8:dec (x.op=8)=false:=Aj (by omega)
  have o9:dec (x.op=9)=false:=Aj (by omega)
  have ha:=Gu x.atom
  have hv:=Dg x.var
  have hb:=FB x.op
  have hu:=CD x.op
  rw [o5,o6,o7] at hb
  rw [o8,o9] at hu
  rw [Fm.E8,hf,← Fm.any_not]
  by_cases hl:x.parts.length=2
  ·have hl2:dec ((x.parts.length:Int)=2)=true:=Aw (by omega)
   rw [hl,beq_self_eq_true,zD]
   cases hw:dec (x.var=⟨#[]⟩) with
   | false =>
    try rw [hw] at hv
    rw [zK,zA]
    refine Al AH A9 (of_decide_eq_true rfl) ?_
    simp (disch:=omega) only [AE,go_sem,o1,o2,o3,o4,o5,o6,o7,o8,o9,hl2,ha,hv,hb,hu,hw,h2,Ad,Af,Ae,Ac,Ai,Aa]
    repeat ((first | (refine At ?_ ?_; (focus (simp (disch:=omega) only [go_sem,o1,o2,o3,o4,o5,o6,o7,o8,o9,hl2,ha,hv,hb,hu,hw,h2,Ad,Af,Ae,Ac,Ai,Aa]; done))) | (refine Au ?_ ?_; (focus (simp (disch:=omega) only [go_sem,o1,o2,o3,o4,o5,o6,o7,o8,o9,hl2,ha,hv,hb,hu,hw,h2,Ad,Af,Ae,Ac,Ai,Aa]; done)))); (try simp (disch:=omega) only [go_sem,o1,o2,o3,o4,o5,o6,o7,o8,o9,hl2,ha,hv,hb,hu,hw,h2,Ad,Af,Ae,Ac,Ai,Aa]))
   | true =>
    try rw [hw] at hv
    rw [yV]
    cases hq:x.atom.isZ with
    | true =>
     rw [hq] at ha
     rw [zD]
     refine Al AH A9 (of_decide_eq_true rfl) ?_
     simp (disch:=omega) only [AE,go_sem,o1,o2,o3,o4,o5,o6,o7,o8,o9,hl2,ha,hv,hb,hu,hw,h2,Ad,Af,Ae,Ac,Ai,Aa]
     repeat ((first | (refine At ?_ ?_; (focus (simp (disch:=omega) only [go_sem,o1,o2,o3,o4,o5,o6,o7,o8,o9,hl2,ha,hv,hb,hu,hw,h2,Ad,Af,Ae,Ac,Ai,Aa]; done))) | (refine Au ?_ ?_; (focus (simp (disch:=omega) only [go_sem,o1,o2,o3,o4,o5,o6,o7,o8,o9,hl2,ha,hv,hb,hu,hw,h2,Ad,Af,Ae,Ac,Ai,Aa]; done)))); (try simp (disch:=omega) only [go_sem,o1,o2,o3,o4,o5,o6,o7,o8,o9,hl2,ha,hv,hb,hu,hw,h2,Ad,Af,Ae,Ac,Ai,Aa]))
    | false =>
     rw [hq] at ha
     rw [zA]
     refine Al AH A9 (of_decide_eq_true rfl) ?_
     simp (disch:=omega) only [AE,go_sem,o1,o2,o3,o4,o5,o6,o7,o8,o9,hl2,ha,hv,hb,hu,hw,h2,Ad,Af,Ae,Ac,Ai,Aa]
     repeat ((first | (refine At ?_ ?_; (focus (simp (disch:=omega) only [go_sem,o1,o2,o3,o4,o5,o6,o7,o8,o9,hl2,ha,hv,hb,hu,hw,h2,Ad,Af,Ae,Ac,Ai,Aa]; done))) | (refine Au ?_ ?_; (focus (simp (disch:=omega) only [go_sem,o1,o2,o3,o4,o5,o6,o7,o8,o9,hl2,ha,hv,hb,hu,hw,h2,Ad,Af,Ae,Ac,Ai,Aa]; done)))); (try simp (disch:=omega) only [go_sem,o1,o2,o3,o4,o5,o6,o7,o8,o9,hl2,ha,hv,hb,hu,hw,h2,Ad,Af,Ae,Ac,Ai,Aa]))
  ·have hl2:dec ((x.parts.length:Int)=2)=false:=Aj (by omega)
   have hl3:(x.parts.length == 2)=false:=by simpa using hl
   rw [hl3,zA,zA,zA]
   refine Al AH A9 (of_decide_eq_true rfl) ?_
   simp (disch:=omega) only [AE,go_sem,o1,o2,o3,o4,o5,o6,o7,o8,o9,hl2,ha,hv,hb,hu, h2,Ad,Af,Ae,Ac,Ai,Aa]
   repeat ((first | (refine At ?_ ?_; (focus (simp (disch:=omega) only [go_sem,o1,o2,o3,o4,o5,o6,o7,o8,o9,hl2,ha,hv,hb,hu, h2,Ad,Af,Ae,Ac,Ai,Aa]; done))) | (refine Au ?_ ?_; (focus (simp (disch:=omega) only [go_sem,o1,o2,o3,o4,o5,o6,o7,o8,o9,hl2,ha,hv,hb,hu, h2,Ad,Af,Ae,Ac,Ai,Aa]; done)))); (try simp (disch:=omega) only [go_sem,o1,o2,o3,o4,o5,o6,o7,o8,o9,hl2,ha,hv,hb,hu, h2,Ad,Af,Ae,Ac,Ai,Aa]))
theorem PR (x:Fm) (hn:x.atom.nodes≤1099511627776) (hl0:x.parts.length≤1099511627776) (ho:x.op=8∨x.op=9) (h2:E 56 [.arr (x.parts.map Fm.d),.fn 87 []] []=some (.bool (x.parts.any fun y=>!y.forms),[])):E 52 [x.sv] []=some (.bool x.forms,[]):=by
 have hf:x.form=(x.parts.length == 1&&x.atom.isZ&&Cc x.var):=by unfold Fm.form; rcases ho with ho | ho <;> simp [ho]
 rcases ho with ho | ho
 all_goals
  have o1:dec (x.op=1)=false:=Aj (by omega)
  have o2:dec (x.op=2)=false:=Aj (by omega)
  have o3:dec (x.op=3)=false:=Aj (by omega)
  have o4:dec (x.op=4)=false:=Aj (by omega)
  have o5:dec (x.op=5)=false:=Aj (by omega)
  have o6:dec (x.op=6)=false:=Aj (by omega)
  have o7:dec (x.op=7)=false:=Aj (by omega)
  first
   |(have o8:dec (x.op=8)=true:=Aw ho)
   |(have o8:dec (x.op=8)=false:=Aj (by omega))
  first
   |(have o9:dec (x.op=9)=true:=Aw ho)
   |(have o9:dec (x.op=9)=false:=Aj (by omega))
  have ha:=Gu x.atom
  have hv:=Dg x.var
  have hb:=FB x.op
  have hu:=CD x.op
  rw [o5,o6,o7] at hb
  rw [o8,o9] at hu
  rw [Fm.E8,hf,← Fm.any_not]
  by_cases hl:x.parts.length=1
  ·have hl2:dec ((x.parts.length:Int)=1)=true:=Aw (by omega)
   rw [hl,beq_self_eq_true,zD]
   cases hw:Cc x.var with
   | false =>
    try rw [hw] at hv
    rw [zK,zA]
    refine Al AH A9 (of_decide_eq_true rfl) ?_
    simp (disch:=omega) only [AE,go_sem,o1,o2,o3,o4,o5,o6,o7,o8,o9,hl2,ha,hv,hb,hu, h2,Ad,Af,Ae,Ac,Ai,Aa]
    repeat ((first | (refine At ?_ ?_; (focus (simp (disch:=omega) only [go_sem,o1,o2,o3,o4,o5,o6,o7,o8,o9,hl2,ha,hv,hb,hu, h2,Ad,Af,Ae,Ac,Ai,Aa]; done))) | (refine Au ?_ ?_; (focus (simp (disch:=omega) only [go_sem,o1,o2,o3,o4,o5,o6,o7,o8,o9,hl2,ha,hv,hb,hu, h2,Ad,Af,Ae,Ac,Ai,Aa]; done)))); (try simp (disch:=omega) only [go_sem,o1,o2,o3,o4,o5,o6,o7,o8,o9,hl2,ha,hv,hb,hu, h2,Ad,Af,Ae,Ac,Ai,Aa]))
   | true =>
    try rw [hw] at hv
    rw [yV]
    cases hq:x.atom.isZ with
    | true =>
     rw [hq] at ha
     rw [zD]
     refine Al AH A9 (of_decide_eq_true rfl) ?_
     simp (disch:=omega) only [AE,go_sem,o1,o2,o3,o4,o5,o6,o7,o8,o9,hl2,ha,hv,hb,hu, h2,Ad,Af,Ae,Ac,Ai,Aa]
     repeat ((first | (refine At ?_ ?_; (focus (simp (disch:=omega) only [go_sem,o1,o2,o3,o4,o5,o6,o7,o8,o9,hl2,ha,hv,hb,hu, h2,Ad,Af,Ae,Ac,Ai,Aa]; done))) | (refine Au ?_ ?_; (focus (simp (disch:=omega) only [go_sem,o1,o2,o3,o4,o5,o6,o7,o8,o9,hl2,ha,hv,hb,hu, h2,Ad,Af,Ae,Ac,Ai,Aa]; done)))); (try simp (disch:=omega) only [go_sem,o1,o2,o3,o4,o5,o6,o7,o8,o9,hl2,ha,hv,hb,hu, h2,Ad,Af,Ae,Ac,Ai,Aa]))
    | false =>
     rw [hq] at ha
     rw [zA]
     refine Al AH A9 (of_decide_eq_true rfl) ?_
     simp (disch:=omega) only [AE,go_sem,o1,o2,o3,o4,o5,o6,o7,o8,o9,hl2,ha,hv,hb,hu, h2,Ad,Af,Ae,Ac,Ai,Aa]
     repeat ((first | (refine At ?_ ?_; (focus (simp (disch:=omega) only [go_sem,o1,o2,o3,o4,o5,o6,o7,o8,o9,hl2,ha,hv,hb,hu, h2,Ad,Af,Ae,Ac,Ai,Aa]; done))) | (refine Au ?_ ?_; (focus (simp (disch:=omega) only [go_sem,o1,o2,o3,o4,o5,o6,o7,o8,o9,hl2,ha,hv,hb,hu, h2,Ad,Af,Ae,Ac,Ai,Aa]; done)))); (try simp (disch:=omega) only [go_sem,o1,o2,o3,o4,o5,o6,o7,o8,o9,hl2,ha,hv,hb,hu, h2,Ad,Af,Ae,Ac,Ai,Aa]))
  ·have hl2:dec ((x.parts.length:Int)=1)=false:=Aj (by omega)
   have hl3:(x.parts.length == 1)=false:=by simpa using hl
   rw [hl3,zA,zA,zA]
   refine Al AH A9 (of_decide_eq_true rfl) ?_
   simp (disch:=omega) only [AE,go_sem,o1,o2,o3,o4,o5,o6,o7,o8,o9,hl2,ha,hv,hb,hu, h2,Ad,Af,Ae,Ac,Ai,Aa]
   repeat ((first | (refine At ?_ ?_; (focus (simp (disch:=omega) only [go_sem,o1,o2,o3,o4,o5,o6,o7,o8,o9,hl2,ha,hv,hb,hu, h2,Ad,Af,Ae,Ac,Ai,Aa]; done))) | (refine Au ?_ ?_; (focus (simp (disch:=omega) only [go_sem,o1,o2,o3,o4,o5,o6,o7,o8,o9,hl2,ha,hv,hb,hu, h2,Ad,Af,Ae,Ac,Ai,Aa]; done)))); (try simp (disch:=omega) only [go_sem,o1,o2,o3,o4,o5,o6,o7,o8,o9,hl2,ha,hv,hb,hu, h2,Ad,Af,Ae,Ac,Ai,Aa]))
theorem T2 (x:Fm) (ht:x.tame) (hn:x.nodes≤1099511627776) (ih:∀ y∈x.parts,E 52 [y.sv] []=some (.bool y.forms,[])):E 52 [x.sv] []=some (.bool x.forms,[]):=by
 have hl:=Fm.length_le x.parts
 have hx:=Fm.nodes_eq x
 have ha:=Fm.Lv ht
 have h1:∀ y∈x.parts,E 87 [y.sv] []=some (.bool (!y.forms),[]):=fun y hy=>by
  have h:=ih y hy
  refine Al Md Ib (of_decide_eq_true rfl) ?_
  simp (disch:=omega) only [Ia,go_sem,Ab,h,A9]
 have h2:=KI 87 (fun y=>!y.forms) x.parts (by omega) Me (by rw [Ib]) h1
 rcases Oe x.op with h | h | h | h | h | h | h | h | h | h
 ·exact PQ x ha (by omega) (.inl h) h2
 ·exact PQ x ha (by omega) (.inr h) h2
 ·exact V6 x ha (by omega) h h2
 ·exact V7 x ha (by omega) h h2
 ·exact Mf x ha (by omega) (.inl h) h2
 ·exact Mf x ha (by omega) (.inr (.inl h)) h2
 ·exact Mf x ha (by omega) (.inr (.inr h)) h2
 ·exact PR x ha (by omega) (.inl h) h2
 ·exact PR x ha (by omega) (.inr h) h2
 ·obtain ⟨k1,k2,k3,k4,k5,k6,k7,k8,k9⟩:=h
  have hf:x.form=false:=by unfold Fm.form; simp [k1,k2,k3,k4,k5,k6,k7,k8,k9]
  have o1:=Aj k1
  have o2:=Aj k2
  have o3:=Aj k3
  have o4:=Aj k4
  have o5:=Aj k5
  have o6:=Aj k6
  have o7:=Aj k7
  have o8:=Aj k8
  have o9:=Aj k9
  have hb:=FB x.op
  have hu:=CD x.op
  rw [o5,o6,o7] at hb
  rw [o8,o9] at hu
  rw [Fm.E8,hf,zA]
  refine Al AH A9 (of_decide_eq_true rfl) ?_
  simp (disch:=omega) only [AE,go_sem,o1,o2,o3,o4,o5,o6,o7,o8,o9,hb,hu,Ac,Ai]
  repeat ((first | (refine At ?_ ?_; (focus (simp (disch:=omega) only [go_sem,o1,o2,o3,o4,o5,o6,o7,o8,o9,hb,hu,Ac,Ai]; done))) | (refine Au ?_ ?_; (focus (simp (disch:=omega) only [go_sem,o1,o2,o3,o4,o5,o6,o7,o8,o9,hb,hu,Ac,Ai]; done)))); (try simp (disch:=omega) only [go_sem,o1,o2,o3,o4,o5,o6,o7,o8,o9,hb,hu,Ac,Ai]))
theorem PS (x:Fm) (ht:x.tame) (hn:x.nodes≤1099511627776):E 52 [x.sv] []=some (.bool x.forms,[]) :=
 T2 x ht hn fun y hy=>PS y (Fm.Ma ht hy) (by have:=Fm.nodes_mem hy; have:=Fm.nodes_eq x; omega)
termination_by SizeOf.sizeOf x
decreasing_by exact Fm.lt_of_mem hy
theorem Mg (x:Fm) (ht:x.tame) (hn:x.nodes≤1099511627776):E 21 [x.sv] []=some (.bool x.valid,[]):=by
 have h1:=Uu x hn
 have h2:=PS x ht hn
 have h3:=Fm.cap_spec x
 unfold Fm.valid
 rcases zC 40 x.nodes with h5 | h5
 ·rw [decide_eq_false (by omega),zA]
  have d:dec (x.cap≤40)=false:=Aj (by omega)
  refine Al Fu BG (of_decide_eq_true rfl) ?_
  simp (disch:=omega) only [DV,go_sem,Ab,h1,h2,d,EA,A9]
 ·rw [decide_eq_true h5,zD]
  have d:dec (x.cap≤40)=true:=Aw (by omega)
  refine Al Fu BG (of_decide_eq_true rfl) ?_
  simp (disch:=omega) only [DV,go_sem,Ab,h1,h2,d,EA,A9]
theorem Oz (x:Fm) (ht:x.tame) (hn:x.nodes≤1099511627776):E 26 [x.sv] []=some (.bool x.valid,[]):=by
 have h1:=Uv x 40 (by omega) (by omega) hn
 have h2:=PP x ht hn
 have h3:=Fm.many_spec x 40
 unfold Fm.valid
 rcases zC 40 x.nodes with h5 | h5
 ·rw [decide_eq_false (by omega),zA]
  have d:dec ((x.many 40)≤40)=false:=Aj (by omega)
  refine Al Kh C5 (of_decide_eq_true rfl) ?_
  simp (disch:=omega) only [H6,go_sem,Ab,h1,h2,d,EB,D2]
 ·rw [decide_eq_true h5,zD]
  have d:dec ((x.many 40)≤40)=true:=Aw (by omega)
  refine Al Kh C5 (of_decide_eq_true rfl) ?_
  simp (disch:=omega) only [H6,go_sem,Ab,h1,h2,d,EB,D2]
theorem X6 (xs:List ByteArray) (h:xs.length≤1048576):E 114 [.arr (xs.map fun s=>[D.str s])] []=some (.ref 0,[.row 9 1 (xs.map fun s=>[OT.str s])]):=by
 rw [Qt (g:=LQ) (by unfold modes; rfl)]
 unfold LQ
 simp only
 rw [Aw ⟨fun e he=>by obtain ⟨s,_,rfl⟩:=yI.1 he; exact ⟨s,rfl⟩,by simpa using h⟩,cond_true,y7]
 rfl
theorem Gh:modes 114=⟨[],.asis,some LQ,false⟩:=by unfold modes; rfl
theorem QC {x:Fm} (h:x.form=true) (ho:x.op=3):E 113 [x.atom.sv] []=some (.ref 0,[.row 9 1 ((DF [] x.atom.vs).map fun s=>[OT.str s])]):=by
 have ha:=(Fm.F8 h ho).2.1
 have hn:=Tm.Iu ha
 have h1:=Q6 x.atom (Ts x.atom ha) (by omega)
 have e:x.atom.vars=DF [] x.atom.vs:=PH _
 rw [e] at h1
 exact h1
theorem Se (b acc:List ByteArray) (n:ByteArray) (ns:List ByteArray):CR acc ((n :: ns).filter fun m=>!dec (m∈b))=CR (bif dec (n∈b) then acc else Iv acc n) (ns.filter fun m=>!dec (m∈b)):=by
 rw [List.filter_cons]
 cases dec (n∈b) with
 | true=>rfl
 | false=>rfl
def FH:SC:=(.seq (.reg [⟨some 4,none,.boxv 33 5 (.t 1)⟩,⟨some 6,none,.mv (.c .nil)⟩]) (.seq (.seq (.reg [⟨some 11,none,.faddr 0 (.t 4)⟩,⟨some 12,none,.load false 1 (.t 11)⟩,⟨some 13,none,.bin .eql false (.t 12) (.c (.int .i64 3))⟩]) (.cond (.t 13) (.seq (.seq (.reg [⟨some 14,none,.faddr 1 (.t 4)⟩,⟨some 15,none,.load true 2 (.t 14)⟩,⟨some 16,none,.call 113 [(.t 15)]⟩,⟨some 17,none,.len false (.t 16)⟩,⟨some 18,none,.mv (.c (.int .i64 0))⟩]) (.block 0 (.loop [1,0,1,0,0,0,0,0,0,0,0,0,0,0,0,0,1,1,1,0,0,0,0,0,0,0,0,0,0,0,0,0,0,0,0,0,0,0,0,0,0,0,0,0,0,0,0,0,0,0,0,0,0,0,0,0,0,0,0,0] (.seq (.reg [⟨some 19,none,.bin .lss false (.t 18) (.t 17)⟩]) (.seq (.cond (.t 19) .skip (.exit 0)) (.seq (.block 1 (.seq (.reg [⟨some 20,none,.iaddr 1 (.t 16) (.t 18)⟩,⟨some 21,none,.load false 1 (.t 20)⟩,⟨some 8,none,.mv (.t 21)⟩]) (.seq (.reg [⟨some 22,none,.mv (.t 2)⟩,⟨some 23,none,.mv (.t 8)⟩,⟨some 24,none,.call 58 [(.t 22),(.t 23)]⟩,⟨some 25,none,.un .not (.t 24)⟩,⟨some 26,none,.mv (.t 25)⟩,⟨(some 27),(some (26,true)),(.mv (.t 0))⟩,⟨(some 28),(some (26,true)),(.mv (.t 8))⟩,⟨(some 29),(some (26,true)),(.call 58 [(.t 27),(.t 28)])⟩,⟨(some 30),(some (26,true)),(.un .not (.t 29))⟩,⟨some 31,none,.pick (.t 26) (.t 30) (.c (.bool false))⟩]) (.cond (.t 31) (.reg [⟨some 32,none,.mv (.t 0)⟩,⟨some 33,none,.mv (.t 8)⟩,⟨(some 34),none,(.mkrow 9 1 [(.str ⟨#[]⟩)] 1 [(0,(.t 33))])⟩,⟨(some 35),none,(.append 9 1 16 [(.str ⟨#[]⟩)] (.t 32) (.t 34))⟩,⟨some 0,none,.mv (.t 35)⟩]) .skip)))) (.reg [⟨some 36,none,.bin .add false (.t 18) (.c (.int .i64 1))⟩,⟨some 18,none,.mv (.t 36)⟩]))))))) (.seq (.reg [⟨some 37,none,.mv (.t 0)⟩,⟨some 6,none,.mv (.t 37)⟩]) .ret)) .skip)) (.seq (.seq (.reg [⟨some 38,none,.faddr 0 (.t 4)⟩,⟨some 39,none,.load false 1 (.t 38)⟩,⟨some 40,none,.call 54 [(.t 39)]⟩]) (.cond (.t 40) (.dreg [[],[0],[],[2],[3,2],[1,0,4,3,2],[5,1,0,4,3,2]] [⟨some 41,none,.mv (.t 2)⟩,⟨some 42,none,.call 114 [(.t 41)]⟩,⟨some 43,none,.faddr 3 (.t 4)⟩,⟨some 44,none,.load false 1 (.t 43)⟩,⟨(some 45),none,(.mkrow 9 1 [(.str ⟨#[]⟩)] 1 [(0,(.t 44))])⟩,⟨(some 46),none,(.append 9 1 16 [(.str ⟨#[]⟩)] (.t 42) (.t 45))⟩,⟨some 2,none,.mv (.t 46)⟩]) .skip)) (.seq (.seq (.reg [⟨some 47,none,.faddr 4 (.t 4)⟩,⟨some 48,none,.load false 1 (.t 47)⟩,⟨some 49,none,.len false (.t 48)⟩,⟨some 50,none,.mv (.c (.int .i64 0))⟩]) (.block 2 (.loop [1,0,1,0,0,0,0,0,0,0,0,0,0,0,0,0,0,0,0,0,0,0,0,0,0,0,0,0,0,0,0,0,0,0,0,0,0,0,0,0,0,0,0,0,0,0,0,0,1,1,1,0,0,0,0,0,0,0,0,0] (.seq (.reg [⟨some 51,none,.bin .lss false (.t 50) (.t 49)⟩]) (.seq (.cond (.t 51) .skip (.exit 2)) (.seq (.block 3 (.seq (.reg [⟨some 52,none,.iaddr 5 (.t 48) (.t 50)⟩,⟨some 53,none,.load true 5 (.t 52)⟩,⟨(some 10),none,(.alloc 33 [(.int .i64 0),(.str ⟨#[]⟩),.nil,(.str ⟨#[]⟩),.nil])⟩,⟨none,none,(.store 5 (.t 10) (.t 53))⟩]) (.reg [⟨some 54,none,.mv (.t 0)⟩,⟨some 55,none,.load true 5 (.t 10)⟩,⟨some 56,none,.mv (.t 2)⟩,⟨some 57,none,.call 93 [(.t 54),(.t 55),(.t 56)]⟩,⟨some 0,none,.mv (.t 57)⟩]))) (.reg [⟨some 58,none,.bin .add false (.t 50) (.c (.int .i64 1))⟩,⟨some 50,none,.mv (.t 58)⟩]))))))) (.seq (.reg [⟨some 59,none,.mv (.t 0)⟩,⟨some 6,none,.mv (.t 59)⟩]) .ret)))))
theorem H7:Aq Tryz.prog 93=some ⟨60,FH,[(.tmp 6)]⟩:=by kernel_rfl
theorem Dr:modes 93=⟨[true],.asis,none,false⟩:=by unfold modes; rfl
def Jt:SC:=(.seq (.reg [⟨some 1,none,.boxv 33 5 (.t 0)⟩,⟨some 2,none,.mv (.c .nil)⟩]) (.seq (.reg [⟨(some 4),none,(.mkrow 9 1 [(.str ⟨#[]⟩)] 0 [])⟩,⟨some 5,none,.load true 5 (.t 1)⟩,⟨some 6,none,.call 93 [(.t 4),(.t 5),(.c .nil)]⟩,⟨some 3,none,.mv (.t 6)⟩]) (.seq (.reg [⟨some 7,none,.mv (.t 3)⟩,⟨some 8,none,.call 94 [(.t 7)]⟩]) (.seq (.reg [⟨some 9,none,.mv (.t 3)⟩,⟨some 2,none,.mv (.t 9)⟩]) .ret))))
theorem MB:Aq Tryz.prog 59=some ⟨10,Jt,[(.tmp 2)]⟩:=by kernel_rfl
theorem DB:modes 59=⟨[],.asis,none,false⟩:=by unfold modes; rfl
abbrev Qay (x:Fm):Prop:=∀ l b:List ByteArray,l.length+x.vn≤1048576→b.length+x.nodes≤1048576→E 93 [.ref 0,x.sv,.arr (b.map fun s=>[D.str s])] [.row 9 1 (l.map fun s=>[OT.str s])]=some ((bif dec (l.length<(CR l (x.fv b)).length) then .ref 1 else .ref 0),(bif dec (l.length<(CR l (x.fv b)).length) then [.gone,.row 9 1 ((CR l (x.fv b)).map fun s=>[OT.str s])] else [.row 9 1 ((CR l (x.fv b)).map fun s=>[OT.str s])]))
theorem V8 (x:Fm) (hx:x.forms=true) (ih:∀ y∈x.parts,Qay y):Qay x:=by
 intro l b hn hb
 have hfo:=Fm.Dq hx
 have hvn:=Fm.M9 x
 have hnd:=Fm.nodes_eq x
 have hpl:=Fm.length_le x.parts
 have hfv:=Fm.PI x b
 have hat:=Fm.Nh hfo
 have hgl:dec (l.length<l.length)=false:=Aj (by omega)
 have hxs:x.sv=.agg [.int .i64 x.op,.str x.atom.name,.arr (x.atom.args.map Tm.d),.str x.var,.arr (x.parts.map Fm.d)]:=rfl
 have has:x.atom.sv=.agg [.str x.atom.name,.arr (x.atom.args.map Tm.d)]:=rfl
 cases ho:dec (x.op=3) with
 | true =>
  rw [ho] at hfv
  simp only [cond_true] at hfv
  have hv:=QC hfo (Ar.1 ho)
  have hil:=E9 x.atom.vs []
  have hvl:=Tm.KE x.atom
  simp only [yN] at hil
  obtain ⟨ns,hns⟩:∃ ns,ns=DF [] x.atom.vs:=⟨_,rfl⟩
  rw [←hns] at hv hfv hil
  rw [hfv]
  refine Al H7 Dr (of_decide_eq_true rfl) ?_
  simp (disch:=omega) only [FH,go_sem,Ab,ho,hv,FA]
  refine go_loop (α:=Int × (List ByteArray)) (fun a=>⟨slots 60 0 [(0,(bif dec (l.length<(a.2).length) then .ref 1 else .ref 0)),(2,.arr (b.map fun s=>[D.str s])),(16,(bif dec (l.length<(a.2).length) then .ref 2 else .ref 1)),(17,.int .i64 ns.length),(18,.int .i64 (a.1))],(bif dec (l.length<(a.2).length) then [.gone,.row 9 1 ((a.2).map fun s=>[OT.str s]),.row 9 1 (ns.map fun s=>[OT.str s])] else [.row 9 1 ((a.2).map fun s=>[OT.str s]),.row 9 1 (ns.map fun s=>[OT.str s])])⟩) (fun a=>∃ k:Nat,a.1=k∧k≤(ns).length∧CR (a.2) ((ns.drop k).filter fun m=>!dec (m∈b))=CR l (ns.filter fun m=>!dec (m∈b))∧(a.2).length+(ns.length-k)≤1048576∧l.length≤(a.2).length) (fun a=>(ns).length-(a.1).toNat) (0,l) ⟨0,rfl,zJ _,by rw [zI],by dsimp only; omega,xB _⟩ (by simp (disch:=omega) only [go_sem,Ab,hgl]) ?_
  rintro ⟨i,acc⟩ ⟨k,hi,hk,hR⟩
  dsimp only at hi hR
  have hni:i.toNat=k:=by omega
  have hni1:(i+1).toNat=k+1:=by omega
  rcases zC k (ns).length with hlt | hge
  ·have hg:(ns.map fun s=>[OT.str s])[k]?=some [OT.str ns[k]]:=by rw [zV,zY hlt]; rfl
   obtain ⟨hR1,hR2,hR3⟩:=hR
   rw [zB hlt,Se] at hR1
   have c1:=FX b ns[k] (by omega)
   have c2:=FX acc ns[k] (by omega)
   rcases zC l.length acc.length with q1 | q1
   all_goals
    cases hq:dec (ns[k]∈b) with
    | true =>
     rw [hq] at c1 hR1
     simp only [cond_true] at hR1
     simp (disch:=omega) only [go_sem,Ab,hni,hg,c1,c2,Ay]
     refine ⟨(i+1,acc),⟨k+1,by dsimp only; omega,hlt,hR1,by dsimp only; omega,by dsimp only; omega⟩,by dsimp only; omega,?_⟩
     first | done | simp (disch:=omega) only [go_sem,Ab]
    | false =>
     rw [hq] at c1 hR1
     simp only [cond_false] at hR1
     cases hm:dec (ns[k]∈acc) with
     | true =>
      have e2:Iv acc ns[k]=acc:=by unfold Iv; rw [hm]; rfl
      rw [hm] at c2
      rw [e2] at hR1
      simp (disch:=omega) only [go_sem,Ab,hni,hg,c1,c2,Ay]
      refine ⟨(i+1,acc),⟨k+1,by dsimp only; omega,hlt,hR1,by dsimp only; omega,by dsimp only; omega⟩,by dsimp only; omega,?_⟩
      first | done | simp (disch:=omega) only [go_sem,Ab]
     | false =>
      have e2:Iv acc ns[k]=acc++[ns[k]]:=by unfold Iv; rw [hm]; rfl
      have hl1:(acc.map fun s=>[OT.str s])++[[OT.str ns[k]]]=(acc++[ns[k]]).map fun s=>[OT.str s]:=by simp
      have q2:dec (l.length<(acc++[ns[k]]).length)=true:=Aw (by simp; omega)
      rw [hm] at c2
      rw [e2] at hR1
      simp (disch:=omega) only [go_sem,Ab,hni,hg,c1,c2,hl1,Ay]
      refine ⟨(i+1,acc++[ns[k]]),⟨k+1,by dsimp only; omega,hlt,hR1,by simp; omega,by simp; omega⟩,by dsimp only; omega,?_⟩
      first | done | simp (disch:=omega) only [go_sem,Ab,q2,hl1]
  ·rw [zG hge] at hR
   obtain ⟨hR1,hR2,hR3⟩:=hR
   have hR1:acc=_:=hR1
   rw [←hR1]
   rcases zC l.length acc.length with q1 | q1
   ·simp (disch:=omega) only [go_sem,Ab,hni]
   ·simp (disch:=omega) only [go_sem,Ab,hni]
 | false =>
  rw [ho] at hfv
  simp only [cond_false] at hfv
  have hu:=CD x.op
  cases hq:qB x.op with
  | false =>
   rw [hq] at hfv
   simp only [cond_false] at hfv
   rw [hfv]
   unfold qB at hq
   rw [hq] at hu
   obtain ⟨b',hb'⟩:∃ b',b'=b:=⟨_,rfl⟩
   have hbl:b'.length≤b.length+1:=by rw [hb']; omega
   rw [←hb']
   refine Al H7 Dr (of_decide_eq_true rfl) ?_
   simp (disch:=omega) only [FH,go_sem,Ab,ho,hu,Ac]
   refine go_loop (α:=Int × (List ByteArray)) (fun a=>⟨slots 60 0 [(0,(bif dec (l.length<(a.2).length) then .ref 1 else .ref 0)),(2,.arr (b'.map fun s=>[D.str s])),(48,.arr (x.parts.map Fm.d)),(49,.int .i64 x.parts.length),(50,.int .i64 (a.1))],(bif dec (l.length<(a.2).length) then [.gone,.row 9 1 ((a.2).map fun s=>[OT.str s])] else [.row 9 1 ((a.2).map fun s=>[OT.str s])])⟩) (fun a=>∃ k:Nat,a.1=k∧k≤(x.parts).length∧CR (a.2) (Fm.fvL (x.parts.drop k) b')=CR l (Fm.fvL x.parts b')∧(a.2).length+Fm.vnS (x.parts.drop k)≤1048576∧l.length≤(a.2).length) (fun a=>(x.parts).length-(a.1).toNat) (0,l) ⟨0,rfl,zJ _,by rw [zI],by rw [zI]; dsimp only; omega,xB _⟩ (by simp (disch:=omega) only [go_sem,Ab,hgl]) ?_
   rintro ⟨i,acc⟩ ⟨k,hi,hk,hR⟩
   dsimp only at hi hR
   have hni:i.toNat=k:=by omega
   have hni1:(i+1).toNat=k+1:=by omega
   rcases zC k (x.parts).length with hlt | hge
   ·have hg:=get_at Fm.d hlt
    rw [Fm.d_eq] at hg
    obtain ⟨hR1,hR2,hR3⟩:=hR
    rw [zB hlt,Fm.fvL,Oh] at hR1
    rw [zB hlt,Fm.vnS] at hR2
    have hnm:=Fm.nodes_le x.parts k hlt
    have hc:=ih x.parts[k] (zF hlt) acc b' (by omega) (by omega)
    have hlen:=HW (x.parts[k].fv b') acc
    have hgr:=JG (x.parts[k].fv b') acc
    have hvl:=Fm.Ix x.parts[k] b'
    obtain ⟨acc2,ha2⟩:∃ a,a=CR acc (x.parts[k].fv b'):=⟨_,rfl⟩
    rw [←ha2] at hc hlen hgr hR1
    rcases zC l.length acc.length with q1 | q1 <;> rcases zC acc.length acc2.length with q2 | q2
    all_goals
     first
      |rw [Aw q2] at hc
      |rw [Aj (Nat.not_lt.2 q2)] at hc
     simp only [cond_true,cond_false] at hc
     simp (disch:=omega) only [go_sem,Ab,hni,hg,hc,Dr]
     refine ⟨(i+1,acc2),⟨k+1,by dsimp only; omega,hlt,hR1,by dsimp only; omega,by dsimp only; omega⟩,by dsimp only; omega,?_⟩
     first | done | simp (disch:=omega) only [go_sem,Ab]
   ·rw [zG hge,Fm.fvL] at hR
    obtain ⟨hR1,hR2,hR3⟩:=hR
    have hR1:acc=_:=hR1
    rw [←hR1]
    rcases zC l.length acc.length with q1 | q1
    ·simp (disch:=omega) only [go_sem,Ab,hni]
    ·simp (disch:=omega) only [go_sem,Ab,hni]
  | true =>
   rw [hq] at hfv
   simp only [cond_true] at hfv
   rw [hfv]
   unfold qB at hq
   rw [hq] at hu
   have hcl:=X6 b (by omega)
   have hl1:(b.map fun s=>[OT.str s])++[[OT.str x.var]]=(b++[x.var]).map fun s=>[OT.str s]:=by simp
   obtain ⟨b',hb'⟩:∃ b',b'=b++[x.var]:=⟨_,rfl⟩
   have hbl:b'.length≤b.length+1:=by rw [hb']; simp
   rw [←hb'] at hl1
   rw [←hb']
   refine Al H7 Dr (of_decide_eq_true rfl) ?_
   simp (disch:=omega) only [FH,go_sem,Ab,ho,hu,hcl,hl1,Ac,Gh]
   refine go_loop (α:=Int × (List ByteArray)) (fun a=>⟨slots 60 0 [(0,(bif dec (l.length<(a.2).length) then .ref 1 else .ref 0)),(2,(bif dec (l.length<(a.2).length) then .ref 2 else .ref 1)),(48,.arr (x.parts.map Fm.d)),(49,.int .i64 x.parts.length),(50,.int .i64 (a.1))],(bif dec (l.length<(a.2).length) then [.gone,.row 9 1 ((a.2).map fun s=>[OT.str s]),.row 9 1 (b'.map fun s=>[OT.str s])] else [.row 9 1 ((a.2).map fun s=>[OT.str s]),.row 9 1 (b'.map fun s=>[OT.str s])])⟩) (fun a=>∃ k:Nat,a.1=k∧k≤(x.parts).length∧CR (a.2) (Fm.fvL (x.parts.drop k) b')=CR l (Fm.fvL x.parts b')∧(a.2).length+Fm.vnS (x.parts.drop k)≤1048576∧l.length≤(a.2).length) (fun a=>(x.parts).length-(a.1).toNat) (0,l) ⟨0,rfl,zJ _,by rw [zI],by rw [zI]; dsimp only; omega,xB _⟩ (by simp (disch:=omega) only [go_sem,Ab,hgl]) ?_
   rintro ⟨i,acc⟩ ⟨k,hi,hk,hR⟩
   dsimp only at hi hR
   have hni:i.toNat=k:=by omega
   have hni1:(i+1).toNat=k+1:=by omega
   rcases zC k (x.parts).length with hlt | hge
   ·have hg:=get_at Fm.d hlt
    rw [Fm.d_eq] at hg
    obtain ⟨hR1,hR2,hR3⟩:=hR
    rw [zB hlt,Fm.fvL,Oh] at hR1
    rw [zB hlt,Fm.vnS] at hR2
    have hnm:=Fm.nodes_le x.parts k hlt
    have hc:=ih x.parts[k] (zF hlt) acc b' (by omega) (by omega)
    have hlen:=HW (x.parts[k].fv b') acc
    have hgr:=JG (x.parts[k].fv b') acc
    have hvl:=Fm.Ix x.parts[k] b'
    obtain ⟨acc2,ha2⟩:∃ a,a=CR acc (x.parts[k].fv b'):=⟨_,rfl⟩
    rw [←ha2] at hc hlen hgr hR1
    rcases zC l.length acc.length with q1 | q1 <;> rcases zC acc.length acc2.length with q2 | q2
    all_goals
     first
      |rw [Aw q2] at hc
      |rw [Aj (Nat.not_lt.2 q2)] at hc
     simp only [cond_true,cond_false] at hc
     simp (disch:=omega) only [go_sem,Ab,hni,hg,hc,Dr]
     refine ⟨(i+1,acc2),⟨k+1,by dsimp only; omega,hlt,hR1,by dsimp only; omega,by dsimp only; omega⟩,by dsimp only; omega,?_⟩
     first | done | simp (disch:=omega) only [go_sem,Ab]
   ·rw [zG hge,Fm.fvL] at hR
    obtain ⟨hR1,hR2,hR3⟩:=hR
    have hR1:acc=_:=hR1
    rw [←hR1]
    rcases zC l.length acc.length with q1 | q1
    ·simp (disch:=omega) only [go_sem,Ab,hni]
    ·simp (disch:=omega) only [go_sem,Ab,hni]
theorem Sf (x:Fm) (hx:x.forms=true):Qay x :=
 V8 x hx fun y hy=>Sf y (Fm.C1 hx hy)
termination_by SizeOf.sizeOf x
decreasing_by exact Fm.lt_of_mem hy
theorem X7 (x:Fm) (hx:x.forms=true) (hv:x.vn≤1048576) (hn:x.nodes≤1048576):E 59 [x.sv] []=some (.ref 0,[.row 9 1 (x.free.map fun s=>[OT.str s])]):=by
 have h1:=Sf x hx [] [] (by simpa using hv) (by simpa using hn)
 have hl:=HW (x.fv []) []
 have hfl:=Fm.Ix x []
 rw [yN,Nat.zero_add] at hl
 have h2:=Uf (CR [] (x.fv [])) (by omega)
 rw [PH] at h2
 rw [zR,zR,yN] at h1
 unfold Fm.free
 have hxs:x.sv=.agg [.int .i64 x.op,.str x.atom.name,.arr (x.atom.args.map Tm.d),.str x.var,.arr (x.parts.map Fm.d)]:=rfl
 rcases zC 0 (CR [] (x.fv [])).length with q | q
 ·rw [Aw q] at h1
  simp only [cond_true] at h1
  refine Al MB DB (of_decide_eq_true rfl) ?_
  simp (disch:=omega) only [Jt,go_sem,Ab,h1,h2,Dr,BI]
 ·rw [Aj (by omega)] at h1
  simp only [cond_false] at h1
  refine Al MB DB (of_decide_eq_true rfl) ?_
  simp (disch:=omega) only [Jt,go_sem,Ab,h1,h2,Dr,BI]
end Go.Proofs.YtoglfpfdhojaaaaGreat
