/-
  Texts of this claim, one behind the other, each built on those ahead of it. No condition.
-/
import Derived.Test.YtjkcamgfimpggaaK23b
import Derived.Test.YtjkcamgfimpggaaK23c
import Derived.ProofKit
import Derived.Deep.Slices
import Derived.Deep.Fields
import Derived.ChangeSame
import Derived.OpenShut
import Derived.ShutString
import Derived.ChangeOld
set_option maxHeartbeats 16000000
open List renaming length_nil → zA, length_map → zB, map_cons → zC, map_nil → zD, map_append → zE, getElem_mem → zF, drop_eq_getElem_cons → zG, drop_eq_nil_of_le → zJ, eq_nil_or_concat → zL, all_cons → zM, getLast?_append → zO, all_nil → zP, drop_zero → zQ, reverse_append → zR, length_append → zS, getElem_of_mem → zV, all_eq_true → zW, mem_singleton → zX, getElem?_eq_getElem → zY, mem_cons_of_mem → z1, mem_map → z2, mem_cons → z6, pairwise_iff_getElem → z7, mem_append → z8, cons_append → yC, map_map → yD, take_of_length_le → yE, nodup_cons → yF, append_assoc → yG, nodup_nil → yH, length_drop → yI, mergeSort_perm → yJ, length_set → yK, pairwise_cons → yL, all_map → yM, getElem_map → yO, length_cons → yP, range → yQ, append_nil → yT, filterMap_cons → yU, mem_cons_self → yW, mem_filterMap → yX, getElem?_eq_some_iff → yY, getLast?_nil → yZ, length_filterMap_le → y2, getElem_inj → y3, length_take → y4, reverse_nil → y5
open Option.some renaming inj → zH, injEq → yN
open Bool renaming true_and → zI, and_eq_true → zK, false_and → zN, and_self → yA, and_false → yB, and_true → y7, false_or → y8
open Nat renaming lt_or_ge → zT, le_refl → zU, zero_le → zZ, zero_add → y6
open List.Pairwise renaming of_map → yR, nil → y9
open List.cons renaming injEq → yS
open Int renaming toNat_zero → yV
open List.Perm renaming eq_of_pairwise → y0
set_option maxRecDepth 100000
set_option linter.unusedSimpArgs false
set_option linter.unusedVariables false
set_option linter.unusedSectionVars false
namespace Go.Proofs.Ytjkcamgfimpggaa
open Go.RowKit
def Ch:SC:=(.seq (.reg [⟨some 2,none,.boxv 31 1 (.t 0)⟩,⟨some 3,none,.boxv 26 2 (.t 1)⟩,⟨(some 4),none,(.alloc 26 [(.str ⟨#[]⟩),.nil])⟩,⟨some 5,none,.mv (.c (.bool false))⟩]) (.seq (.reg [⟨some 7,none,.load true 1 (.t 2)⟩,⟨some 8,none,.load true 2 (.t 3)⟩,⟨some 9,none,.call 45 [(.t 7),(.t 8)]⟩,⟨(some 6),none,(.alloc 26 [(.str ⟨#[]⟩),.nil])⟩,⟨none,none,(.store 2 (.t 6) (.t 9))⟩]) (.seq (.seq (.reg [⟨some 10,none,.load true 2 (.t 6)⟩,⟨some 11,none,.call 46 [(.t 10)]⟩,⟨some 12,none,.un .not (.t 11)⟩]) (.cond (.t 12) (.seq (.reg [⟨(some 13),none,(.build [(.str ⟨#[]⟩),.nil] [])⟩,⟨none,none,(.store 2 (.t 4) (.t 13))⟩,⟨some 5,none,.mv (.c (.bool false))⟩]) .ret) .skip)) (.seq (.reg [⟨some 14,none,.load true 2 (.t 6)⟩,⟨none,none,(.store 2 (.t 4) (.t 14))⟩,⟨some 5,none,.mv (.c (.bool true))⟩]) .ret))))
theorem CQ:Ar Try.prog 26=some ⟨15,Ch,[(.cell 4 true 2),(.tmp 5)]⟩:=by kernel_rfl
theorem Ci:modes 26=⟨[],.own [none,some (26,2),none],none,false⟩:=by unfold modes; rfl
def BU:SC:=(.seq (.reg [⟨some 2,none,.boxv 31 1 (.t 0)⟩,⟨some 3,none,.boxv 26 2 (.t 1)⟩,⟨(some 4),none,(.alloc 26 [(.str ⟨#[]⟩),.nil])⟩,⟨some 5,none,.mv (.c (.bool false))⟩]) (.seq (.seq (.reg [⟨some 6,none,.load true 1 (.t 2)⟩,⟨some 7,none,.call 11 [(.t 6)]⟩,⟨some 8,none,.un .not (.t 7)⟩,⟨some 9,none,.mv (.t 8)⟩,⟨(some 10),(some (9,false)),(.load true 2 (.t 3))⟩,⟨(some 11),(some (9,false)),(.call 21 [(.t 10)])⟩,⟨(some 12),(some (9,false)),(.un .not (.t 11))⟩,⟨some 13,none,.pick (.t 9) (.c (.bool true)) (.t 12)⟩]) (.cond (.t 13) (.seq (.reg [⟨(some 14),none,(.build [(.str ⟨#[]⟩),.nil] [])⟩,⟨none,none,(.store 2 (.t 4) (.t 14))⟩,⟨some 5,none,.mv (.c (.bool false))⟩]) .ret) .skip)) (.seq (.reg [⟨some 15,none,.load true 1 (.t 2)⟩,⟨some 16,none,.load true 2 (.t 3)⟩,⟨some 17,none,.call 26 [(.t 15),(.t 16)]⟩,⟨some 18,none,.ext (.t 17) 0⟩,⟨some 19,none,.ext (.t 17) 1⟩,⟨none,none,(.store 2 (.t 4) (.t 18))⟩,⟨some 5,none,.mv (.t 19)⟩]) .ret)))
theorem C2:Ar Try.prog 8=some ⟨20,BU,[(.cell 4 true 2),(.tmp 5)]⟩:=by kernel_rfl
theorem AT:modes 8=⟨[],.own [none,some (26,2),none],none,false⟩:=by unfold modes; rfl
noncomputable def E0 (s:Sb) (x:Tm):Bool:=s.ok&&(x.expr&&(x.ap s.look).small)
noncomputable def DC (s:Sb) (x:Tm):Tm:=if E0 s x then x.ap s.look else .mk ⟨#[]⟩ []
theorem Kc {s:Sb} {x:Tm} (h:E0 s x=false):DC s x=.mk ⟨#[]⟩ []:=by unfold DC; rw [if_neg (by rw [h]; simp)]
theorem IF {s:Sb} {x:Tm} (h:E0 s x=true):DC s x=x.ap s.look:=by unfold DC; rw [if_pos h]
theorem Lr:(Tm.mk ⟨#[]⟩ []).osv=.agg [.str ⟨#[]⟩,.ref 0]:=rfl
theorem Ls:(Tm.mk ⟨#[]⟩ []).obs=[.row 26 2 []]:=rfl
theorem Rt (s:Sb) (hs:s.ok=true) (ht:s.tame) (x:Tm) (hx:x.expr=true):E 45 [s.sv,x.sv] []=some ((x.ap s.look).osv,(x.ap s.look).obs):=by
 have hn:=Tm.Id hx
 exact O5 s (Sb.Qq hs) ht x (Tm.Tc hx) (by omega) fun y hy=>UH s hs ht y (Tm.Td hx hy) (by have:=Tm.AU hy; have:=Tm.Aj x; omega)
theorem Ru (s:Sb) (hs:s.ok=true) (ht:s.tame) (x:Tm) (hx:x.expr=true):E 26 [s.sv,x.sv] []=some (.tup [(DC s x).osv,.bool (E0 s x)],(DC s x).obs):=by
 have hn:=Tm.Id hx
 have hk:=Tm.O3 (Sb.O4 hs) x
 have h1:=Rt s hs ht x hx
 have h2:=Jj (x.ap s.look) (by omega)
 cases hq:(x.ap s.look).small with
 | true =>
  have ho:E0 s x=true:=by unfold E0; rw [hs,hx,hq]; rfl
  rw [hq] at h2
  rw [IF ho,ho]
  refine Af CQ Ci (of_decide_eq_true rfl) ?_
  simp (disch:=omega) only [Ch,go_sem,Aa,h1,h2,Tm.osv,Tm.obs,Bk,Bj]
 | false =>
  have ho:E0 s x=false:=by unfold E0; rw [hq,yB,yB]
  rw [hq] at h2
  rw [Kc ho,ho,Lr,Ls]
  refine Af CQ Ci (of_decide_eq_true rfl) ?_
  simp (disch:=omega) only [Ch,go_sem,Aa,h1,h2,Tm.osv,Tm.obs,Bk,Bj]
theorem E6 (s:Sb) (ht:s.tame) (x:Tm) (hn:x.nodes≤1099511627776):E 8 [s.sv,x.sv] []=some (.tup [(DC s x).osv,.bool (E0 s x)],(DC s x).obs):=by
 have h1:=CO s ht
 have h2:=Dc x hn
 cases hs:s.ok with
 | false =>
  have ho:E0 s x=false:=by unfold E0; rw [hs]; rfl
  rw [hs] at h1
  rw [Kc ho,ho,Lr,Ls]
  refine Af C2 AT (of_decide_eq_true rfl) ?_
  simp (disch:=omega) only [BU,go_sem,Aa,h1,Aw]
 | true =>
  rw [hs] at h1
  cases hx:x.expr with
  | false =>
   have ho:E0 s x=false:=by unfold E0; rw [hx,zN,yB]
   rw [hx] at h2
   rw [Kc ho,ho,Lr,Ls]
   refine Af C2 AT (of_decide_eq_true rfl) ?_
   simp (disch:=omega) only [BU,go_sem,Aa,h1,h2,Aw,AI]
  | true =>
   rw [hx] at h2
   have h3:=Ru s hs ht x hx
   refine Af C2 AT (of_decide_eq_true rfl) ?_
   simp (disch:=omega) only [BU,go_sem,Aa,h1,h2,h3,Tm.osv,Tm.obs,Aw,AI,Ci]
def bdLe (x y:Bd):Bool:=!strLt y.var x.var
def C3:List Bd→Bd→List Bd
 | [],b=>[b]
 | x :: xs,b=>bif strLt x.var b.var then x :: C3 xs b else b :: x :: xs
theorem Gd (b:Bd):∀ xs:List Bd,(C3 xs b).Perm (b :: xs)
 | []=>.refl _
 | x :: xs=>by
  rw [C3]
  cases strLt x.var b.var with
  | true=>exact ((Gd b xs).cons x).trans (.swap b x xs)
  | false=>exact .refl _
theorem Ie {a b c:Bd} (h:bdLe a b=true) (k:bdLe b c=true):bdLe a c=true:=by
 unfold bdLe at *
 cases hq:strLt c.var a.var with
 | false=>rfl
 | true =>
  cases hb:strLt b.var a.var with
  | true=>rw [hb] at h; cases h
  | false =>
   cases hc:strLt c.var b.var with
   | true=>rw [hc] at k; cases k
   | false =>
    cases hab:strLt a.var b.var with
    | true=>rw [GU hq hab] at hc; cases hc
    | false =>
     have:=Es hab hb
     rw [this] at hq; rw [hq] at hc; cases hc
theorem Lu (a b:Bd):(bdLe a b || bdLe b a)=true:=by
 unfold bdLe
 cases h:strLt b.var a.var with
 | false=>rfl
 | true=>rw [F3 h]; rfl
theorem GW (b:Bd):∀ xs:List Bd,xs.Pairwise (fun x y=>bdLe x y=true)→(C3 xs b).Pairwise fun x y=>bdLe x y=true
 | [],_=>by simp [C3]
 | x :: xs,h=>by
  rw [C3]
  rw [yL] at h
  cases hq:strLt x.var b.var with
  | true =>
   rw [cond_true,yL]
   refine ⟨fun y hy=>?_,GW b xs h.2⟩
   rcases z6.1 ((Gd b xs).mem_iff.1 hy) with rfl | hy
   ·unfold bdLe; rw [F3 hq]; rfl
   ·exact h.1 y hy
  | false =>
   have hb:bdLe b x=true:=by unfold bdLe; rw [hq]; rfl
   rw [cond_false,yL,yL]
   refine ⟨fun y hy=>?_,h⟩
   rcases z6.1 hy with rfl | hy
   ·exact hb
   ·exact Ie hb (h.1 y hy)
def Lv (xs ys:List Bd):List Bd:=ys.foldl C3 xs
theorem Jm:∀ (ys xs:List Bd),(Lv xs ys).Perm (xs++ys)
 | [],xs=>by simp [Lv]
 | y :: ys,xs=>by
  have h:=Jm ys (C3 xs y)
  simp only [Lv,List.foldl_cons] at h ⊢
  refine h.trans ?_
  have h2:(C3 xs y++ys).Perm ((y :: xs)++ys):=(Gd y xs).append_right ys
  exact h2.trans List.perm_middle.symm
theorem JE:∀ (ys xs:List Bd),xs.Pairwise (fun x y=>bdLe x y=true)→(Lv xs ys).Pairwise fun x y=>bdLe x y=true
 | [],xs,h=>h
 | y :: ys,xs,h=>by
  simp only [Lv,List.foldl_cons]
  exact JE ys (C3 xs y) (GW y xs h)
theorem Rv {ys:List Bd} (hn:(ys.map Bd.var).Nodup):Lv [] ys=ys.mergeSort bdLe:=by
 have h1:(Lv [] ys).Perm ys:=by simpa using Jm ys []
 have h2:(ys.mergeSort bdLe).Perm ys:=yJ _ _
 refine y0 (le:=fun x y=>bdLe x y=true) ?_ (JE ys [] y9) (List.pairwise_mergeSort (le:=bdLe) (fun _ _ _ h k=>Ie h k) Lu ys) (h1.trans h2.symm)
 intro a b ha hb hab hba
 unfold bdLe at hab hba
 have e:a.var=b.var:=Es (by simpa using hba) (by simpa using hab)
 have ha:=h1.mem_iff.1 ha
 have hb:=h2.mem_iff.1 hb
 obtain ⟨i,hi,rfl⟩:=zV ha
 obtain ⟨j,hj,rfl⟩:=zV hb
 have hij:i=j:=(y3 (h₀:=by simpa using hi) (h₁:=by simpa using hj) hn).1 (by simpa using e)
 subst hij; rfl
theorem Lw (b:Bd):∀ xs:List Bd,C3 xs b=xs.take (AM xs b.var)++b :: xs.drop (AM xs b.var)
 | []=>by simp [C3,AM]
 | x :: xs=>by
  rw [C3,AM]
  cases h:strLt x.var b.var with
  | true=>rw [cond_true,Lw b xs]; simp
  | false=>simp
noncomputable def Wm (u:Sb) (b:Bd):Option Bd:=bif dec ((b.term.ap u.look).name=b.var) then none else some ⟨b.var,b.term.ap u.look⟩
noncomputable def WG (s u:Sb):List Bd:=s.binds.filterMap (Wm u)
noncomputable def WH (s u:Sb):List Bd:=u.binds.filter fun b=>!Eb s.binds b.var
noncomputable def Wn (s u:Sb):List Bd:=WG s u++WH s u
noncomputable def WI (s u:Sb):Sb:=⟨(Wn s u).mergeSort bdLe⟩
theorem P6:∀ {xs:List Bd},Jl xs→(xs.map Bd.var).Nodup:=by
 intro xs h
 unfold List.Nodup
 rw [z7]
 intro i j hi hj hij e
 rw [zB] at hj
 have:=h i j hij hj
 simp only [yO] at e
 rw [e,Ib] at this
 cases this
theorem Te {xs:List Bd} (hs:Jl xs) (n:ByteArray):Eb xs n=xs.any fun b=>dec (b.var=n):=by
 rw [←On,O1 hs]
 cases Eb xs n with
 | true=>rw [if_pos rfl]; exact (AV (by omega)).symm
 | false=>rw [if_neg (by simp)]; exact (Bg (by omega)).symm
theorem Ab:modes 65=⟨[true],.asis,some CE,false⟩:=by unfold modes; rfl
theorem F4 {t:Tm} (h:t.valid=true):t.names=true:=by
 unfold Tm.valid at h; rw [zK] at h; exact h.2
theorem Wo {s:Sb} (h:s.ok=true):s.binds.length≤12:=by
 unfold Sb.ok at h; rw [zK,decide_eq_true_eq] at h; exact h.1
noncomputable def WJ (s u:Sb):Bool:=(WI s u).ok
def DD:SC:=(.seq (.reg [⟨some 3,none,.boxv 31 1 (.t 0)⟩,⟨some 5,none,.boxv 26 2 (.t 2)⟩,⟨some 6,none,.alloc 31 [.nil]⟩]) (.seq (.seq (.reg [⟨some 9,none,.faddr 0 (.t 5)⟩,⟨some 10,none,.load false 1 (.t 9)⟩,⟨some 11,none,.mv (.t 1)⟩,⟨some 12,none,.bin .eql false (.t 10) (.t 11)⟩]) (.cond (.t 12) (.seq (.reg [⟨some 13,none,.load true 1 (.t 3)⟩,⟨none,none,(.store 1 (.t 6) (.t 13))⟩]) .ret) .skip)) (.seq (.reg [⟨some 7,none,.mv (.c (.int .i64 0))⟩]) (.seq (.block 0 (.loop [0,1,0,1,0,1,1,1,0,0,0,0,0,0,0,0,0,0,0,0,0,0,0,0,0,0,0,0,0,0,0,0,0,0,0,0,0,0,0,0,0,0,0,0,0,0,0,0,0,0,0] (.seq (.seq (.reg [⟨some 14,none,.mv (.t 7)⟩,⟨some 15,none,.faddr 0 (.t 3)⟩,⟨some 16,none,.load false 1 (.t 15)⟩,⟨some 17,none,.len false (.t 16)⟩,⟨some 18,none,.bin .lss false (.t 14) (.t 17)⟩,⟨some 19,none,.mv (.t 18)⟩,⟨(some 20),(some (19,true)),(.faddr 0 (.t 3))⟩,⟨(some 21),(some (19,true)),(.load false 1 (.t 20))⟩,⟨(some 22),(some (19,true)),(.mv (.t 7))⟩,⟨(some 23),(some (19,true)),(.iaddr 3 (.t 21) (.t 22))⟩,⟨(some 24),(some (19,true)),(.faddr 0 (.t 23))⟩,⟨(some 25),(some (19,true)),(.load false 1 (.t 24))⟩,⟨(some 26),(some (19,true)),(.mv (.t 1))⟩,⟨(some 27),(some (19,true)),(.bin .lss false (.t 25) (.t 26))⟩,⟨some 28,none,.pick (.t 19) (.t 27) (.c (.bool false))⟩]) (.cond (.t 28) .skip (.exit 0))) (.block 1 (.reg [⟨some 29,none,.mv (.t 7)⟩,⟨some 30,none,.bin .add false (.t 29) (.c (.int .i64 1))⟩,⟨some 7,none,.mv (.t 30)⟩]))))) (.seq (.reg [⟨(some 31),none,(.mkrow 58 3 [(.str ⟨#[]⟩),(.str ⟨#[]⟩),.nil] 0 [])⟩,⟨some 32,none,.faddr 0 (.t 3)⟩,⟨some 33,none,.load false 1 (.t 32)⟩,⟨some 34,none,.mv (.t 7)⟩,⟨some 35,none,.slice false 3 (.t 33) none (some (.t 34))⟩,⟨(some 36),none,(.append 58 3 56 [(.str ⟨#[]⟩),(.str ⟨#[]⟩),.nil] (.t 31) (.t 35))⟩,⟨some 8,none,.mv (.t 36)⟩]) (.seq (.reg [⟨some 37,none,.mv (.t 8)⟩,⟨some 38,none,.mv (.t 1)⟩,⟨some 39,none,.load true 2 (.t 5)⟩,⟨some 40,none,.call 36 [(.t 39)]⟩,⟨(some 41),none,(.build [(.str ⟨#[]⟩),(.str ⟨#[]⟩),.nil] [(0,(1,(.t 38))),(1,(2,(.t 40)))])⟩,⟨(some 42),none,(.mkrow 58 3 [(.str ⟨#[]⟩),(.str ⟨#[]⟩),.nil] 1 [(0,(.t 41))])⟩,⟨(some 43),none,(.append 58 3 56 [(.str ⟨#[]⟩),(.str ⟨#[]⟩),.nil] (.t 37) (.t 42))⟩,⟨some 8,none,.mv (.t 43)⟩]) (.seq (.reg [⟨some 44,none,.mv (.t 8)⟩,⟨some 45,none,.faddr 0 (.t 3)⟩,⟨some 46,none,.load false 1 (.t 45)⟩,⟨some 47,none,.mv (.t 7)⟩,⟨some 48,none,.slice false 3 (.t 46) (some (.t 47)) none⟩,⟨(some 49),none,(.append 58 3 56 [(.str ⟨#[]⟩),(.str ⟨#[]⟩),.nil] (.t 44) (.t 48))⟩,⟨some 50,none,.build [.nil] [(0,(1,(.t 49)))]⟩,⟨none,none,(.store 1 (.t 6) (.t 50))⟩]) .ret)))))))
theorem EA:Ar Try.prog 37=some ⟨51,DD,[(.cell 6 true 1)]⟩:=by kernel_rfl
theorem AJ:modes 37=⟨[true],.half [some (58,3)],none,false⟩:=by unfold modes; rfl
theorem Bd.Qs (xs:List Bd) (k:Nat):((xs.map Bd.d).take k).map (fun x=>x.map D.ot)=(xs.take k).map fun b=>b.d.map D.ot:=by
 rw [←List.map_take,yD]; rfl
theorem Bd.Qt (xs:List Bd) (k:Nat):((xs.map Bd.d).drop k).map (fun x=>x.map D.ot)=(xs.drop k).map fun b=>b.d.map D.ot:=by
 rw [←List.map_drop,yD]; rfl
theorem Bd.al3 (xs:List Bd):((xs.map fun b=>b.d.map D.ot).all fun l=>l.length == 3)=true:=by
 rw [yM,zW]
 intro x _
 show ((x.d.map D.ot).length == 3)=true
 rw [Bd.d_eq]; rfl
theorem Bd.WK (xs:List Bd):((xs.map Bd.d).all fun l=>l.length == 3)=true:=by
 rw [yM,zW]
 intro x _
 show (x.d.length == 3)=true
 rw [Bd.d_eq]; rfl
theorem Bd.dfu:∀ xs:List Bd,OT.Aq (xs.map fun b=>b.d.map D.ot)=true
 | []=>rfl
 | x :: xs=>by rw [zC,Bd.d_eq]; simp [OT.Aq,OT.Ck,OT.full,D.ot,Bd.dfu xs]
theorem Bd.der:∀ xs:List Bd,OT.erss (xs.map fun b=>b.d.map D.ot)=xs.map Bd.d
 | []=>rfl
 | x :: xs=>by rw [zC,zC,Bd.d_eq]; simp [OT.erss,OT.ers,OT.er,D.ot,Bd.der xs]
theorem Bd.dha:∀ xs:List Bd,OT.BB (xs.map fun b=>b.d.map D.ot)=xs.map fun b=>b.d.map D.ot
 | []=>rfl
 | x :: xs=>by rw [zC,Bd.d_eq]; simp only [zC,zD,D.ot,OT.BB,OT.G2,OT.half,Bd.dha xs]
theorem OT.Fj:∀ a b:List (List OT),OT.Aq (a++b)=(OT.Aq a&&OT.Aq b)
 | [],b=>by simp [OT.Aq]
 | x :: a,b=>by rw [yC,OT.Aq,OT.Aq,OT.Fj a b,Bool.and_assoc]
theorem OT.Gx (a b:List (List OT)):OT.BB (a++b)=OT.BB a++OT.BB b:=by
 rw [OT.DQ,OT.DQ,OT.DQ,zE]
theorem Tm.Tf (x:Tm):OT.Ck (Tm.o x)=true:=by
 have key:∀ xs:List Tm,(∀ y∈xs,OT.Ck (Tm.o y)=true)→OT.Aq (xs.map Tm.o)=true:=by
  intro xs
  induction xs with
  | nil=>intro _; rfl
  | cons y ys ih =>
   intro h
   rw [zC,OT.Aq,h y (by simp),ih fun z hz=>h z (by simp [hz])]; rfl
 have h:=key x.args fun y hy=>Tm.Tf y
 rw [Tm.Hz]
 simp only [OT.Ck,OT.full,h,yA]
termination_by SizeOf.sizeOf x
decreasing_by exact Tm.A8 hy
theorem Tm.Lx:∀ xs:List Tm,OT.Aq (xs.map Tm.o)=true
 | []=>rfl
 | x :: xs=>by rw [zC,OT.Aq,Tm.Tf,Tm.Lx xs]; rfl
theorem MB {xs:List Bd} {n:ByteArray} {k:Nat} (h:k+AM (xs.drop k) n=AM xs n) (hk:k<xs.length):(strLt xs[k].var n=true∧k+1+AM (xs.drop (k+1)) n=AM xs n)∨(strLt xs[k].var n=false∧k=AM xs n):=by
 rw [zG hk,AM] at h
 cases hq:strLt xs[k].var n with
 | true=>rw [hq] at h; simp only [cond_true,if_true] at h; exact .inl ⟨rfl,by omega⟩
 | false=>rw [hq] at h; simp only [cond_false,Bool.false_eq_true,if_false] at h; exact .inr ⟨rfl,by omega⟩
theorem UJ (x:Sb) (n:ByteArray) (t:Tm) (hl:x.binds.length≤1048576) (ht:t.nodes≤1099511627776):E 37 [x.sv,.str n,t.sv] []=bif dec (t.name=n) then some (x.sv,[]) else some (.agg [.ref 0],[.row 58 3 ((C3 x.binds ⟨n,t⟩).map fun b=>b.d.map D.ot)]):=by
 have ho:=JY t ht
 have e1:=Bd.Qs x.binds (AM x.binds n)
 have e2:=Bd.Qt x.binds (AM x.binds n)
 have e3:=Bd.al3 (x.binds.take (AM x.binds n))
 have e4:=Bd.al3 (x.binds.drop (AM x.binds n))
 have e5:=Bd.WK x.binds
 have l1:=Ka n x.binds
 have e6:(x.binds.map Bd.d).take x.binds.length=x.binds.map Bd.d:=yE (by simp)
 have e7:(x.binds.take (AM x.binds n)).length=AM x.binds n:=by rw [y4]; omega
 have e8:(x.binds.drop (AM x.binds n)).length=x.binds.length-AM x.binds n:=yI
 have hin:=Lw ⟨n,t⟩ x.binds
 have hx2:(x.binds.take (AM x.binds n)).map (fun b=>b.d.map D.ot)++[[OT.str n,.str t.name,.sh (t.args.map Tm.d)]]++(x.binds.drop (AM x.binds n)).map (fun b=>b.d.map D.ot)=(C3 x.binds ⟨n,t⟩).map fun b=>b.d.map D.ot:=by
  rw [hin]
  simp only [zE,zC,yG,yC,List.nil_append]
  rw [Bd.d_eq]; rfl
 have hfu:=Bd.dfu (C3 x.binds ⟨n,t⟩)
 have her:=Bd.der (C3 x.binds ⟨n,t⟩)
 have hfM:OT.Aq ((x.binds.take (AM x.binds n)).map (fun b=>b.d.map D.ot)++[[OT.str n,.str t.name,.ow (t.args.map Tm.o)]]++(x.binds.drop (AM x.binds n)).map (fun b=>b.d.map D.ot))=true:=by
  rw [OT.Fj,OT.Fj,Bd.dfu,Bd.dfu]
  simp [OT.Aq,OT.Ck,OT.full,Tm.Lx]
 have hhM:OT.BB ((x.binds.take (AM x.binds n)).map (fun b=>b.d.map D.ot)++[[OT.str n,.str t.name,.ow (t.args.map Tm.o)]]++(x.binds.drop (AM x.binds n)).map (fun b=>b.d.map D.ot))=(C3 x.binds ⟨n,t⟩).map fun b=>b.d.map D.ot:=by
  rw [←hx2,OT.Gx,OT.Gx,Bd.dha,Bd.dha]
  simp [OT.BB,OT.G2,OT.half,Tm.erss]
 have hsv:(Sb.mk (C3 x.binds ⟨n,t⟩)).sv=.agg [.arr ((C3 x.binds ⟨n,t⟩).map Bd.d)]:=rfl
 cases hq:dec (t.name=n) with
 | true =>
  simp only [hq,cond_true]
  refine Af EA AJ (of_decide_eq_true rfl) ?_
  simp (disch:=omega) only [DD,go_sem,Aa,hq]
  try rfl
 | false =>
  simp only [hq,cond_false]
  refine Af EA AJ (of_decide_eq_true rfl) ?_
  simp (disch:=omega) only [DD,go_sem,Aa,hq]
  refine go_loop (α:=Int) (fun a=>⟨slots 51 0 [(1,.str n),(3,.ptr 0 0),(5,.ptr 1 0),(6,.ptr 2 0),(7,.int .i64 a)],[.box 31 [.arr (x.binds.map Bd.d)],.box 26 [.str t.name,.arr (t.args.map Tm.d)],.box 31 [.nil]]⟩) (fun a=>∃ k:Nat,a=k∧k≤(x.binds).length∧k+AM (x.binds.drop k) n=AM x.binds n) (fun a=>(x.binds).length-(a).toNat) 0 ⟨0,rfl,zZ _,by rw [zQ,y6]⟩ (by simp (disch:=omega) only [go_sem,Aa]) ?_
  rintro i ⟨k,hi,hk,hR⟩
  have hni:i.toNat=k:=by omega
  have hni1:(i+1).toNat=k+1:=by omega
  rcases zT k (x.binds).length with hlt | hge
  ·have hg:=get_at Bd.d hlt
   rw [Bd.d_eq] at hg
   skip
   rcases MB hR hlt with ⟨q,hR'⟩ | ⟨q,hk'⟩
   ·simp (disch:=omega) only [go_sem,Aa,hni,hg,q]
    exact ⟨i+1,⟨k+1,by omega,hlt,hR'⟩,by omega,by first | trivial | rfl⟩
   ·subst hk'
    simp (disch:=omega) only [go_sem,Aa,hni,hg,q,hfM,hhM,Tm.osv,Tm.obs,ho,e1,e2,e3,e4,e5,e6,e7,e8,zS,yV,Cw,Bd.dha]
  ·obtain rfl:k=x.binds.length:=by omega
   have hk':x.binds.length=AM x.binds n:=by rw [←hR,zJ (zU _)]; simp [AM]
   rw [hk'] at hni
   simp (disch:=omega) only [go_sem,Aa,hni,hfM,hhM,Tm.osv,Tm.obs,ho,e1,e2,e3,e4,e5,e6,e7,e8,zS,yV,Cw,Bd.dha]
theorem Tg (x:Sb) (n:ByteArray) (t:Tm) (hl:x.binds.length≤1048576) (ht:t.nodes≤1099511627776):E 37 [.agg [.ref 0],.str n,t.sv] [.row 58 3 (x.binds.map fun b=>b.d.map D.ot)]=bif dec (t.name=n) then some (.agg [.ref 0],[.row 58 3 (x.binds.map fun b=>b.d.map D.ot)]) else some (.agg [.ref 1],[.gone,.row 58 3 ((C3 x.binds ⟨n,t⟩).map fun b=>b.d.map D.ot)]):=by
 have ho:=JY t ht
 have e1:=Bd.Qs x.binds (AM x.binds n)
 have e2:=Bd.Qt x.binds (AM x.binds n)
 have e3:=Bd.al3 (x.binds.take (AM x.binds n))
 have e4:=Bd.al3 (x.binds.drop (AM x.binds n))
 have e5:=Bd.WK x.binds
 have l1:=Ka n x.binds
 have e6:(x.binds.map Bd.d).take x.binds.length=x.binds.map Bd.d:=yE (by simp)
 have e7:(x.binds.take (AM x.binds n)).length=AM x.binds n:=by rw [y4]; omega
 have e8:(x.binds.drop (AM x.binds n)).length=x.binds.length-AM x.binds n:=yI
 have hin:=Lw ⟨n,t⟩ x.binds
 have hx2:(x.binds.take (AM x.binds n)).map (fun b=>b.d.map D.ot)++[[OT.str n,.str t.name,.sh (t.args.map Tm.d)]]++(x.binds.drop (AM x.binds n)).map (fun b=>b.d.map D.ot)=(C3 x.binds ⟨n,t⟩).map fun b=>b.d.map D.ot:=by
  rw [hin]
  simp only [zE,zC,yG,yC,List.nil_append]
  rw [Bd.d_eq]; rfl
 have hfu:=Bd.dfu (C3 x.binds ⟨n,t⟩)
 have her:=Bd.der (C3 x.binds ⟨n,t⟩)
 have hfM:OT.Aq ((x.binds.take (AM x.binds n)).map (fun b=>b.d.map D.ot)++[[OT.str n,.str t.name,.ow (t.args.map Tm.o)]]++(x.binds.drop (AM x.binds n)).map (fun b=>b.d.map D.ot))=true:=by
  rw [OT.Fj,OT.Fj,Bd.dfu,Bd.dfu]
  simp [OT.Aq,OT.Ck,OT.full,Tm.Lx]
 have hhM:OT.BB ((x.binds.take (AM x.binds n)).map (fun b=>b.d.map D.ot)++[[OT.str n,.str t.name,.ow (t.args.map Tm.o)]]++(x.binds.drop (AM x.binds n)).map (fun b=>b.d.map D.ot))=(C3 x.binds ⟨n,t⟩).map fun b=>b.d.map D.ot:=by
  rw [←hx2,OT.Gx,OT.Gx,Bd.dha,Bd.dha]
  simp [OT.BB,OT.G2,OT.half,Tm.erss]
 have hsv:(Sb.mk (C3 x.binds ⟨n,t⟩)).sv=.agg [.arr ((C3 x.binds ⟨n,t⟩).map Bd.d)]:=rfl
 cases hq:dec (t.name=n) with
 | true =>
  simp only [hq,cond_true]
  refine Af EA AJ (of_decide_eq_true rfl) ?_
  simp (disch:=omega) only [DD,go_sem,Aa,hq]
  try rfl
 | false =>
  simp only [hq,cond_false]
  refine Af EA AJ (of_decide_eq_true rfl) ?_
  simp (disch:=omega) only [DD,go_sem,Aa,hq]
  refine go_loop (α:=Int) (fun a=>⟨slots 51 0 [(1,.str n),(3,.ptr 1 0),(5,.ptr 2 0),(6,.ptr 3 0),(7,.int .i64 a)],[.row 58 3 (x.binds.map fun b=>b.d.map D.ot),.box 31 [.ref 0],.box 26 [.str t.name,.arr (t.args.map Tm.d)],.box 31 [.nil]]⟩) (fun a=>∃ k:Nat,a=k∧k≤(x.binds).length∧k+AM (x.binds.drop k) n=AM x.binds n) (fun a=>(x.binds).length-(a).toNat) 0 ⟨0,rfl,zZ _,by rw [zQ,y6]⟩ (by simp (disch:=omega) only [go_sem,Aa]) ?_
  rintro i ⟨k,hi,hk,hR⟩
  have hni:i.toNat=k:=by omega
  have hni1:(i+1).toNat=k+1:=by omega
  rcases zT k (x.binds).length with hlt | hge
  ·have hg:=get_at (fun b:Bd=>b.d.map D.ot) hlt
   rw [Bd.d_eq] at hg
   simp only [zC,zD,D.ot] at hg
   rcases MB hR hlt with ⟨q,hR'⟩ | ⟨q,hk'⟩
   ·simp (disch:=omega) only [go_sem,Aa,hni,hg,q]
    exact ⟨i+1,⟨k+1,by omega,hlt,hR'⟩,by omega,by first | trivial | rfl⟩
   ·subst hk'
    simp (disch:=omega) only [go_sem,Aa,hni,hg,q,hfM,hhM,Tm.osv,Tm.obs,ho,e1,e2,e3,e4,e5,e6,e7,e8,zS,yV,Cw,Bd.dfu,Bd.der,Bd.dha]
  ·obtain rfl:k=x.binds.length:=by omega
   have hk':x.binds.length=AM x.binds n:=by rw [←hR,zJ (zU _)]; simp [AM]
   rw [hk'] at hni
   simp (disch:=omega) only [go_sem,Aa,hni,hfM,hhM,Tm.osv,Tm.obs,ho,e1,e2,e3,e4,e5,e6,e7,e8,zS,yV,Cw,Bd.dfu,Bd.der,Bd.dha]
theorem O6 (b:Bd) (ht:b.term.nodes≤1099511627776):E 37 [.agg [.arr []],.str b.var,.agg [.str b.term.name,.arr (b.term.args.map Tm.d)]] []=bif dec (b.term.name=b.var) then some (.agg [.arr []],[]) else some (.agg [.ref 0],[.row 58 3 ([b].map fun b=>b.d.map D.ot)]):=UJ ⟨[]⟩ b.var b.term (zZ _) ht
theorem O7 (xs:List Bd) (b:Bd) (hl:xs.length≤1048576) (ht:b.term.nodes≤1099511627776):E 37 [.agg [.ref 0],.str b.var,.agg [.str b.term.name,.arr (b.term.args.map Tm.d)]] [.row 58 3 (xs.map fun b=>b.d.map D.ot)]=bif dec (b.term.name=b.var) then some (.agg [.ref 0],[.row 58 3 (xs.map fun b=>b.d.map D.ot)]) else some (.agg [.ref 1],[.gone,.row 58 3 ((C3 xs b).map fun b=>b.d.map D.ot)]):=Tg ⟨xs⟩ b.var b.term hl ht
theorem Ly (b:Bd) (xs:List Bd):(C3 xs b).length=xs.length+1:=by rw [(Gd b xs).length_eq]; rfl
theorem Qu (b:Bd) (xs:List Bd):(C3 xs b=[])=False:=eq_false (fun h=>by have:=Ly b xs; rw [h] at this; simp at this)
def Dn:SC:=(.seq (.reg [⟨some 2,none,.alloc 31 [.nil]⟩]) (.seq (.reg [⟨some 6,none,.build [.nil] []⟩,⟨some 3,none,.alloc 31 [.nil]⟩,⟨none,none,(.store 1 (.t 3) (.t 6))⟩]) (.seq (.seq (.reg [⟨(some 7),none,(.mkrow 9 1 [(.str ⟨#[]⟩)] 4 [(0,(.c (.str ⟨#[85]⟩))),(1,(.c (.str ⟨#[88]⟩))),(2,(.c (.str ⟨#[89]⟩))),(3,(.c (.str ⟨#[90]⟩)))])⟩,⟨some 8,none,.len false (.t 7)⟩,⟨some 9,none,.mv (.c (.int .i64 0))⟩]) (.block 0 (.loop [1,0,1,1,0,0,0,1,1,1,0,0,0,0,0,0,0,0,0,0,0,0] (.seq (.reg [⟨some 10,none,.bin .lss false (.t 9) (.t 8)⟩]) (.seq (.cond (.t 10) .skip (.exit 0)) (.seq (.block 1 (.seq (.reg [⟨some 11,none,.iaddr 1 (.t 7) (.t 9)⟩,⟨some 12,none,.load false 1 (.t 11)⟩,⟨some 5,none,.mv (.t 12)⟩]) (.seq (.reg [⟨some 13,none,.mv (.t 0)⟩,⟨some 14,none,.call 15 [(.t 13),(.c (.int .i64 2))]⟩]) (.cond (.t 14) (.dreg [[],[],[],[2],[0,1,3,2],[4,0,1,3,2]] [⟨some 15,none,.load true 1 (.t 3)⟩,⟨some 16,none,.mv (.t 5)⟩,⟨some 17,none,.mv (.t 0)⟩,⟨some 18,none,.call 19 [(.t 17)]⟩,⟨some 19,none,.call 37 [(.t 15),(.t 16),(.t 18)]⟩,⟨none,none,(.store 1 (.t 3) (.t 19))⟩]) .skip)))) (.reg [⟨some 20,none,.bin .add false (.t 9) (.c (.int .i64 1))⟩,⟨some 9,none,.mv (.t 20)⟩]))))))) (.seq (.reg [⟨some 21,none,.load true 1 (.t 3)⟩,⟨none,none,(.store 1 (.t 2) (.t 21))⟩]) .ret))))
theorem Fn:Ar Try.prog 18=some ⟨22,Dn,[(.cell 2 true 1)]⟩:=by kernel_rfl
theorem Ah:modes 18=⟨[],.half [some (58,3)],none,false⟩:=by unfold modes; rfl
def GX:List (List OT):=[[.str ⟨#[85]⟩],[.str ⟨#[88]⟩],[.str ⟨#[89]⟩],[.str ⟨#[90]⟩]]
theorem Th {k:Nat} (h:k<4):∃ v,GX[k]?=some [.str v]:=by
 rcases (show k=0∨k=1∨k=2∨k=3 by omega) with rfl | rfl | rfl | rfl <;> exact ⟨_,rfl⟩
theorem Rw:GX.length=4:=rfl
abbrev bdH (xs:List Bd):Ob:=.row 58 3 (xs.map fun b=>b.d.map D.ot)
theorem Bd.Ti {xs:List Bd} (h:xs≠[]):OT.BN (xs.map fun b=>b.d.map D.ot)=false:=by
 rcases xs with _ | ⟨x,r⟩
 ·exact absurd rfl h
 ·rw [zC,Bd.d_eq]
  simp [OT.BN,OT.E1,OT.noSh,D.ot]
theorem Bd.Qv (b:Bd):OT.BN ([b].map fun b=>b.d.map D.ot)=false:=Bd.Ti (by simp)
def DrS (k:Nat) (xs:List Bd):Prop:=(xs.map Bd.var).Nodup∧xs.Pairwise (fun x y=>bdLe x y=true)∧∀ b∈xs,∃ j,j<k∧GX[j]?=some [.str b.var]
def DrI (k:Nat) (xs:List Bd):Prop:=(∀ b∈xs,b.term.nodes≤7)∧DrS k xs
theorem DrI.nil (k:Nat):DrI k []:=⟨fun b hb=>(by cases hb),yH,y9,fun b hb=>by cases hb⟩
theorem DrI.up {k:Nat} {xs:List Bd} (h:DrI k xs):DrI (k+1) xs:=⟨h.1,h.2.1,h.2.2.1,fun b hb=>let ⟨j,h1,h2⟩:=h.2.2.2 b hb; ⟨j,by omega,h2⟩⟩
theorem Rx {i j:Nat} {v:ByteArray} (h:GX[i]?=some [.str v]) (h':GX[j]?=some [.str v]):i=j:=by
 have hb:∀ {k:Nat},GX[k]?=some [.str v]→k<4:=fun {k} hk=>(yY.1 hk).1
 have hi:=hb h
 have hj:=hb h'
 rw [←h'] at h
 rcases (show i=0∨i=1∨i=2∨i=3 by omega) with rfl | rfl | rfl | rfl <;> rcases (show j=0∨j=1∨j=2∨j=3 by omega) with rfl | rfl | rfl | rfl <;> first | rfl | (exfalso; revert h; simp [GX])
theorem DrI.ins {k:Nat} {xs:List Bd} (h:DrI k xs) {c:Bd} (hc:c.term.nodes≤7) (hv:GX[k]?=some [.str c.var]):DrI (k+1) (C3 xs c):=by
 have hp:=Gd c xs
 refine ⟨fun b hb=>?_,?_,GW c xs h.2.2.1,fun b hb=>?_⟩
 ·rcases z6.1 (hp.mem_iff.1 hb) with rfl | hb
  ·exact hc
  ·exact h.1 b hb
 ·refine ((hp.map Bd.var).nodup_iff).2 ?_
  rw [zC,yF]
  refine ⟨fun hm=>?_,h.2.1⟩
  obtain ⟨b,h1,h2⟩:=z2.1 hm
  obtain ⟨j,h3,h4⟩:=h.2.2.2 b h1
  rw [h2] at h4
  have:=Rx h4 hv
  omega
 ·rcases z6.1 (hp.mem_iff.1 hb) with rfl | hb
  ·exact ⟨k,by omega,hv⟩
  ·obtain ⟨j,h3,h4⟩:=h.2.2.2 b hb
   exact ⟨j,by omega,h4⟩
theorem DrS.fine {k:Nat} {xs:List Bd} (h:DrS k xs):(Sb.mk xs).fine:=by
 refine ⟨fun i j hij hj=>?_,fun b hb=>?_⟩
 ·change j<xs.length at hj
  show strLt (xs[i]'(by omega)).var xs[j].var=true
  have h1:=z7.1 h.2.1 i j (by omega) hj hij
  have h2:=z7.1 (List.pairwise_map.1 h.1) i j (by omega) hj hij
  unfold bdLe at h1
  cases hq:strLt (xs[i]'(by omega)).var xs[j].var with
  | true=>rfl
  | false=>exact absurd (Es hq (by simpa using h1)) h2
 ·obtain ⟨j,_,h4⟩:=h.2.2 b hb
  have hj:j<4:=(yY.1 h4).1
  rcases (show j=0∨j=1∨j=2∨j=3 by omega) with rfl | rfl | rfl | rfl
  all_goals
   simp only [GX,List.getElem?_cons_zero,List.getElem?_cons_succ,yN,yS,OT.str.injEq,and_true] at h4
   rw [←h4]
   decide +kernel
theorem GY (l:List Int) (hl:Bytes l) (hn:l.length≤1099511627776) (p s:Int) (h0:0≤p) (h1:p≤1090000000000):∃ (z:Bool) (xs:List Bd) (p' s':Int),E 18 [.ptr 0 0] [cur l p s]=some (bif z then (.agg [.arr []],[cur l p' s']) else (.agg [.ref 1],[cur l p' s',bdH xs]))∧(p≤p'∧p'≤p+200)∧xs.length≤4∧(∀ b∈xs,b.term.nodes≤7)∧(z=true→xs=[])∧DrS 4 xs:=by
 obtain ⟨Q,hQ⟩:∃ Q:SV × List Ob→Prop,Q=fun out=>∃ z xs p' s',out=(bif z then (SV.agg [.arr []],[cur l p' s']) else (SV.agg [.ref 1],[cur l p' s',bdH xs]))∧(p≤p'∧p'≤p+200)∧xs.length≤4∧(∀ b∈xs,b.term.nodes≤7)∧(z=true→xs=[])∧DrS 4 xs:=⟨_,rfl⟩
 suffices hq0:∃ out,E 18 [.ptr 0 0] [cur l p s]=some out∧Q out by
  obtain ⟨out,hq1,hq2⟩:=hq0
  rw [hQ] at hq2
  obtain ⟨z,xs,p',s',rfl,hq3⟩:=hq2
  exact ⟨z,xs,p',s',hq1,hq3⟩
 have hnil:(([]:List Bd)=[])=True:=eq_self _
 refine AH Fn Ah (of_decide_eq_true rfl) ?_
 simp (disch:=omega) only [Dn,go_sem,Aa]
 refine go_loop (α:=Int × Int × Int × SV × List Bd) (fun a=>⟨slots 22 0 [(0,.ptr 0 0),(2,.ptr 1 0),(3,.ptr 2 0),(7,.ref 3),(8,.int .i64 4),(9,.int .i64 a.1)],(if a.2.2.2.2=[] then [cur l a.2.1 a.2.2.1,.box 31 [.nil],.box 31 [a.2.2.2.1],.row 9 1 GX] else [cur l a.2.1 a.2.2.1,.box 31 [.nil],.box 31 [.ref 4],.row 9 1 GX,bdH a.2.2.2.2])⟩) (fun a=>∃ k:Nat,a.1=k∧k≤4∧a.2.2.2.2.length≤k∧p≤a.2.1∧a.2.1≤p+42*k∧DrI k a.2.2.2.2∧(a.2.2.2.1=.nil∨a.2.2.2.1=.arr [])) (fun a=>(4-a.1).toNat) (0,p,s,.nil,[]) ⟨0,rfl,by omega,by simp,by dsimp only; omega,by dsimp only; omega,DrI.nil 0,.inl rfl⟩ (by (simp (disch:=omega) only [go_sem,Aa,hnil,if_true]) <;> first | trivial | rfl | exact ⟨rfl,rfl⟩) ?_
 rintro ⟨i,p1,s1,y,acc⟩ ⟨k,hi,hk,hal,hp1,hp2,hnn,hy⟩
 dsimp only at hi hal hp1 hp2 hnn hy
 have hni:i.toNat=k:=by omega
 have hl4:=Rw
 rcases zT k 4 with hlt | hge
 ·have q1:(i<4)=True:=eq_true (by omega)
  obtain ⟨v,hv⟩:=Th hlt
  obtain ⟨b,p2,s2,hb,g1,g2⟩:=I1 l hl hn 2 (by omega) (by omega) p1 s1 (by omega) (by omega)
  cases b with
  | false =>
   rcases zL acc with ha | ⟨ys,z,ha⟩
   ·subst ha
    rcases hy with rfl | rfl
    ·simp (disch:=omega) only [go_sem,Aa,hni,hl4,q1,hv,hb,hnil,if_true,Ak,Ae,AJ]
     exact ⟨(i+1,p2,s2,.nil,[]),⟨k+1,by dsimp only; omega,by omega,by first | omega | (dsimp only; omega) | simp,by dsimp only; omega,by dsimp only; omega,hnn.up,.inl rfl⟩,by dsimp only; omega,by first | trivial | rfl | exact ⟨rfl,rfl⟩ | simp only [hnil,if_true,and_self]⟩
    ·simp (disch:=omega) only [go_sem,Aa,hni,hl4,q1,hv,hb,hnil,if_true,Ak,Ae,AJ]
     exact ⟨(i+1,p2,s2,.arr [],[]),⟨k+1,by dsimp only; omega,by omega,by first | omega | (dsimp only; omega) | simp,by dsimp only; omega,by dsimp only; omega,hnn.up,.inr rfl⟩,by dsimp only; omega,by first | trivial | rfl | exact ⟨rfl,rfl⟩ | simp only [hnil,if_true,and_self]⟩
   ·have hne:(acc=[])=False:=eq_false (by rw [ha]; simp)
    simp (disch:=omega) only [go_sem,Aa,hni,hl4,q1,hv,hb,hne,if_false,Ak,Ae,AJ]
    exact ⟨(i+1,p2,s2,y,acc),⟨k+1,by dsimp only; omega,by omega,by first | omega | (dsimp only; omega) | simp,by dsimp only; omega,by dsimp only; omega,hnn.up,hy⟩,by dsimp only; omega,by first | trivial | rfl | exact ⟨rfl,rfl⟩ | simp only [hne,if_false,and_self]⟩
  | true =>
   obtain ⟨t,p3,s3,ht,⟨g3,g4⟩,g5⟩:=FB l hl hn p2 s2 (by omega) (by omega)
   have hpn:=O6 ⟨v,t⟩ (by show t.nodes≤_; omega)
   have hpr:=O7 acc ⟨v,t⟩ (by omega) (by show t.nodes≤_; omega)
   dsimp only at hpn hpr
   cases hq:dec (t.name=v) with
   | true =>
    rw [hq,cond_true] at hpn hpr
    rcases zL acc with ha | ⟨ys,z,ha⟩
    ·subst ha
     rcases hy with rfl | rfl
     ·simp (disch:=omega) only [go_sem,Aa,hni,hl4,q1,hv,hb,ht,hpn,Bd.Qv,hnil,if_true,Ak,Ae,AJ]
      exact ⟨(i+1,p3,s3,.arr [],[]),⟨k+1,by dsimp only; omega,by omega,by first | omega | (dsimp only; omega) | simp,by dsimp only; omega,by dsimp only; omega,hnn.up,.inr rfl⟩,by dsimp only; omega,by first | trivial | rfl | exact ⟨rfl,rfl⟩ | simp only [hnil,if_true,and_self]⟩
     ·simp (disch:=omega) only [go_sem,Aa,hni,hl4,q1,hv,hb,ht,hpn,Bd.Qv,hnil,if_true,Ak,Ae,AJ]
      exact ⟨(i+1,p3,s3,.arr [],[]),⟨k+1,by dsimp only; omega,by omega,by first | omega | (dsimp only; omega) | simp,by dsimp only; omega,by dsimp only; omega,hnn.up,.inr rfl⟩,by dsimp only; omega,by first | trivial | rfl | exact ⟨rfl,rfl⟩ | simp only [hnil,if_true,and_self]⟩
    ·have hne:(acc=[])=False:=eq_false (by rw [ha]; simp)
     have hns:=Bd.Ti (xs:=acc) (by rw [ha]; simp)
     simp (disch:=omega) only [go_sem,Aa,hni,hl4,q1,hv,hb,ht,hpr,hns,hne,if_false,Ak,Ae,AJ]
     exact ⟨(i+1,p3,s3,y,acc),⟨k+1,by dsimp only; omega,by omega,by first | omega | (dsimp only; omega) | simp,by dsimp only; omega,by dsimp only; omega,hnn.up,hy⟩,by dsimp only; omega,by first | trivial | rfl | exact ⟨rfl,rfl⟩ | simp only [hne,if_false,and_self]⟩
   | false =>
    rw [hq,cond_false] at hpn hpr
    obtain ⟨c,hc⟩:∃ c:Bd,c=⟨v,t⟩:=⟨_,rfl⟩
    have hct:c.term.nodes≤7:=by rw [hc]; exact g5
    rw [←hc] at hpn hpr
    have hl2:=Ly c acc
    have hne2:=Qu c acc
    have hns:OT.BN ((C3 acc c).map fun b=>b.d.map D.ot)=false:=Bd.Ti (fun h=>by rw [h] at hl2; simp at hl2)
    have hn2:DrI (k+1) (C3 acc c):=hnn.ins hct (by rw [hc]; exact hv)
    rcases zL acc with ha | ⟨ys,z,ha⟩
    ·have hae:(acc=[])=True:=eq_true ha
     have h1c:[c]=C3 acc c:=by rw [ha]; rfl
     rw [h1c] at hpn
     rcases hy with rfl | rfl
     ·simp (disch:=omega) only [go_sem,Aa,hni,hl4,q1,hv,hb,ht,hpn,hns,hae,if_true,Ak,Ae,AJ]
      exact ⟨(i+1,p3,s3,.nil,C3 acc c),⟨k+1,by dsimp only; omega,by omega,by first | omega | (dsimp only; omega) | simp,by dsimp only; omega,by dsimp only; omega,hn2,.inl rfl⟩,by dsimp only; omega,by first | trivial | rfl | exact ⟨rfl,rfl⟩ | simp only [hne2,if_false,and_self]⟩
     ·simp (disch:=omega) only [go_sem,Aa,hni,hl4,q1,hv,hb,ht,hpn,hns,hae,if_true,Ak,Ae,AJ]
      exact ⟨(i+1,p3,s3,.arr [],C3 acc c),⟨k+1,by dsimp only; omega,by omega,by first | omega | (dsimp only; omega) | simp,by dsimp only; omega,by dsimp only; omega,hn2,.inr rfl⟩,by dsimp only; omega,by first | trivial | rfl | exact ⟨rfl,rfl⟩ | simp only [hne2,if_false,and_self]⟩
    ·have hne:(acc=[])=False:=eq_false (by rw [ha]; simp)
     simp (disch:=omega) only [go_sem,Aa,hni,hl4,q1,hv,hb,ht,hpr,hns,hne,if_false,Ak,Ae,AJ]
     exact ⟨(i+1,p3,s3,y,C3 acc c),⟨k+1,by dsimp only; omega,by omega,by first | omega | (dsimp only; omega) | simp,by dsimp only; omega,by dsimp only; omega,hn2,hy⟩,by dsimp only; omega,by first | trivial | rfl | exact ⟨rfl,rfl⟩ | simp only [hne2,if_false,and_self]⟩
 ·have q1:(i<4)=False:=eq_false (by omega)
  rcases zL acc with ha | ⟨ys,z,ha⟩
  ·subst ha
   rcases hy with rfl | rfl
   ·simp (disch:=omega) only [go_sem,Aa,hni,q1,hnil,if_true,zD]
    rw [hQ]
    exact ⟨false,[],p1,s1,rfl,by omega,by simp,by simp,by simp,(DrI.nil 4).2⟩
   ·simp (disch:=omega) only [go_sem,Aa,hni,q1,hnil,if_true,zD]
    rw [hQ]
    exact ⟨true,[],p1,s1,rfl,by omega,by simp,by simp,by simp,(DrI.nil 4).2⟩
  ·have hne:(acc=[])=False:=eq_false (by rw [ha]; simp)
   have hnn4:DrS 4 acc:=by
    have hk4:k=4:=by omega
    rw [←hk4]; exact hnn.2
   simp (disch:=omega) only [go_sem,Aa,hni,q1,hne,if_false,Bd.dfu,Bd.der,Bd.dha]
   rw [hQ]
   exact ⟨false,acc,p1,s1,rfl,by omega,by omega,hnn.1,by simp,hnn4⟩
def A2:SC:=(.seq (.reg [⟨some 2,none,.alloc 31 [.nil]⟩]) (.seq (.reg [⟨some 7,none,.mv (.t 0)⟩,⟨some 8,none,.call 18 [(.t 7)]⟩,⟨some 3,none,.alloc 31 [.nil]⟩,⟨none,none,(.store 1 (.t 3) (.t 8))⟩]) (.seq (.seq (.reg [⟨some 9,none,.faddr 0 (.t 3)⟩,⟨some 10,none,.load false 1 (.t 9)⟩,⟨some 11,none,.len false (.t 10)⟩,⟨some 12,none,.bin .eql false (.t 11) (.c (.int .i64 0))⟩]) (.cond (.t 12) (.seq (.reg [⟨some 13,none,.load true 1 (.t 3)⟩,⟨none,none,(.store 1 (.t 2) (.t 13))⟩]) .ret) .skip)) (.seq (.reg [⟨some 14,none,.mv (.t 0)⟩,⟨some 15,none,.faddr 0 (.t 3)⟩,⟨some 16,none,.load false 1 (.t 15)⟩,⟨some 17,none,.len false (.t 16)⟩,⟨some 18,none,.call 20 [(.t 14),(.t 17)]⟩,⟨some 4,none,.mv (.t 18)⟩]) (.seq (.reg [⟨some 19,none,.faddr 0 (.t 3)⟩,⟨some 20,none,.load false 1 (.t 19)⟩,⟨some 21,none,.mv (.t 4)⟩,⟨some 22,none,.iaddr 3 (.t 20) (.t 21)⟩,⟨some 23,none,.load true 3 (.t 22)⟩,⟨(some 5),none,(.alloc 58 [(.str ⟨#[]⟩),(.str ⟨#[]⟩),.nil])⟩,⟨none,none,(.store 3 (.t 5) (.t 23))⟩]) (.seq (.seq (.reg [⟨some 24,none,.mv (.t 0)⟩,⟨some 25,none,.call 20 [(.t 24),(.c (.int .i64 24))]⟩]) (.block 0 (.seq (.reg [⟨some 27,none,.bin .eql false (.t 25) (.c (.int .i64 0))⟩,⟨some 26,none,.mv (.t 27)⟩]) (.cond (.t 26) (.reg [⟨some 28,none,.mv (.t 0)⟩,⟨(some 29),none,(.mkrow 9 1 [(.str ⟨#[]⟩)] 5 [(0,(.c (.str ⟨#[97]⟩))),(1,(.c (.str ⟨#[]⟩))),(2,(.c (.str ⟨#[84]⟩))),(3,(.c (.str ⟨#[90]⟩))),(4,(.c (.str ⟨#[90,122]⟩)))])⟩,⟨some 30,none,.call 52 [(.t 28),(.t 29)]⟩,⟨some 31,none,.faddr 0 (.t 5)⟩,⟨none,none,(.store 1 (.t 31) (.t 30))⟩]) (.seq (.reg [⟨some 33,none,.bin .eql false (.t 25) (.c (.int .i64 1))⟩,⟨some 32,none,.mv (.t 33)⟩]) (.cond (.t 32) (.reg [⟨some 34,none,.faddr 0 (.t 5)⟩,⟨some 35,none,.load false 1 (.t 34)⟩,⟨(some 36),none,(.build [(.str ⟨#[]⟩),.nil] [(0,(1,(.t 35)))])⟩,⟨some 37,none,.faddr 1 (.t 5)⟩,⟨none,none,(.store 2 (.t 37) (.t 36))⟩]) (.seq (.reg [⟨some 39,none,.bin .eql false (.t 25) (.c (.int .i64 2))⟩,⟨some 38,none,.mv (.t 39)⟩]) (.cond (.t 38) (.reg [⟨some 40,none,.mv (.t 0)⟩,⟨some 41,none,.call 31 [(.t 40)]⟩,⟨some 42,none,.faddr 1 (.t 5)⟩,⟨none,none,(.store 2 (.t 42) (.t 41))⟩]) (.seq (.reg [⟨some 44,none,.bin .eql false (.t 25) (.c (.int .i64 3))⟩,⟨some 43,none,.mv (.t 44)⟩]) (.cond (.t 43) (.seq (.seq (.reg [⟨some 6,none,.mv (.c (.int .i64 0))⟩]) (.block 1 (.loop [0,0,1,1,0,0,1,0,0,0,0,0,0,0,0,0,0,0,0,0,0,0,0,0,0,0,0,0,0,0,0,0,0,0,0,0,0,0,0,0,0,0,0,0,0,0,0,0,0,0,0,0,0,0,0,0,0,0,0,0,0,0,0,0,0,0,0,0,0,0,0,0,0,0,0] (.seq (.seq (.reg [⟨some 45,none,.mv (.t 6)⟩,⟨some 46,none,.bin .lss false (.t 45) (.c (.int .i64 9))⟩]) (.cond (.t 46) .skip (.exit 1))) (.seq (.block 2 (.dreg [[],[0],[],[2],[3,2],[4,3,2],[],[5,4,3,2,6],[7,5,4,3,2,6],[1,0,8,7,5,4,3,2,6],[0,1,2,3,4,5,6,7,8,9],[10,0,1,2,3,4,5,6,7,8,9]] [⟨some 49,none,.faddr 0 (.t 3)⟩,⟨some 50,none,.load false 1 (.t 49)⟩,⟨some 51,none,.mv (.t 6)⟩,⟨some 52,none,.bin .add false (.t 51) (.c (.int .i64 1))⟩,⟨some 53,none,.call 53 [(.t 52)]⟩,⟨(some 54),none,(.bin .add false (.c (.str ⟨#[90]⟩)) (.t 53))⟩,⟨(some 55),none,(.build [(.str ⟨#[]⟩),.nil] [(0,(1,(.c (.str ⟨#[97]⟩))))])⟩,⟨(some 56),none,(.build [(.str ⟨#[]⟩),(.str ⟨#[]⟩),.nil] [(0,(1,(.t 54))),(1,(2,(.t 55)))])⟩,⟨(some 57),none,(.mkrow 58 3 [(.str ⟨#[]⟩),(.str ⟨#[]⟩),.nil] 1 [(0,(.t 56))])⟩,⟨(some 58),none,(.append 58 3 56 [(.str ⟨#[]⟩),(.str ⟨#[]⟩),.nil] (.t 50) (.t 57))⟩,⟨some 59,none,.faddr 0 (.t 3)⟩,⟨none,none,(.store 1 (.t 59) (.t 58))⟩])) (.reg [⟨some 47,none,.mv (.t 6)⟩,⟨some 48,none,.bin .add false (.t 47) (.c (.int .i64 1))⟩,⟨some 6,none,.mv (.t 48)⟩])))))) (.seq (.reg [⟨some 60,none,.load true 1 (.t 3)⟩,⟨none,none,(.store 1 (.t 2) (.t 60))⟩]) .ret)) (.seq (.reg [⟨some 62,none,.bin .eql false (.t 25) (.c (.int .i64 4))⟩,⟨some 61,none,.mv (.t 62)⟩]) (.cond (.t 61) (.reg [⟨some 63,none,.mv (.t 0)⟩,⟨some 64,none,.mv (.t 0)⟩,⟨some 65,none,.call 20 [(.t 64),(.c (.int .i64 4))]⟩,⟨some 66,none,.bin .add false (.c (.int .i64 5)) (.t 65)⟩,⟨some 67,none,.call 54 [(.t 63),(.t 66)]⟩,⟨some 68,none,.faddr 1 (.t 5)⟩,⟨none,none,(.store 2 (.t 68) (.t 67))⟩]) .skip)))))))))))) (.seq (.reg [⟨some 69,none,.faddr 0 (.t 3)⟩,⟨some 70,none,.load false 1 (.t 69)⟩,⟨some 71,none,.mv (.t 4)⟩,⟨some 72,none,.load true 3 (.t 5)⟩,⟨some 73,none,.iaddr 3 (.t 70) (.t 71)⟩,⟨none,none,(.store 3 (.t 73) (.t 72))⟩]) (.seq (.reg [⟨some 74,none,.load true 1 (.t 3)⟩,⟨none,none,(.store 1 (.t 2) (.t 74))⟩]) .ret))))))))
theorem A9:Ar Try.prog 29=some ⟨75,A2,[(.cell 2 true 1)]⟩:=by kernel_rfl
theorem A3:modes 29=⟨[],.frz,none,false⟩:=by unfold modes; rfl
def C9:SC:=(.seq (.reg [⟨some 2,none,.alloc 31 [.nil]⟩]) (.seq (.reg [⟨some 4,none,.mv (.t 0)⟩,⟨some 5,none,.build [.nil,(.int .i64 0),(.int .u64 0)] [(0,(1,(.t 4)))]⟩,⟨some 6,none,.boxv 45 3 (.t 5)⟩,⟨some 3,none,.mv (.t 6)⟩]) (.seq (.reg [⟨some 7,none,.mv (.t 3)⟩,⟨some 8,none,.call 29 [(.t 7)]⟩,⟨none,none,(.store 1 (.t 2) (.t 8))⟩]) .ret)))
theorem Ec:Ar Try.prog 12=some ⟨9,C9,[(.cell 2 true 1)]⟩:=by kernel_rfl
theorem Ba:modes 12=⟨[],.frz,none,false⟩:=by unfold modes; rfl
theorem Bd.WL (b:Bd):b.d.map D.ot=[OT.str b.var,.str b.term.name,.sh (b.term.args.map Tm.d)]:=by rw [Bd.d_eq]; rfl
theorem WM {xs:List Bd} {k:Nat} (h:k<xs.length):(xs.map fun b=>b.d.map D.ot)[k]?=some [OT.str xs[k].var,.str xs[k].term.name,.sh (xs[k].term.args.map Tm.d)]:=by
 rw [List.getElem?_map,zY h,← Bd.WL]; rfl
theorem IG {xs:List Bd} {e:List OT} (k:Nat) (he:OT.Ck e=true):OT.Aq ((xs.map fun b=>b.d.map D.ot).set k e)=true:=OT.Gs k (Bd.dfu xs) he
theorem O8 (xs:List Bd) (k:Nat) (e:List OT) (b:Bd) (he:OT.ers e=b.d):OT.erss ((xs.map fun b=>b.d.map D.ot).set k e)=(xs.set k b).map Bd.d:=by
 rw [OT.I4,Bd.der,he,List.map_set]
abbrev hnm (n:ByteArray):List OT:=[.str n,.str ⟨#[97]⟩,.ow []]
abbrev bnm (n:ByteArray):Bd:=⟨n,.mk ⟨#[97]⟩ []⟩
theorem Tj:∀ ns:List ByteArray,OT.Aq (ns.map hnm)=true
 | []=>rfl
 | n :: ns=>by rw [zC]; simp only [OT.Aq,OT.Ck,OT.full,Tj ns,yA]
theorem Tk:∀ ns:List ByteArray,OT.erss (ns.map hnm)=(ns.map bnm).map Bd.d
 | []=>rfl
 | n :: ns=>by
  rw [zC,zC,zC,Bd.d_eq]
  simp only [OT.erss,OT.ers,OT.er,Tk ns]
  rfl
theorem Ge {xs:List Bd} {b:Bd} {k n:Nat} (h:∀ x∈xs,x.term.nodes≤n) (hb:b.term.nodes≤n):∀ x∈xs.set k b,x.term.nodes≤n:=fun x hx=>by
 rcases List.mem_or_eq_of_mem_set hx with h1 | rfl
 ·exact h x h1
 ·exact hb
def IH:SC:=(.seq (.reg [⟨(some 2),none,(.mv (.c (.str ⟨#[]⟩)))⟩]) (.seq (.seq (.reg [⟨some 3,none,.mv (.t 0)⟩,⟨some 4,none,.bin .lss false (.t 3) (.c (.int .i64 0))⟩]) (.cond (.t 4) (.seq (.reg [⟨some 5,none,.mv (.t 0)⟩,⟨some 6,none,.un .neg (.t 5)⟩,⟨some 7,none,.call 53 [(.t 6)]⟩,⟨(some 8),none,(.bin .add false (.c (.str ⟨#[45]⟩)) (.t 7))⟩,⟨some 2,none,.mv (.t 8)⟩]) .ret) .skip)) (.seq (.seq (.reg [⟨some 9,none,.mv (.t 0)⟩,⟨some 10,none,.bin .lss false (.t 9) (.c (.int .i64 10))⟩]) (.cond (.t 10) (.seq (.reg [⟨some 11,none,.mv (.t 0)⟩,⟨some 12,none,.mv (.t 0)⟩,⟨some 13,none,.bin .add false (.t 12) (.c (.int .i64 1))⟩,⟨(some 14),none,(.slice true 0 (.c (.str ⟨#[48,49,50,51,52,53,54,55,56,57]⟩)) (some (.t 11)) (some (.t 13)))⟩,⟨some 2,none,.mv (.t 14)⟩]) .ret) .skip)) (.seq (.dreg [[],[0],[1,0],[],[3],[],[5],[6,5],[4,3,7,6,5],[2,1,0,8,4,3,7,6,5],[9,2,1,0,8,4,3,7,6,5]] [⟨some 15,none,.mv (.t 0)⟩,⟨some 16,none,.bin .quo false (.t 15) (.c (.int .i64 10))⟩,⟨some 17,none,.call 53 [(.t 16)]⟩,⟨some 18,none,.mv (.t 0)⟩,⟨some 19,none,.bin .rem false (.t 18) (.c (.int .i64 10))⟩,⟨some 20,none,.mv (.t 0)⟩,⟨some 21,none,.bin .rem false (.t 20) (.c (.int .i64 10))⟩,⟨some 22,none,.bin .add false (.t 21) (.c (.int .i64 1))⟩,⟨(some 23),none,(.slice true 0 (.c (.str ⟨#[48,49,50,51,52,53,54,55,56,57]⟩)) (some (.t 19)) (some (.t 22)))⟩,⟨some 24,none,.bin .add false (.t 17) (.t 23)⟩,⟨some 2,none,.mv (.t 24)⟩]) .ret))))
theorem Nx:Ar Try.prog 53=some ⟨25,IH,[(.tmp 2)]⟩:=by kernel_rfl
theorem BF:modes 53=⟨[],.asis,none,false⟩:=by unfold modes; rfl
theorem Wp (d:Nat) (h:d<10):(⟨#[48,49,50,51,52,53,54,55,56,57]⟩:ByteArray).extract d (d+1)=⟨#[UInt8.ofNat (48+d)]⟩:=by
 have key:∀ d:_root_.Fin 10,(⟨#[48,49,50,51,52,53,54,55,56,57]⟩:ByteArray).extract d.val (d.val+1)=⟨#[UInt8.ofNat (48+d.val)]⟩:=by decide +kernel
 exact key ⟨d,h⟩
def Kd (n:Int):ByteArray:=⟨#[UInt8.ofNat (48+n.toNat)]⟩
theorem Tl (n:Int) (h0:0≤n) (h:n<10):E 53 [.int .i64 n] []=some (.str (Kd n),[]):=by
 have hsz:(⟨#[48,49,50,51,52,53,54,55,56,57]⟩:ByteArray).size=10:=rfl
 have e1:=Wp n.toNat (by omega)
 have e2:(n+1).toNat=n.toNat+1:=by omega
 unfold Kd
 refine Af Nx BF (of_decide_eq_true rfl) ?_
 simp (disch:=omega) only [IH,go_sem,Aa,hsz,e1,e2,BF]
theorem II (l:List Int) (hl:Bytes l) (hn:l.length≤1099511627776) (p s:Int) (h0:0≤p) (h1:p≤1080000000000):∃ (x:Sb) (p' s':Int),E 29 [.ptr 0 0] [cur l p s]=some (x.sv,[cur l p' s'])∧(p≤p'∧p'≤p+1000)∧x.binds.length≤13∧∀ b∈x.binds,b.term.nodes≤150:=by
 obtain ⟨Q,hQ⟩:∃ Q:SV × List Ob→Prop,Q=fun out=>∃ x p' s',out=(Sb.sv x,[cur l p' s'])∧(p≤p'∧p'≤p+1000)∧x.binds.length≤13∧∀ b∈x.binds,b.term.nodes≤150:=⟨_,rfl⟩
 suffices hq0:∃ out,E 29 [.ptr 0 0] [cur l p s]=some out∧Q out by
  obtain ⟨out,hq1,hq2⟩:=hq0
  rw [hQ] at hq2
  obtain ⟨x,p',s',rfl,hq3⟩:=hq2
  exact ⟨x,p',s',hq1,hq3⟩
 obtain ⟨z,xs,p1,s1,hsu,⟨g1,g2⟩,hxl,hxn,hz⟩:=GY l hl hn p s h0 (by omega)
 have hx150:∀ b∈xs,b.term.nodes≤150:=fun b hb=>by have:=hxn b hb; omega
 cases z with
 | true =>
  rw [cond_true] at hsu
  refine AH A9 A3 (of_decide_eq_true rfl) ?_
  simp (disch:=omega) only [A2,go_sem,Aa,hsu,Ah,Ac,Au,Am,Av,BF]
  rw [hQ]
  exact ⟨⟨[]⟩,p1,s1,rfl,by omega,by simp,by simp⟩
 | false =>
  rw [cond_false] at hsu
  by_cases hxe:xs.length=0
  ·obtain rfl:xs=[]:=List.length_eq_zero_iff.1 hxe
   refine AH A9 A3 (of_decide_eq_true rfl) ?_
   simp (disch:=omega) only [A2,go_sem,Aa,hsu,Ah,Ac,Au,Am,Av,BF]
   rw [hQ]
   exact ⟨⟨[]⟩,p1,s1,rfl,by omega,by simp,by simp⟩
  ·have hl0:((xs.length:Int)=0)=False:=eq_false (by omega)
   obtain ⟨v,p2,s2,hv,⟨v0,v1⟩,g3,g4⟩:=EY l hl hn xs.length (by omega) (by omega) p1 s1 (by omega) (by omega)
   have hkl:v.toNat<xs.length:=by omega
   have hgx:=WM hkl
   obtain ⟨w,p3,s3,hw,⟨w0,w1⟩,g5,g6⟩:=EY l hl hn 24 (by omega) (by omega) p2 s2 (by omega) (by omega)
   obtain ⟨b,hb⟩:∃ b,b=xs[v.toNat]:=⟨_,rfl⟩
   have hbn:b.term.nodes≤7:=by rw [hb]; exact hxn _ (zF hkl)
   rw [←hb] at hgx
   rcases (show w=0∨w=1∨w=2∨w=3∨w=4∨(¬ w=0∧¬ w=1∧¬ w=2∧¬ w=3∧¬ w=4) by omega) with rfl | rfl | rfl | rfl | rfl | ⟨k0,k1,k2,k3,k4⟩
   ·obtain ⟨u,p4,s4,hu,_,g7,g8⟩:=SK l hl hn [⟨#[97]⟩,⟨#[]⟩,⟨#[84]⟩,⟨#[90]⟩,⟨#[90,122]⟩] (by decide) (by decide) p3 s3 (by omega) (by omega)
    simp only [zC,zD] at hu
    have hfu:=IG (xs:=xs) v.toNat (e:=[OT.str u,.str b.term.name,.sh (b.term.args.map Tm.d)]) rfl
    have her:=O8 xs v.toNat [OT.str u,.str b.term.name,.sh (b.term.args.map Tm.d)] ⟨u,b.term⟩ rfl
    refine AH A9 A3 (of_decide_eq_true rfl) ?_
    simp (disch:=omega) only [A2,go_sem,Aa,hsu,zB,hl0,hv,hgx,hkl,hw,hu,hfu,her,Ah,Ac,Au,Am,Av,BF]
    rw [hQ]
    exact ⟨⟨xs.set v.toNat ⟨u,b.term⟩⟩,p4,s4,rfl,by omega,by show (xs.set _ _).length≤_; rw [yK]; omega,Ge hx150 (by show b.term.nodes≤_; omega)⟩
   ·have hfu:=IG (xs:=xs) v.toNat (e:=[OT.str b.var,.str b.var,.ow []]) rfl
    have her:=O8 xs v.toNat [OT.str b.var,.str b.var,.ow []] ⟨b.var,.mk b.var []⟩ rfl
    refine AH A9 A3 (of_decide_eq_true rfl) ?_
    simp (disch:=omega) only [A2,go_sem,Aa,hsu,zB,hl0,hv,hgx,hkl,hw,hfu,her,Ah,Ac,Au,Am,Av,BF]
    rw [hQ]
    exact ⟨⟨xs.set v.toNat ⟨b.var,.mk b.var []⟩⟩,p3,s3,rfl,by omega,by show (xs.set _ _).length≤_; rw [yK]; omega,Ge hx150 (by show (Tm.mk b.var []).nodes≤_; rw [Tm.CW]; simp [Tm.AK])⟩
   ·obtain ⟨t,p4,s4,ht,⟨g7,g8⟩,g9⟩:=M7 l hl hn p3 s3 (by omega) (by omega)
    have hfu:=IG (xs:=xs) v.toNat (e:=[OT.str b.var,.str t.name,.ow (t.args.map Tm.osh)]) (by simp only [OT.Ck,OT.full,Tm.D5,yA])
    have her:=O8 xs v.toNat [OT.str b.var,.str t.name,.ow (t.args.map Tm.osh)] ⟨b.var,t⟩ (by rw [Bd.d_eq]; simp only [OT.ers,OT.er,Tm.FA])
    refine AH A9 A3 (of_decide_eq_true rfl) ?_
    simp (disch:=omega) only [A2,go_sem,Aa,hsu,zB,hl0,hv,hgx,hkl,hw,ht,hfu,her,Ah,Ac,Au,Am,Av,BF]
    rw [hQ]
    exact ⟨⟨xs.set v.toNat ⟨b.var,t⟩⟩,p4,s4,rfl,by omega,by show (xs.set _ _).length≤_; rw [yK]; omega,Ge hx150 (by show t.nodes≤_; omega)⟩
   ·obtain ⟨p5,hp5⟩:∃ p5,p5=p3:=⟨_,rfl⟩
    obtain ⟨s5,hs5⟩:∃ s5,s5=s3:=⟨_,rfl⟩
    rw [←hp5,← hs5] at hw
    refine AH A9 A3 (of_decide_eq_true rfl) ?_
    simp (disch:=omega) only [A2,go_sem,Aa,hsu,zB,hl0,hv,hgx,hkl,hw,Ah,Ac,Au,Am,Av,BF]
    refine go_loop (α:=Int × List ByteArray) (fun a=>⟨slots 75 0 [(2,.ptr 1 0),(3,.ptr 2 0),(6,.int .i64 a.1)],[cur l p5 s5,.box 31 [.nil],.box 31 [.ref 3],.row 58 3 ((xs.map fun b=>b.d.map D.ot)++a.2.map hnm)]⟩) (fun a=>∃ k:Nat,a.1=k∧k≤9∧a.2.length≤k) (fun a=>(9-a.1).toNat) (0,[]) ⟨0,rfl,by omega,by simp⟩ (by (simp (disch:=omega) only [go_sem,Aa,zD,yT]) <;> first | trivial | rfl | exact ⟨rfl,rfl⟩) ?_
    rintro ⟨i,ns⟩ ⟨k,hi,hk,hal⟩
    dsimp only at hi hal
    rcases zT k 9 with hlt | hge
    ·have q1:(i<9)=True:=eq_true (by omega)
     have hnum:=Tl (i+1) (by omega) (by omega)
     have hns:(Kd (i+1)).size=1:=rfl
     have hz1:(⟨#[90]⟩:ByteArray).size=1:=rfl
     have hz2:(#[90]:Array UInt8).size=1:=rfl
     have hz3:dec (1+1≤9223372036854775807)=true:=AV (by omega)
     have hap:((xs.map fun b=>b.d.map D.ot)++ns.map hnm).length=xs.length+ns.length:=by rw [zS,zB,zB]
     simp (disch:=omega) only [go_sem,Aa,q1,hnum,hz1,hz2,hns,hz3,hap,Ah,Ac,Au,Am,Av,BF]
     refine ⟨(i+1,ns++[⟨#[90]⟩++Kd (i+1)]),⟨k+1,by dsimp only; omega,by omega,by simp only [zS,yP,zA]; omega⟩,by dsimp only; omega,?_⟩
     dsimp only
     rw [zE,← yG]
     first | trivial | rfl | exact ⟨rfl,rfl⟩
    ·have q1:(i<9)=False:=eq_false (by omega)
     simp (disch:=omega) only [go_sem,Aa,q1,Bd.dfu,Bd.der,Tj,Tk,yA]
     rw [hQ]
     refine ⟨⟨xs++ns.map bnm⟩,p5,s5,?_,by omega,by show (xs++ns.map bnm).length≤_; rw [zS,zB]; omega,fun b hb=>?_⟩
     ·show _=(SV.agg [.arr ((xs++ns.map bnm).map Bd.d)],[cur l p5 s5])
      rw [zE]
     ·rcases z8.1 hb with h | h
      ·exact hx150 b h
      ·obtain ⟨n,_,rfl⟩:=z2.1 h
       show (Tm.mk ⟨#[97]⟩ []).nodes≤_
       rw [Tm.CW]; simp [Tm.AK]
   ·obtain ⟨u,p4,s4,hu,⟨u0,u1⟩,g7,g8⟩:=EY l hl hn 4 (by omega) (by omega) p3 s3 (by omega) (by omega)
    have hi:dec (inK .i64 (5+u))=true:=Gr (by omega) (by omega)
    obtain ⟨t,p5,s5,ht,⟨g9,g10⟩,g11⟩:=Qm l hl hn (5+u) (by omega) (by omega) p4 s4 (by omega) (by omega)
    have hfu:=IG (xs:=xs) v.toNat (e:=[OT.str b.var,.str t.name,.ow (t.args.map Tm.osh)]) (by simp only [OT.Ck,OT.full,Tm.D5,yA])
    have her:=O8 xs v.toNat [OT.str b.var,.str t.name,.ow (t.args.map Tm.osh)] ⟨b.var,t⟩ (by rw [Bd.d_eq]; simp only [OT.ers,OT.er,Tm.FA])
    refine AH A9 A3 (of_decide_eq_true rfl) ?_
    simp (disch:=omega) only [A2,go_sem,Aa,hsu,zB,hl0,hv,hgx,hkl,hw,hu,hi,ht,hfu,her,Ah,Ac,Au,Am,Av,BF]
    rw [hQ]
    exact ⟨⟨xs.set v.toNat ⟨b.var,t⟩⟩,p5,s5,rfl,by omega,by show (xs.set _ _).length≤_; rw [yK]; omega,Ge hx150 (by show t.nodes≤_; omega)⟩
   ·have k0:=eq_false k0
    have k1:=eq_false k1
    have k2:=eq_false k2
    have k3:=eq_false k3
    have k4:=eq_false k4
    have hfu:=IG (xs:=xs) v.toNat (e:=[OT.str b.var,.str b.term.name,.sh (b.term.args.map Tm.d)]) rfl
    have her:=O8 xs v.toNat [OT.str b.var,.str b.term.name,.sh (b.term.args.map Tm.d)] b (by rw [Bd.d_eq]; rfl)
    refine AH A9 A3 (of_decide_eq_true rfl) ?_
    simp (disch:=omega) only [A2,go_sem,Aa,hsu,zB,hl0,hv,hgx,hkl,hw,k0,k1,k2,k3,k4,hfu,her,Ah,Ac,Au,Am,Av,BF]
    rw [hQ]
    exact ⟨⟨xs.set v.toNat b⟩,p3,s3,rfl,by omega,by show (xs.set _ _).length≤_; rw [yK]; omega,Ge hx150 (by omega)⟩
theorem P7 {x:Sb} (h1:x.binds.length≤13) (h2:∀ b∈x.binds,b.term.nodes≤150):x.tame:=⟨by omega,fun b hb=>by have:=h2 b hb; omega⟩
theorem Fo (l:List Int) (hl:Bytes l) (hn:l.length≤1099511627776):∃ x:Sb,E 12 [.arr (l.map by_)] []=some (x.sv,[])∧x.tame:=by
 obtain ⟨x,p1,s1,hx,_,g1,g2⟩:=II l hl hn 0 0 (by omega) (by omega)
 have hxs:x.sv=.agg [.arr (x.binds.map Bd.d)]:=rfl
 refine ⟨x,?_,P7 g1 g2⟩
 refine Af Ec Ba (of_decide_eq_true rfl) ?_
 simp (disch:=omega) only [C9,go_sem,Aa,hx,A3]
def AO:SC:=(.seq (.reg [⟨(some 2),none,(.alloc 26 [(.str ⟨#[]⟩),.nil])⟩,⟨(some 3),none,(.alloc 26 [(.str ⟨#[]⟩),.nil])⟩]) (.seq (.reg [⟨some 7,none,.mv (.t 0)⟩,⟨some 8,none,.build [.nil,(.int .i64 0),(.int .u64 0)] [(0,(1,(.t 7)))]⟩,⟨some 9,none,.boxv 45 3 (.t 8)⟩,⟨some 4,none,.mv (.t 9)⟩]) (.seq (.reg [⟨some 10,none,.mv (.t 4)⟩,⟨some 11,none,.call 14 [(.t 10)]⟩,⟨(some 5),none,(.alloc 26 [(.str ⟨#[]⟩),.nil])⟩,⟨none,none,(.store 2 (.t 5) (.t 11))⟩]) (.seq (.seq (.reg [⟨some 12,none,.mv (.t 4)⟩,⟨some 13,none,.call 15 [(.t 12),(.c (.int .i64 4))]⟩,⟨some 14,none,.mv (.t 13)⟩,⟨(some 15),(some (14,false)),(.load true 2 (.t 5))⟩,⟨(some 16),(some (14,false)),(.call 16 [(.t 15)])⟩,⟨(some 17),(some (14,false)),(.un .not (.t 16))⟩,⟨some 18,none,.pick (.t 14) (.c (.bool true)) (.t 17)⟩]) (.cond (.t 18) (.seq (.dreg [[],[],[1],[0,2,1],[2,1,3,0]] [⟨some 19,none,.load true 2 (.t 5)⟩,⟨some 20,none,.mv (.t 4)⟩,⟨some 21,none,.call 14 [(.t 20)]⟩,⟨none,none,(.store 2 (.t 2) (.t 19))⟩,⟨none,none,(.store 2 (.t 3) (.t 21))⟩]) .ret) .skip)) (.seq (.dreg [[],[0],[],[1,0,2],[],[4,3,1,0,2]] [⟨some 22,none,.mv (.t 4)⟩,⟨some 23,none,.call 18 [(.t 22)]⟩,⟨some 24,none,.load true 2 (.t 5)⟩,⟨some 25,none,.call 17 [(.t 23),(.t 24)]⟩,⟨(some 6),none,(.alloc 26 [(.str ⟨#[]⟩),.nil])⟩,⟨none,none,(.store 2 (.t 6) (.t 25))⟩]) (.seq (.seq (.reg [⟨some 26,none,.mv (.t 4)⟩,⟨some 27,none,.call 15 [(.t 26),(.c (.int .i64 6))]⟩,⟨some 28,none,.mv (.t 27)⟩,⟨(some 29),(some (28,true)),(.faddr 1 (.t 6))⟩,⟨(some 30),(some (28,true)),(.load false 1 (.t 29))⟩,⟨(some 31),(some (28,true)),(.len false (.t 30))⟩,⟨(some 32),(some (28,true)),(.bin .gtr false (.t 31) (.c (.int .i64 0)))⟩,⟨some 33,none,.pick (.t 28) (.t 32) (.c (.bool false))⟩]) (.cond (.t 33) (.dreg [[],[0],[],[],[3],[4,3],[2,5,4,3],[],[7,6,2,5,4,3],[1,0,6,2,5,4,3,7,8],[9,1,0,6,2,5,4,3,7,8]] [⟨some 34,none,.faddr 1 (.t 6)⟩,⟨some 35,none,.load false 1 (.t 34)⟩,⟨some 36,none,.mv (.t 4)⟩,⟨some 37,none,.faddr 1 (.t 6)⟩,⟨some 38,none,.load false 1 (.t 37)⟩,⟨some 39,none,.len false (.t 38)⟩,⟨some 40,none,.call 20 [(.t 36),(.t 39)]⟩,⟨some 41,none,.mv (.t 4)⟩,⟨some 42,none,.call 19 [(.t 41)]⟩,⟨some 43,none,.iaddr 2 (.t 35) (.t 40)⟩,⟨none,none,(.store 2 (.t 43) (.t 42))⟩]) .skip)) (.seq (.dreg [[],[],[0],[1,2,0]] [⟨some 44,none,.load true 2 (.t 5)⟩,⟨some 45,none,.load true 2 (.t 6)⟩,⟨none,none,(.store 2 (.t 2) (.t 44))⟩,⟨none,none,(.store 2 (.t 3) (.t 45))⟩]) .ret)))))))
theorem AW:Ar Try.prog 5=some ⟨46,AO,[(.cell 2 true 2),(.cell 3 true 2)]⟩:=by kernel_rfl
theorem A6:modes 5=⟨[],.frz,none,false⟩:=by unfold modes; rfl
theorem Tm.Vh {m:Nat} (hm:1≤m) {f:ByteArray→Option Tm} (hf:∀ n t,f n=some t→t.nodes≤m) (x:Tm):(x.ap f).nodes≤m*x.nodes:=by
 have key:∀ xs:List Tm,(∀ y∈xs,(y.ap f).nodes≤m*y.nodes)→Tm.AK (xs.map (Tm.ap f))≤m*Tm.AK xs:=by
  intro xs
  induction xs with
  | nil=>intro _; simp [Tm.AK]
  | cons y ys ih =>
   intro h
   have h1:=h y (by simp)
   have h2:=ih fun z hz=>h z (by simp [hz])
   rw [zC,Tm.AK,Tm.AK,Nat.mul_add]; omega
 have h1:=key x.args fun y hy=>Tm.Vh hm hf y
 rw [Tm.Fh,Tm.Aj x,Nat.mul_add,Nat.mul_one]
 by_cases hv:Bh x.name=true
 ·rw [if_pos hv]
  cases hq:f x.name with
  | none =>
   show (Tm.mk x.name []).nodes≤_
   rw [Tm.CW]
   simp only [Tm.AK]; omega
  | some t =>
   have:=hf _ _ hq
   show t.nodes≤_
   omega
 ·rw [if_neg hv,Tm.CW,Tm.Gw]; omega
termination_by SizeOf.sizeOf x
decreasing_by exact Tm.A8 hy
theorem Qw {xs:List Bd} {m:Nat} (h:∀ b∈xs,b.term.nodes≤m):∀ n t,(Sb.mk xs).look n=some t→t.nodes≤m:=fun n t hq=>by
 unfold Sb.look at hq
 split at hq
 ·rename_i hh
  obtain rfl:=zH hq
  exact h _ (zF _)
 ·cases hq
theorem O9 (l:List Int) (hl:Bytes l) (hn:l.length≤1099511627776):∃ p t:Tm,E 5 [.arr (l.map by_)] []=some (.tup [p.sv,t.sv],[])∧p.nodes≤1000∧t.nodes≤2000:=by
 obtain ⟨Q,hQ⟩:∃ Q:SV × List Ob→Prop,Q=fun out=>∃ a b,out=(.tup [Tm.sv a,Tm.sv b],[])∧Tm.nodes a≤1000∧Tm.nodes b≤2000:=⟨_,rfl⟩
 suffices hq0:∃ out,E 5 [.arr (l.map by_)] []=some out∧Q out by
  obtain ⟨out,hq1,hq2⟩:=hq0
  rw [hQ] at hq2
  obtain ⟨a,b,rfl,hq3⟩:=hq2
  exact ⟨a,b,hq1,hq3⟩
 obtain ⟨t,p1,s1,ht,⟨g1,g2⟩,g3⟩:=I6 l hl hn 0 0 (by omega) (by omega)
 obtain ⟨b,p2,s2,ho,g4,g5⟩:=I1 l hl hn 4 (by omega) (by omega) p1 s1 (by omega) (by omega)
 obtain ⟨u,p3,s3,hu,⟨g6,g7⟩,g8⟩:=I6 l hl hn p2 s2 (by omega) (by omega)
 have h1:=Nw t (by omega)
 cases b with
 | true =>
  refine AH AW A6 (of_decide_eq_true rfl) ?_
  simp (disch:=omega) only [AO,go_sem,Aa,ht,h1,ho,hu,A5,Ak,Ah,Ac,Ae,AN,AZ]
  rw [hQ]
  exact ⟨t,u,rfl,by omega,by omega⟩
 | false =>
  cases hx:t.expr with
  | false =>
   rw [hx] at h1
   refine AH AW A6 (of_decide_eq_true rfl) ?_
   simp (disch:=omega) only [AO,go_sem,Aa,ht,h1,ho,hu,A5,Ak,Ah,Ac,Ae,AN,AZ]
   rw [hQ]
   exact ⟨t,u,rfl,by omega,by omega⟩
  | true =>
   rw [hx] at h1
   obtain ⟨z,xs,p4,s4,hsu,⟨a1,a2⟩,hxl,hxn,hz,hdr⟩:=GY l hl hn p2 s2 (by omega) (by omega)
   have htame:(Sb.mk xs).tame:=⟨by show xs.length≤_; omega,fun y hy=>by have:=hxn y hy; omega⟩
   have hap:=MA ⟨xs⟩ hdr.fine htame t (by omega)
   obtain ⟨w,hw⟩:∃ w,w=t.ap (Sb.mk xs).look:=⟨_,rfl⟩
   have hwn:w.nodes≤7*t.nodes:=by rw [hw]; exact Tm.Vh (by omega) (Qw hxn) t
   have hwa:w.args.length≤200:=by
    have hb:=Tm.GQ w
    have hc:=Tm.GQ t
    rw [hw,Tm.Fh] at *
    by_cases hv:Bh t.name=true
    ·rw [if_pos hv]
     cases hq:(Sb.mk xs).look t.name with
     | none=>simp [Tm.args]
     | some y =>
      have h3:=Qw hxn _ _ hq
      have h4:=Tm.GQ y
      simp only [Option.getD_some]
      omega
    ·rw [if_neg hv,Tm.Gw]
     simp only [Tm.args,zB] at *
     omega
   rw [←hw] at hap
   have hsv:(Sb.mk xs).sv=.agg [.arr (xs.map Bd.d)]:=rfl
   rw [hsv] at hap
   obtain ⟨b2,p5,s5,ho2,a3,a4⟩:=I1 l hl hn 6 (by omega) (by omega) p4 s4 (by omega) (by omega)
   have fin:∀ k:Nat,∀ y:Tm,y.nodes≤7→(Tm.mk w.name (w.args.set k y)).nodes≤2000:=fun k y hy=>by
    have hz:Tm.AK (w.args.set k y)≤Tm.AK w.args+y.nodes:=Tm.M6 _ _ _
    rw [Tm.CW]
    have:=Tm.Aj w
    omega
   cases z with
   | true =>
    rw [hz rfl] at hap
    simp only [zD] at hap
    rw [cond_true] at hsu
    cases b2 with
    | false =>
     refine AH AW A6 (of_decide_eq_true rfl) ?_
     simp (disch:=omega) only [AO,go_sem,Aa,ht,h1,ho,hsu,hap,ho2,Bd.dfu,Bd.der,Tm.osv,Tm.obs,A5,Ak,Ah,Ac,Ae,AN,AZ]
     rw [hQ]
     exact ⟨t,w,rfl,by omega,by omega⟩
    | true =>
     by_cases hc:0<w.args.length
     ·have q0:((0:Int)<(w.args.length:Int))=True:=eq_true (by omega)
      obtain ⟨k,p6,s6,hk,⟨k0,k1⟩,c1,c2⟩:=EY l hl hn w.args.length (by omega) (by omega) p5 s5 (by omega) (by omega)
      obtain ⟨y,p7,s7,hy,⟨b1,b2⟩,b3⟩:=FB l hl hn p6 s6 (by omega) (by omega)
      have q1:k.toNat<w.args.length:=by omega
      have hgl:=get_at Tm.o q1
      rw [Tm.Hz] at hgl
      have hf:OT.Aq ((w.args.map Tm.o).set k.toNat [.str y.name,.ow (y.args.map Tm.osh)])=true:=OT.Gs _ (Tm.fus _) (by simp only [OT.Ck,OT.full,Tm.D5,yA])
      have he:OT.erss ((w.args.map Tm.o).set k.toNat [.str y.name,.ow (y.args.map Tm.osh)])=(w.args.set k.toNat y).map Tm.d:=by
       rw [OT.I4,Tm.erss,List.map_set,Tm.d_eq y]
       simp only [OT.ers,OT.er,Tm.FA]
      refine AH AW A6 (of_decide_eq_true rfl) ?_
      simp (disch:=omega) only [AO,go_sem,Aa,ht,h1,ho,hsu,hap,ho2,Bd.dfu,Bd.der,Tm.osv,Tm.obs,q0,hk,hy,hgl,q1,hf,he,A5,Ak,Ah,Ac,Ae,AN,AZ]
      rw [hQ]
      exact ⟨t,.mk w.name (w.args.set k.toNat y),rfl,by omega,fin _ y b3⟩
     ·have q0:((0:Int)<(w.args.length:Int))=False:=eq_false (by omega)
      refine AH AW A6 (of_decide_eq_true rfl) ?_
      simp (disch:=omega) only [AO,go_sem,Aa,ht,h1,ho,hsu,hap,ho2,Bd.dfu,Bd.der,Tm.osv,Tm.obs,q0,A5,Ak,Ah,Ac,Ae,AN,AZ]
      rw [hQ]
      exact ⟨t,w,rfl,by omega,by omega⟩
   | false =>
    rw [cond_false] at hsu
    cases b2 with
    | false =>
     refine AH AW A6 (of_decide_eq_true rfl) ?_
     simp (disch:=omega) only [AO,go_sem,Aa,ht,h1,ho,hsu,hap,ho2,Bd.dfu,Bd.der,Tm.osv,Tm.obs,A5,Ak,Ah,Ac,Ae,AN,AZ]
     rw [hQ]
     exact ⟨t,w,rfl,by omega,by omega⟩
    | true =>
     by_cases hc:0<w.args.length
     ·have q0:((0:Int)<(w.args.length:Int))=True:=eq_true (by omega)
      obtain ⟨k,p6,s6,hk,⟨k0,k1⟩,c1,c2⟩:=EY l hl hn w.args.length (by omega) (by omega) p5 s5 (by omega) (by omega)
      obtain ⟨y,p7,s7,hy,⟨b1,b2⟩,b3⟩:=FB l hl hn p6 s6 (by omega) (by omega)
      have q1:k.toNat<w.args.length:=by omega
      have hgl:=get_at Tm.o q1
      rw [Tm.Hz] at hgl
      have hf:OT.Aq ((w.args.map Tm.o).set k.toNat [.str y.name,.ow (y.args.map Tm.osh)])=true:=OT.Gs _ (Tm.fus _) (by simp only [OT.Ck,OT.full,Tm.D5,yA])
      have he:OT.erss ((w.args.map Tm.o).set k.toNat [.str y.name,.ow (y.args.map Tm.osh)])=(w.args.set k.toNat y).map Tm.d:=by
       rw [OT.I4,Tm.erss,List.map_set,Tm.d_eq y]
       simp only [OT.ers,OT.er,Tm.FA]
      refine AH AW A6 (of_decide_eq_true rfl) ?_
      simp (disch:=omega) only [AO,go_sem,Aa,ht,h1,ho,hsu,hap,ho2,Bd.dfu,Bd.der,Tm.osv,Tm.obs,q0,hk,hy,hgl,q1,hf,he,A5,Ak,Ah,Ac,Ae,AN,AZ]
      rw [hQ]
      exact ⟨t,.mk w.name (w.args.set k.toNat y),rfl,by omega,fin _ y b3⟩
     ·have q0:((0:Int)<(w.args.length:Int))=False:=eq_false (by omega)
      refine AH AW A6 (of_decide_eq_true rfl) ?_
      simp (disch:=omega) only [AO,go_sem,Aa,ht,h1,ho,hsu,hap,ho2,Bd.dfu,Bd.der,Tm.osv,Tm.obs,q0,A5,Ak,Ah,Ac,Ae,AN,AZ]
      rw [hQ]
      exact ⟨t,w,rfl,by omega,by omega⟩
theorem P8 {c:Ctx} {sc' sc:SC} {st:St} {K:X→St→Prop} (hl:BQ sc' sc) (h:go c.m sc' st K):Run Try.prog c sc K st:=by
 obtain ⟨x,st',h1,hk⟩:=h
 obtain ⟨n,h2⟩:=CP sc' st (x,st') h1
 exact Dw IU (KB (KM IU KW n)) (J7 IU n) sc' sc st (x,st') hl h2 K hk
def RunL (c:Ctx) (sc':SC) (K:X→St→Prop) (st:St):Prop:=∀ sc,BQ sc' sc→Run Try.prog c sc K st
section
variable {c:Ctx} {K:X→St→Prop} {st:St}
theorem RunL.go {sc':SC} (h:go c.m sc' st K):RunL c sc' K st:=fun sc hl=>P8 hl h
def Wq (c:Ctx) (b:SC) (K:X→St→Prop):X→St→Prop
 | .normal,st=>RunL c b K st
 | .exit i,st=>K (.exit i) st
 | .ret,st=>K .ret st
theorem RunL.seq {a b:SC} (h:RunL c a (Wq c b K) st):RunL c (.seq a b) K st:=fun sc hl=>by
 cases sc <;> simp only [BQ] at hl
 rename_i a' b'
 refine Run.seq fun code hc a w Q hl1 hr hq=>h a' hl.1 code hc a w Q hl1 hr fun x st' a1 w1 hk=>hq x st' a1 w1 ?_
 cases x with
 | normal=>exact hk b' hl.2
 | exit i=>exact hk
 | ret=>exact hk
theorem RunL.block {id:Nat} {b:SC} (h:RunL c b (blk id K) st):RunL c (.block id b) K st:=fun sc hl=>by
 cases sc <;> simp only [BQ] at hl
 rename_i id' b'
 obtain ⟨rfl,hl⟩:=hl
 refine Run.block fun code hc a w Q hl1 hr hq=>h b' hl code hc a w Q hl1 hr fun x st' a1 w1 hk=>hq x st' a1 w1 ?_
 cases x with
 | normal=>exact hk
 | exit i=>exact hk
 | ret=>exact hk
theorem RunL.loop {α:Type} {keep:List Nat} {b:SC} (H:α→St) (R:α→Prop) (μ:α→Nat) (x0:α) (hR:R x0) (h0:Weak c st (H x0))
  (round:∀ x,R x→RunL c b (fun e st'=>match e with | .normal=>∃ y,R y∧μ y < μ x∧Weak c st' (H y) | e=>K e st') (H x)):RunL c (.loop keep b) K st:=fun sc hl=>by
 cases sc <;> simp only [BQ] at hl
 rename_i j b'
 refine Iq (α:={ x // R x }) (fun x=>H x.1) (fun x=>μ x.1) ⟨x0,hR⟩ h0 fun x=>?_
 intro code hc a w Q hl1 hr hq
 refine round x.1 x.2 b' hl code hc a w Q hl1 hr fun e st' a1 w1 hk=>hq e st' a1 w1 ?_
 cases e with
 | normal =>
  obtain ⟨y,h1,h2,h3⟩:=hk
  exact ⟨⟨y,h1⟩,h2,h3⟩
 | exit i=>exact hk
 | ret=>exact hk
def mrK (n:Nat) (keep:List Nat) (s:St):X→St→Prop
 | .normal,st'=>canon n keep st'=s
 | .exit _,_=>False
 | .ret,_=>False
def Vi (K:X→St→Prop):X→St→Prop
 | .normal,_=>False
 | .exit i,st'=>K (.exit i) st'
 | .ret,st'=>K .ret st'
theorem RunL.mloop {keep keepO:List Nat} {it:SX} {nx more:Nat} {b:SC} (f:MF) (L0:EL) (hL0:Enum f L0) (H:EL→St) (g:Nat) (ks:Bool)
  (h0:canon c.m keep st=H []) (hit:∀ p:EL,MY it (H p)=some (g,ks,f,(p.map (·.1)).reverse))
  (round:∀ (p:EL) (k:MK) (x:MV),(p.map (·.1)).Nodup→(∀ e,e∈p→f e.1=some e.2)→f k=some x→k ∉ p.map (·.1)→Go.Proofs.Ytjkcamgfimpggaa.go c.m b (Ew nx more (H p) true [(g,.it ks f (k :: (p.map (·.1)).reverse) (some (k,x)))]) (mrK c.m keep (H (p++[(k,x)]))))
  (fin:∀ p:EL,Enum f p→Go.Proofs.Ytjkcamgfimpggaa.go c.m b (Ew nx more (H p) false []) (Vi K)):RunL c (.mloop keep keepO it nx more b) K st:=fun sc hl=>by
 cases sc <;> (try simp only [BQ] at hl)
 rename_i junk b0
 cases b0 <;> (try simp only [BQ] at hl)
 rename_i n0 b'
 cases n0 <;> (try simp only [BQ] at hl)
 obtain ⟨rfl,rfl,rfl,hlike⟩:=hl
 let A:={ p:EL // (p.map (·.1)).Nodup∧∀ e,e∈p→f e.1=some e.2 }
 let μ:A→Nat:=fun q=>(L0.filter fun e=>!dec (e.1∈q.1.map (·.1))).length
 refine Iq (α:=A) (fun q=>H q.1) μ ⟨[],yH,fun e he=>(by cases he)⟩ (h0▸Cq) fun q=>?_
 obtain ⟨l,g1,g2⟩:=q
 refine Run.seq (Ex IU _ _ _ ?_)
 obtain ⟨e1,cur,e2⟩:=Mk (hit l)
 simp only [sw]
 rw [e1]
 simp only
 rw [e2]
 simp only
 refine ⟨trivial,fun hend=>?_,fun k x hk hn=>?_⟩
 ·have hE:Enum f l:=by
   refine ⟨g1,fun k x=>⟨fun hm=>g2 _ hm,fun hk=>?_⟩⟩
   have:=hend k x hk
   rw [List.mem_reverse] at this
   obtain ⟨⟨k',x'⟩,h5,rfl⟩:=z2.1 this
   have h6:f k'=some x':=g2 _ h5
   rw [hk] at h6
   obtain rfl:=zH h6
   exact h5
  obtain ⟨x',st',hr,hK⟩:=fin l hE
  refine P8 hlike ⟨x',st',hr,?_⟩
  cases x' with
  | normal=>exact hK.elim
  | exit i=>exact hK
  | ret=>exact hK
 ·have hn':k ∉ l.map (·.1):=fun hm=>hn (List.mem_reverse.2 hm)
  have k1:((l++[(k,x)]).map (·.1)).Nodup:=by
   rw [zE,List.nodup_append]
   refine ⟨g1,by simp,fun a ha b hb e=>?_⟩
   simp only [zC,zD,zX] at hb
   subst hb e
   exact hn' ha
  have k2:∀ e,e∈l++[(k,x)]→f e.1=some e.2:=fun e he=>by
   rcases z8.1 he with he | he
   ·exact g2 e he
   ·rw [zX.1 he]; exact hk
  obtain ⟨x',st',hr,hc⟩:=round l k x g1 g2 hk hn'
  cases x' with
  | exit i=>exact hc.elim
  | ret=>exact hc.elim
  | normal =>
  have hc:canon c.m keep st'=H (l++[(k,x)]):=hc
  refine P8 hlike ⟨.normal,st',hr,⟨⟨l++[(k,x)],k1,k2⟩,?_,hc▸Cq⟩⟩
  refine filter_lt (a:=(k,x)) (fun e he=>?_) ((hL0.mem k x).2 hk) (by rw [Bool.not_eq_true',Ee]; exact hn') (by rw [Bool.not_eq_false',At]; simp)
  rw [Bool.not_eq_true',Ee] at he ⊢
  exact fun hm=>he (by simp only [zE,z8]; exact .inl hm)
end
theorem DN {n:Nat} {keep:List Nat} {s st':St}:mrK n keep s .normal st'=(canon n keep st'=s):=rfl
theorem Ct {K:X→St→Prop} {i:Nat} {st':St}:Vi K (.exit i) st'=K (.exit i) st':=rfl
theorem AG {c:Ctx} {b:SC} {K:X→St→Prop} {st:St}:Wq c b K .normal st=RunL c b K st:=rfl
theorem CA {c:Ctx} {b:SC} {K:X→St→Prop} {st:St}:Wq c b K .ret st=K .ret st:=rfl
theorem Ny {f:FuncId} {fc:FC} {xs:List SV} {ob:List Ob} {r1 r:SV} {ob1 ob':List Ob} (res:RM) (hc:Ar Try.prog f=some fc) (hn:xs.length≤fc.nt)
  (h:∀ c:Ctx,c.nt=fc.nt→c.m=ob.length→RunL c fc.sc (SH .asis ob.length fc.rs (r1,ob1)) ⟨xs++FT (fc.nt-xs.length),ob⟩) (ho:order res ob.length r1 ob1=some (r,ob')):Fun Try.prog f xs ob r ob':=by
 unfold Ar at hc
 cases hf:Try.prog.funcs[f]? with
 | none=>rw [hf] at hc; cases hc
 | some fn =>
  rw [hf] at hc
  simp only at hc
  cases hb:fn.body with
  | none=>rw [hb] at hc; cases hc
  | some code =>
   rw [hb] at hc
   simp only at hc
   cases ht:trC Try.prog fn.ntmps code with
   | none=>rw [ht] at hc; cases hc
   | some sc =>
    rw [ht] at hc
    simp only at hc
    cases hr:B3 (fn.results.toList.map (K5 Try.prog fn.ntmps)) with
    | none=>rw [hr] at hc; cases hc
    | some rs =>
     rw [hr] at hc
     obtain rfl:=zH hc
     refine Mi (Sd hf hb ht hr hn fun c h1 h2=>?_) ho
     have h0:=h c h1 h2 sc (Bu _ _ _)
     intro code' hc' a w Q hl1 hr1 hq
     refine h0 code' hc' a w Q hl1 hr1 fun x st a1 w1 hk=>hq x st a1 w1 ?_
     have hk:fin .asis ob.length rs x st=some (r1,ob1):=hk
     unfold fin at hk
     have hx:x=.ret∨x=.normal:=by
      cases x with
      | exit i=>cases hk
      | normal=>exact .inr rfl
      | ret=>exact .inl rfl
     have h3:(match HP st rs with
      | some r0=>match gc ob.length r0 st.ob with
       | some (r,ob2)=>order .asis ob.length r ob2
       | none=>none
      | none=>none)=some (r1,ob1):=by
      rcases hx with rfl | rfl <;> exact hk
     clear hk
     split at h3
     ·rename_i r0 hr0
      split at h3
      ·rename_i r2 ob2 hg
       simp only [order,yN,Prod.mk.injEq] at h3
       obtain ⟨rfl,rfl⟩:=h3
       exact ⟨hx,r0,_,hr0,E8 hg⟩
      ·cases h3
     ·cases h3
theorem WN {a b:Bd} (h1:a.var=b.var) (h2:a.term=b.term):a=b:=by
 cases a; cases b; simp only at h1 h2; rw [h1,h2]
theorem MbS.nodup {e:TEnv} {L:List Bd} (h:MbS e L):L.Nodup:=h.1.imp (S:=fun a b=>a≠b) fun {a b} hab (heq:a=b)=>Ln hab (congrArg Bd.var heq)
theorem UK {e:TEnv} {L L':List Bd} (h:MbS e L) (h':MbS e L'):L=L':=by
 have hp:L.Perm L':=(List.perm_ext_iff_of_nodup h.nodup h'.nodup).2 fun b=>(h.2 b).trans (h'.2 b).symm
 refine y0 (le:=fun a b:Bd=>strLt a.var b.var=true) ?_ h.1 h'.1 hp
 intro a b _ _ hab hba
 rw [F3 hab] at hba
 cases hba
theorem Wr {e:TEnv} {L:List Bd} (h:MbS e L):mbs e=L:=by
 have h0:∃ L,MbS e L:=⟨L,h⟩
 unfold mbs
 rw [dif_pos h0]
 exact UK h0.choose_spec h
def MbL (e:TEnv) (A:List Bd):Prop:=(A.map Bd.var).Nodup∧∀ b:Bd,b∈A ↔ e b.var=some b.term∧b.term.name≠b.var
theorem MbL.sort {e:TEnv} {A:List Bd} (h:MbL e A):MbS e (A.mergeSort bdLe):=by
 have hp:(A.mergeSort bdLe).Perm A:=yJ _ _
 have hn:((A.mergeSort bdLe).map Bd.var).Nodup:=(hp.map Bd.var).nodup_iff.2 h.1
 refine ⟨?_,fun b=>hp.mem_iff.trans (h.2 b)⟩
 have h1:=List.pairwise_mergeSort (le:=bdLe) (fun _ _ _ h k=>Ie h k) Lu A
 have h2:(A.mergeSort bdLe).Pairwise fun a b=>a.var≠b.var:=List.pairwise_map.1 hn
 refine (h1.and h2).imp fun {a b} hab=>?_
 obtain ⟨h3,h4⟩:=hab
 unfold bdLe at h3
 cases hq:strLt a.var b.var with
 | true=>rfl
 | false=>exact absurd (Es hq (by simpa using h3)) h4
theorem MbL.mbs {e:TEnv} {A:List Bd} (h:MbL e A):Go.Proofs.Ytjkcamgfimpggaa.mbs e=A.mergeSort bdLe:=Wr h.sort
theorem MbL.ins {e:TEnv} {A:List Bd} (h:MbL e A):Lv [] A=Go.Proofs.Ytjkcamgfimpggaa.mbs e:=by rw [Rv h.1,h.mbs]
theorem MbS.up {e:TEnv} {L:List Bd} (h:MbS e L):Jl L:=fun j k hjk hk=>z7.1 h.1 j k (by omega) hk hjk
theorem MbS.ok {e:TEnv} {L:List Bd} (h:MbS e L):(Sb.mk L).ok=Ng L:=by
 have hup:=h.up
 have hq:∀ n,n≤L.length→FG L n=(L.take n).all fun b=>Bh b.var&&b.term.valid:=by
  intro n
  induction n with
  | zero=>intro _; rfl
  | succ n ih =>
   intro hn
   have hlt:n<L.length:=hn
   rw [FG,ih (by omega),List.take_add_one,List.all_append,zY hlt]
   simp only [Option.toList,zM,zP,y7]
   congr 1
   have hb:Gc L[n]=(Bh L[n].var&&L[n].term.valid):=by
    have hne:=((h.2 L[n]).1 (zF hlt)).2
    unfold Gc
    rw [Bg hne]
    simp
   cases n with
   | zero=>rw [EE hlt,hb]
   | succ m=>rw [Ea hlt,hb,hup m (m+1) (by omega) hlt,y7]
 unfold Sb.ok Ng
 rw [hq _ (zU _),List.take_length]
noncomputable def GZ (e:TEnv):MK→Option Bd
 | .str s=>match e s with
  | some t=>bif dec (t.name=s) then none else some ⟨s,t⟩
  | none=>none
 | .int _=>none
noncomputable def Dj (e:TEnv) (p:EL):List Bd:=p.filterMap fun en=>GZ e en.1
theorem Jn (e:TEnv) (p:EL) (en:MK × MV):Dj e (p++[en])=Dj e p++(match GZ e en.1 with | some b=>[b] | none=>[]):=by
 unfold Dj
 rw [List.filterMap_append]
 cases h:GZ e en.1 with
 | none=>simp [h]
 | some b=>simp [h]
theorem Lz {e:TEnv} {k:MK} {b:Bd}:GZ e k=some b ↔ k=.str b.var∧e b.var=some b.term∧b.term.name≠b.var:=by
 cases k with
 | int i=>simp [GZ]
 | str s =>
  unfold GZ
  cases hs:e s with
  | none =>
   simp only [hs]
   refine ⟨fun h=>(by cases h),fun ⟨h1,h2,_⟩=>?_⟩
   injection h1 with h1
   rw [←h1,hs] at h2; cases h2
  | some t =>
   simp only [hs]
   by_cases hq:t.name=s
   ·rw [AV hq,cond_true]
    refine ⟨fun h=>(by cases h),fun ⟨h1,h2,h3⟩=>?_⟩
    injection h1 with h1
    rw [←h1,hs] at h2
    rw [←zH h2,← h1] at h3
    exact absurd hq h3
   ·rw [Bg hq,cond_false]
    refine ⟨fun h=>?_,fun ⟨h1,h2,_⟩=>?_⟩
    ·obtain rfl:=zH h
     exact ⟨rfl,hs,hq⟩
    ·injection h1 with h1
     rw [←h1,hs] at h2
     obtain ⟨v,t'⟩:=b
     simp only at h1 h2
     rw [h1,zH h2]
theorem Gy {e:TEnv} {p:EL} (h:Enum (Cm e) p):MbL e (Dj e p):=by
 refine ⟨?_,fun b=>?_⟩
 ·have key:∀ q:EL,(q.map (·.1)).Nodup→((Dj e q).map Bd.var).Nodup∧∀ b∈Dj e q,MK.str b.var∈q.map (·.1):=by
   intro q
   induction q with
   | nil=>intro _; exact ⟨yH,fun b hb=>by cases hb⟩
   | cons en q ih =>
    intro hq
    rw [zC,yF] at hq
    obtain ⟨i1,i2⟩:=ih hq.2
    unfold Dj at i1 i2 ⊢
    cases hb:GZ e en.1 with
    | none =>
     have e1:(en :: q).filterMap (fun en=>GZ e en.1)=q.filterMap (fun en=>GZ e en.1):=by simp only [yU,hb]
     rw [e1]
     exact ⟨i1,fun b h=>z1 _ (i2 b h)⟩
    | some b =>
     have e1:(en :: q).filterMap (fun en=>GZ e en.1)=b :: q.filterMap (fun en=>GZ e en.1):=by simp only [yU,hb]
     rw [e1]
     have hk:=(Lz.1 hb).1
     refine ⟨?_,fun b' h=>?_⟩
     ·rw [zC,yF]
      refine ⟨fun hm=>?_,i1⟩
      obtain ⟨b',h1,h2⟩:=z2.1 hm
      have:=i2 b' h1
      rw [h2,← hk] at this
      exact hq.1 this
     ·rcases z6.1 h with rfl | h
      ·rw [←hk]; exact yW
      ·exact z1 _ (i2 b' h)
  exact (key p h.nd).1
 ·unfold Dj
  rw [yX]
  constructor
  ·rintro ⟨en,h1,h2⟩
   exact (Lz.1 h2).2
  ·intro hb
   have h3:Cm e (.str b.var)=some (true,[.str b.term.name,.arr (b.term.args.map Tm.d)]):=by rw [Cv,hb.1]
   exact ⟨_,(h.mem _ _).2 h3,Lz.2 ⟨rfl,hb⟩⟩
theorem Vj {e:TEnv} {L:List Bd} (hn:(L.map Bd.var).Nodup) (hL:∀ b:Bd,b∈L ↔ e b.var=some b.term):Enum (Cm e) (L.map fun b=>(MK.str b.var,(true,[D.str b.term.name,.arr (b.term.args.map Tm.d)]))):=by
 refine ⟨?_,fun k x=>?_⟩
 ·rw [yD]
  have:(fun x:MK × MV=>x.1) ∘ (fun b:Bd=>(MK.str b.var,((true,[D.str b.term.name,.arr (b.term.args.map Tm.d)]):MV)))=MK.str ∘ Bd.var:=rfl
  rw [this,← yD]
  exact List.Pairwise.map _ (fun a b hab heq=>hab (by injection heq)) hn
 ·rw [z2]
  constructor
  ·rintro ⟨b,h1,h2⟩
   obtain ⟨rfl,rfl⟩:=Prod.mk.inj h2
   rw [Cv,(hL b).1 h1]
  ·intro h
   cases k with
   | int i=>cases h
   | str s =>
    rw [Cv] at h
    cases hs:e s with
    | none=>rw [hs] at h; cases h
    | some t =>
     rw [hs] at h
     obtain rfl:=zH h
     exact ⟨⟨s,t⟩,(hL ⟨s,t⟩).2 hs,rfl⟩
theorem Ke (e:TEnv) (p:EL):(Dj e p).length≤p.length:=y2 _ _
theorem Qx (l:List Bd) (hl:l.length≤1099511627776) (hn:(l.map Bd.var).Nodup):E 65 [.ref 0,.fn 66 []] [.row 58 3 (l.map Bd.o)]=some (.tup [],[.row 58 3 ((l.mergeSort bdLe).map Bd.o)]):=by
 rw [KZ (g:=CE) (congrArg FM.ext Ab)]
 unfold CE
 simp only
 have e1:(l.map Bd.o).map Og=l.map Bd.var:=by rw [yD]; rfl
 rw [AV ⟨by first | trivial | rfl,by first | trivial | rfl,fun e he=>by obtain ⟨b,_,rfl⟩:=z2.1 he; exact ⟨_,_,_,rfl⟩,by rw [e1]; exact hn,by simpa using hl⟩,cond_true]
 have e2:(l.mergeSort bdLe).map Bd.o=(l.map Bd.o).mergeSort rowLe:=List.map_mergeSort fun a _ b _=>rfl
 rw [e2]
theorem Ry:E 65 [.nil,.fn 66 []] []=some (.tup [],[]):=by
 rw [KZ (g:=CE) (congrArg FM.ext Ab)]
 unfold CE
 simp only
 rw [AV (by first | trivial | rfl),cond_true]
def B6:SC:=(.seq (.reg [⟨some 2,none,.alloc 31 [.nil]⟩,⟨some 3,none,.mv (.c (.bool false))⟩]) (.seq (.reg [⟨some 7,none,.build [.nil] []⟩,⟨some 4,none,.alloc 31 [.nil]⟩,⟨none,none,(.store 1 (.t 4) (.t 7))⟩]) (.seq (.seq (.reg [⟨some 8,none,.mv (.t 0)⟩,⟨some 9,none,.mkit (.t 8)⟩]) (.block 0 (.mloop [0,0,1,0,1,0,0,0,0,1,0,0,0,0,0,0,0,0,0,0,0,0,0,0,0,0,0,0,0,0,0,0,0,0,0,0] [0,0,1,1,1,0,0,0,0,0,0,0,0,0,0,0,0,0,0,0,0,0,0,0,0,0,0,0,0,0,0,0,0,0,0,0] (.t 9) 10 11 (.seq (.cond (.t 11) .skip (.exit 0)) (.block 1 (.seq (.reg [⟨some 12,none,.mcur (.t 9)⟩,⟨some 13,none,.ext (.t 12) 0⟩,⟨some 14,none,.ext (.t 12) 1⟩,⟨(some 6),none,(.alloc 26 [(.str ⟨#[]⟩),.nil])⟩,⟨some 5,none,.mv (.t 13)⟩,⟨none,none,(.store 2 (.t 6) (.t 14))⟩]) (.seq (.reg [⟨some 15,none,.faddr 0 (.t 6)⟩,⟨some 16,none,.load false 1 (.t 15)⟩,⟨some 17,none,.mv (.t 5)⟩,⟨some 18,none,.bin .neq false (.t 16) (.t 17)⟩]) (.cond (.t 18) (.dreg [[],[0],[],[],[3],[2,4,3],[5,2,4,3],[1,0,6,5,2,4,3],[0,1,2,3,4,5,6,7],[8,0,1,2,3,4,5,6,7]] [⟨some 19,none,.faddr 0 (.t 4)⟩,⟨some 20,none,.load false 1 (.t 19)⟩,⟨some 21,none,.mv (.t 5)⟩,⟨some 22,none,.load true 2 (.t 6)⟩,⟨some 23,none,.call 64 [(.t 22)]⟩,⟨(some 24),none,(.build [(.str ⟨#[]⟩),(.str ⟨#[]⟩),.nil] [(0,(1,(.t 21))),(1,(2,(.t 23)))])⟩,⟨(some 25),none,(.mkrow 58 3 [(.str ⟨#[]⟩),(.str ⟨#[]⟩),.nil] 1 [(0,(.t 24))])⟩,⟨(some 26),none,(.append 58 3 56 [(.str ⟨#[]⟩),(.str ⟨#[]⟩),.nil] (.t 20) (.t 25))⟩,⟨some 27,none,.faddr 0 (.t 4)⟩,⟨none,none,(.store 1 (.t 27) (.t 26))⟩]) .skip)))))))) (.seq (.reg [⟨some 28,none,.faddr 0 (.t 4)⟩,⟨some 29,none,.load false 1 (.t 28)⟩,⟨some 30,none,.call 65 [(.t 29),(.c (.fn 66 []))]⟩]) (.seq (.seq (.reg [⟨some 31,none,.load true 1 (.t 4)⟩,⟨some 32,none,.call 11 [(.t 31)]⟩,⟨some 33,none,.un .not (.t 32)⟩]) (.cond (.t 33) (.seq (.reg [⟨some 34,none,.build [.nil] []⟩,⟨none,none,(.store 1 (.t 2) (.t 34))⟩,⟨some 3,none,.mv (.c (.bool false))⟩]) .ret) .skip)) (.seq (.reg [⟨some 35,none,.load true 1 (.t 4)⟩,⟨none,none,(.store 1 (.t 2) (.t 35))⟩,⟨some 3,none,.mv (.c (.bool true))⟩]) .ret))))))
theorem Cf:Ar Try.prog 43=some ⟨36,B6,[(.cell 2 true 1),(.tmp 3)]⟩:=by kernel_rfl
theorem Cg:modes 43=⟨[],.asis,some Pu,false⟩:=by unfold modes; rfl
theorem L3 (e:TEnv):Dj e []=[]:=rfl
theorem Bz {id:Nat} {K:X→St→Prop} {st:St}:blk id K (.exit id) st=K .normal st:=by rw [DM,if_pos rfl]
theorem UL (e:TEnv) (L0:List Bd) (hnd:(L0.map Bd.var).Nodup) (hL0:∀ b:Bd,b∈L0 ↔ e b.var=some b.term) (hl:L0.length≤1048576) (hn:∀ b∈L0,b.term.nodes≤1099511627776):Sz e:=by
 have hE0:=Vj hnd hL0
 have hq:∃ L,L=mbs e:=⟨_,rfl⟩
 obtain ⟨L,hL⟩:=hq
 have hS:MbS e L:=by rw [hL,(Gy hE0).mbs]; exact (Gy hE0).sort
 have hlen:∀ p:EL,Enum (Cm e) p→(Dj e p).length≤1048576:=fun p hp=>by
  have h1:=Ke e p
  have h2:=hp.len hE0
  rw [zB] at h2
  omega
 have hLl:L.length≤1048576:=by
  rw [hL,(Gy hE0).mbs,(yJ _ _).length_eq]
  exact hlen _ hE0
 have hval:=CO ⟨L⟩ ⟨by show L.length≤_; omega,fun b hb=>hn b ((hL0 b).2 ((hS.2 b).1 hb).1)⟩
 rw [hS.ok] at hval
 have hLsv:(Sb.mk L).sv=.agg [.arr (L.map Bd.d)]:=rfl
 rw [hLsv] at hval
 have hsn:=Ry
 unfold Sz Ps Pt mbA
 rw [←hL]
 have hor:∀ p:EL,Enum (Cm e) p→(Dj e p=[] ↔ L=[]):=fun p hp=>by
  have h1:L.Perm (Dj e p):=by rw [hL,(Gy hp).mbs]; exact yJ _ _
  exact ⟨fun h=>by rw [h] at h1; exact h1.eq_nil,fun h=>by rw [h] at h1; exact h1.symm.eq_nil⟩
 cases hok:Ng L with
 | true =>
  rw [hok] at hval
  rw [cond_true]
  by_cases hLe:L=[]
  ·subst hLe
   refine Ny (r1:=.tup [.agg [.nil],.bool true]) (ob1:=[]) (.own [some (58,3),none]) Cf (of_decide_eq_true rfl) (fun c h1 h2=>?_) rfl
   unfold B6
   refine RunL.seq (RunL.go ?_)
   simp (disch:=omega) only [go_sem,Aa,h2,AG,zA]
   refine RunL.seq (RunL.go ?_)
   simp (disch:=omega) only [go_sem,Aa,h2,AG,zA]
   refine RunL.seq (RunL.seq (RunL.go ?_))
   simp (disch:=omega) only [go_sem,Aa,h2,AG,zA]
   refine RunL.block (RunL.mloop (Cm e) _ hE0 (fun p=>⟨slots 36 0 [(2,.ptr 0 0),(4,.ptr 1 0),(9,.ptr 2 0)],if Dj e p=[] then [.box 31 [.nil],.box 31 [.nil],.it true (Cm e) (p.map (·.1)).reverse p.getLast?] else [.box 31 [.nil],.box 31 [.ref 3],.it true (Cm e) (p.map (·.1)).reverse p.getLast?,.row 58 3 ((Dj e p).map Bd.o)]⟩) 2 true ?_ (fun p=>?_) (fun p k x hpn hpe hk _=>?_) (fun p hp=>?_))
   ·simp (disch:=omega) only [go_sem,Aa,h2,AG,zA,L3,eq_self,if_true,zD,y5,yZ]
   ·simp (disch:=omega) only [go_sem,Aa,h2,AG,zA]
    by_cases ha:Dj e p=[]
    ·rw [if_pos ha]; rfl
    ·rw [if_neg ha]; rfl
   ·cases k with
    | int i=>cases hk
    | str s =>
     rw [Cv] at hk
     cases hs:e s with
     | none=>rw [hs] at hk; cases hk
     | some t =>
      rw [hs] at hk
      obtain rfl:=zH hk
      have hc:=EX t (hn ⟨s,t⟩ ((hL0 ⟨s,t⟩).2 hs))
      have hsnoc:=Jn e p (.str s,(true,[.str t.name,.arr (t.args.map Tm.d)]))
      have hb:GZ e (.str s)=bif dec (t.name=s) then none else some ⟨s,t⟩:=by unfold GZ; simp only [hs]
      rw [hb] at hsnoc
      obtain ⟨A,hA⟩:∃ A,A=Dj e p:=⟨_,rfl⟩
      have hA':Dj e p=A:=hA.symm
      rw [hA'] at hsnoc
      have hAl:A.length≤1048576:=by
       have a1:=Ke e p
       have a2:=Eo (l:=p) (A:=L0.map fun b=>(MK.str b.var,((true,[D.str b.term.name,.arr (b.term.args.map Tm.d)]):MV))) (yR (fun x:MK × MV=>x.1) (fun a b hab heq=>hab (by rw [heq])) hpn) fun en hen=>(hE0.mem en.1 en.2).2 (hpe en hen)
       rw [zB] at a2
       rw [hA]; omega
      have hAr:[OT.str s,OT.str t.name,OT.ow (t.args.map Tm.o)]=(Bd.mk s t).o:=rfl
      cases hq:dec (t.name=s) with
      | true =>
       rw [hq,cond_true] at hsnoc
       simp only [yT] at hsnoc
       rcases zL A with ha | ⟨ys,y,ha⟩
       ·have ha:(A=[])=True:=eq_true ha
        simp (disch:=omega) only [go_sem,Aa,h2,AG,zA,hA',ha,hsnoc,hq,hc,if_true,if_false,Tm.osv,Tm.obs,zE,zR,zO,DN,Ct,Bz,BX,Ax,Ab]
        rfl
       ·have ha:(A=[])=False:=eq_false (by rw [ha]; simp)
        simp (disch:=omega) only [go_sem,Aa,h2,AG,zA,hA',ha,hsnoc,hq,hc,if_true,if_false,Tm.osv,Tm.obs,zE,zR,zO,DN,Ct,Bz,BX,Ax,Ab]
        rfl
      | false =>
       rw [hq,cond_false] at hsnoc
       simp only at hsnoc
       have hnea:(A++[⟨s,t⟩]=[])=False:=eq_false (by simp)
       rcases zL A with ha | ⟨ys,y,ha⟩
       ·subst ha
        have ha:(([]:List Bd)=[])=True:=eq_self _
        simp (disch:=omega) only [go_sem,Aa,h2,AG,zA,hA',ha,hnea,hsnoc,hq,hc,if_true,if_false,Tm.osv,Tm.obs,zE,zR,zO,DN,Ct,Bz,BX,Ax,Ab]
        exact ⟨rfl,rfl⟩
       ·have ha:(A=[])=False:=eq_false (by rw [ha]; simp)
        simp (disch:=omega) only [go_sem,Aa,h2,AG,zA,hA',ha,hnea,hsnoc,hq,hc,if_true,if_false,Tm.osv,Tm.obs,zE,zR,zO,DN,Ct,Bz,BX,Ax,Ab]
        exact ⟨rfl,rfl⟩
   ·obtain ⟨A,hA⟩:∃ A,A=Dj e p:=⟨_,rfl⟩
    have hA':Dj e p=A:=hA.symm
    have hAL:=Gy hp
    have hAl:=hlen p hp
    have hEA:=hor p hp
    rw [hA'] at hAL hAl hEA
    have ha:A=[]:=hEA.2 rfl
    subst ha
    have ha:(([]:List Bd)=[])=True:=eq_self _
    simp only [zD] at hval
    simp (disch:=omega) only [go_sem,Aa,h2,AG,zA,hA',ha,if_true,if_false,DN,Ct,Bz,BX,Ax,Ab]
    refine RunL.go ?_
    simp (disch:=omega) only [go_sem,Aa,h2,AG,zA,Nj,Nk,Aw,hval,hsn,DN,Ct,Bz,BX,Ax,Ab]
  ·refine Ny (r1:=.tup [.agg [.ref 0],.bool true]) (ob1:=[.row 58 3 (L.map Bd.o)]) (.own [some (58,3),none]) Cf (of_decide_eq_true rfl) (fun c h1 h2=>?_) rfl
   unfold B6
   refine RunL.seq (RunL.go ?_)
   simp (disch:=omega) only [go_sem,Aa,h2,AG,zA]
   refine RunL.seq (RunL.go ?_)
   simp (disch:=omega) only [go_sem,Aa,h2,AG,zA]
   refine RunL.seq (RunL.seq (RunL.go ?_))
   simp (disch:=omega) only [go_sem,Aa,h2,AG,zA]
   refine RunL.block (RunL.mloop (Cm e) _ hE0 (fun p=>⟨slots 36 0 [(2,.ptr 0 0),(4,.ptr 1 0),(9,.ptr 2 0)],if Dj e p=[] then [.box 31 [.nil],.box 31 [.nil],.it true (Cm e) (p.map (·.1)).reverse p.getLast?] else [.box 31 [.nil],.box 31 [.ref 3],.it true (Cm e) (p.map (·.1)).reverse p.getLast?,.row 58 3 ((Dj e p).map Bd.o)]⟩) 2 true ?_ (fun p=>?_) (fun p k x hpn hpe hk _=>?_) (fun p hp=>?_))
   ·simp (disch:=omega) only [go_sem,Aa,h2,AG,zA,L3,eq_self,if_true,zD,y5,yZ]
   ·simp (disch:=omega) only [go_sem,Aa,h2,AG,zA]
    by_cases ha:Dj e p=[]
    ·rw [if_pos ha]; rfl
    ·rw [if_neg ha]; rfl
   ·cases k with
    | int i=>cases hk
    | str s =>
     rw [Cv] at hk
     cases hs:e s with
     | none=>rw [hs] at hk; cases hk
     | some t =>
      rw [hs] at hk
      obtain rfl:=zH hk
      have hc:=EX t (hn ⟨s,t⟩ ((hL0 ⟨s,t⟩).2 hs))
      have hsnoc:=Jn e p (.str s,(true,[.str t.name,.arr (t.args.map Tm.d)]))
      have hb:GZ e (.str s)=bif dec (t.name=s) then none else some ⟨s,t⟩:=by unfold GZ; simp only [hs]
      rw [hb] at hsnoc
      obtain ⟨A,hA⟩:∃ A,A=Dj e p:=⟨_,rfl⟩
      have hA':Dj e p=A:=hA.symm
      rw [hA'] at hsnoc
      have hAl:A.length≤1048576:=by
       have a1:=Ke e p
       have a2:=Eo (l:=p) (A:=L0.map fun b=>(MK.str b.var,((true,[D.str b.term.name,.arr (b.term.args.map Tm.d)]):MV))) (yR (fun x:MK × MV=>x.1) (fun a b hab heq=>hab (by rw [heq])) hpn) fun en hen=>(hE0.mem en.1 en.2).2 (hpe en hen)
       rw [zB] at a2
       rw [hA]; omega
      have hAr:[OT.str s,OT.str t.name,OT.ow (t.args.map Tm.o)]=(Bd.mk s t).o:=rfl
      cases hq:dec (t.name=s) with
      | true =>
       rw [hq,cond_true] at hsnoc
       simp only [yT] at hsnoc
       rcases zL A with ha | ⟨ys,y,ha⟩
       ·have ha:(A=[])=True:=eq_true ha
        simp (disch:=omega) only [go_sem,Aa,h2,AG,zA,hA',ha,hsnoc,hq,hc,if_true,if_false,Tm.osv,Tm.obs,zE,zR,zO,DN,Ct,Bz,BX,Ax,Ab]
        rfl
       ·have ha:(A=[])=False:=eq_false (by rw [ha]; simp)
        simp (disch:=omega) only [go_sem,Aa,h2,AG,zA,hA',ha,hsnoc,hq,hc,if_true,if_false,Tm.osv,Tm.obs,zE,zR,zO,DN,Ct,Bz,BX,Ax,Ab]
        rfl
      | false =>
       rw [hq,cond_false] at hsnoc
       simp only at hsnoc
       have hnea:(A++[⟨s,t⟩]=[])=False:=eq_false (by simp)
       rcases zL A with ha | ⟨ys,y,ha⟩
       ·subst ha
        have ha:(([]:List Bd)=[])=True:=eq_self _
        simp (disch:=omega) only [go_sem,Aa,h2,AG,zA,hA',ha,hnea,hsnoc,hq,hc,if_true,if_false,Tm.osv,Tm.obs,zE,zR,zO,DN,Ct,Bz,BX,Ax,Ab]
        exact ⟨rfl,rfl⟩
       ·have ha:(A=[])=False:=eq_false (by rw [ha]; simp)
        simp (disch:=omega) only [go_sem,Aa,h2,AG,zA,hA',ha,hnea,hsnoc,hq,hc,if_true,if_false,Tm.osv,Tm.obs,zE,zR,zO,DN,Ct,Bz,BX,Ax,Ab]
        exact ⟨rfl,rfl⟩
   ·obtain ⟨A,hA⟩:∃ A,A=Dj e p:=⟨_,rfl⟩
    have hA':Dj e p=A:=hA.symm
    have hAL:=Gy hp
    have hAl:=hlen p hp
    have hEA:=hor p hp
    rw [hA'] at hAL hAl hEA
    have ha:(A=[])=False:=eq_false (fun h=>hLe (hEA.1 h))
    have hsort:=Qx A (by omega) hAL.1
    have hm:A.mergeSort bdLe=L:=by rw [hL,hAL.mbs]
    rw [hm] at hsort
    simp (disch:=omega) only [go_sem,Aa,h2,AG,zA,hA',ha,if_true,if_false,DN,Ct,Bz,BX,Ax,Ab]
    refine RunL.go ?_
    simp (disch:=omega) only [go_sem,Aa,h2,AG,zA,Nj,Nk,Aw,hval,hsort,Bd.erss,Bd.fus,DN,Ct,Bz,BX,Ax,Ab]
 | false =>
  rw [hok] at hval
  rw [cond_false]
  by_cases hLe:L=[]
  ·subst hLe
   cases hok
  ·refine Ny (r1:=.tup [.agg [.nil],.bool false]) (ob1:=[]) (.own [some (58,3),none]) Cf (of_decide_eq_true rfl) (fun c h1 h2=>?_) rfl
   unfold B6
   refine RunL.seq (RunL.go ?_)
   simp (disch:=omega) only [go_sem,Aa,h2,AG,zA]
   refine RunL.seq (RunL.go ?_)
   simp (disch:=omega) only [go_sem,Aa,h2,AG,zA]
   refine RunL.seq (RunL.seq (RunL.go ?_))
   simp (disch:=omega) only [go_sem,Aa,h2,AG,zA]
   refine RunL.block (RunL.mloop (Cm e) _ hE0 (fun p=>⟨slots 36 0 [(2,.ptr 0 0),(4,.ptr 1 0),(9,.ptr 2 0)],if Dj e p=[] then [.box 31 [.nil],.box 31 [.nil],.it true (Cm e) (p.map (·.1)).reverse p.getLast?] else [.box 31 [.nil],.box 31 [.ref 3],.it true (Cm e) (p.map (·.1)).reverse p.getLast?,.row 58 3 ((Dj e p).map Bd.o)]⟩) 2 true ?_ (fun p=>?_) (fun p k x hpn hpe hk _=>?_) (fun p hp=>?_))
   ·simp (disch:=omega) only [go_sem,Aa,h2,AG,zA,L3,eq_self,if_true,zD,y5,yZ]
   ·simp (disch:=omega) only [go_sem,Aa,h2,AG,zA]
    by_cases ha:Dj e p=[]
    ·rw [if_pos ha]; rfl
    ·rw [if_neg ha]; rfl
   ·cases k with
    | int i=>cases hk
    | str s =>
     rw [Cv] at hk
     cases hs:e s with
     | none=>rw [hs] at hk; cases hk
     | some t =>
      rw [hs] at hk
      obtain rfl:=zH hk
      have hc:=EX t (hn ⟨s,t⟩ ((hL0 ⟨s,t⟩).2 hs))
      have hsnoc:=Jn e p (.str s,(true,[.str t.name,.arr (t.args.map Tm.d)]))
      have hb:GZ e (.str s)=bif dec (t.name=s) then none else some ⟨s,t⟩:=by unfold GZ; simp only [hs]
      rw [hb] at hsnoc
      obtain ⟨A,hA⟩:∃ A,A=Dj e p:=⟨_,rfl⟩
      have hA':Dj e p=A:=hA.symm
      rw [hA'] at hsnoc
      have hAl:A.length≤1048576:=by
       have a1:=Ke e p
       have a2:=Eo (l:=p) (A:=L0.map fun b=>(MK.str b.var,((true,[D.str b.term.name,.arr (b.term.args.map Tm.d)]):MV))) (yR (fun x:MK × MV=>x.1) (fun a b hab heq=>hab (by rw [heq])) hpn) fun en hen=>(hE0.mem en.1 en.2).2 (hpe en hen)
       rw [zB] at a2
       rw [hA]; omega
      have hAr:[OT.str s,OT.str t.name,OT.ow (t.args.map Tm.o)]=(Bd.mk s t).o:=rfl
      cases hq:dec (t.name=s) with
      | true =>
       rw [hq,cond_true] at hsnoc
       simp only [yT] at hsnoc
       rcases zL A with ha | ⟨ys,y,ha⟩
       ·have ha:(A=[])=True:=eq_true ha
        simp (disch:=omega) only [go_sem,Aa,h2,AG,zA,hA',ha,hsnoc,hq,hc,if_true,if_false,Tm.osv,Tm.obs,zE,zR,zO,DN,Ct,Bz,BX,Ax,Ab]
        rfl
       ·have ha:(A=[])=False:=eq_false (by rw [ha]; simp)
        simp (disch:=omega) only [go_sem,Aa,h2,AG,zA,hA',ha,hsnoc,hq,hc,if_true,if_false,Tm.osv,Tm.obs,zE,zR,zO,DN,Ct,Bz,BX,Ax,Ab]
        rfl
      | false =>
       rw [hq,cond_false] at hsnoc
       simp only at hsnoc
       have hnea:(A++[⟨s,t⟩]=[])=False:=eq_false (by simp)
       rcases zL A with ha | ⟨ys,y,ha⟩
       ·subst ha
        have ha:(([]:List Bd)=[])=True:=eq_self _
        simp (disch:=omega) only [go_sem,Aa,h2,AG,zA,hA',ha,hnea,hsnoc,hq,hc,if_true,if_false,Tm.osv,Tm.obs,zE,zR,zO,DN,Ct,Bz,BX,Ax,Ab]
        exact ⟨rfl,rfl⟩
       ·have ha:(A=[])=False:=eq_false (by rw [ha]; simp)
        simp (disch:=omega) only [go_sem,Aa,h2,AG,zA,hA',ha,hnea,hsnoc,hq,hc,if_true,if_false,Tm.osv,Tm.obs,zE,zR,zO,DN,Ct,Bz,BX,Ax,Ab]
        exact ⟨rfl,rfl⟩
   ·obtain ⟨A,hA⟩:∃ A,A=Dj e p:=⟨_,rfl⟩
    have hA':Dj e p=A:=hA.symm
    have hAL:=Gy hp
    have hAl:=hlen p hp
    have hEA:=hor p hp
    rw [hA'] at hAL hAl hEA
    have ha:(A=[])=False:=eq_false (fun h=>hLe (hEA.1 h))
    have hsort:=Qx A (by omega) hAL.1
    have hm:A.mergeSort bdLe=L:=by rw [hL,hAL.mbs]
    rw [hm] at hsort
    simp (disch:=omega) only [go_sem,Aa,h2,AG,zA,hA',ha,if_true,if_false,DN,Ct,Bz,BX,Ax,Ab]
    refine RunL.go ?_
    simp (disch:=omega) only [go_sem,Aa,h2,AG,zA,Nj,Nk,Aw,hval,hsort,Bd.erss,Bd.fus,DN,Ct,Bz,BX,Ax,Ab]
def AC:SC:=(.seq (.reg [⟨some 6,none,.mv (.c (.bool false))⟩]) (.seq (.seq (.reg [⟨some 10,none,.mv (.t 0)⟩,⟨some 11,none,.len false (.t 10)⟩,⟨some 12,none,.mv (.t 1)⟩,⟨some 13,none,.len false (.t 12)⟩,⟨some 14,none,.bin .neq false (.t 11) (.t 13)⟩]) (.cond (.t 14) (.seq (.reg [⟨some 6,none,.mv (.c (.bool false))⟩]) .ret) .skip)) (.seq (.seq (.reg [⟨some 15,none,.mv (.t 0)⟩,⟨some 16,none,.len false (.t 15)⟩,⟨some 17,none,.mv (.c (.int .i64 0))⟩]) (.block 0 (.loop [0,1,1,0,0,0,0,0,0,0,0,0,0,0,0,1,1,1,0,0,0,0,0,0,0,0,0,0,0,0,0,0] (.seq (.reg [⟨some 18,none,.bin .lss false (.t 17) (.t 16)⟩]) (.seq (.cond (.t 18) .skip (.exit 0)) (.seq (.block 1 (.seq (.reg [⟨some 19,none,.mv (.t 17)⟩,⟨some 20,none,.iaddr 2 (.t 15) (.t 17)⟩,⟨some 21,none,.load true 2 (.t 20)⟩,⟨(some 8),none,(.alloc 26 [(.str ⟨#[]⟩),.nil])⟩,⟨some 7,none,.mv (.t 19)⟩,⟨none,none,(.store 2 (.t 8) (.t 21))⟩]) (.seq (.reg [⟨some 22,none,.mv (.t 1)⟩,⟨some 23,none,.mv (.t 7)⟩,⟨some 24,none,.iaddr 2 (.t 22) (.t 23)⟩,⟨some 25,none,.load true 2 (.t 24)⟩,⟨(some 9),none,(.alloc 26 [(.str ⟨#[]⟩),.nil])⟩,⟨none,none,(.store 2 (.t 9) (.t 25))⟩]) (.seq (.reg [⟨some 26,none,.mv (.t 2)⟩,⟨some 27,none,.load true 2 (.t 8)⟩,⟨some 28,none,.load true 2 (.t 9)⟩,⟨some 29,none,.callv (.t 26) [(.t 27),(.t 28)]⟩,⟨some 30,none,.un .not (.t 29)⟩]) (.cond (.t 30) (.seq (.reg [⟨some 6,none,.mv (.c (.bool false))⟩]) .ret) .skip))))) (.reg [⟨some 31,none,.bin .add false (.t 17) (.c (.int .i64 1))⟩,⟨some 17,none,.mv (.t 31)⟩]))))))) (.seq (.reg [⟨some 6,none,.mv (.c (.bool true))⟩]) .ret))))
theorem Bb:Ar Try.prog 77=some ⟨32,AC,[(.tmp 6)]⟩:=by kernel_rfl
theorem AD:modes 77=⟨[],.asis,none,false⟩:=by unfold modes; rfl
def DE:SC:=(.seq (.reg [⟨some 2,none,.boxv 26 2 (.t 0)⟩,⟨some 3,none,.boxv 26 2 (.t 1)⟩,⟨some 4,none,.mv (.c (.bool false))⟩]) (.seq (.reg [⟨some 5,none,.faddr 0 (.t 2)⟩,⟨some 6,none,.load false 1 (.t 5)⟩,⟨some 7,none,.faddr 0 (.t 3)⟩,⟨some 8,none,.load false 1 (.t 7)⟩,⟨some 9,none,.bin .eql false (.t 6) (.t 8)⟩,⟨some 10,none,.mv (.t 9)⟩,⟨(some 11),(some (10,true)),(.faddr 1 (.t 2))⟩,⟨(some 12),(some (10,true)),(.load false 1 (.t 11))⟩,⟨(some 13),(some (10,true)),(.faddr 1 (.t 3))⟩,⟨(some 14),(some (10,true)),(.load false 1 (.t 13))⟩,⟨(some 15),(some (10,true)),(.call 77 [(.t 12),(.t 14),(.c (.fn 63 []))])⟩,⟨some 16,none,.pick (.t 10) (.t 15) (.c (.bool false))⟩,⟨some 4,none,.mv (.t 16)⟩]) .ret))
theorem F5:Ar Try.prog 63=some ⟨17,DE,[(.tmp 4)]⟩:=by kernel_rfl
theorem A7:modes 63=⟨[],.asis,none,false⟩:=by unfold modes; rfl
theorem IJ:JK Try.prog 63=true:=by kernel_rfl
def Eh:SC:=(.seq (.reg [⟨some 2,none,.boxv 26 2 (.t 0)⟩,⟨some 3,none,.boxv 26 2 (.t 1)⟩,⟨some 4,none,.mv (.c (.bool false))⟩]) (.seq (.seq (.reg [⟨some 6,none,.faddr 0 (.t 2)⟩,⟨some 7,none,.load false 1 (.t 6)⟩,⟨some 8,none,.faddr 0 (.t 3)⟩,⟨some 9,none,.load false 1 (.t 8)⟩,⟨some 10,none,.bin .neq false (.t 7) (.t 9)⟩,⟨some 11,none,.mv (.t 10)⟩,⟨(some 12),(some (11,false)),(.faddr 1 (.t 2))⟩,⟨(some 13),(some (11,false)),(.load false 1 (.t 12))⟩,⟨(some 14),(some (11,false)),(.len false (.t 13))⟩,⟨(some 15),(some (11,false)),(.faddr 1 (.t 3))⟩,⟨(some 16),(some (11,false)),(.load false 1 (.t 15))⟩,⟨(some 17),(some (11,false)),(.len false (.t 16))⟩,⟨(some 18),(some (11,false)),(.bin .neq false (.t 14) (.t 17))⟩,⟨some 19,none,.pick (.t 11) (.c (.bool true)) (.t 18)⟩]) (.cond (.t 19) (.seq (.reg [⟨some 4,none,.mv (.c (.bool false))⟩]) .ret) .skip)) (.seq (.seq (.reg [⟨some 5,none,.mv (.c (.int .i64 0))⟩]) (.block 0 (.loop [0,0,1,1,0,1,0,0,0,0,0,0,0,0,0,0,0,0,0,0,0,0,0,0,0,0,0,0,0,0,0,0,0,0,0,0,0,0,0] (.seq (.seq (.reg [⟨some 20,none,.mv (.t 5)⟩,⟨some 21,none,.faddr 1 (.t 2)⟩,⟨some 22,none,.load false 1 (.t 21)⟩,⟨some 23,none,.len false (.t 22)⟩,⟨some 24,none,.bin .lss false (.t 20) (.t 23)⟩]) (.cond (.t 24) .skip (.exit 0))) (.seq (.block 1 (.seq (.dreg [[],[0],[],[1,0,2],[3,1,0,2],[],[5],[],[6,5,7],[8,6,5,7],[4,3,1,0,2,9,8,6,5,7],[10,4,3,1,0,2,9,8,6,5,7]] [⟨some 27,none,.faddr 1 (.t 2)⟩,⟨some 28,none,.load false 1 (.t 27)⟩,⟨some 29,none,.mv (.t 5)⟩,⟨some 30,none,.iaddr 2 (.t 28) (.t 29)⟩,⟨some 31,none,.load true 2 (.t 30)⟩,⟨some 32,none,.faddr 1 (.t 3)⟩,⟨some 33,none,.load false 1 (.t 32)⟩,⟨some 34,none,.mv (.t 5)⟩,⟨some 35,none,.iaddr 2 (.t 33) (.t 34)⟩,⟨some 36,none,.load true 2 (.t 35)⟩,⟨some 37,none,.call 44 [(.t 31),(.t 36)]⟩,⟨some 38,none,.un .not (.t 37)⟩]) (.cond (.t 38) (.seq (.reg [⟨some 4,none,.mv (.c (.bool false))⟩]) .ret) .skip))) (.reg [⟨some 25,none,.mv (.t 5)⟩,⟨some 26,none,.bin .add false (.t 25) (.c (.int .i64 1))⟩,⟨some 5,none,.mv (.t 26)⟩])))))) (.seq (.reg [⟨some 4,none,.mv (.c (.bool true))⟩]) .ret))))
theorem FH:Ar Try.prog 44=some ⟨39,Eh,[(.tmp 4)]⟩:=by kernel_rfl
theorem Ay:modes 44=⟨[],.asis,none,false⟩:=by unfold modes; rfl
theorem Ha {α:Type} {xs ys:List α} {k:Nat} (hx:k<xs.length) (hy:k<ys.length):xs.drop k=ys.drop k ↔ xs[k]=ys[k]∧xs.drop (k+1)=ys.drop (k+1):=by
 rw [zG hx,zG hy,yS]
theorem OA (fid:Nat) (xs ys:List Tm) (hl:xs.length≤1099511627776) (hl':ys.length≤1099511627776) (hg:JK Try.prog fid=true) (hm:(modes fid).hand=[]) (hE:∀ x∈xs,∀ y∈ys,E fid [x.sv,y.sv] []=some (.bool (dec (x=y)),[])):E 77 [.arr (xs.map Tm.d),.arr (ys.map Tm.d),.fn fid []] []=some (.bool (dec (xs=ys)),[]):=by
 by_cases hlen:xs.length=ys.length
 ·have hq:((xs.length:Int)=(ys.length:Int))=True:=by first | exact eq_true (by omega) | exact eq_false (by omega)
  refine Af Bb AD (of_decide_eq_true rfl) ?_
  simp (disch:=omega) only [AC,go_sem,Aa,hq]
  refine go_loop (α:=Int) (fun a=>⟨slots 32 0 [(1,.arr (ys.map Tm.d)),(2,.fn fid []),(15,.arr (xs.map Tm.d)),(16,.int .i64 xs.length),(17,.int .i64 a)],[]⟩) (fun a=>∃ k:Nat,a=k∧k≤(xs).length∧dec (xs.drop k=ys.drop k)=dec (xs=ys)) (fun a=>(xs).length-(a).toNat) 0 ⟨0,rfl,zZ _,by rw [zQ,zQ]⟩ (by simp (disch:=omega) only [go_sem,Aa]) ?_
  rintro i ⟨k,hi,hk,hR⟩
  have hni:i.toNat=k:=by omega
  have hni1:(i+1).toNat=k+1:=by omega
  rcases zT k (xs).length with hlt | hge
  ·have hgx:=get_at Tm.d hlt
   rw [Tm.d_eq] at hgx
   have hlt':k<ys.length:=by omega
   have hgy:=get_at Tm.d hlt'
   rw [Tm.d_eq] at hgy
   have hc:=hE xs[k] (zF hlt) ys[k] (zF hlt')
   rw [Ez (Ha hlt hlt')] at hR
   by_cases h0:xs[k]=ys[k]
   ·rw [AV h0] at hc
    rw [Ez (and_iff_right h0)] at hR
    simp (disch:=omega) only [go_sem,Aa,hni,hgx,hgy,hc,hg,hm]
    exact ⟨i+1,⟨k+1,by omega,hlt,hR⟩,by omega,by first | trivial | rfl⟩
   ·rw [Bg h0] at hc
    rw [Bg (fun h=>h0 h.1)] at hR
    simp (disch:=omega) only [go_sem,Aa,hni,hgx,hgy,hc,hg,hm]
    exact hR
  ·rw [zJ hge,zJ (by omega),Lc] at hR
   simp (disch:=omega) only [go_sem,Aa,hni]
   exact hR
 ·have hq:((xs.length:Int)=(ys.length:Int))=False:=by first | exact eq_true (by omega) | exact eq_false (by omega)
  have he:dec (xs=ys)=false:=Bg fun h=>hlen (by rw [h])
  rw [he]
  refine Af Bb AD (of_decide_eq_true rfl) ?_
  simp (disch:=omega) only [AC,go_sem,Aa,hq]
theorem Tm.eq_iff (x y:Tm):x=y ↔ x.name=y.name∧x.args=y.args:=by
 obtain ⟨n,a⟩:=x
 obtain ⟨m,b⟩:=y
 rw [Tm.mk.injEq]; rfl
theorem LM (x:Tm) (y:Tm) (hnx:x.nodes≤1099511627776) (hny:y.nodes≤1099511627776) (ih:∀ x'∈x.args,∀ y':Tm,x'.nodes≤1099511627776→y'.nodes≤1099511627776→E 63 [x'.sv,y'.sv] []=some (.bool (dec (x'=y')),[])):E 63 [x.sv,y.sv] []=some (.bool (dec (x=y)),[]):=by
 have lx:=Tm.length_le x.args
 have ly:=Tm.length_le y.args
 have nx:=Tm.Aj x
 have ny:=Tm.Aj y
 have h6:=OA 63 x.args y.args (by omega) (by omega) IJ (by rw [A7]) fun x' hx' y' hy'=>ih x' hx' y' (by have:=Tm.AU hx'; omega) (by have:=Tm.AU hy'; omega)
 rw [Ez (Tm.eq_iff x y)]
 by_cases h0:x.name=y.name
 ·rw [Ez (and_iff_right h0)]
  have hq:(x.name=y.name)=True:=by simp [h0]
  refine Af F5 A7 (of_decide_eq_true rfl) ?_
  simp (disch:=omega) only [DE,go_sem,Aa,hq,h6,AD]
 ·have hq:(x.name=y.name)=False:=by simp [h0]
  rw [Bg (fun h=>h0 h.1)]
  refine Af F5 A7 (of_decide_eq_true rfl) ?_
  simp (disch:=omega) only [DE,go_sem,Aa,hq]
theorem IK (x y:Tm) (hnx:x.nodes≤1099511627776) (hny:y.nodes≤1099511627776):E 63 [x.sv,y.sv] []=some (.bool (dec (x=y)),[]) :=
 LM x y hnx hny fun x' hx' y' h h'=>IK x' y' h h'
termination_by SizeOf.sizeOf x
decreasing_by exact Tm.A8 hx'
theorem Rz (x:Tm) (y:Tm) (hnx:x.nodes≤1099511627776) (hny:y.nodes≤1099511627776) (ih:∀ x'∈x.args,∀ y':Tm,x'.nodes≤1099511627776→y'.nodes≤1099511627776→E 44 [x'.sv,y'.sv] []=some (.bool (dec (x'=y')),[])):E 44 [x.sv,y.sv] []=some (.bool (dec (x=y)),[]):=by
 have lx:=Tm.length_le x.args
 have ly:=Tm.length_le y.args
 have nx:=Tm.Aj x
 have ny:=Tm.Aj y
 rw [Ez (Tm.eq_iff x y)]
 by_cases h0:x.name=y.name
 ·rw [Ez (and_iff_right h0)]
  have hq:(x.name=y.name)=True:=by simp [h0]
  by_cases hlen:x.args.length=y.args.length
  ·have hq2:((x.args.length:Int)=(y.args.length:Int))=True:=by first | exact eq_true (by omega) | exact eq_false (by omega)
   refine Af FH Ay (of_decide_eq_true rfl) ?_
   simp (disch:=omega) only [Eh,go_sem,Aa,hq,hq2]
   refine go_loop (α:=Int) (fun a=>⟨slots 39 0 [(2,.ptr 0 0),(3,.ptr 1 0),(5,.int .i64 a)],[.box 26 [.str x.name,.arr (x.args.map Tm.d)],.box 26 [.str y.name,.arr (y.args.map Tm.d)]]⟩) (fun a=>∃ k:Nat,a=k∧k≤(x.args).length∧dec (x.args.drop k=y.args.drop k)=dec (x.args=y.args)) (fun a=>(x.args).length-(a).toNat) 0 ⟨0,rfl,zZ _,by rw [zQ,zQ]⟩ (by simp (disch:=omega) only [go_sem,Aa]) ?_
   rintro i ⟨k,hi,hk,hR⟩
   have hni:i.toNat=k:=by omega
   have hni1:(i+1).toNat=k+1:=by omega
   rcases zT k (x.args).length with hlt | hge
   ·have hgx:=get_at Tm.d hlt
    rw [Tm.d_eq] at hgx
    have hlt':k<y.args.length:=by omega
    have hgy:=get_at Tm.d hlt'
    rw [Tm.d_eq] at hgy
    have hc:=ih x.args[k] (zF hlt) y.args[k] (by have:=Tm.AU (zF hlt); omega) (by have:=Tm.AU (zF hlt'); omega)
    rw [Ez (Ha hlt hlt')] at hR
    by_cases h0:x.args[k]=y.args[k]
    ·rw [AV h0] at hc
     rw [Ez (and_iff_right h0)] at hR
     simp (disch:=omega) only [go_sem,Aa,hni,hgx,hgy,hc,Ay]
     exact ⟨i+1,⟨k+1,by omega,hlt,hR⟩,by omega,by first | trivial | rfl⟩
    ·rw [Bg h0] at hc
     rw [Bg (fun h=>h0 h.1)] at hR
     simp (disch:=omega) only [go_sem,Aa,hni,hgx,hgy,hc,Ay]
     exact hR
   ·rw [zJ hge,zJ (by omega),Lc] at hR
    simp (disch:=omega) only [go_sem,Aa,hni]
    exact hR
  ·have hq2:((x.args.length:Int)=(y.args.length:Int))=False:=by first | exact eq_true (by omega) | exact eq_false (by omega)
   have he:dec (x.args=y.args)=false:=Bg fun h=>hlen (by rw [h])
   rw [he]
   refine Af FH Ay (of_decide_eq_true rfl) ?_
   simp (disch:=omega) only [Eh,go_sem,Aa,hq,hq2]
 ·have hq:(x.name=y.name)=False:=by simp [h0]
  rw [Bg (fun h=>h0 h.1)]
  refine Af FH Ay (of_decide_eq_true rfl) ?_
  simp (disch:=omega) only [Eh,go_sem,Aa,hq]
theorem OB (x y:Tm) (hnx:x.nodes≤1099511627776) (hny:y.nodes≤1099511627776):E 44 [x.sv,y.sv] []=some (.bool (dec (x=y)),[]) :=
 Rz x y hnx hny fun x' hx' y' h h'=>OB x' y' h h'
termination_by SizeOf.sizeOf x
decreasing_by exact Tm.A8 hx'
mutual
noncomputable def mm:Tm→Tm→TEnv→TEnv × Bool
 | .mk n args,t,e=>bif dec (args.length=0)&&Bh n then (JN e n t,match e n with
   | some u=>dec (u=t)
   | none=>true)
  else bif dec (n=t.name)&&dec (args.length=t.args.length) then mmL args t.args e else (e,false)
noncomputable def mmL:List Tm→List Tm→TEnv→TEnv × Bool
 | [],_,e=>(e,true)
 | _ :: _,[],e=>(e,true)
 | x :: xs,y :: ys,e=>bif (mm x y e).2 then mmL xs ys (mm x y e).1 else ((mm x y e).1,false)
end
theorem Qy (p t:Tm) (e:TEnv):mm p t e=bif dec (p.args.length=0)&&Bh p.name then (JN e p.name t,match e p.name with
   | some u=>dec (u=t)
   | none=>true)
  else bif dec (p.name=t.name)&&dec (p.args.length=t.args.length) then mmL p.args t.args e else (e,false):=by
 obtain ⟨n,args⟩:=p
 rw [mm]; rfl
theorem Hd (x:Tm) (xs:List Tm) (y:Tm) (ys:List Tm) (e:TEnv):mmL (x :: xs) (y :: ys) e=bif (mm x y e).2 then mmL xs ys (mm x y e).1 else ((mm x y e).1,false):=by rw [mmL]
theorem Qz (ys:List Tm) (e:TEnv):mmL [] ys e=(e,true):=by rw [mmL]
theorem R0 (e:TEnv) (s:ByteArray) (t:Tm):Kk (Cm e) (.str s) (true,[.str t.name,.arr (t.args.map Tm.d)])=Cm (JN e s t):=by
 funext k
 cases k with
 | int i=>rw [Gg (fun h=>by cases h)]; rfl
 | str q =>
  rw [NO,Cv,Cv]
  unfold JN
  cases dec (q=s) <;> rfl
theorem P9:Cm (fun _=>none)=nomap:=by
 funext k
 cases k <;> rfl
def TN (N:Nat) (e:TEnv):Prop:=∀ s t,e s=some t→t.nodes≤N
theorem TN.put {N:Nat} {e:TEnv} (h:TN N e) {s:ByteArray} {t:Tm} (ht:t.nodes≤N):TN N (JN e s t):=fun q u hq=>by
 unfold JN at hq
 by_cases he:q=s
 ·rw [AV he,cond_true] at hq
  obtain rfl:=zH hq
  exact ht
 ·rw [Bg he,cond_false] at hq; exact h q u hq
def TL (e:TEnv) (L:List Bd):Prop:=(L.map Bd.var).Nodup∧∀ b:Bd,b∈L ↔ e b.var=some b.term
theorem TL.put {e:TEnv} {L:List Bd} (h:TL e L) (s:ByteArray) (t:Tm):∃ L',TL (JN e s t) L'∧L'.length≤L.length+1:=by
 refine ⟨⟨s,t⟩ :: L.filter (fun b=>!dec (b.var=s)),⟨?_,fun b=>?_⟩,?_⟩
 ·rw [zC,yF]
  refine ⟨fun hm=>?_,(List.filter_sublist.map Bd.var).nodup h.1⟩
  obtain ⟨b,h1,h2⟩:=z2.1 hm
  have:=(List.mem_filter.1 h1).2
  rw [AV h2] at this; cases this
 ·rw [z6,List.mem_filter]
  unfold JN
  by_cases he:b.var=s
  ·rw [AV he,cond_true]
   simp only [Bool.not_true,Bool.false_eq_true,and_false,or_false,yN]
   constructor
   ·rintro rfl; rfl
   ·intro h1; exact WN he h1.symm
  ·rw [Bg he,cond_false,h.2 b]
   simp only [Bool.not_false,and_true]
   constructor
   ·rintro (rfl | h1)
    ·exact absurd rfl he
    ·exact h1
   ·exact .inr
 ·have:=List.length_filter_le (fun b:Bd=>!dec (b.var=s)) L
  rw [yP]; omega
theorem Q0 {N:Nat} (p:Tm):∀ (t:Tm) (e:TEnv),t.nodes≤N→TN N e→TN N (mm p t e).1:=by
 intro t e ht he
 have key:∀ (xs:List Tm),(∀ x∈xs,∀ (t:Tm) (e:TEnv),t.nodes≤N→TN N e→TN N (mm x t e).1)→∀ (ys:List Tm) (e:TEnv),(∀ y∈ys,y.nodes≤N)→TN N e→TN N (mmL xs ys e).1:=by
  intro xs
  induction xs with
  | nil=>intro _ ys e _ h; rw [mmL]; exact h
  | cons x xs ih =>
   intro h ys e hy hp
   cases ys with
   | nil=>rw [mmL]; exact hp
   | cons y ys =>
    have h1:=h x (by simp) y e (hy y (by simp)) hp
    rw [Hd]
    cases hq:(mm x y e).2 with
    | false=>exact h1
    | true =>
     rw [cond_true]
     exact ih (fun z hz=>h z (by simp [hz])) ys _ (fun z hz=>hy z (by simp [hz])) h1
 rw [Qy]
 cases dec (p.args.length=0)&&Bh p.name with
 | true=>exact he.put ht
 | false =>
  rw [cond_false]
  cases dec (p.name=t.name)&&dec (p.args.length=t.args.length) with
  | false=>exact he
  | true =>
   rw [cond_true]
   exact key p.args (fun x hx=>Q0 x) t.args e (fun y hy=>by have:=Tm.AU hy; have:=Tm.Aj t; omega) he
termination_by SizeOf.sizeOf p
decreasing_by exact Tm.A8 hx
theorem Vk (p:Tm):∀ (t:Tm) (e:TEnv) (L:List Bd),TL e L→∃ L',TL (mm p t e).1 L'∧L'.length≤L.length+p.nodes:=by
 intro t e L hL
 have key:∀ (xs:List Tm),(∀ x∈xs,∀ (t:Tm) (e:TEnv) (L:List Bd),TL e L→∃ L',TL (mm x t e).1 L'∧L'.length≤L.length+x.nodes)→∀ (ys:List Tm) (e:TEnv) (L:List Bd),TL e L→∃ L',TL (mmL xs ys e).1 L'∧L'.length≤L.length+Tm.AK xs:=by
  intro xs
  induction xs with
  | nil=>intro _ ys e L h; rw [mmL]; exact ⟨L,h,by omega⟩
  | cons x xs ih =>
   intro h ys e L hL
   cases ys with
   | nil=>rw [mmL]; exact ⟨L,hL,by omega⟩
   | cons y ys =>
    obtain ⟨L1,h1,l1⟩:=h x (by simp) y e L hL
    rw [Hd]
    cases hq:(mm x y e).2 with
    | false=>exact ⟨L1,h1,by rw [Tm.AK]; omega⟩
    | true =>
     rw [cond_true]
     obtain ⟨L2,h2,l2⟩:=ih (fun z hz=>h z (by simp [hz])) ys _ L1 h1
     exact ⟨L2,h2,by rw [Tm.AK]; omega⟩
 have hn:=Tm.Aj p
 rw [Qy]
 cases dec (p.args.length=0)&&Bh p.name with
 | true =>
  obtain ⟨L',h1,h2⟩:=hL.put p.name t
  exact ⟨L',h1,by omega⟩
 | false =>
  rw [cond_false]
  cases dec (p.name=t.name)&&dec (p.args.length=t.args.length) with
  | false=>exact ⟨L,hL,by omega⟩
  | true =>
   rw [cond_true]
   obtain ⟨L',h1,h2⟩:=key p.args (fun x hx=>Vk x) t.args e L hL
   exact ⟨L',h1,by omega⟩
termination_by SizeOf.sizeOf p
decreasing_by exact Tm.A8 hx
def AP:SC:=(.seq (.reg [⟨some 4,none,.boxv 26 2 (.t 1)⟩,⟨some 5,none,.boxv 26 2 (.t 2)⟩,⟨some 6,none,.mv (.c (.bool false))⟩]) (.seq (.seq (.reg [⟨some 11,none,.faddr 1 (.t 4)⟩,⟨some 12,none,.load false 1 (.t 11)⟩,⟨some 13,none,.len false (.t 12)⟩,⟨some 14,none,.bin .eql false (.t 13) (.c (.int .i64 0))⟩,⟨some 15,none,.mv (.t 14)⟩,⟨(some 16),(some (15,true)),(.load true 2 (.t 4))⟩,⟨(some 17),(some (15,true)),(.call 62 [(.t 16)])⟩,⟨some 18,none,.pick (.t 15) (.t 17) (.c (.bool false))⟩]) (.cond (.t 18) (.seq (.reg [⟨some 20,none,.mv (.t 0)⟩,⟨some 21,none,.faddr 0 (.t 4)⟩,⟨some 22,none,.load false 1 (.t 21)⟩,⟨(some 23),none,(.mget true true true [(.str ⟨#[]⟩),.nil] (.t 20) (.t 22))⟩,⟨some 19,none,.mv (.t 23)⟩,⟨some 24,none,.ext (.t 19) 0⟩,⟨some 25,none,.ext (.t 19) 1⟩,⟨(some 7),none,(.alloc 26 [(.str ⟨#[]⟩),.nil])⟩,⟨none,none,(.store 2 (.t 7) (.t 24))⟩,⟨some 8,none,.mv (.t 25)⟩]) (.seq (.reg [⟨some 26,none,.mv (.t 0)⟩,⟨some 27,none,.faddr 0 (.t 4)⟩,⟨some 28,none,.load false 1 (.t 27)⟩,⟨some 29,none,.load true 2 (.t 5)⟩,⟨none,none,(.mset true (.t 26) (.t 28) (.t 29))⟩]) (.seq (.reg [⟨some 30,none,.mv (.t 8)⟩,⟨some 31,none,.un .not (.t 30)⟩,⟨some 32,none,.mv (.t 31)⟩,⟨(some 33),(some (32,false)),(.load true 2 (.t 7))⟩,⟨(some 34),(some (32,false)),(.load true 2 (.t 5))⟩,⟨(some 35),(some (32,false)),(.call 63 [(.t 33),(.t 34)])⟩,⟨some 36,none,.pick (.t 32) (.c (.bool true)) (.t 35)⟩,⟨some 6,none,.mv (.t 36)⟩]) .ret))) .skip)) (.seq (.seq (.reg [⟨some 37,none,.faddr 0 (.t 4)⟩,⟨some 38,none,.load false 1 (.t 37)⟩,⟨some 39,none,.faddr 0 (.t 5)⟩,⟨some 40,none,.load false 1 (.t 39)⟩,⟨some 41,none,.bin .neq false (.t 38) (.t 40)⟩,⟨some 42,none,.mv (.t 41)⟩,⟨(some 43),(some (42,false)),(.faddr 1 (.t 4))⟩,⟨(some 44),(some (42,false)),(.load false 1 (.t 43))⟩,⟨(some 45),(some (42,false)),(.len false (.t 44))⟩,⟨(some 46),(some (42,false)),(.faddr 1 (.t 5))⟩,⟨(some 47),(some (42,false)),(.load false 1 (.t 46))⟩,⟨(some 48),(some (42,false)),(.len false (.t 47))⟩,⟨(some 49),(some (42,false)),(.bin .neq false (.t 45) (.t 48))⟩,⟨some 50,none,.pick (.t 42) (.c (.bool true)) (.t 49)⟩]) (.cond (.t 50) (.seq (.reg [⟨some 6,none,.mv (.c (.bool false))⟩]) .ret) .skip)) (.seq (.seq (.reg [⟨some 51,none,.faddr 1 (.t 4)⟩,⟨some 52,none,.load false 1 (.t 51)⟩,⟨some 53,none,.len false (.t 52)⟩,⟨some 54,none,.mv (.c (.int .i64 0))⟩]) (.block 0 (.loop [1,0,0,0,0,1,0,0,0,0,0,0,0,0,0,0,0,0,0,0,0,0,0,0,0,0,0,0,0,0,0,0,0,0,0,0,0,0,0,0,0,0,0,0,0,0,0,0,0,0,0,0,1,1,1,0,0,0,0,0,0,0,0,0,0,0,0,0,0] (.seq (.reg [⟨some 55,none,.bin .lss false (.t 54) (.t 53)⟩]) (.seq (.cond (.t 55) .skip (.exit 0)) (.seq (.block 1 (.seq (.reg [⟨some 56,none,.mv (.t 54)⟩,⟨some 57,none,.iaddr 2 (.t 52) (.t 54)⟩,⟨some 58,none,.load true 2 (.t 57)⟩,⟨(some 10),none,(.alloc 26 [(.str ⟨#[]⟩),.nil])⟩,⟨some 9,none,.mv (.t 56)⟩,⟨none,none,(.store 2 (.t 10) (.t 58))⟩]) (.seq (.dreg [[],[],[],[2],[],[3,2,4],[5,3,2,4],[0,1,6,5,3,2,4],[7,0,1,6,5,3,2,4]] [⟨some 59,none,.mv (.t 0)⟩,⟨some 60,none,.load true 2 (.t 10)⟩,⟨some 61,none,.faddr 1 (.t 5)⟩,⟨some 62,none,.load false 1 (.t 61)⟩,⟨some 63,none,.mv (.t 9)⟩,⟨some 64,none,.iaddr 2 (.t 62) (.t 63)⟩,⟨some 65,none,.load true 2 (.t 64)⟩,⟨some 66,none,.call 42 [(.t 59),(.t 60),(.t 65)]⟩,⟨some 67,none,.un .not (.t 66)⟩]) (.cond (.t 67) (.seq (.reg [⟨some 6,none,.mv (.c (.bool false))⟩]) .ret) .skip)))) (.reg [⟨some 68,none,.bin .add false (.t 54) (.c (.int .i64 1))⟩,⟨some 54,none,.mv (.t 68)⟩]))))))) (.seq (.reg [⟨some 6,none,.mv (.c (.bool true))⟩]) .ret)))))
theorem AX:Ar Try.prog 42=some ⟨69,AP,[(.tmp 6)]⟩:=by kernel_rfl
theorem Ai:modes 42=⟨[true],.asis,none,false⟩:=by unfold modes; rfl
def MmC (p:Tm):Prop:=∀ (t:Tm) (e:TEnv),t.nodes≤1099511627776→TN 1099511627776 e→E 42 [.ref 0,p.sv,t.sv] [.mp true (Cm e)]=some (.bool (mm p t e).2,[.mp true (Cm (mm p t e).1)])
theorem OC (p:Tm) (hn:p.nodes≤1099511627776) (hc:p.cok=true) (ih:∀ y∈p.args,MmC y):MmC p:=by
 intro t e ht he
 have hla:=Tm.length_le p.args
 have hnp:=Tm.Aj p
 have hnt:=Tm.Aj t
 have hlt0:=Tm.length_le t.args
 have hmm:=Qy p t e
 have hiv:=UE p hc
 have hp:=R0 e p.name t
 have hsome:∀ q:Prop,((True:Prop)=q)=q:=fun q=>by simp
 by_cases hz:p.args.length=0
 ·have hz1:((p.args.length:Int)=0)=True:=eq_true (by omega)
  rw [AV hz,zI] at hmm
  cases hv:Bh p.name with
  | true =>
   rw [hv,cond_true] at hmm
   rw [hv] at hiv
   rw [hmm]
   cases hen:e p.name with
   | none =>
    have hg:Cm e (.str p.name)=none:=by rw [Cv,hen]
    simp only
    refine Af AX Ai (of_decide_eq_true rfl) ?_
    simp (disch:=omega) only [AP,go_sem,Aa,hz1,hiv,hg,hp,By,A7,Ai,zB,Vs,MV.sv,D.sv]
   | some u =>
    have hg:Cm e (.str p.name)=some (true,[.str u.name,.arr (u.args.map Tm.d)]):=by rw [Cv,hen]
    have heq:=IK u t (he _ _ hen) ht
    simp only
    refine Af AX Ai (of_decide_eq_true rfl) ?_
    simp (disch:=omega) only [AP,go_sem,Aa,hz1,hiv,hg,hp,heq,By,A7,Ai,zB,Vs,MV.sv,D.sv]
  | false =>
   rw [hv,cond_false] at hmm
   rw [hv] at hiv
   rcases Classical.em (p.name=t.name∧p.args.length=t.args.length) with ⟨hnm,hl⟩ | hne
   rotate_left
   ·have hmm':mm p t e=(e,false):=by
     rw [hmm]
     by_cases hnm:p.name=t.name
     ·have hl:¬ p.args.length=t.args.length:=fun h=>hne ⟨hnm,h⟩
      rw [Bg hl,yB,cond_false]
     ·rw [Bg hnm,zN,cond_false]
    clear hmm
    rw [hmm']
    by_cases hnm:p.name=t.name
    ·have hl:((p.args.length:Int)=(t.args.length:Int))=False:=eq_false (fun h=>hne ⟨hnm,by omega⟩)
     have hn':dec (p.name=t.name)=true:=AV hnm
     refine Af AX Ai (of_decide_eq_true rfl) ?_
     simp (disch:=omega) only [AP,go_sem,Aa,hz1,hiv,hn',hl,By,A7,Ai,zB]
    ·have hn':dec (p.name=t.name)=false:=Bg hnm
     refine Af AX Ai (of_decide_eq_true rfl) ?_
     simp (disch:=omega) only [AP,go_sem,Aa,hz1,hiv,hn',By,A7,Ai,zB]
   ·have hmm':mm p t e=mmL p.args t.args e:=by rw [hmm,AV hnm,AV hl]; rfl
    clear hmm
    rw [hmm']
    have hl':((p.args.length:Int)=(t.args.length:Int))=True:=eq_true (by omega)
    have hn':dec (p.name=t.name)=true:=AV hnm
    refine Af AX Ai (of_decide_eq_true rfl) ?_
    simp (disch:=omega) only [AP,go_sem,Aa,hz1,hiv,hn',hl',By,A7,Ai,zB]
    refine go_loop (α:=Int × (TEnv)) (fun a=>⟨slots 69 0 [(0,.ref 0),(5,.ptr 1 0),(52,.arr (p.args.map Tm.d)),(53,.int .i64 p.args.length),(54,.int .i64 (a.1))],[.mp true (Cm (a.2)),.box 26 [.str t.name,.arr (t.args.map Tm.d)]]⟩) (fun a=>∃ k:Nat,a.1=k∧k≤(p.args).length∧mmL (p.args.drop k) (t.args.drop k) (a.2)=mmL p.args t.args e∧TN 1099511627776 (a.2)) (fun a=>(p.args).length-(a.1).toNat) (0,e) ⟨0,rfl,zZ _,by rw [zQ,zQ],he⟩ (by simp (disch:=omega) only [go_sem,Aa]) ?_
    rintro ⟨i,e1⟩ ⟨k,hi,hk,hR⟩
    dsimp only at hi hR
    have hni:i.toNat=k:=by omega
    have hni1:(i+1).toNat=k+1:=by omega
    rcases zT k (p.args).length with hlt | hge
    ·obtain ⟨hR,he1⟩:=hR
     have hltt:k<t.args.length:=by omega
     have hgp:=get_at Tm.d hlt
     rw [Tm.d_eq] at hgp
     have hgt:=get_at Tm.d hltt
     rw [Tm.d_eq] at hgt
     rw [zG hlt,zG hltt,Hd] at hR
     have htn:t.args[k].nodes≤1099511627776:=by have:=Tm.AU (zF hltt); omega
     have hc:=ih p.args[k] (zF hlt) t.args[k] e1 htn he1
     have he2:=Q0 p.args[k] t.args[k] e1 htn he1
     cases hq:(mm p.args[k] t.args[k] e1).2 with
     | true =>
      rw [hq,cond_true] at hR
      rw [hq] at hc
      simp (disch:=omega) only [go_sem,Aa,hni,hgp,hgt,hc,By,A7,Ai,zB]
      exact ⟨(i+1,(mm p.args[k] t.args[k] e1).1),⟨k+1,by dsimp only; omega,hlt,hR,he2⟩,by dsimp only; omega,by first | trivial | rfl⟩
     | false =>
      rw [hq,cond_false] at hR
      rw [hq] at hc
      rw [←hR]
      simp (disch:=omega) only [go_sem,Aa,hni,hgp,hgt,hc,By,A7,Ai,zB]
    ·obtain ⟨hR,he1⟩:=hR
     rw [zJ hge,Qz] at hR
     rw [←hR]
     simp (disch:=omega) only [go_sem,Aa,hni]
 ·have hz1:((p.args.length:Int)=0)=False:=eq_false (by omega)
  rw [Bg hz,zN,cond_false] at hmm
  rcases Classical.em (p.name=t.name∧p.args.length=t.args.length) with ⟨hnm,hl⟩ | hne
  rotate_left
  ·have hmm':mm p t e=(e,false):=by
    rw [hmm]
    by_cases hnm:p.name=t.name
    ·have hl:¬ p.args.length=t.args.length:=fun h=>hne ⟨hnm,h⟩
     rw [Bg hl,yB,cond_false]
    ·rw [Bg hnm,zN,cond_false]
   clear hmm
   rw [hmm']
   by_cases hnm:p.name=t.name
   ·have hl:((p.args.length:Int)=(t.args.length:Int))=False:=eq_false (fun h=>hne ⟨hnm,by omega⟩)
    have hn':dec (p.name=t.name)=true:=AV hnm
    refine Af AX Ai (of_decide_eq_true rfl) ?_
    simp (disch:=omega) only [AP,go_sem,Aa,hz1,hiv,hn',hl,By,A7,Ai,zB]
   ·have hn':dec (p.name=t.name)=false:=Bg hnm
    refine Af AX Ai (of_decide_eq_true rfl) ?_
    simp (disch:=omega) only [AP,go_sem,Aa,hz1,hiv,hn',By,A7,Ai,zB]
  ·have hmm':mm p t e=mmL p.args t.args e:=by rw [hmm,AV hnm,AV hl]; rfl
   clear hmm
   rw [hmm']
   have hl':((p.args.length:Int)=(t.args.length:Int))=True:=eq_true (by omega)
   have hn':dec (p.name=t.name)=true:=AV hnm
   refine Af AX Ai (of_decide_eq_true rfl) ?_
   simp (disch:=omega) only [AP,go_sem,Aa,hz1,hiv,hn',hl',By,A7,Ai,zB]
   refine go_loop (α:=Int × (TEnv)) (fun a=>⟨slots 69 0 [(0,.ref 0),(5,.ptr 1 0),(52,.arr (p.args.map Tm.d)),(53,.int .i64 p.args.length),(54,.int .i64 (a.1))],[.mp true (Cm (a.2)),.box 26 [.str t.name,.arr (t.args.map Tm.d)]]⟩) (fun a=>∃ k:Nat,a.1=k∧k≤(p.args).length∧mmL (p.args.drop k) (t.args.drop k) (a.2)=mmL p.args t.args e∧TN 1099511627776 (a.2)) (fun a=>(p.args).length-(a.1).toNat) (0,e) ⟨0,rfl,zZ _,by rw [zQ,zQ],he⟩ (by simp (disch:=omega) only [go_sem,Aa]) ?_
   rintro ⟨i,e1⟩ ⟨k,hi,hk,hR⟩
   dsimp only at hi hR
   have hni:i.toNat=k:=by omega
   have hni1:(i+1).toNat=k+1:=by omega
   rcases zT k (p.args).length with hlt | hge
   ·obtain ⟨hR,he1⟩:=hR
    have hltt:k<t.args.length:=by omega
    have hgp:=get_at Tm.d hlt
    rw [Tm.d_eq] at hgp
    have hgt:=get_at Tm.d hltt
    rw [Tm.d_eq] at hgt
    rw [zG hlt,zG hltt,Hd] at hR
    have htn:t.args[k].nodes≤1099511627776:=by have:=Tm.AU (zF hltt); omega
    have hc:=ih p.args[k] (zF hlt) t.args[k] e1 htn he1
    have he2:=Q0 p.args[k] t.args[k] e1 htn he1
    cases hq:(mm p.args[k] t.args[k] e1).2 with
    | true =>
     rw [hq,cond_true] at hR
     rw [hq] at hc
     simp (disch:=omega) only [go_sem,Aa,hni,hgp,hgt,hc,By,A7,Ai,zB]
     exact ⟨(i+1,(mm p.args[k] t.args[k] e1).1),⟨k+1,by dsimp only; omega,hlt,hR,he2⟩,by dsimp only; omega,by first | trivial | rfl⟩
    | false =>
     rw [hq,cond_false] at hR
     rw [hq] at hc
     rw [←hR]
     simp (disch:=omega) only [go_sem,Aa,hni,hgp,hgt,hc,By,A7,Ai,zB]
   ·obtain ⟨hR,he1⟩:=hR
    rw [zJ hge,Qz] at hR
    rw [←hR]
    simp (disch:=omega) only [go_sem,Aa,hni]
theorem JF (p:Tm) (h:p.names=true) (hn:p.nodes≤1099511627776):MmC p :=
 OC p hn (Tm.Jk p h) fun y hy=>JF y (Tm.EG h hy) (by have:=Tm.AU hy; have:=Tm.Aj p; omega)
termination_by SizeOf.sizeOf p
decreasing_by exact Tm.A8 hy
theorem Hx {p:Tm} (h:p.expr=true):p.cok=true∧∀ y∈p.args,y.names=true:=by
 have hnm:p.names=true→p.cok=true∧∀ y∈p.args,y.names=true:=fun hn=>⟨Tm.Jk p hn,fun y hy=>Tm.EG hn hy⟩
 unfold Tm.expr at h
 cases hv:p.valid with
 | true=>exact hnm (F4 hv)
 | false =>
  rw [hv,y8] at h
  unfold Tm.atom at h
  split at h
  ·rename_i he
   rw [zK] at h
   have h2:Tm.Dm p.args=true:=h.2
   have h3:p.name=⟨#[61]⟩:=At.1 he
   refine ⟨?_,fun y hy=>?_⟩
   ·rw [Tm.ST,Tm.Ia p.args h2,h3]; decide +kernel
   ·rw [Tm.DX,zW] at h2
    exact h2 y hy
  ·rw [zK] at h
   exact hnm (F4 h.2)
theorem WO {p:Tm} (h:p.expr=true) (hn:p.nodes≤1048576):MmC p :=
 OC p (by omega) (Hx h).1 fun y hy=>JF y ((Hx h).2 y hy) (by have:=Tm.AU hy; have:=Tm.Aj p; omega)
noncomputable def mE (p t:Tm):TEnv × Bool:=mm p t fun _=>none
noncomputable def R1 (p t:Tm):Bool:=(mE p t).2&&Ng (mbs (mE p t).1)
noncomputable def R2 (p t:Tm):List Bd:=bif (mE p t).2 then mbA (mE p t).1 else []
theorem Vl {p t:Tm} (ht:t.nodes≤1099511627776):TN 1099511627776 (mE p t).1:=Q0 p t _ ht fun s u h=>by cases h
theorem Vm (p t:Tm):∃ L,TL (mE p t).1 L∧L.length≤p.nodes:=by
 obtain ⟨L,h1,h2⟩:=Vk p t (fun _=>none) [] ⟨yH,fun b=>⟨fun h=>(by cases h),fun h=>(by cases h)⟩⟩
 exact ⟨L,h1,by simpa [mE] using h2⟩
theorem UM {p t:Tm} (hp:p.nodes≤1048576) (ht:t.nodes≤1099511627776):E 43 [.mp true (Cm (mE p t).1)] []=some (Ps (mE p t).1,Pt (mE p t).1):=by
 rw [KZ (g:=Pu) (congrArg FM.ext Cg)]
 obtain ⟨L,h1,h2⟩:=Vm p t
 exact Uo (UL _ L h1.1 h1.2 (by omega) fun b hb=>Vl ht _ _ ((h1.2 b).1 hb))
def Fk:SC:=(.seq (.reg [⟨some 2,none,.boxv 26 2 (.t 0)⟩,⟨some 3,none,.boxv 26 2 (.t 1)⟩,⟨some 4,none,.alloc 31 [.nil]⟩,⟨some 5,none,.mv (.c (.bool false))⟩]) (.seq (.reg [⟨some 7,none,.mkmap true none⟩,⟨some 6,none,.mv (.t 7)⟩]) (.seq (.seq (.reg [⟨some 8,none,.mv (.t 6)⟩,⟨some 9,none,.load true 2 (.t 2)⟩,⟨some 10,none,.load true 2 (.t 3)⟩,⟨some 11,none,.call 42 [(.t 8),(.t 9),(.t 10)]⟩,⟨some 12,none,.un .not (.t 11)⟩]) (.cond (.t 12) (.seq (.reg [⟨some 13,none,.build [.nil] []⟩,⟨none,none,(.store 1 (.t 4) (.t 13))⟩,⟨some 5,none,.mv (.c (.bool false))⟩]) .ret) .skip)) (.seq (.reg [⟨some 14,none,.mv (.t 6)⟩,⟨some 15,none,.call 43 [(.t 14)]⟩,⟨some 16,none,.ext (.t 15) 0⟩,⟨some 17,none,.ext (.t 15) 1⟩,⟨none,none,(.store 1 (.t 4) (.t 16))⟩,⟨some 5,none,.mv (.t 17)⟩]) .ret))))
theorem He:Ar Try.prog 22=some ⟨18,Fk,[(.cell 4 true 1),(.tmp 5)]⟩:=by kernel_rfl
theorem DF:modes 22=⟨[],.own [some (58,3),none],none,false⟩:=by unfold modes; rfl
def CR:SC:=(.seq (.reg [⟨some 2,none,.boxv 26 2 (.t 0)⟩,⟨some 3,none,.boxv 26 2 (.t 1)⟩,⟨some 4,none,.alloc 31 [.nil]⟩,⟨some 5,none,.mv (.c (.bool false))⟩]) (.seq (.seq (.reg [⟨some 6,none,.load true 2 (.t 2)⟩,⟨some 7,none,.call 21 [(.t 6)]⟩,⟨some 8,none,.un .not (.t 7)⟩,⟨some 9,none,.mv (.t 8)⟩,⟨(some 10),(some (9,false)),(.load true 2 (.t 3))⟩,⟨(some 11),(some (9,false)),(.call 21 [(.t 10)])⟩,⟨(some 12),(some (9,false)),(.un .not (.t 11))⟩,⟨some 13,none,.pick (.t 9) (.c (.bool true)) (.t 12)⟩]) (.cond (.t 13) (.seq (.reg [⟨some 14,none,.build [.nil] []⟩,⟨none,none,(.store 1 (.t 4) (.t 14))⟩,⟨some 5,none,.mv (.c (.bool false))⟩]) .ret) .skip)) (.seq (.reg [⟨some 15,none,.load true 2 (.t 2)⟩,⟨some 16,none,.load true 2 (.t 3)⟩,⟨some 17,none,.call 22 [(.t 15),(.t 16)]⟩,⟨some 18,none,.ext (.t 17) 0⟩,⟨some 19,none,.ext (.t 17) 1⟩,⟨none,none,(.store 1 (.t 4) (.t 18))⟩,⟨some 5,none,.mv (.t 19)⟩]) .ret)))
theorem DG:Ar Try.prog 6=some ⟨20,CR,[(.cell 4 true 1),(.tmp 5)]⟩:=by kernel_rfl
theorem BG:modes 6=⟨[],.own [some (58,3),none],none,false⟩:=by unfold modes; rfl
def CS:SC:=(.seq (.reg [⟨some 2,none,.boxv 26 2 (.t 0)⟩,⟨some 3,none,.boxv 26 2 (.t 1)⟩,⟨some 4,none,.mv (.c (.bool false))⟩,⟨some 5,none,.mv (.c (.bool false))⟩]) (.seq (.seq (.reg [⟨some 8,none,.load true 2 (.t 3)⟩,⟨some 9,none,.call 21 [(.t 8)]⟩,⟨some 10,none,.un .not (.t 9)⟩,⟨some 11,none,.mv (.t 10)⟩,⟨(some 12),(some (11,false)),(.load true 2 (.t 2))⟩,⟨(some 13),(some (11,false)),(.call 21 [(.t 12)])⟩,⟨(some 14),(some (11,false)),(.un .not (.t 13))⟩,⟨some 15,none,.pick (.t 11) (.c (.bool true)) (.t 14)⟩]) (.cond (.t 15) (.seq (.reg [⟨some 4,none,.mv (.c (.bool false))⟩,⟨some 5,none,.mv (.c (.bool false))⟩]) .ret) .skip)) (.seq (.reg [⟨some 17,none,.load true 2 (.t 3)⟩,⟨some 18,none,.load true 2 (.t 2)⟩,⟨some 19,none,.call 22 [(.t 17),(.t 18)]⟩,⟨some 16,none,.mv (.t 19)⟩,⟨some 20,none,.ext (.t 16) 0⟩,⟨some 21,none,.ext (.t 16) 1⟩,⟨some 6,none,.alloc 31 [.nil]⟩,⟨none,none,(.store 1 (.t 6) (.t 20))⟩,⟨some 7,none,.mv (.t 21)⟩]) (.seq (.reg [⟨some 22,none,.mv (.t 7)⟩,⟨some 4,none,.mv (.t 22)⟩,⟨some 5,none,.mv (.c (.bool true))⟩]) .ret))))
theorem DH:Ar Try.prog 9=some ⟨23,CS,[(.tmp 4),(.tmp 5)]⟩:=by kernel_rfl
theorem BH:modes 9=⟨[],.asis,none,false⟩:=by unfold modes; rfl
theorem MC {p t:Tm} (he:p.expr=true) (hp:p.nodes≤1048576) (ht:t.nodes≤1099511627776):E 22 [p.sv,t.sv] []=some (.tup [.agg [.ref 0],.bool (R1 p t)],[.row 58 3 ((R2 p t).map Bd.o)]):=by
 have h1:=WO he hp t (fun _=>none) ht fun s u h=>by cases h
 have hm:mm p t (fun _=>none)=mE p t:=rfl
 rw [hm] at h1
 have h2:=UM (t:=t) hp ht
 have h0:=P9.symm
 unfold R1 R2
 cases hq:(mE p t).2 with
 | true =>
  rw [hq] at h1
  rw [zI,cond_true]
  refine Af He DF (of_decide_eq_true rfl) ?_
  simp (disch:=omega) only [Fk,go_sem,Aa,h0,h1,h2,zD,Ps,Pt,Ai,Cg]
 | false =>
  rw [hq] at h1
  rw [zN,cond_false]
  refine Af He DF (of_decide_eq_true rfl) ?_
  simp (disch:=omega) only [Fk,go_sem,Aa,h0,h1,h2,zD,Ps,Pt,Ai,Cg]
noncomputable def mtT (p t:Tm):Bool:=p.expr&&(t.expr&&R1 p t)
noncomputable def Fp (p t:Tm):List Bd:=bif p.expr&&t.expr then R2 p t else []
theorem IL (p t:Tm) (hp:p.nodes≤1048576) (ht:t.nodes≤1048576):E 6 [p.sv,t.sv] []=some (.tup [.agg [.ref 0],.bool (mtT p t)],[.row 58 3 ((Fp p t).map Bd.o)]):=by
 have h1:=Dc p (by omega)
 have h2:=Dc t (by omega)
 unfold mtT Fp
 cases hpe:p.expr with
 | false =>
  rw [hpe] at h1
  rw [zN,zN,cond_false]
  refine Af DG BG (of_decide_eq_true rfl) ?_
  simp (disch:=omega) only [CR,go_sem,Aa,h1,h2,AI,zD]
 | true =>
  rw [hpe] at h1
  rw [zI,zI]
  cases hte:t.expr with
  | false =>
   rw [hte] at h2
   rw [zN,cond_false]
   refine Af DG BG (of_decide_eq_true rfl) ?_
   simp (disch:=omega) only [CR,go_sem,Aa,h1,h2,AI,zD]
  | true =>
   rw [hte] at h2
   have h3:=MC (t:=t) hpe hp (by omega)
   rw [zI,cond_true]
   refine Af DG BG (of_decide_eq_true rfl) ?_
   simp (disch:=omega) only [CR,go_sem,Aa,h1,h2,h3,AI,DF]
theorem Nz (t p:Tm) (ht:t.nodes≤1048576) (hp:p.nodes≤1048576):E 9 [t.sv,p.sv] []=some (.tup [.bool (mtT p t),.bool (p.expr&&t.expr)],[]):=by
 have h1:=Dc p (by omega)
 have h2:=Dc t (by omega)
 unfold mtT
 cases hpe:p.expr with
 | false =>
  rw [hpe] at h1
  rw [zN,zN]
  refine Af DH BH (of_decide_eq_true rfl) ?_
  simp (disch:=omega) only [CS,go_sem,Aa,h1,h2,AI]
 | true =>
  rw [hpe] at h1
  rw [zI,zI]
  cases hte:t.expr with
  | false =>
   rw [hte] at h2
   rw [zN]
   refine Af DH BH (of_decide_eq_true rfl) ?_
   simp (disch:=omega) only [CS,go_sem,Aa,h1,h2,AI]
  | true =>
   rw [hte] at h2
   have h3:=MC (t:=t) hpe hp (by omega)
   rw [zI]
   refine Af DH BH (of_decide_eq_true rfl) ?_
   simp (disch:=omega) only [CS,go_sem,Aa,h1,h2,h3,AI,DF]
theorem If {p t:Tm} {ps:List Pr} (h:Bh p.name=true):mt p t ps=match prF p.name ps with
  | some q=>(ps,dec (q.term=t))
  | none=>(ps++[⟨p.name,t⟩],true):=by
 obtain ⟨n,args⟩:=p
 have h:Bh n=true:=h
 rw [mt,h,cond_true]; rfl
theorem Ig {p t:Tm} {ps:List Pr} (h:Bh p.name=false):mt p t ps=bif dec (p.name=t.name)&&dec (p.args.length=t.args.length) then mtL p.args t.args ps else (ps,false):=by
 obtain ⟨n,args⟩:=p
 have h:Bh n=false:=h
 rw [mt,h,cond_false]; rfl
theorem Et (x:Tm) (xs:List Tm) (y:Tm) (ys:List Tm) (ps:List Pr):mtL (x :: xs) (y :: ys) ps=bif (mt x y ps).2 then mtL xs ys (mt x y ps).1 else (ps,false):=by rw [mtL]
theorem UN (ys:List Tm) (ps:List Pr):mtL [] ys ps=(ps,true):=by rw [mtL]
structure MtOk (N:Nat) (ps qs:List Pr):Prop where
 pre:∃ r,qs=ps++r
 len:qs.length≤ps.length+N
theorem MtOk.refl (N:Nat) (ps:List Pr):MtOk N ps ps:=⟨⟨[],by simp⟩,by omega⟩
theorem Q1 (p:Tm):∀ (t:Tm) (ps:List Pr),MtOk p.nodes ps (mt p t ps).1:=by
 intro t ps
 have key:∀ (xs:List Tm),(∀ x∈xs,∀ (t:Tm) (ps:List Pr),MtOk x.nodes ps (mt x t ps).1)→∀ (ys:List Tm) (ps:List Pr),MtOk (Tm.AK xs) ps (mtL xs ys ps).1:=by
  intro xs
  induction xs with
  | nil=>intro _ ys ps; rw [mtL]; exact .refl _ _
  | cons x xs ih =>
   intro h ys ps
   cases ys with
   | nil=>rw [mtL]; exact .refl _ _
   | cons y ys =>
    rw [Et]
    cases hq:(mt x y ps).2 with
    | false=>exact .refl _ _
    | true =>
     rw [cond_true]
     obtain ⟨⟨r1,e1⟩,l1⟩:=h x (by simp) y ps
     obtain ⟨⟨r2,e2⟩,l2⟩:=ih (fun z hz=>h z (by simp [hz])) ys (mt x y ps).1
     refine ⟨⟨r1++r2,by rw [e2,e1,yG]⟩,?_⟩
     rw [Tm.AK]; omega
 have hn:=Tm.Aj p
 cases hv:Bh p.name with
 | true =>
  rw [If hv]
  cases prF p.name ps with
  | some q=>exact .refl _ _
  | none=>exact ⟨⟨_,rfl⟩,by simp only [zS,yP,zA]; omega⟩
 | false =>
  rw [Ig hv]
  cases dec (p.name=t.name)&&dec (p.args.length=t.args.length) with
  | false=>exact .refl _ _
  | true =>
   rw [cond_true]
   obtain ⟨h1,h2⟩:=key p.args (fun x hx=>Q1 x) t.args ps
   exact ⟨h1,by omega⟩
termination_by SizeOf.sizeOf p
decreasing_by exact Tm.A8 hx
def PrB (N:Nat) (ps:List Pr):Prop:=∀ q∈ps,q.term.nodes≤N
theorem L4 {N:Nat} (p:Tm):∀ (t:Tm) (ps:List Pr),t.nodes≤N→PrB N ps→PrB N (mt p t ps).1:=by
 intro t ps ht hps
 have key:∀ (xs:List Tm),(∀ x∈xs,∀ (t:Tm) (ps:List Pr),t.nodes≤N→PrB N ps→PrB N (mt x t ps).1)→∀ (ys:List Tm) (ps:List Pr),(∀ y∈ys,y.nodes≤N)→PrB N ps→PrB N (mtL xs ys ps).1:=by
  intro xs
  induction xs with
  | nil=>intro _ ys ps _ h; rw [mtL]; exact h
  | cons x xs ih =>
   intro h ys ps hy hp
   cases ys with
   | nil=>rw [mtL]; exact hp
   | cons y ys =>
    rw [Et]
    cases hq:(mt x y ps).2 with
    | false=>exact hp
    | true =>
     rw [cond_true]
     exact ih (fun z hz=>h z (by simp [hz])) ys _ (fun z hz=>hy z (by simp [hz])) (h x (by simp) y ps (hy y (by simp)) hp)
 cases hv:Bh p.name with
 | true =>
  rw [If hv]
  cases prF p.name ps with
  | some q=>exact hps
  | none =>
   intro q hq
   rcases z8.1 hq with hq | hq
   ·exact hps q hq
   ·rw [zX.1 hq]; exact ht
 | false =>
  rw [Ig hv]
  cases dec (p.name=t.name)&&dec (p.args.length=t.args.length) with
  | false=>exact hps
  | true =>
   rw [cond_true]
   exact key p.args (fun x hx=>L4 x) t.args ps (fun y hy=>by have:=Tm.AU hy; have:=Tm.Aj t; omega) hps
termination_by SizeOf.sizeOf p
decreasing_by exact Tm.A8 hx
theorem Tn {n:ByteArray} {ps:List Pr} {k:Nat} (h:k<ps.length):prF n (ps.drop k)=bif dec (ps[k].name=n) then some ps[k] else prF n (ps.drop (k+1)):=by
 unfold prF
 rw [zG h,List.find?_cons]
 cases dec (ps[k].name=n) <;> rfl
section
variable {c:Ctx} {K:X→St→Prop} {st:St}
theorem RunL.ex {sc':SC} (h:∀ a w,st.sl.length=c.nt→Rep c st.f a w→∃ st':St,st'.sl.length=c.nt∧Rep c st'.f a w∧RunL c sc' K st'):RunL c sc' K st:=fun sc hl code hc a w Q hln hr hq=>by
 obtain ⟨st',h1,h2,h3⟩:=h a w hln hr
 exact h3 sc hl code hc a w Q h1 h2 hq
theorem RunL.weakR {sc':SC} (h:RunL c sc' (fun x s=>∃ s',Weak c s s'∧K x s') st):RunL c sc' K st:=fun sc hl=>Run.weakR (h sc hl)
theorem RunL.mono {sc':SC} {K':X→St→Prop} (h:RunL c sc' K' st) (hk:∀ x s,K' x s→K x s):RunL c sc' K st:=fun sc hl code hc a w Q hln hr hq=>h sc hl code hc a w Q hln hr fun x s a' w' hx=>hq x s a' w' (hk x s hx)
end
theorem Wf.obs' {w:World} {I:Nat→Prop} {V:Nat→Option Value} {B:Nat→Nat→Prop} {ob ob':Nat→Ob} (h:Wf w I V B ob) (h1:∀ x,(ob' x).live→(ob x).live∧∀ val,V x=some val→ObR w I V (B x) val (ob x)→ObR w I V (B x) val (ob' x)) (h2:∀ x,ob' x=.free→ob x=.free):Wf w I V B ob':=by
 refine ⟨h.ilt,fun x hx=>?_,fun x b hx=>h.lt x b (h1 x hx).1,fun x b hx=>h.dI x b (h1 x hx).1,fun x y b hx hy=>h.dO x y b (h1 x hx).1 (h1 y hy).1,fun x hx=>h.fr x (h2 x hx),h.gl⟩
 obtain ⟨k1,k2⟩:=h1 x hx
 obtain ⟨val,k3,k4⟩:=h.obj x k1
 exact ⟨val,k3,k2 val k3 k4⟩
section
variable {c:Ctx} {sl:List SV} {ob:List Ob} {k g n:Nat} {t:TypeId} {sz:Nat} {es:List (List OT)} {us us':List (Value × Nat)} {v:Value}
theorem N0 (hg:Ad ob g=.hist t sz es us):g<ob.length:=by
 rcases zT g ob.length with h1 | h1
 ·exact h1
 ·rw [AF _ _ h1] at hg; cases hg
theorem MD:∀ (l:List Ob) (g:Nat) (o:Ob),(BW l g o).length=l.length
 | [],_,_=>rfl
 | x :: l,0,o=>rfl
 | x :: l,g+1,o=>by simp only [BW,yP]; rw [MD l g o]
theorem OD (hk:gets sl k=.ref g) (hkl:k<sl.length) (hg:Ad ob g=.hist t sz es us) {a:Act} {w:World} (hr:Rep c (St.f ⟨sl,ob⟩) a w) :
  ∃ v,Rep c (St.f ⟨sl.set k (.val v),BW ob g (.hist t sz es ((v,es.length) :: us))⟩) a w:=by
 obtain ⟨I,V,B,hr⟩:=hr
 have hgl:=N0 hg
 have hv:=hr.slots k
 have hsk:(St.f ⟨sl,ob⟩).sl k=.ref g:=hk
 rw [hsk] at hv
 simp only [RepV] at hv
 refine ⟨a.tmps.getD k undef,I,V,B,hr.fr,hr.i0,hr.i1,hr.v0,?_,?_,hr.nd,hr.sz,?_⟩
 ·refine hr.wf.obs' (fun x hx=>?_) fun x hx=>?_
  ·have hx':Ad (BW ob g (.hist t sz es ((a.tmps.getD k undef,es.length) :: us))) x=if x=g∧g<ob.length then .hist t sz es ((a.tmps.getD k undef,es.length) :: us) else Ad ob x:=Co
   show (Ad ob x).live∧∀ val,V x=some val→ObR w I V (B x) val (Ad ob x)→ObR w I V (B x) val (Ad (BW ob g (.hist t sz es ((a.tmps.getD k undef,es.length) :: us))) x)
   change (Ad (BW ob g (.hist t sz es ((a.tmps.getD k undef,es.length) :: us))) x).live at hx
   rw [hx'] at hx ⊢
   by_cases e:x=g
   ·subst e
    rw [if_pos ⟨rfl,hgl⟩] at hx ⊢
    rw [hg]
    refine ⟨trivial,fun val hval hob=>?_⟩
    rw [hv.1] at hval
    obtain rfl:=zH hval
    obtain ⟨h1,h2,h3⟩:=hob
    refine ⟨h1,h2,fun q hq=>?_⟩
    rcases z6.1 hq with rfl | hq
    ·exact ⟨zU _,by simp only [List.take_length]; exact h1⟩
    ·exact h3 q hq
   ·rw [if_neg (fun h=>e h.1)] at hx ⊢
    exact ⟨hx,fun val _ h=>h⟩
  ·have hx':Ad (BW ob g (.hist t sz es ((a.tmps.getD k undef,es.length) :: us))) x=if x=g∧g<ob.length then .hist t sz es ((a.tmps.getD k undef,es.length) :: us) else Ad ob x:=Co
   change Ad (BW ob g (.hist t sz es ((a.tmps.getD k undef,es.length) :: us))) x=.free at hx
   rw [hx'] at hx
   split at hx
   ·cases hx
   ·exact hx
 ·intro x b hl hb
  refine hr.bh x b ?_ hb
  have hx':Ad (BW ob g (.hist t sz es ((a.tmps.getD k undef,es.length) :: us))) x=if x=g∧g<ob.length then .hist t sz es ((a.tmps.getD k undef,es.length) :: us) else Ad ob x:=Co
  change (Ad (BW ob g (.hist t sz es ((a.tmps.getD k undef,es.length) :: us))) x).live at hl
  show (Ad ob x).live
  rw [hx'] at hl
  split at hl
  ·rename_i e; rw [e.1,hg]; trivial
  ·exact hl
 ·intro j
  show RepV w I V (gets (sl.set k (.val (a.tmps.getD k undef))) j) (a.tmps.getD j undef)
  rw [Iw]
  split
  ·rename_i e
   rw [←e.1]
   simp only [RepV,true_and]
   exact hv.2
  ·exact hr.slots j
theorem R4 (hg:Ad ob g=.hist t sz es us) (hus:∀ q∈us',q∈us):Weak c ⟨sl,ob⟩ ⟨sl,BW ob g (.hist t sz es us')⟩:=fun hl=>⟨hl,fun a w hr=>by
 obtain ⟨I,V,B,hr⟩:=hr
 have hgl:=N0 hg
 have hx':∀ x,Ad (BW ob g (.hist t sz es us')) x=if x=g∧g<ob.length then .hist t sz es us' else Ad ob x:=fun x=>Co
 refine ⟨I,V,B,hr.fr,hr.i0,hr.i1,hr.v0,?_,?_,hr.nd,hr.sz,hr.slots⟩
 ·refine hr.wf.obs' (fun x hx=>?_) fun x hx=>?_
  ·change (Ad (BW ob g (.hist t sz es us')) x).live at hx
   show (Ad ob x).live∧∀ val,V x=some val→ObR w I V (B x) val (Ad ob x)→ObR w I V (B x) val (Ad (BW ob g (.hist t sz es us')) x)
   rw [hx'] at hx ⊢
   by_cases e:x=g
   ·subst e
    rw [if_pos ⟨rfl,hgl⟩] at hx ⊢
    rw [hg]
    exact ⟨trivial,fun val _ h=>⟨h.1,h.2.1,fun q hq=>h.2.2 q (hus q hq)⟩⟩
   ·rw [if_neg (fun h=>e h.1)] at hx ⊢
    exact ⟨hx,fun val _ h=>h⟩
  ·change Ad (BW ob g (.hist t sz es us')) x=.free at hx
   rw [hx'] at hx
   split at hx
   ·cases hx
   ·exact hx
 ·intro x b hl hb
  refine hr.bh x b ?_ hb
  change (Ad (BW ob g (.hist t sz es us')) x).live at hl
  show (Ad ob x).live
  rw [hx'] at hl
  split at hl
  ·rename_i e; rw [e.1,hg]; trivial
  ·exact hl⟩
theorem R5 (hk:gets sl k=.val v) (hg:Ad ob g=.hist t sz es us) (hm:(v,n)∈us) (hus:∀ q∈us',q∈us∧q.2≤n) :
  Weak c ⟨sl,ob⟩ ⟨sl.set k (.ref ob.length),BW ob g .gone++[.hist t sz (es.take n) us']⟩:=fun hl=>⟨by simpa using hl,fun a w hr=>by
 obtain ⟨I,V,B,hr⟩:=hr
 have hgl:=N0 hg
 have hv:=hr.slots k
 have hsk:(St.f ⟨sl,ob⟩).sl k=.val v:=hk
 rw [hsk] at hv
 simp only [RepV] at hv
 have hx':∀ x,Ad (BW ob g .gone++[.hist t sz (es.take n) us']) x=if x=ob.length then .hist t sz (es.take n) us' else if x=g then .gone else Ad ob x:=fun x=>by
  rw [GC,MD]
  by_cases h1:x<ob.length
  ·rw [if_pos h1,if_neg (show ¬ x=ob.length by omega),Co]
   by_cases h2:x=g
   ·rw [if_pos ⟨h2,hgl⟩,if_pos h2]
   ·rw [if_neg (fun h=>h2 h.1),if_neg h2]
  ·rw [if_neg h1]
   by_cases h2:x=ob.length
   ·subst h2; rw [if_pos rfl,Nat.sub_self]; rfl
   ·rw [if_neg h2,if_neg (show ¬ x=g by omega),AF ob x (by omega)]
    exact AF _ _ (by simp only [List.length_singleton]; omega)
 have hfree:Ad ob ob.length=.free:=AF _ _ (zU _)
 have hVp:V ob.length=none:=hr.wf.fr ob.length hfree
 have hgv:(Ad ob g).live:=by rw [hg]; trivial
 have hVV:VLe V (fun x=>if x=ob.length then some v else V x):=fun x u hu=>by
  by_cases e:x=ob.length
  ·subst e; rw [hVp] at hu; cases hu
  ·simp only [if_neg e]; exact hu
 have hpg:ob.length≠g:=by omega
 obtain ⟨val,hval,hob⟩:=hr.wf.obj g hgv
 have hob:ObR w I V (B g) val (Ad ob g):=hob
 rw [hg] at hob
 obtain ⟨o1,o2,o3⟩:=hob
 obtain ⟨o4,o5⟩:=o3 _ hm
 have hB':∀ x,(fun x b=>if x=ob.length then B g b else B x b) x=if x=ob.length then B g else B x:=fun x=>by
  funext b
  by_cases e:x=ob.length
  ·simp only [if_pos e]
  ·simp only [if_neg e]
 refine ⟨I,_,(fun x b=>if x=ob.length then B g b else B x b),hr.fr,hr.i0,hr.i1,hr.v0.trans hVV,?_,?_,hr.nd,hr.sz,?_⟩
 ·have ht:∀ x,(x=ob.length∨x=g)→(Ad (BW ob g .gone++[.hist t sz (es.take n) us']) x).live→x=ob.length:=fun x hx hlv=>by
   rcases hx with h | h
   ·exact h
   ·rw [hx',if_neg (show ¬ x=ob.length by omega),if_pos h] at hlv
    exact hlv.elim
  refine hr.wf.upd (fun x=>x=ob.length∨x=g) (zU _) (fun _ _ _=>rfl) (fun _ h=>h) hVV (fun x hx=>?_) (fun b hb=>.inl hb) hr.wf.ilt (fun x hx hlv=>?_) (fun x b hx hlv hb=>?_) (fun x b hx hlv hb hI=>?_) (fun x y b hx hy hlx hly _ _=>by rw [ht x hx hlx,ht y hy hly]) (fun x hx hf=>?_)
  ·have h1:¬ x=ob.length:=fun e=>hx (.inl e)
   have h2:¬ x=g:=fun e=>hx (.inr e)
   refine ⟨?_,?_,fun hf=>?_⟩
   ·show Ad (BW ob g .gone++[.hist t sz (es.take n) us']) x=Ad ob x
    rw [hx',if_neg h1,if_neg h2]
   ·funext b; simp only [if_neg h1]
   ·simp only [if_neg h1]; exact hr.wf.fr x hf
  ·obtain rfl:=ht x hx hlv
   refine ⟨v,by simp only [if_true],?_⟩
   show ObR w I _ _ v (Ad (BW ob g .gone++[.hist t sz (es.take n) us']) ob.length)
   rw [hx',if_pos rfl]
   simp only [if_true]
   refine ⟨o5,?_,fun q hq=>?_⟩
   ·unfold Cj at o2 ⊢
    rw [zW] at o2 ⊢
    exact fun x hx=>o2 x (List.mem_of_mem_take hx)
   ·obtain ⟨q1,q2⟩:=hus q hq
    obtain ⟨q3,q4⟩:=o3 q q1
    refine ⟨by rw [y4]; omega,?_⟩
    rw [List.take_take,Nat.min_eq_left q2]
    exact q4
  ·obtain rfl:=ht x hx hlv
   simp only [if_true] at hb
   exact .inr ⟨g,.inr rfl,hgv,hb⟩
  ·obtain rfl:=ht x hx hlv
   simp only [if_true] at hb
   exact hr.wf.dI g b hgv hb hI
  ·rcases hx with rfl | rfl
   ·change Ad (BW ob g .gone++[.hist t sz (es.take n) us']) ob.length=.free at hf
    rw [hx',if_pos rfl] at hf; cases hf
   ·change Ad (BW ob x .gone++[.hist t sz (es.take n) us']) x=.free at hf
    rw [hx',if_neg (show ¬ x=ob.length by omega),if_pos rfl] at hf; cases hf
 ·intro x b hlv hb
  change (Ad (BW ob g .gone++[.hist t sz (es.take n) us']) x).live at hlv
  rw [hx'] at hlv
  by_cases e:x=ob.length
  ·simp only [if_pos e] at hb
   exact hr.bh g b hgv hb
  ·simp only [if_neg e] at hb hlv
   by_cases e2:x=g
   ·rw [if_pos e2] at hlv; exact hlv.elim
   ·rw [if_neg e2] at hlv
    exact hr.bh x b hlv hb
 ·intro j
  show RepV w I _ (gets (sl.set k (.ref ob.length)) j) (a.tmps.getD j undef)
  rw [Iw]
  split
  ·rename_i e
   rw [←e.1]
   simp only [RepV,if_true]
   exact ⟨by rw [hv.1],hv.2⟩
  ·exact RepV.mono (KeepS.refl _ _) (fun _ h=>h) hVV _ _ (hr.slots j)⟩
end
def Gz:List SOper→Bool
 | []=>true
 | ⟨_,none,.call _ _⟩ :: _=>false
 | ⟨_,none,.callv _ _⟩ :: _=>false
 | ⟨_,none,_⟩ :: r=>Gz r
 | ⟨_,some _,_⟩ :: _=>false
theorem Hf {C:CallF}:∀ (l:List SOper) (acc:List Ent) (st:St),Gz l=true→D2 Try.prog C l acc st=D2 Try.prog calls l acc st
 | [],acc,st,_=>rfl
 | ⟨d,none,so⟩ :: r,acc,st,h=>by
  have h1:fOp Try.prog C so st.sl st.ob=fOp Try.prog calls so st.sl st.ob∧Gz r=true:=by
   cases so <;> first | (exact ⟨rfl,h⟩) | (simp [Gz] at h)
  have h2:EN Try.prog C ⟨d,none,so⟩ st=EN Try.prog calls ⟨d,none,so⟩ st:=by
   simp only [EN,h1.1]
  simp only [D2,h2]
  split
  ·exact Hf r _ _ h1.2
  ·rfl
 | ⟨d,some q,so⟩ :: r,acc,st,h=>by simp [Gz] at h
theorem OE {C:CallF}:∀ (l r:List SOper) (acc:List Ent) (st:St),D2 Try.prog C (l++r) acc st=match D2 Try.prog C l acc st with | some (acc',st')=>D2 Try.prog C r acc' st' | none=>none
 | [],r,acc,st=>rfl
 | o :: l,r,acc,st=>by
  simp only [yC,D2]
  split
  ·exact OE l r _ _
  ·rfl
theorem RunL.WP {c:Ctx} {K:X→St→Prop} {st:St} {C:CallF} (hC:Dz Try.prog C) {anc:List (List Nat)} {l r:List SOper} {d:Option Tmp} {f:FuncId} {args:List SX} (hl:Gz l=true) (hr:Gz r=true)
  {es1 es3:List Ent} {st1 st3:St} {q:R3} {e:Ent} {st2:St} (h1:Jd l [] st=some (es1,st1)) (h2:C f (args.map (As (gets st1.sl))) st1.ob=some q) (h3:Gi d st1 (some q)=some (e,st2)) (h4:Jd r (es1++[e]) st2=some (es3,st3))
  (h5:obB anc [] (Hy es3) 0=true) (hk:K .normal st3):RunL c (.dreg anc (l++⟨d,none,.call f args⟩ :: r)) K st:=fun sc hlk=>by
 refine Dw IU hC (L:=fun mi keep step st=>none) (fun mi keep junk step b st out _ h=>by cases h) (.dreg anc (l++⟨d,none,.call f args⟩ :: r)) sc st (.normal,st3) hlk ?_ K hk
 have e1:D2 Try.prog C (l++⟨d,none,.call f args⟩ :: r) [] st=some (es3,st3):=by
  rw [OE,Hf l [] st hl]
  change (match Jd l [] st with | some (acc',st')=>_ | none=>none)=_
  rw [h1]
  simp only [D2]
  have e2:EN Try.prog C ⟨d,none,.call f args⟩ st1=some (e,st2):=by
   simp only [EN,fOp,h2]
   exact h3
  rw [e2]
  simp only
  rw [Hf r _ _ hr]
  exact h4
 simp only [fr,e1,h5,cond_true]
def dC2 (r:List SOper) (anc:List (List Nat)) (K:X→St→Prop) (es1:List Ent):Option (Ent × St)→Prop
 | some (e,st2)=>Mv anc (Jd r (es1++[e]) st2) K
 | none=>False
def dC1 (C:CallF) (d:Option Tmp) (f:FuncId) (args:List SX) (r:List SOper) (anc:List (List Nat)) (K:X→St→Prop):Option (List Ent × St)→Prop
 | some (es1,st1)=>dC2 r anc K es1 (Gi d st1 (C f (args.map (As (gets st1.sl))) st1.ob))
 | none=>False
theorem WQ {r:List SOper} {anc:List (List Nat)} {K:X→St→Prop} {es1:List Ent} {e:Ent} {st2:St}:dC2 r anc K es1 (some (e,st2))=Mv anc (Jd r (es1++[e]) st2) K:=rfl
theorem WR {C:CallF} {d:Option Tmp} {f:FuncId} {args:List SX} {r:List SOper} {anc:List (List Nat)} {K:X→St→Prop} {es1:List Ent} {st1:St}:dC1 C d f args r anc K (some (es1,st1))=dC2 r anc K es1 (Gi d st1 (C f (args.map (As (gets st1.sl))) st1.ob)):=rfl
theorem RunL.WS {c:Ctx} {K:X→St→Prop} {st:St} {C:CallF} (hC:Dz Try.prog C) {anc:List (List Nat)} {l r:List SOper} {d:Option Tmp} {f:FuncId} {args:List SX} (hl:Gz l=true) (hr:Gz r=true)
  (h:dC1 C d f args r anc K (Jd l [] st)):RunL c (.dreg anc (l++⟨d,none,.call f args⟩ :: r)) K st:=by
 unfold dC1 at h
 split at h
 ·rename_i es1 st1 h1
  unfold dC2 at h
  split at h
  ·rename_i e st2 h3
   cases hq:C f (args.map (As (gets st1.sl))) st1.ob with
   | none=>rw [hq] at h3; cases h3
   | some q =>
    rw [hq] at h3
    unfold Mv at h
    split at h
    ·rename_i es3 st3 h4
     exact RunL.WP hC hl hr h1 hq h3 h4 h.1 h.2
    ·exact h.elim
  ·exact h.elim
 ·exact h.elim
def JR (v:Value):Nat→Option Value:=fun g=>if g=0 then some v else none
def HM (p:Tm):Prop:=∀ (t:Tm) (ps:List Pr) (us:List (Value × Nat)),ps.length+p.nodes≤1048576→t.nodes≤1099511627776→PrB 1099511627776 ps→(∀ q∈us,q.2≤ps.length)→∀ (w:World) (I S:Nat→Prop) (v v1 v2:Value),
 Wf w I (JR v) (fun _=>S) (Ad [.hist 70 3 (ps.map Pr.o) us])→RepV w I (JR v) p.sv v1→RepV w I (JR v) t.sv v2→v.oneCell'=true →
  Calls Try.prog 23 #[v1,v2,v] w (fun e w'=>∃ v' I' S',e=.returned (.tuple #[v',.bool (mt p t ps).2])∧v'.oneCell'=true∧Fr w S w'∧(∀ b,I b→I' b)∧(∀ b,I' b→I b∨w.heap.size≤b∨S b)∧(∀ b,S' b→S b∨w.heap.size≤b)∧Wf w' I' (JR v') (fun _=>S') (Ad [.hist 70 3 ((mt p t ps).1.map Pr.o) us]))
theorem L5 {o:Ob} {x:Nat}:Ad [o] x=if x=0 then o else .free:=by
 cases x with
 | zero=>rfl
 | succ x=>rw [if_neg (by omega)]; exact AF _ _ (by simp)
theorem ME (v:Value):JR v 0=some v:=rfl
theorem N1 {w:World} {I:Nat→Prop} {V:Nat→Option Value} {B:Nat→Nat→Prop} {ob:Nat→Ob} (h:Wf w I V B ob) {g:Nat} (hg:(ob g).live) {o:Ob} (ho:o.live) {v:Value} (hv:∀ V',ObR w I V' (B g) v o):Wf w I (JR v) (fun _=>B g) (Ad [o]):=by
 have hl:∀ x,(Ad [o] x).live→x=0:=fun x hx=>by
  rw [L5] at hx
  by_cases e:x=0
  ·exact e
  ·rw [if_neg e] at hx; exact hx.elim
 refine ⟨h.ilt,fun x hx=>?_,fun x b hx hb=>h.lt g b hg hb,fun x b hx hb=>h.dI g b hg hb,fun x y b hx hy _ _=>by rw [hl x hx,hl y hy],fun x hx=>?_,h.gl⟩
 ·obtain rfl:=hl x hx
  exact ⟨v,rfl,hv _⟩
 ·rw [L5] at hx
  by_cases e:x=0
  ·rw [if_pos e] at hx; rw [hx] at ho; exact ho.elim
  ·unfold JR; rw [if_neg e]
def hmR (p t:Tm) (ps:List Pr) (us:List (Value × Nat)):Option SV→List Ob→Prop
 | some (.tup [.ref g,.bool b]),ob=>b=(mt p t ps).2∧Ad ob g=.hist 70 3 ((mt p t ps).1.map Pr.o) us
 | _,_=>False
def Q2 (p t:Tm) (ps:List Pr) (us:List (Value × Nat)) (rs:List RX):X→St→Prop
 | .ret,st=>hmR p t ps us (HP st rs) st.ob
 | .normal,st=>hmR p t ps us (HP st rs) st.ob
 | .exit _,_=>False
theorem Ce {p t:Tm} {ps:List Pr} {us:List (Value × Nat)} {rs:List RX} {sl:List SV} {ob:List Ob}:Q2 p t ps us rs .ret ⟨sl,ob⟩=hmR p t ps us (HP ⟨sl,ob⟩ rs) ob:=rfl
theorem D0 {p t:Tm} {ps:List Pr} {us:List (Value × Nat)} {g:Nat} {b:Bool} {ob:List Ob}:hmR p t ps us (some (.tup [.ref g,.bool b])) ob=(b=(mt p t ps).2∧Ad ob g=.hist 70 3 ((mt p t ps).1.map Pr.o) us):=rfl
theorem UO {p t:Tm} {ps:List Pr} {us:List (Value × Nat)} {r:Option SV} {ob:List Ob} (h:hmR p t ps us r ob):∃ g,r=some (.tup [.ref g,.bool (mt p t ps).2])∧Ad ob g=.hist 70 3 ((mt p t ps).1.map Pr.o) us:=by
 unfold hmR at h
 split at h
 ·rename_i g b
  exact ⟨g,by rw [h.1],h.2⟩
 ·exact h.elim
def wkK (c:Ctx) (K:X→St→Prop):X→St→Prop:=fun x s=>∃ s',Weak c s s'∧K x s'
theorem PA {c:Ctx} {keep:List Nat} {st st':St} (h:canon c.m keep st=st'):Weak c st st':=h▸Cq
theorem RunL.wk {c:Ctx} {K:X→St→Prop} {st:St} {sc':SC} (h:RunL c sc' (wkK c K) st):RunL c sc' K st:=h.weakR
theorem WT {p:Tm} {fc:FC} (hc:Ar Try.prog 23=some fc) (hn3:3≤fc.nt) (h:∀ (t:Tm) (ps:List Pr) (us:List (Value × Nat)),ps.length+p.nodes≤1048576→t.nodes≤1099511627776→PrB 1099511627776 ps→(∀ q∈us,q.2≤ps.length)→∀ c:Ctx,c.nt=fc.nt→c.m=0→RunL c fc.sc (Q2 p t ps us fc.rs) ⟨[p.sv,t.sv,.ref 0]++FT (fc.nt-3),[.hist 70 3 (ps.map Pr.o) us]⟩):HM p:=by
 intro t ps us hb1 hb2 hb3 hb4 w I S v v1 v2 hwf hv1 hv2 hv3
 unfold Ar at hc
 cases hf:Try.prog.funcs[23]? with
 | none=>rw [hf] at hc; cases hc
 | some fn =>
  rw [hf] at hc
  simp only at hc
  cases hb:fn.body with
  | none=>rw [hb] at hc; cases hc
  | some code =>
   rw [hb] at hc
   simp only at hc
   cases ht:trC Try.prog fn.ntmps code with
   | none=>rw [ht] at hc; cases hc
   | some sc =>
    rw [ht] at hc
    simp only at hc
    cases hrs:B3 (fn.results.toList.map (K5 Try.prog fn.ntmps)) with
    | none=>rw [hrs] at hc; cases hc
    | some rs =>
     rw [hrs] at hc
     obtain rfl:=zH hc
     let c:Ctx:=⟨w,S,I,fun _=>none,fn.ntmps,0,fun _ _=>rfl⟩
     have h0:=h t ps us hb1 hb2 hb3 hb4 c rfl rfl sc (Bu _ _ _)
     have hvs:RepVs w I (JR v) [p.sv,t.sv,.ref 0] [v1,v2,v]:=by
      simp only [RepVs]
      exact ⟨v1,_,rfl,hv1,v2,_,rfl,hv2,v,_,rfl,by simp only [RepV]; exact ⟨rfl,hv3⟩,rfl⟩
     have hn:([p.sv,t.sv,.ref 0]:List SV).length≤fn.ntmps:=hn3
     have hrep:Rep c (St.f ⟨[p.sv,t.sv,.ref 0]++FT (fn.ntmps-3),[.hist 70 3 (ps.map Pr.o) us]⟩) { tmps:=#[v1,v2,v]++Array.replicate (fn.ntmps-3) undef,defers:=[] } w:=by
      refine ⟨I,JR v,(fun _=>S),⟨⟨rfl,TapeOk.mk' rfl rfl,rfl,zU _,fun _ _ _=>rfl⟩,fun _ h=>h,fun _ h=>.inl h,fun g u hu=>(by cases hu),hwf,fun g b hl hb=>.inl hb,rfl,?_,fun k=>?_⟩⟩
      ·simp only [Array.size_append,Array.size_replicate]
       show 3+(fn.ntmps-3)=fn.ntmps
       have:3≤fn.ntmps:=hn3
       omega
      ·show RepV w I (JR v) (gets ([p.sv,t.sv,.ref 0]++FT (fn.ntmps-3)) k) _
       rw [K6]
       by_cases hk:k<3
       ·rw [if_pos (show k<([p.sv,t.sv,.ref 0]:List SV).length from hk)]
        have:=hvs.gets k hk
        have e:(#[v1,v2,v]++Array.replicate (fn.ntmps-3) undef).getD k undef=[v1,v2,v].getD k undef:=by
         rw [Array.getD_eq_getD_getElem?,Array.getElem?_append_left (by simpa using hk)]
         simp [List.getD_eq_getElem?_getD]
        rw [e]; exact this
       ·rw [if_neg (show ¬ k<([p.sv,t.sv,.ref 0]:List SV).length from hk),IT]; simp [RepV]
     refine calls_of_wp hf hb ?_
     refine h0 code ht _ w _ ?_ hrep fun x st' a' w' hk hl' hr'=>?_
     ·simp only [zS,K7]
      show 3+(fn.ntmps-3)=fn.ntmps
      have:3≤fn.ntmps:=hn3
      omega
     ·have hx:x=.ret∨x=.normal:=by
       cases x with
       | exit i=>exact hk.elim
       | normal=>exact .inr rfl
       | ret=>exact .inl rfl
      have hk:hmR p t ps us (HP st' rs) st'.ob:=by rcases hx with rfl | rfl <;> exact hk
      obtain ⟨g,hres,hob⟩:=UO hk
      obtain ⟨I',V',B',hr'⟩:=hr'
      obtain ⟨u,hrun,hu⟩:=J1 hr' hrs hres
      simp only [RepV,RepVs] at hu
      obtain ⟨vs',rfl,u1,r1,rfl,⟨hu1,hu2⟩,u3,r3,rfl,rfl,rfl⟩:=hu
      have hlive:(Ad st'.ob g).live:=by rw [hob]; trivial
      obtain ⟨val,hval,hobj⟩:=hr'.wf.obj g hlive
      have hval:V' g=some val:=hval
      rw [hu1] at hval
      obtain rfl:=zH hval
      have hobj:ObR w' I' V' (B' g) u1 (Ad st'.ob g):=hobj
      rw [hob] at hobj
      rcases hx with rfl | rfl
      ·exact bodyPost_ret hrun hr'.nd ⟨u1,I',B' g,rfl,hu2,hr'.fr,hr'.i0,hr'.i1,fun b hb=>hr'.bh g b hlive hb,N1 (o:=.hist 70 3 ((mt p t ps).1.map Pr.o) us) hr'.wf hlive trivial fun _=>hobj⟩
      ·exact bodyPost_end hrun hr'.nd ⟨u1,I',B' g,rfl,hu2,hr'.fr,hr'.i0,hr'.i1,fun b hb=>hr'.bh g b hlive hb,N1 (o:=.hist 70 3 ((mt p t ps).1.map Pr.o) us) hr'.wf hlive trivial fun _=>hobj⟩
noncomputable def Jo (q t:Tm) (ps:List Pr) (v:Value) (us:List (Value × Nat)):CallF:=fun f xs ob =>
 open Classical in if f=23∧xs=[q.sv,t.sv,.val v]∧Ad ob 0=.hist 70 3 (ps.map Pr.o) us∧0<ob.length then some (.tup [.ref ob.length,.bool (mt q t ps).2],[(ob.length,.hist 70 3 ((mt q t ps).1.map Pr.o) us),(0,.gone)],[]) else none
theorem R6 {q t:Tm} {ps:List Pr} {v:Value} {us:List (Value × Nat)} {ob:List Ob} (h:Ad ob 0=.hist 70 3 (ps.map Pr.o) us) (h0:0<ob.length):Jo q t ps v us 23 [q.sv,t.sv,.val v] ob=some (.tup [.ref ob.length,.bool (mt q t ps).2],[(ob.length,.hist 70 3 ((mt q t ps).1.map Pr.o) us),(0,.gone)],[]):=by
 unfold Jo
 rw [if_pos ⟨rfl,rfl,h,h0⟩]
theorem Pr.flat (ps:List Pr):Cj (ps.map Pr.o)=true:=by
 unfold Cj
 rw [yM,zW]
 intro x _
 rfl
theorem OF {q:Tm} (hq:HM q) {t:Tm} {ps:List Pr} {v:Value} {us:List (Value × Nat)} (hv:(v,ps.length)∈us) (hb1:ps.length+q.nodes≤1048576) (hb2:t.nodes≤1099511627776) (hb3:PrB 1099511627776 ps) (hb4:∀ q∈us,q.2≤ps.length):Dz Try.prog (Jo q t ps v us):=by
 intro ob f xs x u rd h K hK
 unfold Jo at h
 split at h
 ·rename_i hc
  obtain ⟨rfl,rfl,hob,hol⟩:=hc
  simp only [yN,Prod.mk.injEq] at h
  obtain ⟨rfl,rfl,rfl⟩:=h
  refine ⟨_,_,_,hK,fun ob' _ hup w I V B vs hwf hvs=>?_⟩
  have hob0:ob' 0=.hist 70 3 (ps.map Pr.o) us:=by rw [hup 0 (by simp)]; exact hob
  have hobp:ob' ob.length=.free:=by rw [hup ob.length (by simp)]; exact AF _ _ (zU _)
  obtain ⟨p,hp⟩:∃ p,p=ob.length:=⟨_,rfl⟩
  rw [←hp] at hobp ⊢
  have hp0:p≠0:=by omega
  obtain ⟨v1,r,rfl,hv1,hvs⟩:=Cb hvs
  obtain ⟨v2,r,rfl,hv2,hvs⟩:=Cb hvs
  obtain ⟨v3,r,rfl,hv3,hvs⟩:=Cb hvs
  obtain rfl:=J9 hvs
  simp only [RepV] at hv3
  obtain ⟨rfl,hv3⟩:=hv3
  have hl0:(ob' 0).live:=by rw [hob0]; trivial
  obtain ⟨val,hval,hobj⟩:=hwf.obj 0 hl0
  rw [hob0] at hobj
  obtain ⟨o1,o2,o3⟩:=hobj
  obtain ⟨o4,o5⟩:=o3 _ hv
  have o5:RowR w I (B 0) 70 3 (ps.map Pr.o) v3:=by
   have e:(ps.map Pr.o).take ps.length=ps.map Pr.o:=by rw [yE (by rw [zB]; exact zU _)]
   rw [←e]; exact o5
  have hwf1:=N1 (o:=.hist 70 3 (ps.map Pr.o) us) (v:=v3) hwf hl0 trivial fun _=>⟨o5,o2,o3⟩
  have rv:∀ (y:Tm) (z:Value),RepV w I V y.sv z→RepV w I (JR v3) y.sv z:=fun y z hz=>by
   simp only [Tm.sv,RepV,RepVs] at hz ⊢
   exact hz
  refine (hq t ps us hb1 hb2 hb3 hb4 w I (B 0) v3 v1 v2 hwf1 (rv q v1 hv1) (rv t v2 hv2) hv3).mono ?_
  rintro e w' ⟨v',I',S',rfl,h1,h2,h3,h4,h5,h6⟩
  have hpI:V p=none:=hwf.fr p hobp
  have hVV:VLe V (fun g=>if g=p then some v' else V g):=fun g y hy=>by
   by_cases e:g=p
   ·subst e; rw [hpI] at hy; cases hy
   ·simp only [if_neg e]; exact hy
  have ht:∀ g,Ao [(p,Ob.hist 70 3 ((mt q t ps).1.map Pr.o) us),(0,Ob.gone)] g ↔ g=p∨g=0:=fun g=>by simp [Ao]
  have k1:A1 ob' [(p,Ob.hist 70 3 ((mt q t ps).1.map Pr.o) us),(0,Ob.gone)] p=.hist 70 3 ((mt q t ps).1.map Pr.o) us:=by simp [A1,AE]
  have k2:A1 ob' [(p,Ob.hist 70 3 ((mt q t ps).1.map Pr.o) us),(0,Ob.gone)] 0=.gone:=by simp [A1,AE,hp0]
  have only:∀ g,Ao [(p,Ob.hist 70 3 ((mt q t ps).1.map Pr.o) us),(0,Ob.gone)] g→(A1 ob' [(p,Ob.hist 70 3 ((mt q t ps).1.map Pr.o) us),(0,Ob.gone)] g).live→g=p:=fun g hg hl=>by
   rcases (ht g).1 hg with rfl | rfl
   ·rfl
   ·rw [k2] at hl; exact hl.elim
  have hS1:∀ b,S' b→¬ I' b:=fun b hb=>h6.dI 0 b trivial hb
  have hS2:∀ b,S' b→b<w'.heap.size:=fun b hb=>h6.lt 0 b trivial hb
  obtain ⟨val',hval',hobj'⟩:=h6.obj 0 trivial
  rw [ME] at hval'
  obtain rfl:=zH hval'
  refine ⟨_,I',(fun g=>if g=p then some v' else V g),(fun g b=>if g=p then S' b else B g b),rfl,?_,?_⟩
  ·simp only [RepV,RepVs]
   exact ⟨[v',.bool (mt q t ps).2],rfl,v',_,rfl,⟨by simp only [if_true],h1⟩,_,_,rfl,rfl,rfl⟩
  ·refine ⟨?_,h2.os,h2.tape,h2.output,h2.size,fun b hb hno=>h2.block b hb fun hs=>hno 0 ((ht 0).2 (.inr rfl)) hl0 hs,h3,fun b hb=>?_,hVV,fun g hg=>?_,fun g b hg hl hb=>?_⟩
   ·refine hwf.upd (Ao [(p,Ob.hist 70 3 ((mt q t ps).1.map Pr.o) us),(0,Ob.gone)]) h2.size (fun b hb hno=>h2.block b hb fun hs=>hno 0 ((ht 0).2 (.inr rfl)) hl0 hs) h3 hVV (fun g hg=>?_) (fun b hb=>?_) h6.ilt (fun g hg hl=>?_) (fun g b hg hl hb=>?_) (fun g b hg hl hb=>?_) (fun g g' b hg hg' hl hl' _ _=>by rw [only g hg hl,only g' hg' hl']) (fun g hg hf=>?_)
    ·have n1:¬ g=p:=fun e=>hg ((ht g).2 (.inl e))
     exact ⟨FL hg,by funext b; simp only [if_neg n1],fun hf=>by simp only [if_neg n1]; exact hwf.fr g hf⟩
    ·rcases h4 b hb with h | h | h
     ·exact .inl h
     ·exact .inr (.inl h)
     ·exact .inr (.inr ⟨0,(ht 0).2 (.inr rfl),hl0,h⟩)
    ·obtain rfl:=only g hg hl
     rw [k1]
     refine ⟨v',by simp only [if_true],?_⟩
     simp only [if_true]
     exact hobj'
    ·obtain rfl:=only g hg hl
     simp only [if_true] at hb
     rcases h5 b hb with h | h
     ·exact .inr ⟨0,(ht 0).2 (.inr rfl),hl0,h⟩
     ·exact .inl ⟨h,hS2 b hb⟩
    ·obtain rfl:=only g hg hl
     simp only [if_true] at hb
     exact hS1 b hb
    ·rcases (ht g).1 hg with rfl | rfl
     ·rw [k1] at hf; cases hf
     ·rw [k2] at hf; cases hf
   ·rcases h4 b hb with h | h | h
    ·exact .inl h
    ·exact .inr (.inl h)
    ·exact .inr (.inr ⟨0,(ht 0).2 (.inr rfl),hl0,h⟩)
   ·have n1:¬ g=p:=fun e=>hg ((ht g).2 (.inl e))
    funext b; simp only [if_neg n1]
   ·obtain rfl:=only g hg hl
    simp only [if_true] at hb
    rcases h5 b hb with h | h
    ·exact .inr ⟨0,(ht 0).2 (.inr rfl),hl0,h⟩
    ·exact .inl h
 ·cases h
theorem UP {p t:Tm} {ps:List Pr} (hp:HM p) (hb1:ps.length+p.nodes≤1048576) (hb2:t.nodes≤1099511627776) (hb3:PrB 1099511627776 ps):Up p t ps:=by
 intro w I V B vs hwf hvs
 obtain ⟨v1,r,rfl,hv1,hvs⟩:=Cb hvs
 obtain ⟨v2,r,rfl,hv2,hvs⟩:=Cb hvs
 obtain ⟨v3,r,rfl,hv3,hvs⟩:=Cb hvs
 obtain rfl:=J9 hvs
 simp only [RepV] at hv3
 obtain ⟨hV3,hv3⟩:=hv3
 have hl0:(Ad [Ob.row 70 3 (ps.map Pr.o)] 0).live:=trivial
 obtain ⟨val,hval,hobj⟩:=hwf.obj 0 hl0
 rw [hV3] at hval
 obtain rfl:=zH hval
 have hobj:RowR w I (B 0) 70 3 (ps.map Pr.o) v3:=hobj
 have hwf1:=N1 (o:=.hist 70 3 (ps.map Pr.o) []) (v:=v3) hwf hl0 trivial fun _=>⟨hobj,Pr.flat ps,fun q hq=>by cases hq⟩
 have rv:∀ (y:Tm) (z:Value),RepV w I V y.sv z→RepV w I (JR v3) y.sv z:=fun y z hz=>by
  simp only [Tm.sv,RepV,RepVs] at hz ⊢
  exact hz
 refine (hp t ps [] hb1 hb2 hb3 (fun q hq=>by cases hq) w I (B 0) v3 v1 v2 hwf1 (rv p v1 hv1) (rv t v2 hv2) hv3).mono ?_
 rintro e w' ⟨v',I',S',rfl,h1,h2,h3,h4,h5,h6⟩
 have hg1:Ad (prO p t ps) 1=.row 70 3 ((mt p t ps).1.map Pr.o):=rfl
 have hlv:∀ g,(Ad (prO p t ps) g).live→g=1:=fun g hg=>by
  match g,hg with
  | 0,hg=>exact hg.elim
  | 1,_=>rfl
  | g+2,hg=>rw [AF _ _ (by show 2≤g+2; omega)] at hg; exact hg.elim
 have hVn:∀ g,1≤g→V g=none:=fun g hg=>hwf.fr g (AF _ _ hg)
 have hHB:∀ b,B 0 b→HB B [Ob.row 70 3 (ps.map Pr.o)] b:=fun b hb=>⟨0,trivial,hb⟩
 have hHB':∀ b,HB B [Ob.row 70 3 (ps.map Pr.o)] b→B 0 b:=fun b ⟨g,hg,hb⟩=>by
  rw [L5] at hg
  by_cases e:g=0
  ·rw [←e]; exact hb
  ·rw [if_neg e] at hg; exact hg.elim
 obtain ⟨val',hval',hobj'⟩:=h6.obj 0 trivial
 rw [ME] at hval'
 obtain rfl:=zH hval'
 refine ⟨_,I',(fun g=>if g=1 then some v' else V g),(fun g b=>if g=1 then S' b else False),rfl,?_,?_⟩
 ·simp only [RepV,RepVs]
  exact ⟨[v',.bool (mt p t ps).2],rfl,v',_,rfl,⟨by simp only [if_true],h1⟩,_,_,rfl,rfl,rfl⟩
 ·refine ⟨⟨h2.os,h2.tape,h2.output,h2.size,fun b hb hn=>h2.block b hb fun hs=>hn (hHB b hs)⟩,h3,fun b hb=>(h4 b hb).imp id fun h=>h.imp id fun h=>hHB b h,fun g y hy=>?_,?_,fun g b hg hb=>?_⟩
  ·by_cases e:g=1
   ·rw [hVn g (by omega)] at hy; cases hy
   ·simp only [if_neg e]; exact hy
  ·refine ⟨h6.ilt,fun g hg=>?_,fun g b hg hb=>?_,fun g b hg hb=>?_,fun g g' b hg hg' _ _=>by rw [hlv g hg,hlv g' hg'],fun g hf=>?_,h6.gl⟩
   ·obtain rfl:=hlv g hg
    refine ⟨v',by simp only [if_true],?_⟩
    rw [hg1]
    simp only [if_true]
    exact hobj'.1
   ·obtain rfl:=hlv g hg
    simp only [if_true] at hb
    exact h6.lt 0 b trivial hb
   ·obtain rfl:=hlv g hg
    simp only [if_true] at hb
    exact h6.dI 0 b trivial hb
   ·match g,hf with
    | 0,hf=>cases hf
    | 1,hf=>cases hf
    | g+2,_ =>
     simp only [if_neg (show ¬ g+2=1 by omega)]
     exact hVn _ (by omega)
  ·obtain rfl:=hlv g hg
   simp only [if_true] at hb
   exact (h5 b hb).imp (fun h=>hHB b h) id
def Dd:SC:=(.seq (.reg [⟨some 3,none,.boxv 26 2 (.t 0)⟩,⟨some 4,none,.boxv 26 2 (.t 1)⟩,⟨some 6,none,.mv (.c .nil)⟩,⟨some 7,none,.mv (.c (.bool false))⟩]) (.seq (.seq (.reg [⟨some 12,none,.faddr 0 (.t 3)⟩,⟨some 13,none,.load false 1 (.t 12)⟩,⟨some 14,none,.call 34 [(.t 13)]⟩]) (.cond (.t 14) (.seq (.seq (.reg [⟨some 8,none,.mv (.c (.int .i64 0))⟩]) (.block 0 (.loop [0,0,1,1,1,0,0,0,1,0,0,0,0,0,0,0,0,0,0,0,0,0,0,0,0,0,0,0,0,0,0,0,0,0,0,0,0,0,0,0,0,0,0,0,0,0,0,0,0,0,0,0,0,0,0,0,0,0,0,0,0,0,0,0,0,0,0,0,0,0,0,0,0,0,0,0,0,0,0,0,0,0,0,0,0,0] (.seq (.seq (.reg [⟨some 15,none,.mv (.t 8)⟩,⟨some 16,none,.mv (.t 2)⟩,⟨some 17,none,.len false (.t 16)⟩,⟨some 18,none,.bin .lss false (.t 15) (.t 17)⟩]) (.cond (.t 18) .skip (.exit 0))) (.seq (.block 1 (.seq (.dreg [[],[],[0,1],[2,0,1],[3,2,0,1],[],[5],[4,3,2,0,1,6,5]] [⟨some 21,none,.mv (.t 2)⟩,⟨some 22,none,.mv (.t 8)⟩,⟨some 23,none,.iaddr 3 (.t 21) (.t 22)⟩,⟨some 24,none,.faddr 0 (.t 23)⟩,⟨some 25,none,.load false 1 (.t 24)⟩,⟨some 26,none,.faddr 0 (.t 3)⟩,⟨some 27,none,.load false 1 (.t 26)⟩,⟨some 28,none,.bin .eql false (.t 25) (.t 27)⟩]) (.cond (.t 28) (.seq (.dreg [[],[],[],[1,2],[3,1,2],[4,3,1,2],[],[5,4,3,1,2,6],[0,7,5,4,3,1,2,6],[7,5,4,3,1,2,6,8,0]] [⟨some 29,none,.mv (.t 2)⟩,⟨some 30,none,.mv (.t 2)⟩,⟨some 31,none,.mv (.t 8)⟩,⟨some 32,none,.iaddr 3 (.t 30) (.t 31)⟩,⟨some 33,none,.faddr 1 (.t 32)⟩,⟨some 34,none,.load true 2 (.t 33)⟩,⟨some 35,none,.load true 2 (.t 4)⟩,⟨some 36,none,.call 44 [(.t 34),(.t 35)]⟩,⟨some 6,none,.mv (.t 29)⟩,⟨some 7,none,.mv (.t 36)⟩]) .ret) .skip))) (.reg [⟨some 19,none,.mv (.t 8)⟩,⟨some 20,none,.bin .add false (.t 19) (.c (.int .i64 1))⟩,⟨some 8,none,.mv (.t 20)⟩])))))) (.seq (.reg [⟨some 37,none,.mv (.t 2)⟩,⟨some 38,none,.faddr 0 (.t 3)⟩,⟨some 39,none,.load false 1 (.t 38)⟩,⟨some 40,none,.load true 2 (.t 4)⟩,⟨(some 41),none,(.build [(.str ⟨#[]⟩),(.str ⟨#[]⟩),.nil] [(0,(1,(.t 39))),(1,(2,(.t 40)))])⟩,⟨(some 42),none,(.mkrow 70 3 [(.str ⟨#[]⟩),(.str ⟨#[]⟩),.nil] 1 [(0,(.t 41))])⟩,⟨(some 43),none,(.append 70 3 56 [(.str ⟨#[]⟩),(.str ⟨#[]⟩),.nil] (.t 37) (.t 42))⟩,⟨some 6,none,.mv (.t 43)⟩,⟨some 7,none,.mv (.c (.bool true))⟩]) .ret)) .skip)) (.seq (.seq (.reg [⟨some 44,none,.faddr 0 (.t 3)⟩,⟨some 45,none,.load false 1 (.t 44)⟩,⟨some 46,none,.faddr 0 (.t 4)⟩,⟨some 47,none,.load false 1 (.t 46)⟩,⟨some 48,none,.bin .neq false (.t 45) (.t 47)⟩,⟨some 49,none,.mv (.t 48)⟩,⟨(some 50),(some (49,false)),(.faddr 1 (.t 3))⟩,⟨(some 51),(some (49,false)),(.load false 1 (.t 50))⟩,⟨(some 52),(some (49,false)),(.len false (.t 51))⟩,⟨(some 53),(some (49,false)),(.faddr 1 (.t 4))⟩,⟨(some 54),(some (49,false)),(.load false 1 (.t 53))⟩,⟨(some 55),(some (49,false)),(.len false (.t 54))⟩,⟨(some 56),(some (49,false)),(.bin .neq false (.t 52) (.t 55))⟩,⟨some 57,none,.pick (.t 49) (.c (.bool true)) (.t 56)⟩]) (.cond (.t 57) (.seq (.reg [⟨some 58,none,.mv (.t 2)⟩,⟨some 6,none,.mv (.t 58)⟩,⟨some 7,none,.mv (.c (.bool false))⟩]) .ret) .skip)) (.seq (.seq (.reg [⟨some 9,none,.mv (.c (.int .i64 0))⟩]) (.block 2 (.loop [0,0,1,1,1,0,0,0,0,1,0,0,0,0,0,0,0,0,0,0,0,0,0,0,0,0,0,0,0,0,0,0,0,0,0,0,0,0,0,0,0,0,0,0,0,0,0,0,0,0,0,0,0,0,0,0,0,0,0,0,0,0,0,0,0,0,0,0,0,0,0,0,0,0,0,0,0,0,0,0,0,0,0,0,0,0] (.seq (.seq (.reg [⟨some 59,none,.mv (.t 9)⟩,⟨some 60,none,.faddr 1 (.t 3)⟩,⟨some 61,none,.load false 1 (.t 60)⟩,⟨some 62,none,.len false (.t 61)⟩,⟨some 63,none,.bin .lss false (.t 59) (.t 62)⟩]) (.cond (.t 63) .skip (.exit 2))) (.seq (.block 3 (.seq (.dreg [[],[0],[],[1,0,2],[3,1,0,2],[],[5],[],[6,5,7],[8,6,5,7],[],[4,3,1,0,2,9,8,6,5,7,10],[11,4,3,1,0,2,9,8,6,5,7,10],[12,11,4,3,1,0,2,9,8,6,5,7,10],[12,11,4,3,1,0,2,9,8,6,5,7,10],[13,12,11,4,3,1,0,2,9,8,6,5,7,10],[14,12,11,4,3,1,0,2,9,8,6,5,7,10,15,13]] [⟨some 67,none,.faddr 1 (.t 3)⟩,⟨some 68,none,.load false 1 (.t 67)⟩,⟨some 69,none,.mv (.t 9)⟩,⟨some 70,none,.iaddr 2 (.t 68) (.t 69)⟩,⟨some 71,none,.load true 2 (.t 70)⟩,⟨some 72,none,.faddr 1 (.t 4)⟩,⟨some 73,none,.load false 1 (.t 72)⟩,⟨some 74,none,.mv (.t 9)⟩,⟨some 75,none,.iaddr 2 (.t 73) (.t 74)⟩,⟨some 76,none,.load true 2 (.t 75)⟩,⟨some 77,none,.mv (.t 2)⟩,⟨some 78,none,.call 23 [(.t 71),(.t 76),(.t 77)]⟩,⟨some 66,none,.mv (.t 78)⟩,⟨some 79,none,.ext (.t 66) 0⟩,⟨some 80,none,.ext (.t 66) 1⟩,⟨some 10,none,.mv (.t 79)⟩,⟨some 11,none,.mv (.t 80)⟩]) (.seq (.seq (.reg [⟨some 81,none,.mv (.t 11)⟩,⟨some 82,none,.un .not (.t 81)⟩]) (.cond (.t 82) (.seq (.reg [⟨some 83,none,.mv (.t 2)⟩,⟨some 6,none,.mv (.t 83)⟩,⟨some 7,none,.mv (.c (.bool false))⟩]) .ret) .skip)) (.reg [⟨some 84,none,.mv (.t 10)⟩,⟨some 2,none,.mv (.t 84)⟩])))) (.reg [⟨some 64,none,.mv (.t 9)⟩,⟨some 65,none,.bin .add false (.t 64) (.c (.int .i64 1))⟩,⟨some 9,none,.mv (.t 65)⟩])))))) (.seq (.reg [⟨some 85,none,.mv (.t 2)⟩,⟨some 6,none,.mv (.t 85)⟩,⟨some 7,none,.mv (.c (.bool true))⟩]) .ret)))))
theorem L6:Ar Try.prog 23=some ⟨86,Dd,[(.tmp 6),(.tmp 7)]⟩:=by kernel_rfl
theorem BI:modes 23=⟨[false,false,true],.asis,some Pv,false⟩:=by unfold modes; rfl
theorem Ws {p:Tm} (hv:Bh p.name=true) (t:Tm) (ps:List Pr) (us:List (Value × Nat)) (hb1:ps.length+p.nodes≤1048576) (hb2:t.nodes≤1099511627776) (hb3:PrB 1099511627776 ps) (hb4:∀ q∈us,q.2≤ps.length) (c:Ctx) (h2:c.m=0) :
  RunL c Dd (Q2 p t ps us [(.tmp 6),(.tmp 7)]) ⟨[p.sv,t.sv,.ref 0]++FT (86-3),[.hist 70 3 (ps.map Pr.o) us]⟩:=by
 have hmt:=If (t:=t) (ps:=ps) hv
 unfold Dd
 refine RunL.go ?_
 rw [h2]
 simp (disch:=omega) only [go_sem,Aa,h2,AG,CA,Ce,D0,Ap,Bt,Ay,Cj,OT.flat,zM,zP,hv]
 refine go_loop (α:=Int) (fun a=>⟨slots 86 0 [(2,.ref 0),(3,.ptr 1 0),(4,.ptr 2 0),(8,.int .i64 a)],[.hist 70 3 (ps.map Pr.o) us,.box 26 [.str p.name,.arr (p.args.map Tm.d)],.box 26 [.str t.name,.arr (t.args.map Tm.d)]]⟩) (fun a=>∃ k:Nat,a=k∧k≤(ps).length∧prF p.name (ps.drop k)=prF p.name ps) (fun a=>(ps).length-(a).toNat) 0 ⟨0,rfl,zZ _,by rw [zQ]⟩ (by simp (disch:=omega) only [go_sem,Aa]) ?_
 rintro i ⟨k,hi,hk,hR⟩
 have hni:i.toNat=k:=by omega
 have hni1:(i+1).toNat=k+1:=by omega
 rcases zT k (ps).length with hlt | hge
 ·have hg:=get_at Pr.o hlt
  have hgo:Pr.o ps[k]=[OT.str ps[k].name,.str ps[k].term.name,.sh (ps[k].term.args.map Tm.d)]:=rfl
  rw [hgo] at hg
  have hs:=OB ps[k].term t (hb3 _ (zF hlt)) hb2
  rw [Tn hlt] at hR
  cases hq:dec (ps[k].name=p.name) with
  | true =>
   rw [hq,cond_true] at hR
   rw [←hR] at hmt
   simp only at hmt
   simp (disch:=omega) only [go_sem,Aa,h2,AG,CA,Ce,D0,Ap,Bt,Ay,Cj,OT.flat,zM,zP,hni,hg,hq,hs,hmt]
  | false =>
   rw [hq,cond_false] at hR
   simp (disch:=omega) only [go_sem,Aa,h2,AG,CA,Ce,D0,Ap,Bt,Ay,Cj,OT.flat,zM,zP,hni,hg,hq,hs,hmt]
   exact ⟨i+1,⟨k+1,by omega,hlt,hR⟩,by omega,by first | trivial | rfl⟩
 ·have hk':k=ps.length:=by omega
  rw [zJ hge] at hR
  have hn:prF p.name []=none:=rfl
  rw [hn] at hR
  rw [←hR] at hmt
  simp only at hmt
  simp (disch:=omega) only [go_sem,Aa,h2,AG,CA,Ce,D0,Ap,Bt,Ay,Cj,OT.flat,zM,zP,hni,hmt]
  rw [zE]; rfl
def lpK {α:Type} (c:Ctx) (H:α→St) (R:α→Prop) (μ:α→Nat) (x:α) (K:X→St→Prop):X→St→Prop
 | .normal,st'=>∃ y,R y∧μ y < μ x∧Weak c st' (H y)
 | .exit i,st'=>K (.exit i) st'
 | .ret,st'=>K .ret st'
theorem RunL.lp {c:Ctx} {K:X→St→Prop} {st:St} {α:Type} {keep:List Nat} {b:SC} (H:α→St) (R:α→Prop) (μ:α→Nat) (x0:α) (hR:R x0) (h0:canon c.m keep st=H x0) (round:∀ x,R x→RunL c b (lpK c H R μ x K) (H x)):RunL c (.loop keep b) K st :=
 RunL.loop H R μ x0 hR (h0▸Cq) fun x hx=>(round x hx).mono fun e s he=>by cases e <;> exact he
theorem Vn {α:Type} {c:Ctx} {H:α→St} {R:α→Prop} {μ:α→Nat} {x:α} {K:X→St→Prop} {st':St}:lpK c H R μ x K .normal st'=∃ y,R y∧μ y < μ x∧Weak c st' (H y):=rfl
theorem Vo {α:Type} {c:Ctx} {H:α→St} {R:α→Prop} {μ:α→Nat} {x:α} {K:X→St→Prop} {i:Nat} {st':St}:lpK c H R μ x K (.exit i) st'=K (.exit i) st':=rfl
theorem To {α:Type} {c:Ctx} {H:α→St} {R:α→Prop} {μ:α→Nat} {x:α} {K:X→St→Prop} {st':St}:lpK c H R μ x K .ret st'=K .ret st':=rfl
theorem Wt {p:Tm} (hv:Bh p.name=false) (ih:∀ q∈p.args,HM q) (t:Tm) (ps:List Pr) (us:List (Value × Nat)) (hb1:ps.length+p.nodes≤1048576) (hb2:t.nodes≤1099511627776) (hb3:PrB 1099511627776 ps) (hb4:∀ q∈us,q.2≤ps.length) (c:Ctx) (h1:c.nt=86) (h2:c.m=0) :
  RunL c Dd (Q2 p t ps us [(.tmp 6),(.tmp 7)]) ⟨[p.sv,t.sv,.ref 0]++FT (86-3),[.hist 70 3 (ps.map Pr.o) us]⟩:=by
 have hmt:=Ig (t:=t) (ps:=ps) hv
 have hnp:=Tm.Aj p
 have hnt:=Tm.Aj t
 have hla:=Tm.length_le p.args
 have hlt':=Tm.length_le t.args
 unfold Dd
 refine RunL.seq (RunL.go ?_)
 rw [h2]
 simp (disch:=omega) only [go_sem,Aa,h2,AG,CA,Ce,D0,Ap,Bt,Ay,Cj,OT.flat,zM,zP,BX,DM,Bz,hv]
 refine RunL.seq (RunL.go ?_)
 rw [h2]
 simp (disch:=omega) only [go_sem,Aa,h2,AG,CA,Ce,D0,Ap,Bt,Ay,Cj,OT.flat,zM,zP,BX,DM,Bz,hv]
 have hq1:(p.name=t.name∧p.args.length=t.args.length)∨¬ (p.name=t.name∧p.args.length=t.args.length):=Classical.em _
 rcases hq1 with ⟨hn,hl⟩ | hne
 rotate_left
 ·have hmt':mt p t ps=(ps,false):=by
   rw [hmt]
   by_cases hn:p.name=t.name
   ·have hl:¬ p.args.length=t.args.length:=fun h=>hne ⟨hn,h⟩
    rw [Bg hl,yB,cond_false]
   ·rw [Bg hn,zN,cond_false]
  clear hmt
  refine RunL.seq (RunL.go ?_)
  rw [h2]
  by_cases hn:p.name=t.name
  ·have hl:((p.args.length:Int)=(t.args.length:Int))=False:=eq_false (fun h=>hne ⟨hn,by omega⟩)
   have hn':dec (p.name=t.name)=true:=AV hn
   simp (disch:=omega) only [go_sem,Aa,h2,AG,CA,Ce,D0,Ap,Bt,Ay,Cj,OT.flat,zM,zP,BX,DM,Bz,hn',hl,hmt']
  ·have hn':dec (p.name=t.name)=false:=Bg hn
   simp (disch:=omega) only [go_sem,Aa,h2,AG,CA,Ce,D0,Ap,Bt,Ay,Cj,OT.flat,zM,zP,BX,DM,Bz,hn',hmt']
 ·have hmt':mt p t ps=mtL p.args t.args ps:=by rw [hmt,AV hn,AV hl]; rfl
  clear hmt
  refine RunL.seq (RunL.go ?_)
  rw [h2]
  have hl':((p.args.length:Int)=(t.args.length:Int))=True:=eq_true (by omega)
  have hn':dec (p.name=t.name)=true:=AV hn
  simp (disch:=omega) only [go_sem,Aa,h2,AG,CA,Ce,D0,Ap,Bt,Ay,Cj,OT.flat,zM,zP,BX,DM,Bz,hn',hl']
  refine RunL.seq (RunL.seq (RunL.go ?_))
  rw [h2]
  simp (disch:=omega) only [go_sem,Aa,h2,AG,CA,Ce,D0,Ap,Bt,Ay,Cj,OT.flat,zM,zP,BX,DM,Bz,hv]
  refine RunL.block (RunL.lp (α:=Nat × List Pr) (fun x=>⟨slots 86 0 [(2,.ref 0),(3,.ptr 1 0),(4,.ptr 2 0),(9,.int .i64 (x.1:Nat))],[.hist 70 3 (x.2.map Pr.o) us,.box 26 [.str p.name,.arr (p.args.map Tm.d)],.box 26 [.str t.name,.arr (t.args.map Tm.d)]]⟩) (fun x=>x.1≤p.args.length∧mtL (p.args.drop x.1) (t.args.drop x.1) x.2=mt p t ps∧x.2.length+Tm.AK (p.args.drop x.1)≤1048576∧PrB 1099511627776 x.2∧ps.length≤x.2.length) (fun x=>p.args.length-x.1) (0,ps) ⟨zZ _,by rw [zQ,zQ,hmt'],by rw [zQ]; dsimp only; omega,hb3,zU _⟩ ?_ ?_)
  ·rw [h2]
   simp (disch:=omega) only [go_sem,Aa,h2,AG,CA,Ce,D0,Ap,Bt,Ay,Cj,OT.flat,zM,zP,BX,DM,Bz,Int.ofNat_zero,Int.natCast_zero]
  rintro ⟨k,qs⟩ ⟨hk,hR,hlen,hqs,hql⟩
  dsimp only at hk hR hlen hqs hql ⊢
  rcases zT k p.args.length with hlt | hge
  rotate_left
  ·have hk':k=p.args.length:=by omega
   subst hk'
   rw [zJ (zU _),UN] at hR
   refine RunL.seq (RunL.go ?_)
   rw [h2]
   simp (disch:=omega) only [go_sem,Aa,h2,AG,CA,Ce,D0,Ap,Bt,Ay,Cj,OT.flat,zM,zP,BX,DM,Bz,Vn,Vo,To]
   refine RunL.go ?_
   rw [h2]
   simp (disch:=omega) only [go_sem,Aa,h2,AG,CA,Ce,D0,Ap,Bt,Ay,Cj,OT.flat,zM,zP,BX,DM,Bz,← hR]
  ·have hltt:k<t.args.length:=by omega
   have hgp:=get_at Tm.d hlt
   rw [Tm.d_eq] at hgp
   have hgt:=get_at Tm.d hltt
   rw [Tm.d_eq] at hgt
   rw [zG hlt,zG hltt,Et] at hR
   rw [zG hlt,Tm.AK] at hlen
   have hIH:=ih p.args[k] (zF hlt)
   have htn:t.args[k].nodes≤1099511627776:=by have:=Tm.AU (zF hltt); omega
   have hok:=Q1 p.args[k] t.args[k] qs
   have hnd:=L4 p.args[k] t.args[k] qs htn hqs
   refine RunL.seq (RunL.go ?_)
   rw [h2]
   simp (disch:=omega) only [go_sem,Aa,h2,AG,CA,Ce,D0,Ap,Bt,Ay,Cj,OT.flat,zM,zP,BX,DM,Bz,Vn,Vo,To]
   refine RunL.seq (RunL.block (RunL.seq ?_))
   refine RunL.ex fun a w hln hr=>?_
   obtain ⟨v,hv'⟩:=OD (k:=2) (g:=0) rfl (by simp) rfl hr
   have hlm:(qs.map Pr.o).length=qs.length:=zB ..
   rw [hlm] at hv'
   refine ⟨_,by simpa using hln,hv',?_⟩
   clear hv' hr hln
   have hcall:Jo p.args[k] t.args[k] qs v ((v,qs.length) :: us) 23 [.agg [.str p.args[k].name,.arr (p.args[k].args.map Tm.d)],.agg [.str t.args[k].name,.arr (t.args[k].args.map Tm.d)],.val v] [.hist 70 3 (qs.map Pr.o) ((v,qs.length) :: us),.box 26 [.str p.name,.arr (p.args.map Tm.d)],.box 26 [.str t.name,.arr (t.args.map Tm.d)]]=some (.tup [.ref 3,.bool (mt p.args[k] t.args[k] qs).2],[(3,.hist 70 3 ((mt p.args[k] t.args[k] qs).1.map Pr.o) ((v,qs.length) :: us)),(0,.gone)],[]):=R6 rfl (by simp)
   refine RunL.WS (C:=Jo p.args[k] t.args[k] qs v ((v,qs.length) :: us)) (OF hIH (by simp) (by omega) htn hqs (fun q hq=>(z6.1 hq).elim (fun h=>by rw [h]; exact zU _) fun h=>by have:=hb4 q h; omega)) (l:=[⟨(some 67),none,(.faddr 1 (.t 3))⟩,⟨(some 68),none,(.load false 1 (.t 67))⟩,⟨(some 69),none,(.mv (.t 9))⟩,⟨(some 70),none,(.iaddr 2 (.t 68) (.t 69))⟩,⟨(some 71),none,(.load true 2 (.t 70))⟩,⟨(some 72),none,(.faddr 1 (.t 4))⟩,⟨(some 73),none,(.load false 1 (.t 72))⟩,⟨(some 74),none,(.mv (.t 9))⟩,⟨(some 75),none,(.iaddr 2 (.t 73) (.t 74))⟩,⟨(some 76),none,(.load true 2 (.t 75))⟩,⟨(some 77),none,(.mv (.t 2))⟩]) (r:=[⟨(some 66),none,(.mv (.t 78))⟩,⟨(some 79),none,(.ext (.t 66) 0)⟩,⟨(some 80),none,(.ext (.t 66) 1)⟩,⟨(some 10),none,(.mv (.t 79))⟩,⟨(some 11),none,(.mv (.t 80))⟩]) rfl rfl ?_
   simp (disch:=omega) only [go_sem,Aa,h2,AG,CA,Ce,D0,Ap,Bt,Ay,Cj,OT.flat,zM,zP,BX,DM,Bz,BW,List.set_cons_zero,List.set_cons_succ,hgp,hgt,Int.toNat_natCast,WR,WQ,hcall]
   obtain ⟨⟨r,hpre⟩,hle⟩:=hok
   have htk:((mt p.args[k] t.args[k] qs).1.map Pr.o).take qs.length=qs.map Pr.o:=by
    rw [hpre,zE,List.take_left' (zB ..)]
   cases hq:(mt p.args[k] t.args[k] qs).2 with
   | false =>
    rw [hq,cond_false] at hR
    refine RunL.wk (RunL.go ?_)
    rw [h2]
    simp (disch:=omega) only [go_sem,Aa,h2,AG,CA,Ce,D0,Ap,Bt,Ay,Cj,OT.flat,zM,zP,BX,DM,Bz,hq]
    refine ⟨_,R5 (k:=6) (g:=3) (n:=qs.length) (us':=us) rfl rfl yW (fun q hq=>⟨z1 _ hq,by have:=hb4 q hq; omega⟩),?_⟩
    rw [htk]
    simp (disch:=omega) only [go_sem,Aa,h2,AG,CA,Ce,D0,Ap,Bt,Ay,Cj,OT.flat,zM,zP,BX,DM,Bz,To,Vb,List.set_cons_zero,List.set_cons_succ,BW,← hR]
   | true =>
    rw [hq,cond_true] at hR
    refine RunL.go ?_
    rw [h2]
    simp (disch:=omega) only [go_sem,Aa,h2,AG,CA,Ce,D0,Ap,Bt,Ay,Cj,OT.flat,zM,zP,BX,DM,Bz,hq]
    refine RunL.go ?_
    rw [h2]
    simp (disch:=omega) only [go_sem,Aa,h2,AG,CA,Ce,D0,Ap,Bt,Ay,Cj,OT.flat,zM,zP,BX,DM,Bz,hq]
    refine ⟨(k+1,(mt p.args[k] t.args[k] qs).1),⟨hlt,hR,?_,hnd,?_⟩,?_,Weak.trans (R4 (g:=3) (us':=us) rfl (fun q hq=>z1 _ hq)) (PA (keep:=[0,0,1,1,1,0,0,0,0,1,0,0,0,0,0,0,0,0,0,0,0,0,0,0,0,0,0,0,0,0,0,0,0,0,0,0,0,0,0,0,0,0,0,0,0,0,0,0,0,0,0,0,0,0,0,0,0,0,0,0,0,0,0,0,0,0,0,0,0,0,0,0,0,0,0,0,0,0,0,0,0,0,0,0,0,0]) ?_)⟩
    ·dsimp only; omega
    ·dsimp only; rw [hpre,zS]; omega
    ·dsimp only; omega
    ·rw [h2]
     simp (disch:=omega) only [go_sem,Aa,h2,AG,CA,Ce,D0,Ap,Bt,Ay,Cj,OT.flat,zM,zP,BX,DM,Bz,BW,Int.natCast_add,Int.natCast_one]
theorem Tp (p:Tm):HM p:=WT L6 (of_decide_eq_true rfl) fun t ps us hb1 hb2 hb3 hb4 c h1 h2=>by
 cases hv:Bh p.name with
 | true=>exact Ws hv t ps us hb1 hb2 hb3 hb4 c h2
 | false=>exact Wt hv (fun q hq=>Tp q) t ps us hb1 hb2 hb3 hb4 c h1 h2
termination_by SizeOf.sizeOf p
decreasing_by exact Tm.A8 hq
theorem R7 (p t:Tm) (ps:List Pr) (hb1:ps.length+p.nodes≤1048576) (hb2:t.nodes≤1099511627776) (hb3:PrB 1099511627776 ps):E 23 [p.sv,t.sv,.ref 0] [.row 70 3 (ps.map Pr.o)]=some (prR p t ps,prO p t ps):=by
 rw [KZ (g:=Pv) (congrArg FM.ext BI)]
 exact Uq (UP (Tp p) hb1 hb2 hb3)
noncomputable def prB (q:Pr):Option Bd:=bif dec (q.term.name=q.name) then none else some ⟨q.name,q.term⟩
noncomputable def FI (ps:List Pr):List Bd:=Lv [] (ps.filterMap prB)
theorem Pr.fu:∀ ps:List Pr,OT.Aq (ps.map Pr.o)=true
 | []=>rfl
 | x :: xs=>by rw [zC]; unfold Pr.o; simp only [OT.Aq,OT.Ck,OT.full,zI,y7]; exact Pr.fu xs
theorem Pr.er:∀ ps:List Pr,OT.erss (ps.map Pr.o)=ps.map Pr.d
 | []=>rfl
 | x :: xs=>by rw [zC,zC,OT.erss,Pr.er xs]; rfl
theorem Pr.d_eq (q:Pr):Pr.d q=[.str q.name,.str q.term.name,.arr (q.term.args.map Tm.d)]:=rfl
def Hg:SC:=(.seq (.reg [⟨some 2,none,.alloc 31 [.nil]⟩]) (.seq (.reg [⟨some 5,none,.build [.nil] []⟩,⟨some 3,none,.alloc 31 [.nil]⟩,⟨none,none,(.store 1 (.t 3) (.t 5))⟩]) (.seq (.seq (.reg [⟨some 4,none,.mv (.c (.int .i64 0))⟩]) (.block 0 (.loop [1,0,1,1,1,0,0,0,0,0,0,0,0,0,0,0,0,0,0,0,0,0,0,0,0] (.seq (.seq (.reg [⟨some 6,none,.mv (.t 4)⟩,⟨some 7,none,.mv (.t 0)⟩,⟨some 8,none,.len false (.t 7)⟩,⟨some 9,none,.bin .lss false (.t 6) (.t 8)⟩]) (.cond (.t 9) .skip (.exit 0))) (.seq (.block 1 (.dreg [[],[],[],[1,2],[3,1,2],[4,3,1,2],[],[],[6,7],[8,6,7],[9,8,6,7],[0,5,4,3,1,2,10,9,8,6,7],[11,0,5,4,3,1,2,10,9,8,6,7]] [⟨some 12,none,.load true 1 (.t 3)⟩,⟨some 13,none,.mv (.t 0)⟩,⟨some 14,none,.mv (.t 4)⟩,⟨some 15,none,.iaddr 3 (.t 13) (.t 14)⟩,⟨some 16,none,.faddr 0 (.t 15)⟩,⟨some 17,none,.load false 1 (.t 16)⟩,⟨some 18,none,.mv (.t 0)⟩,⟨some 19,none,.mv (.t 4)⟩,⟨some 20,none,.iaddr 3 (.t 18) (.t 19)⟩,⟨some 21,none,.faddr 1 (.t 20)⟩,⟨some 22,none,.load true 2 (.t 21)⟩,⟨some 23,none,.call 37 [(.t 12),(.t 17),(.t 22)]⟩,⟨none,none,(.store 1 (.t 3) (.t 23))⟩])) (.reg [⟨some 10,none,.mv (.t 4)⟩,⟨some 11,none,.bin .add false (.t 10) (.c (.int .i64 1))⟩,⟨some 4,none,.mv (.t 11)⟩])))))) (.seq (.reg [⟨some 24,none,.load true 1 (.t 3)⟩,⟨none,none,(.store 1 (.t 2) (.t 24))⟩]) .ret))))
theorem L7:Ar Try.prog 24=some ⟨25,Hg,[(.cell 2 true 1)]⟩:=by kernel_rfl
theorem BJ:modes 24=⟨[],.half [some (58,3)],none,false⟩:=by unfold modes; rfl
theorem R8 (ps:List Pr) (hl:ps.length≤1048576) (hps:PrB 1099511627776 ps):∃ z:Bool,E 24 [.arr (ps.map Pr.d)] []=some (bif z then (.agg [.arr []],[]) else (.agg [.ref 0],[bdH (FI ps)]))∧(z=true→FI ps=[]):=by
 obtain ⟨Q,hQ⟩:∃ Q:SV × List Ob→Prop,Q=fun out=>∃ z,out=(bif z then (SV.agg [.arr []],[]) else (SV.agg [.ref 0],[bdH (FI ps)]))∧(z=true→FI ps=[]):=⟨_,rfl⟩
 suffices hq0:∃ out,E 24 [.arr (ps.map Pr.d)] []=some out∧Q out by
  obtain ⟨out,hq1,hq2⟩:=hq0
  rw [hQ] at hq2
  obtain ⟨z,rfl,hq3⟩:=hq2
  exact ⟨z,hq1,hq3⟩
 have hnil:(([]:List Bd)=[])=True:=eq_self _
 refine AH L7 BJ (of_decide_eq_true rfl) ?_
 simp (disch:=omega) only [Hg,go_sem,Aa]
 refine go_loop (α:=Int × SV × List Bd) (fun a=>⟨slots 25 0 [(0,.arr (ps.map Pr.d)),(2,.ptr 0 0),(3,.ptr 1 0),(4,.int .i64 a.1)],(if a.2.2=[] then [.box 31 [.nil],.box 31 [a.2.1]] else [.box 31 [.nil],.box 31 [.ref 2],bdH a.2.2])⟩) (fun a=>∃ k:Nat,a.1=k∧k≤ps.length∧a.2.2.length≤k∧Lv a.2.2 ((ps.drop k).filterMap prB)=FI ps∧(a.2.1=.nil∨a.2.1=.arr [])) (fun a=>ps.length-a.1.toNat) (0,.nil,[]) ⟨0,rfl,zZ _,by simp,by rw [zQ]; rfl,.inl rfl⟩ (by (simp (disch:=omega) only [go_sem,Aa,hnil,if_true]) <;> first | trivial | rfl | exact ⟨rfl,rfl⟩) ?_
 rintro ⟨i,y,acc⟩ ⟨k,hi,hk,hal,hR,hy⟩
 dsimp only at hi hal hR hy
 have hni:i.toNat=k:=by omega
 rcases zT k ps.length with hlt | hge
 ·have hg:=get_at Pr.d hlt
  rw [Pr.d_eq] at hg
  have htn:=hps _ (zF hlt)
  have hpn:=O6 ⟨ps[k].name,ps[k].term⟩ htn
  have hpr:=O7 acc ⟨ps[k].name,ps[k].term⟩ (by omega) htn
  dsimp only at hpn hpr
  rw [zG hlt,yU] at hR
  cases hq:dec (ps[k].term.name=ps[k].name) with
  | true =>
   rw [hq,cond_true] at hpn hpr
   have hb:prB ps[k]=none:=by unfold prB; rw [hq]; rfl
   rw [hb] at hR
   rcases zL acc with ha | ⟨ys,z,ha⟩
   ·subst ha
    rcases hy with rfl | rfl
    ·simp (disch:=omega) only [go_sem,Aa,hni,hg,hpn,Bd.Qv,hnil,if_true,AJ]
     exact ⟨(i+1,.arr [],[]),⟨k+1,by dsimp only; omega,by omega,by first | omega | (dsimp only; omega) | simp,hR,.inr rfl⟩,by dsimp only; omega,by first | trivial | rfl | exact ⟨rfl,rfl⟩ | simp only [hnil,if_true,and_self]⟩
    ·simp (disch:=omega) only [go_sem,Aa,hni,hg,hpn,Bd.Qv,hnil,if_true,AJ]
     exact ⟨(i+1,.arr [],[]),⟨k+1,by dsimp only; omega,by omega,by first | omega | (dsimp only; omega) | simp,hR,.inr rfl⟩,by dsimp only; omega,by first | trivial | rfl | exact ⟨rfl,rfl⟩ | simp only [hnil,if_true,and_self]⟩
   ·have hne:(acc=[])=False:=eq_false (by rw [ha]; simp)
    have hns:=Bd.Ti (xs:=acc) (by rw [ha]; simp)
    simp (disch:=omega) only [go_sem,Aa,hni,hg,hpr,hns,hne,if_false,AJ]
    exact ⟨(i+1,y,acc),⟨k+1,by dsimp only; omega,by omega,by first | omega | (dsimp only; omega) | simp,hR,hy⟩,by dsimp only; omega,by first | trivial | rfl | exact ⟨rfl,rfl⟩ | simp only [hne,if_false,and_self]⟩
  | false =>
   rw [hq,cond_false] at hpn hpr
   obtain ⟨c,hc⟩:∃ c:Bd,c=⟨ps[k].name,ps[k].term⟩:=⟨_,rfl⟩
   have hb:prB ps[k]=some c:=by unfold prB; rw [hq,hc]; rfl
   rw [hb] at hR
   have hR':Lv (C3 acc c) ((ps.drop (k+1)).filterMap prB)=FI ps:=hR
   rw [←hc] at hpn hpr
   have hl2:=Ly c acc
   have hne2:=Qu c acc
   have hns:OT.BN ((C3 acc c).map fun b=>b.d.map D.ot)=false:=Bd.Ti (fun h=>by rw [h] at hl2; simp at hl2)
   rcases zL acc with ha | ⟨ys,z,ha⟩
   ·have hae:(acc=[])=True:=eq_true ha
    have h1c:[c]=C3 acc c:=by rw [ha]; rfl
    rw [h1c] at hpn
    rcases hy with rfl | rfl
    ·simp (disch:=omega) only [go_sem,Aa,hni,hg,hpn,hns,hae,if_true,AJ]
     exact ⟨(i+1,.nil,C3 acc c),⟨k+1,by dsimp only; omega,by omega,by first | omega | (dsimp only; omega) | simp,hR',.inl rfl⟩,by dsimp only; omega,by first | trivial | rfl | exact ⟨rfl,rfl⟩ | simp only [hne2,if_false,and_self]⟩
    ·simp (disch:=omega) only [go_sem,Aa,hni,hg,hpn,hns,hae,if_true,AJ]
     exact ⟨(i+1,.arr [],C3 acc c),⟨k+1,by dsimp only; omega,by omega,by first | omega | (dsimp only; omega) | simp,hR',.inr rfl⟩,by dsimp only; omega,by first | trivial | rfl | exact ⟨rfl,rfl⟩ | simp only [hne2,if_false,and_self]⟩
   ·have hne:(acc=[])=False:=eq_false (by rw [ha]; simp)
    simp (disch:=omega) only [go_sem,Aa,hni,hg,hpr,hns,hne,if_false,AJ]
    exact ⟨(i+1,y,C3 acc c),⟨k+1,by dsimp only; omega,by omega,by first | omega | (dsimp only; omega) | simp,hR',hy⟩,by dsimp only; omega,by first | trivial | rfl | exact ⟨rfl,rfl⟩ | simp only [hne2,if_false,and_self]⟩
 ·rw [zJ hge,List.filterMap_nil] at hR
  have hR':acc=FI ps:=hR
  rcases zL acc with ha | ⟨ys,z,ha⟩
  ·subst ha
   rcases hy with rfl | rfl
   ·simp (disch:=omega) only [go_sem,Aa,hni,hnil,if_true,zD]
    rw [hQ]
    exact ⟨false,by rw [←hR']; rfl,by simp⟩
   ·simp (disch:=omega) only [go_sem,Aa,hni,hnil,if_true,zD]
    rw [hQ]
    exact ⟨true,rfl,fun _=>hR'.symm⟩
  ·have hne:(acc=[])=False:=eq_false (by rw [ha]; simp)
   simp (disch:=omega) only [go_sem,Aa,hni,hne,if_false,Bd.dfu,Bd.der,Bd.dha]
   rw [hQ]
   exact ⟨false,by rw [←hR']; rfl,by simp⟩
def Br:SC:=(.seq (.reg [⟨some 2,none,.boxv 26 2 (.t 0)⟩,⟨some 3,none,.boxv 26 2 (.t 1)⟩,⟨some 4,none,.alloc 31 [.nil]⟩,⟨some 5,none,.mv (.c (.bool false))⟩]) (.seq (.seq (.reg [⟨some 9,none,.load true 2 (.t 2)⟩,⟨some 10,none,.call 16 [(.t 9)]⟩,⟨some 11,none,.un .not (.t 10)⟩,⟨some 12,none,.mv (.t 11)⟩,⟨(some 13),(some (12,false)),(.load true 2 (.t 3))⟩,⟨(some 14),(some (12,false)),(.call 16 [(.t 13)])⟩,⟨(some 15),(some (12,false)),(.un .not (.t 14))⟩,⟨some 16,none,.pick (.t 12) (.c (.bool true)) (.t 15)⟩]) (.cond (.t 16) (.seq (.reg [⟨some 17,none,.build [.nil] []⟩,⟨none,none,(.store 1 (.t 4) (.t 17))⟩,⟨some 5,none,.mv (.c (.bool false))⟩]) .ret) .skip)) (.seq (.reg [⟨some 19,none,.load true 2 (.t 2)⟩,⟨some 20,none,.load true 2 (.t 3)⟩,⟨(some 21),none,(.mkrow 70 3 [(.str ⟨#[]⟩),(.str ⟨#[]⟩),.nil] 0 [])⟩,⟨some 22,none,.call 23 [(.t 19),(.t 20),(.t 21)]⟩,⟨some 18,none,.mv (.t 22)⟩,⟨some 23,none,.ext (.t 18) 0⟩,⟨some 24,none,.ext (.t 18) 1⟩,⟨some 6,none,.mv (.t 23)⟩,⟨some 7,none,.mv (.t 24)⟩]) (.seq (.reg [⟨some 25,none,.mv (.t 6)⟩,⟨some 26,none,.call 24 [(.t 25)]⟩,⟨some 8,none,.alloc 31 [.nil]⟩,⟨none,none,(.store 1 (.t 8) (.t 26))⟩]) (.seq (.seq (.reg [⟨some 27,none,.mv (.t 7)⟩,⟨some 28,none,.un .not (.t 27)⟩,⟨some 29,none,.mv (.t 28)⟩,⟨(some 30),(some (29,false)),(.load true 1 (.t 8))⟩,⟨(some 31),(some (29,false)),(.call 25 [(.t 30)])⟩,⟨(some 32),(some (29,false)),(.un .not (.t 31))⟩,⟨some 33,none,.pick (.t 29) (.c (.bool true)) (.t 32)⟩]) (.cond (.t 33) (.seq (.reg [⟨some 34,none,.build [.nil] []⟩,⟨none,none,(.store 1 (.t 4) (.t 34))⟩,⟨some 5,none,.mv (.c (.bool false))⟩]) .ret) .skip)) (.seq (.reg [⟨some 35,none,.load true 1 (.t 8)⟩,⟨none,none,(.store 1 (.t 4) (.t 35))⟩,⟨some 5,none,.mv (.c (.bool true))⟩]) .ret))))))
theorem B5:Ar Try.prog 7=some ⟨36,Br,[(.cell 4 true 1),(.tmp 5)]⟩:=by kernel_rfl
theorem AL:modes 7=⟨[],.frz,none,false⟩:=by unfold modes; rfl
noncomputable def mtS (p t:Tm):Bool:=p.expr&&(t.expr&&((mt p t []).2&&(Sb.mk (FI (mt p t []).1)).ok))
theorem MG (ps:List Pr):(FI ps).Perm (ps.filterMap prB):=by
 have:=Jm (ps.filterMap prB) []
 simpa [FI] using this
theorem Kf {q:Pr} {b:Bd}:prB q=some b ↔ b.var=q.name∧b.term=q.term∧q.term.name≠q.name:=by
 unfold prB
 by_cases h:q.term.name=q.name
 ·rw [AV h,cond_true]
  exact ⟨fun h=>(by cases h),fun h'=>absurd h h'.2.2⟩
 ·rw [Bg h,cond_false]
  constructor
  ·intro e
   obtain rfl:=zH e
   exact ⟨rfl,rfl,h⟩
  ·rintro ⟨e1,e2,_⟩
   cases b; simp only at e1 e2; rw [e1,e2]
theorem R9 {ps:List Pr} (hl:ps.length≤1048576) (hps:PrB 1099511627776 ps):(Sb.mk (FI ps)).tame:=by
 have h1:=(MG ps).length_eq
 have h2:=y2 prB ps
 refine ⟨by show (FI ps).length≤_; omega,fun b hb=>?_⟩
 obtain ⟨q,hq,hqb⟩:=yX.1 ((MG ps).mem_iff.1 hb)
 rw [(Kf.1 hqb).2.1]
 exact hps q hq
theorem L8 (p t:Tm) (hp:p.nodes≤1048576) (ht:t.nodes≤1048576):∃ xs:List Bd,E 7 [p.sv,t.sv] []=some (.tup [.agg [.arr (xs.map Bd.d)],.bool (mtS p t)],[]):=by
 have h1:=Nw p (by omega)
 have h2:=Nw t (by omega)
 unfold mtS
 cases hpe:p.expr with
 | false =>
  rw [hpe] at h1
  rw [zN]
  refine ⟨[],?_⟩
  refine Af B5 AL (of_decide_eq_true rfl) ?_
  simp (disch:=omega) only [Br,go_sem,Aa,h1,h2,AN,BI,BJ,BS,zD]
 | true =>
  rw [hpe] at h1
  rw [zI]
  cases hte:t.expr with
  | false =>
   rw [hte] at h2
   rw [zN]
   refine ⟨[],?_⟩
   refine Af B5 AL (of_decide_eq_true rfl) ?_
   simp (disch:=omega) only [Br,go_sem,Aa,h1,h2,AN,BI,BJ,BS,zD]
  | true =>
   rw [hte] at h2
   rw [zI]
   have h3:=R7 p t [] (by simpa using hp) (by omega) (fun q hq=>by cases hq)
   have hlen:=(Q1 p t []).len
   have hnd:=L4 (N:=1099511627776) p t [] (by omega) (fun q hq=>by cases hq)
   obtain ⟨r,hr⟩:∃ r,r=mt p t []:=⟨_,rfl⟩
   unfold prR prO at h3
   rw [←hr] at h3 hlen hnd ⊢
   simp only [zA,y6] at hlen
   simp only [zD] at h3
   have hfu:=Pr.fu r.1
   have her:=Pr.er r.1
   obtain ⟨z,h4,h5⟩:=R8 r.1 (by omega) hnd
   have h6:=SU ⟨FI r.1⟩ (R9 (by omega) hnd)
   have hsv:(Sb.mk (FI r.1)).sv=.agg [.arr ((FI r.1).map Bd.d)]:=rfl
   rw [hsv] at h6
   cases z with
   | true =>
    have hx:=h5 rfl
    rw [hx] at h6 ⊢
    rw [cond_true] at h4
    simp only [zD] at h6
    cases hb:r.2 with
    | false =>
     rw [hb] at h3
     rw [zN]
     refine ⟨[],?_⟩
     refine Af B5 AL (of_decide_eq_true rfl) ?_
     simp (disch:=omega) only [Br,go_sem,Aa,h1,h2,h3,h4,h6,hfu,her,Bd.dfu,Bd.der,AN,BI,BJ,BS,zD]
    | true =>
     rw [hb] at h3
     rw [zI]
     cases hk:(Sb.mk []).ok with
     | false =>
      rw [hk] at h6
      refine ⟨[],?_⟩
      refine Af B5 AL (of_decide_eq_true rfl) ?_
      simp (disch:=omega) only [Br,go_sem,Aa,h1,h2,h3,h4,h6,hfu,her,Bd.dfu,Bd.der,AN,BI,BJ,BS,zD]
     | true =>
      rw [hk] at h6
      refine ⟨[],?_⟩
      refine Af B5 AL (of_decide_eq_true rfl) ?_
      simp (disch:=omega) only [Br,go_sem,Aa,h1,h2,h3,h4,h6,hfu,her,Bd.dfu,Bd.der,AN,BI,BJ,BS,zD]
   | false =>
    rw [cond_false] at h4
    have hns:OT.BN ((FI r.1).map fun b=>b.d.map D.ot)=true∨OT.BN ((FI r.1).map fun b=>b.d.map D.ot)=false:=by cases OT.BN ((FI r.1).map fun b=>b.d.map D.ot) <;> simp
    rcases hns with hns | hns
    all_goals
     cases hb:r.2 with
     | false =>
      rw [hb] at h3
      rw [zN]
      refine ⟨[],?_⟩
      refine Af B5 AL (of_decide_eq_true rfl) ?_
      simp (disch:=omega) only [Br,go_sem,Aa,h1,h2,h3,h4,h6,hfu,her,hns,Bd.dfu,Bd.der,AN,BI,BJ,BS,zD]
     | true =>
      rw [hb] at h3
      rw [zI]
      cases hk:(Sb.mk (FI r.1)).ok with
      | false =>
       rw [hk] at h6
       refine ⟨[],?_⟩
       refine Af B5 AL (of_decide_eq_true rfl) ?_
       simp (disch:=omega) only [Br,go_sem,Aa,h1,h2,h3,h4,h6,hfu,her,hns,Bd.dfu,Bd.der,AN,BI,BJ,BS,zD]
      | true =>
       rw [hk] at h6
       refine ⟨FI r.1,?_⟩
       refine Af B5 AL (of_decide_eq_true rfl) ?_
       simp (disch:=omega) only [Br,go_sem,Aa,h1,h2,h3,h4,h6,hfu,her,hns,Bd.dfu,Bd.der,AN,BI,BJ,BS,zD]
mutual
noncomputable def Tm.vs:Tm→List ByteArray
 | .mk name args=>bif Bh name then [name] else Tm.vsL args
noncomputable def Tm.vsL:List Tm→List ByteArray
 | []=>[]
 | x :: xs=>Tm.vs x++Tm.vsL xs
end
theorem Sb.OG {s:Sb} {n:ByteArray} {t:Tm} (h:s.look n=some t):(⟨n,t⟩:Bd)∈s.binds:=by
 cases hh:Eb s.binds n with
 | false=>rw [Sb.Kb hh] at h; cases h
 | true =>
  have hlt:=Hw hh
  rw [Sb.IE hh hlt] at h
  obtain rfl:=zH h
  have e:=Nv hh hlt
  have h1:=zF hlt
  have h2:∀ c:Bd,c.var=n→(⟨n,c.term⟩:Bd)=c:=fun c e=>by rw [←e]
  rw [h2 _ e]; exact h1
theorem Sb.MH {s:Sb} (hs:Jl s.binds) {n:ByteArray}:s.look n=none ↔ ∀ b∈s.binds,b.var≠n:=by
 cases hh:Eb s.binds n with
 | false =>
  rw [Sb.Kb hh]
  refine ⟨fun _ b hb e=>?_,fun _=>rfl⟩
  rw [Te hs] at hh
  exact List.any_eq_false.1 hh b hb (AV e)
 | true =>
  have hlt:=Hw hh
  rw [Sb.IE hh hlt]
  exact ⟨fun h=>(by cases h),fun h=>absurd (Nv hh hlt) (h _ (zF hlt))⟩
theorem Sb.OH {s:Sb} (hs:Jl s.binds) {b:Bd} (h:b∈s.binds):s.look b.var=some b.term:=by
 cases hq:s.look b.var with
 | none=>exact absurd rfl ((Sb.MH hs).1 hq b h)
 | some t =>
  have h2:=Sb.OG hq
  obtain ⟨i,hi,e1⟩:=zV h
  obtain ⟨j,hj,e2⟩:=zV h2
  have hij:i=j:=(y3 (h₀:=by simpa using hi) (h₁:=by simpa using hj) (P6 hs)).1 (by simp only [yO,e1,e2])
  subst hij
  rw [e1] at e2
  rw [e2]
def Sb.idem (s:Sb):Prop:=∀ w t,s.look w=some t→∀ v∈t.vs,s.look v=none
noncomputable def Tq (x y:Tm):Bd:=bif Bh x.name&&!(Bh y.name&&strLt x.name y.name) then ⟨x.name,y⟩ else ⟨y.name,x⟩
noncomputable def WU (b:Bd):Bool:=!dec (b.var∈b.term.vs)&&(Sb.mk [b]).ok
noncomputable def Wu:Nat→Sb→List (Tm × Tm)→Option (Option Sb)
 | 0,_,_=>none
 | n+1,s,l=>match l with
  | []=>some (some s)
  | p :: l=>bif E0 s p.1&&E0 s p.2 then
    (bif dec (DC s p.1=DC s p.2) then Wu n s l
    else bif Bh (DC s p.1).name || Bh (DC s p.2).name then
     (bif WU (Tq (DC s p.1) (DC s p.2))&&WJ s ⟨[Tq (DC s p.1) (DC s p.2)]⟩ then Wu n (WI s ⟨[Tq (DC s p.1) (DC s p.2)]⟩) l else some none)
    else bif dec ((DC s p.1).name=(DC s p.2).name)&&dec ((DC s p.1).args.length=(DC s p.2).args.length) then Wu n s ((DC s p.1).args.zip (DC s p.2).args++l)
    else some none)
   else some none
def WV:List (Tm × Tm)→Nat
 | []=>0
 | p :: l=>p.1.nodes+WV l
structure uInv (s:Sb) (l:List (Tm × Tm)):Prop where
 ok:s.ok=true
 idem:s.idem
 ex:∀ p∈l,p.1.expr=true∧p.2.expr=true
 pq:∃ P Q,l=P++Q∧(∀ p∈P,p.1.ap s.look=p.1)∧WV P≤30∧Q.length≤1+30*s.binds.length
theorem Q3 {s:Sb} {x:Tm} (h:E0 s x=true):(DC s x).expr=true:=by
 rw [IF h]
 unfold E0 at h
 rw [zK,zK] at h
 have h2:(x.ap s.look).expr=(x.ap s.look).small:=Tm.Wl (Sb.O4 h.1) x h.2.1
 rw [h2]; exact h.2.2
noncomputable def pe (ps:List Pr):TEnv:=fun s=>match prF s ps with
 | some q=>some q.term
 | none=>none
theorem Kg {n:ByteArray} {ps:List Pr} {q:Pr} (h:prF n ps=some q):q∈ps∧q.name=n:=by
 unfold prF at h
 have h2:=List.find?_some h
 rw [At] at h2
 exact ⟨List.mem_of_find?_eq_some h,h2⟩
theorem OI {n:ByteArray} {ps:List Pr} (h:prF n ps=none):∀ q∈ps,q.name≠n:=fun q hq he=>by
 unfold prF at h
 rw [List.find?_eq_none] at h
 exact h q hq (AV he)
theorem Tr (s n:ByteArray) (t:Tm) (ps:List Pr):prF s (ps++[⟨n,t⟩])=match prF s ps with
  | some q=>some q
  | none=>bif dec (n=s) then some ⟨n,t⟩ else none:=by
 unfold prF
 rw [List.find?_append]
 cases h:ps.find? (fun q=>dec (q.name=s)) with
 | some q=>rfl
 | none =>
  simp only [List.find?_cons,List.find?_nil,Option.none_or]
  cases dec (n=s) <;> rfl
theorem UQ {n:ByteArray} {t:Tm} {ps:List Pr} (h:prF n ps=none):pe (ps++[⟨n,t⟩])=JN (pe ps) n t:=by
 funext s
 unfold pe JN
 rw [Tr]
 by_cases hs:s=n
 ·subst hs
  rw [h,AV rfl]; rfl
 ·rw [Bg hs]
  simp only [cond_false,pe]
  cases hq:prF s ps with
  | some q=>simp only
  | none =>
   simp only
   rw [Bg fun e=>hs e.symm]; rfl
theorem Wv {n:ByteArray} {t:Tm} {ps:List Pr} {q:Pr} (h:prF n ps=some q) (ht:q.term=t):JN (pe ps) n t=pe ps:=by
 funext s
 unfold JN
 by_cases hs:s=n
 ·subst hs
  rw [AV rfl,cond_true]
  unfold pe
  rw [h]
  simp only [ht]
 ·rw [Bg hs,cond_false]
def Agr (p:Tm):Prop:=∀ (t:Tm) (ps:List Pr),(mm p t (pe ps)).2=(mt p t ps).2∧((mt p t ps).2=true→(mm p t (pe ps)).1=pe (mt p t ps).1)
theorem Ts (p:Tm) (hv:Bh p.name=true→p.args=[]) (ih:∀ y∈p.args,Agr y):Agr p:=by
 intro t ps
 have key:∀ xs:List Tm,(∀ y∈xs,Agr y)→∀ (ys:List Tm) (ps:List Pr),(mmL xs ys (pe ps)).2=(mtL xs ys ps).2∧((mtL xs ys ps).2=true→(mmL xs ys (pe ps)).1=pe (mtL xs ys ps).1):=by
  intro xs
  induction xs with
  | nil=>intro _ ys ps; rw [mmL,mtL]; exact ⟨rfl,fun _=>rfl⟩
  | cons x xs ih2 =>
   intro h ys ps
   cases ys with
   | nil=>rw [mmL,mtL]; exact ⟨rfl,fun _=>rfl⟩
   | cons y ys =>
    rw [Hd,Et]
    obtain ⟨h1,h2⟩:=h x (by simp) y ps
    rw [h1]
    cases hq:(mt x y ps).2 with
    | false=>exact ⟨rfl,fun h=>by cases h⟩
    | true =>
     rw [cond_true,cond_true,h2 hq]
     exact ih2 (fun z hz=>h z (by simp [hz])) ys _
 rw [Qy]
 cases hvb:Bh p.name with
 | true =>
  have ha:=hv hvb
  rw [If hvb,AV (by rw [ha]; rfl),zI,cond_true]
  cases hq:prF p.name ps with
  | none =>
   have hpe:pe ps p.name=none:=by unfold pe; rw [hq]
   rw [hpe]
   exact ⟨rfl,fun _=>(UQ hq).symm⟩
  | some q =>
   have hpe:pe ps p.name=some q.term:=by unfold pe; rw [hq]
   rw [hpe]
   exact ⟨rfl,fun h=>Wv hq (At.1 h)⟩
 | false =>
  rw [Ig hvb,yB,cond_false]
  cases dec (p.name=t.name)&&dec (p.args.length=t.args.length) with
  | false=>exact ⟨rfl,fun h=>by cases h⟩
  | true=>exact key p.args ih t.args ps
theorem MJ (p:Tm) (h:p.names=true):Agr p:=Ts p (fun hv=>Tm.EF h hv) fun y hy=>MJ y (Tm.EG h hy)
termination_by SizeOf.sizeOf p
decreasing_by exact Tm.A8 hy
theorem ML {p:Tm} (h:p.expr=true) (hv:Bh p.name=true):p.args=[]:=by
 unfold Tm.expr at h
 cases hq:p.valid with
 | true=>exact Tm.EF (F4 hq) hv
 | false =>
  rw [hq,y8] at h
  unfold Tm.atom at h
  split at h
  ·rename_i he
   have h3:p.name=⟨#[61]⟩:=At.1 he
   rw [h3] at hv
   exact absurd hv (by decide +kernel)
  ·rw [zK] at h
   exact Tm.EF (F4 h.2) hv
theorem Tt {p:Tm} (h:p.expr=true):Agr p:=Ts p (ML h) fun y hy=>MJ y ((Hx h).2 y hy)
theorem Q4:∀ (xs ys:List Tm) (ps:List Pr),∃ r,(mtL xs ys ps).1=ps++r
 | [],ys,ps=>⟨[],by rw [mtL]; simp⟩
 | x :: xs,[],ps=>⟨[],by rw [mtL]; simp⟩
 | x :: xs,y :: ys,ps=>by
  rw [Et]
  cases hq:(mt x y ps).2 with
  | false=>exact ⟨[],by simp⟩
  | true =>
   rw [cond_true]
   obtain ⟨r1,e1⟩:=(Q1 x y ps).pre
   obtain ⟨r2,e2⟩:=Q4 xs ys (mt x y ps).1
   exact ⟨r1++r2,by rw [e2,e1,yG]⟩
theorem Q5 {Q:List Pr→Prop} {T:Tm→Prop} (hT:∀ x,T x→∀ y∈x.args,T y) (hQ:∀ n t ps,Bh n=true→T t→prF n ps=none→Q ps→Q (ps++[⟨n,t⟩])) (p:Tm):∀ (t:Tm) (ps:List Pr),T t→Q ps→Q (mt p t ps).1:=by
 intro t ps ht hps
 have key:∀ (xs:List Tm),(∀ x∈xs,∀ (t:Tm) (ps:List Pr),T t→Q ps→Q (mt x t ps).1)→∀ (ys:List Tm) (ps:List Pr),(∀ y∈ys,T y)→Q ps→Q (mtL xs ys ps).1:=by
  intro xs
  induction xs with
  | nil=>intro _ ys ps _ h; rw [mtL]; exact h
  | cons x xs ih =>
   intro h ys ps hy hp
   cases ys with
   | nil=>rw [mtL]; exact hp
   | cons y ys =>
    rw [Et]
    cases hq:(mt x y ps).2 with
    | false=>exact hp
    | true =>
     rw [cond_true]
     exact ih (fun z hz=>h z (by simp [hz])) ys _ (fun z hz=>hy z (by simp [hz])) (h x (by simp) y ps (hy y (by simp)) hp)
 cases hv:Bh p.name with
 | true =>
  rw [If hv]
  cases hq:prF p.name ps with
  | some q=>exact hps
  | none=>exact hQ _ _ _ hv ht hq hps
 | false =>
  rw [Ig hv]
  cases dec (p.name=t.name)&&dec (p.args.length=t.args.length) with
  | false=>exact hps
  | true =>
   rw [cond_true]
   exact key p.args (fun x hx=>Q5 hT hQ x) t.args ps (hT t ht) hps
termination_by SizeOf.sizeOf p
decreasing_by exact Tm.A8 hx
def VN (x:Tm):Prop:=(Bh x.name=true→x.args=[])∧∀ y∈x.args,y.names=true
theorem VN.arg {x:Tm} (h:VN x) {y:Tm} (hy:y∈x.args):VN y:=⟨fun hv=>Tm.EF (h.2 y hy) hv,fun z hz=>Tm.EG (h.2 y hy) hz⟩
theorem VN.expr {x:Tm} (h:x.expr=true):VN x:=⟨ML h,(Hx h).2⟩
def PG (ps:List Pr):Prop:=(ps.map Pr.name).Nodup∧∀ q∈ps,Bh q.name=true∧(Bh q.term.name=true→q.term.args=[])
theorem Tu (p t:Tm) (ht:VN t):PG (mt p t []).1:=by
 refine Q5 (T:=VN) (fun x hx y hy=>hx.arg hy) (fun n t ps hn ht hq h=>⟨?_,fun q hq'=>?_⟩) p t [] ht ⟨yH,fun q hq=>by cases hq⟩
 ·rw [zE,List.nodup_append]
  refine ⟨h.1,by simp,fun a ha b hb e=>?_⟩
  simp only [zC,zD,zX] at hb
  obtain ⟨q,h1,h2⟩:=z2.1 ha
  exact OI hq q h1 (by rw [h2,e,hb])
 ·rcases z8.1 hq' with hq' | hq'
  ·exact h.2 q hq'
  ·rw [zX.1 hq']
   exact ⟨hn,ht.1⟩
theorem PB {ps:List Pr} (h:(ps.map Pr.name).Nodup) {s:ByteArray} {t:Tm}:pe ps s=some t ↔ (⟨s,t⟩:Pr)∈ps:=by
 unfold pe
 constructor
 ·intro hq
  split at hq
  ·rename_i q hf
   obtain ⟨h1,h2⟩:=Kg hf
   obtain rfl:=zH hq
   obtain ⟨a,b⟩:=q
   simp only at h2
   rw [←h2]; exact h1
  ·cases hq
 ·intro hm
  cases hf:prF s ps with
  | none=>exact absurd rfl (OI hf _ hm)
  | some q =>
   obtain ⟨h1,h2⟩:=Kg hf
   obtain ⟨i,hi,e1⟩:=zV h1
   obtain ⟨j,hj,e2⟩:=zV hm
   have hij:i=j:=(y3 (h₀:=by simpa using hi) (h₁:=by simpa using hj) h).1 (by simp only [yO,e1,e2]; exact h2)
   subst hij
   rw [e1] at e2
   rw [e2]
theorem Ww {ps:List Pr} (h:(ps.map Pr.name).Nodup):MbL (pe ps) (ps.filterMap prB):=by
 refine ⟨?_,fun b=>?_⟩
 ·have key:∀ qs:List Pr,(qs.map Pr.name).Nodup→((qs.filterMap prB).map Bd.var).Nodup∧∀ b∈qs.filterMap prB,b.var∈qs.map Pr.name:=by
   intro qs
   induction qs with
   | nil=>intro _; exact ⟨yH,fun b hb=>by cases hb⟩
   | cons q qs ih =>
    intro hq
    rw [zC,yF] at hq
    obtain ⟨i1,i2⟩:=ih hq.2
    cases hb:prB q with
    | none =>
     rw [List.filterMap_cons_none hb]
     exact ⟨i1,fun b h=>z1 _ (i2 b h)⟩
    | some b =>
     rw [List.filterMap_cons_some hb]
     have hk:=(Kf.1 hb).1
     refine ⟨?_,fun b' h=>?_⟩
     ·rw [zC,yF]
      refine ⟨fun hm=>?_,i1⟩
      obtain ⟨b',h1,h2⟩:=z2.1 hm
      have:=i2 b' h1
      rw [h2,hk] at this
      exact hq.1 this
     ·rcases z6.1 h with rfl | h
      ·rw [hk]; exact yW
      ·exact z1 _ (i2 b' h)
  exact (key ps h).1
 ·rw [yX,PB h]
  constructor
  ·rintro ⟨q,h1,h2⟩
   obtain ⟨h3,h4,h5⟩:=Kf.1 h2
   obtain ⟨a,u⟩:=q
   simp only at h3 h4 h5
   rw [h3,h4]
   exact ⟨h1,h5⟩
  ·rintro ⟨h1,h2⟩
   exact ⟨_,h1,Kf.2 ⟨rfl,rfl,h2⟩⟩
def Fits (f:ByteArray→Option Tm) (ps:List Pr):Prop:=∀ q∈ps,(f q.name).getD (.mk q.name [])=q.term
theorem OJ (f:ByteArray→Option Tm) (p:Tm):∀ (t:Tm) (ps:List Pr),(mt p t ps).2=true→Fits f (mt p t ps).1→p.ap f=t:=by
 intro t ps h hf
 have key:∀ (xs:List Tm),(∀ x∈xs,∀ (t:Tm) (ps:List Pr),(mt x t ps).2=true→Fits f (mt x t ps).1→x.ap f=t)→∀ (ys:List Tm) (ps:List Pr),xs.length=ys.length→(mtL xs ys ps).2=true→Fits f (mtL xs ys ps).1→xs.map (Tm.ap f)=ys:=by
  intro xs
  induction xs with
  | nil =>
   intro _ ys ps hl _ _
   rw [zA] at hl
   rw [List.eq_nil_of_length_eq_zero hl.symm]; rfl
  | cons x xs ih =>
   intro h ys ps hl h2 hf
   cases ys with
   | nil=>cases hl
   | cons y ys =>
    rw [Et] at h2 hf
    cases hq:(mt x y ps).2 with
    | false=>rw [hq] at h2; cases h2
    | true =>
     rw [hq,cond_true] at h2 hf
     obtain ⟨r,e⟩:=Q4 xs ys (mt x y ps).1
     have h3:Fits f (mt x y ps).1:=fun q hq=>hf q (by rw [e]; exact List.mem_append_left _ hq)
     rw [zC,h x (by simp) y ps hq h3,ih (fun z hz=>h z (by simp [hz])) ys _ (by simpa using hl) h2 hf]
 cases hv:Bh p.name with
 | true =>
  rw [If hv] at h hf
  rw [Tm.Fh,if_pos hv]
  cases hq:prF p.name ps with
  | none =>
   rw [hq] at h hf
   exact hf ⟨p.name,t⟩ (by simp)
  | some q =>
   rw [hq] at h hf
   obtain ⟨h1,h2⟩:=Kg hq
   have h3:=hf q h1
   rw [h2] at h3
   rw [h3]
   exact At.1 h
 | false =>
  rw [Ig hv] at h hf
  rw [Tm.Fh,if_neg (by rw [hv]; simp),Tm.Gw]
  cases hq:dec (p.name=t.name)&&dec (p.args.length=t.args.length) with
  | false=>rw [hq] at h; cases h
  | true =>
   rw [hq,cond_true] at h hf
   rw [zK,At,At] at hq
   rw [key p.args (fun x hx=>OJ f x) t.args ps hq.2 h hf,hq.1,Tm.eta]
termination_by SizeOf.sizeOf p
decreasing_by exact Tm.A8 hx
theorem JG (f:ByteArray→Option Tm) (p:Tm):∀ (ps:List Pr),Fits f ps→(mt p (p.ap f) ps).2=true∧Fits f (mt p (p.ap f) ps).1:=by
 intro ps hf
 have key:∀ (xs:List Tm),(∀ x∈xs,∀ (ps:List Pr),Fits f ps→(mt x (x.ap f) ps).2=true∧Fits f (mt x (x.ap f) ps).1)→∀ (ps:List Pr),Fits f ps→(mtL xs (xs.map (Tm.ap f)) ps).2=true∧Fits f (mtL xs (xs.map (Tm.ap f)) ps).1:=by
  intro xs
  induction xs with
  | nil=>intro _ ps h; rw [zD,mtL]; exact ⟨rfl,h⟩
  | cons x xs ih =>
   intro h ps hf
   obtain ⟨h1,h2⟩:=h x (by simp) ps hf
   rw [zC,Et,h1,cond_true]
   exact ih (fun z hz=>h z (by simp [hz])) _ h2
 cases hv:Bh p.name with
 | true =>
  have ha:p.ap f=(f p.name).getD (.mk p.name []):=by rw [Tm.Fh,if_pos hv]
  rw [If hv]
  cases hq:prF p.name ps with
  | none =>
   refine ⟨rfl,fun q hq'=>?_⟩
   rcases z8.1 hq' with hq' | hq'
   ·exact hf q hq'
   ·rw [zX.1 hq',ha]
  | some q =>
   obtain ⟨h1,h2⟩:=Kg hq
   have h3:=hf q h1
   rw [h2,← ha] at h3
   exact ⟨AV h3.symm,hf⟩
 | false =>
  have ha:p.ap f=.mk p.name (p.args.map (Tm.ap f)):=by rw [Tm.Fh,if_neg (by rw [hv]; simp),Tm.Gw]
  rw [Ig hv,ha]
  have e1:(Tm.mk p.name (p.args.map (Tm.ap f))).name=p.name:=rfl
  have e2:(Tm.mk p.name (p.args.map (Tm.ap f))).args=p.args.map (Tm.ap f):=rfl
  rw [e1,e2,AV rfl,AV (by rw [zB]),zI,cond_true]
  exact key p.args (fun x hx=>JG f x) ps hf
termination_by SizeOf.sizeOf p
decreasing_by exact Tm.A8 hx
theorem Tv {p t:Tm} (hp:p.expr=true):(mE p t).2=(mt p t []).2∧((mt p t []).2=true→(mE p t).1=pe (mt p t []).1):=Tt hp t []
theorem L9 {p t:Tm} (hp:p.expr=true) (ht:t.expr=true) (h:(mt p t []).2=true):(mE p t).2=true∧MbS (mE p t).1 (mbs (mE p t).1)∧FI (mt p t []).1=mbs (mE p t).1∧(mE p t).1=pe (mt p t []).1:=by
 obtain ⟨h1,h2⟩:=Tv (t:=t) hp
 have h3:=h2 h
 have hL:=Ww (Tu p t (VN.expr ht)).1
 refine ⟨h1.trans h,?_,?_,h3⟩
 ·rw [h3,hL.mbs]; exact hL.sort
 ·rw [h3]; exact hL.ins
theorem UR (p t:Tm):mtT p t=mtS p t:=by
 unfold mtT mtS R1
 cases hp:p.expr with
 | false=>rfl
 | true =>
  cases ht:t.expr with
  | false=>rfl
  | true =>
   rw [zI,zI,zI,zI]
   cases h:(mt p t []).2 with
   | false =>
    rw [(Tv (t:=t) hp).1,h,zN,zN]
   | true =>
    obtain ⟨h1,h2,h3,_⟩:=L9 hp ht h
    rw [h1,zI,zI,h3,h2.ok]
theorem expr_small {t:Tm} (h:t.expr=true):t.small=true:=by
 have hv:t.valid=true→t.small=true:=fun h=>by
  unfold Tm.valid at h
  rw [zK] at h; exact h.1
 unfold Tm.expr at h
 cases hq:t.valid with
 | true=>exact hv hq
 | false =>
  rw [hq,y8] at h
  unfold Tm.atom at h
  split at h
  ·rw [zK,zK] at h; exact h.1.2
  ·rw [zK] at h; exact hv h.2
theorem Wx {p t:Tm} (h:mtT p t=true):p.expr=true∧t.expr=true∧(Sb.mk (Fp p t)).ok=true∧E0 ⟨Fp p t⟩ p=true∧DC ⟨Fp p t⟩ p=t:=by
 unfold mtT R1 at h
 simp only [zK] at h
 obtain ⟨hp,ht,hm,hok⟩:=h
 have hmt:(mt p t []).2=true:=by rw [←(Tv (t:=t) hp).1]; exact hm
 obtain ⟨_,hS,_,he⟩:=L9 hp ht hmt
 have hts:Fp p t=mbs (mE p t).1:=by
  unfold Fp R2 mbA
  rw [hp,ht,hm,hok]; rfl
 have hsok:(Sb.mk (Fp p t)).ok=true:=by rw [hts,hS.ok]; exact hok
 have hPG:=Tu p t (VN.expr ht)
 have hup:=Sb.Vg hsok
 have hfits:Fits (Sb.mk (Fp p t)).look (mt p t []).1:=fun q hq=>by
  have heq:(mE p t).1 q.name=some q.term:=by rw [he]; exact (PB hPG.1).2 hq
  obtain ⟨g1,g2⟩:=hPG.2 q hq
  by_cases hn:q.term.name=q.name
  ·have hnone:(Sb.mk (Fp p t)).look q.name=none:=(Sb.MH hup).2 fun b hb hbn=>by
    have hb:b∈Fp p t:=hb
    rw [hts] at hb
    obtain ⟨k1,k2⟩:=(hS.2 b).1 hb
    rw [hbn,heq] at k1
    rw [←zH k1,hbn] at k2
    exact k2 hn
   rw [hnone]
   show Tm.mk q.name []=q.term
   have ha:=g2 (by rw [hn]; exact g1)
   rw [←Tm.eta q.term,ha,hn]
  ·have hb:(⟨q.name,q.term⟩:Bd)∈(Sb.mk (Fp p t)).binds:=by
    show _∈Fp p t
    rw [hts]
    exact (hS.2 _).2 ⟨heq,hn⟩
   have:=Sb.OH hup hb
   rw [this]; rfl
 have hap:=OJ _ p t [] hmt hfits
 have hok2:E0 ⟨Fp p t⟩ p=true:=by
  unfold E0
  rw [hsok,hp,hap,expr_small ht]; rfl
 exact ⟨hp,ht,hsok,hok2,by rw [IF hok2]; exact hap⟩
theorem US {u:Sb} {p:Tm} (h:E0 u p=true):mtT p (DC u p)=true:=by
 have hye:=Q3 h
 rw [IF h] at hye ⊢
 unfold E0 at h
 simp only [zK] at h
 obtain ⟨hu,hp,hsm⟩:=h
 obtain ⟨hmt,hfits⟩:=JG u.look p [] fun q hq=>by cases hq
 obtain ⟨hm,hS,_,he⟩:=L9 hp hye hmt
 have hPG:=Tu p (p.ap u.look) (VN.expr hye)
 unfold mtT R1
 rw [hp,hye,hm,zI,zI,zI]
 have hin:∀ b∈mbs (mE p (p.ap u.look)).1,b∈u.binds:=fun b hb=>by
  obtain ⟨k1,k2⟩:=(hS.2 b).1 hb
  rw [he] at k1
  have h3:=hfits _ ((PB hPG.1).1 k1)
  simp only at h3
  cases hq:u.look b.var with
  | none =>
   rw [hq] at h3
   have h3:Tm.mk b.var []=b.term:=h3
   rw [←h3] at k2
   exact absurd rfl k2
  | some y =>
   rw [hq] at h3
   have h3:y=b.term:=h3
   rw [h3] at hq
   exact Sb.OG hq
 unfold Ng
 rw [zK,decide_eq_true_eq,zW]
 refine ⟨?_,fun b hb=>?_⟩
 ·have h1:=Eo hS.nodup hin
  have h2:=Wo hu
  omega
 ·obtain ⟨k,hk,e⟩:=zV (hin b hb)
  have h1:=Sb.SZ hu hk
  rw [e] at h1
  unfold Gc at h1
  rw [zK,zK] at h1
  rw [h1.1,h1.2.1]; rfl
def JH:SC:=(.seq (.reg [⟨some 2,none,.mv (.c (.bool false))⟩]) (.seq (.reg [⟨some 3,none,.mv (.t 0)⟩,⟨some 4,none,.len false (.t 3)⟩,⟨some 5,none,.bin .gtr false (.t 4) (.c (.int .i64 65536))⟩,⟨some 2,none,.mv (.t 5)⟩]) .ret))
theorem OK:Ar Try.prog 4=some ⟨6,JH,[(.tmp 2)]⟩:=by kernel_rfl
theorem Eu:modes 4=⟨[],.asis,none,false⟩:=by unfold modes; rfl
def Hh:SC:=(.seq (.reg [⟨some 4,none,.mv (.c .nil)⟩]) (.seq (.seq (.reg [⟨some 5,none,.mv (.t 1)⟩,⟨some 6,none,.mv (.t 0)⟩,⟨some 7,none,.len false (.t 6)⟩,⟨some 8,none,.bin .gtr false (.t 5) (.t 7)⟩]) (.cond (.t 8) (.reg [⟨some 9,none,.mv (.t 0)⟩,⟨some 10,none,.len false (.t 9)⟩,⟨some 1,none,.mv (.t 10)⟩]) .skip)) (.seq (.reg [⟨some 11,none,.mkrow 5 1 [(.int .u8 0)] 0 []⟩,⟨some 12,none,.mv (.t 0)⟩,⟨some 13,none,.mv (.t 1)⟩,⟨some 14,none,.slice false 1 (.t 12) (some (.t 13)) none⟩,⟨some 15,none,.append 5 1 1 [(.int .u8 0)] (.t 11) (.t 14)⟩,⟨some 16,none,.mv (.t 1)⟩,⟨some 17,none,.conv .u8 (.t 16)⟩,⟨some 18,none,.mkrow 5 1 [(.int .u8 0)] 1 [(0,(.t 17))]⟩,⟨some 19,none,.append 5 1 1 [(.int .u8 0)] (.t 15) (.t 18)⟩,⟨some 4,none,.mv (.t 19)⟩]) .ret)))
theorem JI:Ar Try.prog 13=some ⟨20,Hh,[(.tmp 4)]⟩:=by kernel_rfl
theorem D1:modes 13=⟨[],.frz,none,false⟩:=by unfold modes; rfl
def Ei:SC:=(.seq (.reg [⟨some 2,none,.boxv 26 2 (.t 0)⟩,⟨some 3,none,.boxv 26 2 (.t 1)⟩,⟨some 4,none,.mv (.c (.bool false))⟩]) (.seq (.seq (.reg [⟨some 6,none,.faddr 0 (.t 2)⟩,⟨some 7,none,.load false 1 (.t 6)⟩,⟨some 8,none,.faddr 0 (.t 3)⟩,⟨some 9,none,.load false 1 (.t 8)⟩,⟨some 10,none,.bin .neq false (.t 7) (.t 9)⟩,⟨some 11,none,.mv (.t 10)⟩,⟨(some 12),(some (11,false)),(.faddr 1 (.t 2))⟩,⟨(some 13),(some (11,false)),(.load false 1 (.t 12))⟩,⟨(some 14),(some (11,false)),(.len false (.t 13))⟩,⟨(some 15),(some (11,false)),(.faddr 1 (.t 3))⟩,⟨(some 16),(some (11,false)),(.load false 1 (.t 15))⟩,⟨(some 17),(some (11,false)),(.len false (.t 16))⟩,⟨(some 18),(some (11,false)),(.bin .neq false (.t 14) (.t 17))⟩,⟨some 19,none,.pick (.t 11) (.c (.bool true)) (.t 18)⟩]) (.cond (.t 19) (.seq (.reg [⟨some 4,none,.mv (.c (.bool false))⟩]) .ret) .skip)) (.seq (.seq (.reg [⟨some 5,none,.mv (.c (.int .i64 0))⟩]) (.block 0 (.loop [0,0,1,1,0,1,0,0,0,0,0,0,0,0,0,0,0,0,0,0,0,0,0,0,0,0,0,0,0,0,0,0,0,0,0,0,0,0,0] (.seq (.seq (.reg [⟨some 20,none,.mv (.t 5)⟩,⟨some 21,none,.faddr 1 (.t 2)⟩,⟨some 22,none,.load false 1 (.t 21)⟩,⟨some 23,none,.len false (.t 22)⟩,⟨some 24,none,.bin .lss false (.t 20) (.t 23)⟩]) (.cond (.t 24) .skip (.exit 0))) (.seq (.block 1 (.seq (.dreg [[],[0],[],[1,0,2],[3,1,0,2],[],[5],[],[6,5,7],[8,6,5,7],[4,3,1,0,2,9,8,6,5,7],[10,4,3,1,0,2,9,8,6,5,7]] [⟨some 27,none,.faddr 1 (.t 2)⟩,⟨some 28,none,.load false 1 (.t 27)⟩,⟨some 29,none,.mv (.t 5)⟩,⟨some 30,none,.iaddr 2 (.t 28) (.t 29)⟩,⟨some 31,none,.load true 2 (.t 30)⟩,⟨some 32,none,.faddr 1 (.t 3)⟩,⟨some 33,none,.load false 1 (.t 32)⟩,⟨some 34,none,.mv (.t 5)⟩,⟨some 35,none,.iaddr 2 (.t 33) (.t 34)⟩,⟨some 36,none,.load true 2 (.t 35)⟩,⟨some 37,none,.call 10 [(.t 31),(.t 36)]⟩,⟨some 38,none,.un .not (.t 37)⟩]) (.cond (.t 38) (.seq (.reg [⟨some 4,none,.mv (.c (.bool false))⟩]) .ret) .skip))) (.reg [⟨some 25,none,.mv (.t 5)⟩,⟨some 26,none,.bin .add false (.t 25) (.c (.int .i64 1))⟩,⟨some 5,none,.mv (.t 26)⟩])))))) (.seq (.reg [⟨some 4,none,.mv (.c (.bool true))⟩]) .ret))))
theorem FJ:Ar Try.prog 10=some ⟨39,Ei,[(.tmp 4)]⟩:=by kernel_rfl
theorem BV:modes 10=⟨[],.asis,none,false⟩:=by unfold modes; rfl
theorem Wy (l:List Int):E 4 [.arr (l.map by_)] []=some (.bool (dec (65536<(l.length:Int))),[]):=by
 refine Af OK Eu (of_decide_eq_true rfl) ?_
 simp (disch:=omega) only [JH,go_sem,Aa]
def N2 (l:List Int) (n:Int):List Int:=l.drop (min n.toNat l.length)++[((min n.toNat l.length:Nat):Int) % 256]
theorem PC {l:List Int} (h:Bytes l) (n:Int):Bytes (N2 l n):=by
 intro b hb
 rcases z8.1 hb with hb | hb
 ·exact h b (List.mem_of_mem_drop hb)
 ·simp only [zX] at hb
  omega
theorem Tw (l:List Int) (n:Int):(N2 l n).length≤l.length+1:=by
 unfold N2
 rw [zS,yI,List.length_singleton]; omega
theorem Vp (l:List Int):OT.erss ((l.map by_).map (·.map D.ot))=l.map by_:=by
 rw [OT.EI,yD,yD]
 exact List.map_congr_left fun b _=>rfl
theorem Q6 (l:List Int):OT.Aq ((l.map by_).map (·.map D.ot))=true:=by
 induction l with
 | nil=>rfl
 | cons x xs ih=>simp only [zC,OT.Aq,ih]; rfl
theorem Tx (l:List Int):((l.map by_).all fun e=>e.length == 1)=true:=by rw [yM,zW]; intro x _; rfl
theorem Q7 (l:List Int):(((l.map by_).map (·.map D.ot)).all fun e=>e.length == 1)=true:=by rw [yM,yM,zW]; intro x _; rfl
theorem erss_app:∀ a b:List (List OT),OT.erss (a++b)=OT.erss a++OT.erss b
 | [],b=>by simp [OT.erss]
 | x :: a,b=>by simp only [yC,OT.erss,erss_app a b]
theorem fullss_app:∀ a b:List (List OT),OT.Aq (a++b)=(OT.Aq a&&OT.Aq b)
 | [],b=>by simp [OT.Aq]
 | x :: a,b=>by simp only [yC,OT.Aq,fullss_app a b,Bool.and_assoc]
theorem Wz (l:List Int) (hn:l.length≤1099511627776) (n:Int) (h0:0≤n) (h1:n≤255):E 13 [.arr (l.map by_),.int .i64 n] []=some (.arr ((N2 l n).map by_),[]):=by
 have ht:(l.map by_).take l.length=l.map by_:=yE (by rw [zB]; exact zU _)
 have hd:∀ n,(l.map by_).drop n=(l.drop n).map by_:=fun n=>List.map_drop.symm
 by_cases hc:(l.length:Int)<n
 ·have hn1:((l.length:Int)<n)=True:=eq_true hc
  have hw:IntKind.u8.wrap (l.length:Int)=(l.length:Int) % 256:=rfl
  have e1:N2 l n=l.drop l.length++[((l.length:Nat):Int) % 256]:=by
   unfold N2
   rw [show min n.toNat l.length=l.length by omega]
  rw [e1,zE]
  refine Af JI D1 (of_decide_eq_true rfl) ?_
  simp (disch:=omega) only [Hh,go_sem,Aa,hn1,zD,ht,hd,Tx,Q7,Vp,Q6,erss_app,fullss_app,hw,yI]
 ·have hn1:((l.length:Int)<n)=False:=eq_false hc
  have hw:IntKind.u8.wrap n=n % 256:=rfl
  have e1:N2 l n=l.drop n.toNat++[n % 256]:=by
   unfold N2
   rw [show min n.toNat l.length=n.toNat by omega]
   congr 2
   omega
  rw [e1,zE]
  refine Af JI D1 (of_decide_eq_true rfl) ?_
  simp (disch:=omega) only [Hh,go_sem,Aa,hn1,zD,ht,hd,Tx,Q7,Vp,Q6,erss_app,fullss_app,hw,yI]
theorem RA (x:Tm) (y:Tm) (hnx:x.nodes≤1099511627776) (hny:y.nodes≤1099511627776) (ih:∀ x'∈x.args,∀ y':Tm,x'.nodes≤1099511627776→y'.nodes≤1099511627776→E 10 [x'.sv,y'.sv] []=some (.bool (dec (x'=y')),[])):E 10 [x.sv,y.sv] []=some (.bool (dec (x=y)),[]):=by
 have lx:=Tm.length_le x.args
 have ly:=Tm.length_le y.args
 have nx:=Tm.Aj x
 have ny:=Tm.Aj y
 rw [Ez (Tm.eq_iff x y)]
 by_cases h0:x.name=y.name
 ·rw [Ez (and_iff_right h0)]
  have hq:(x.name=y.name)=True:=by simp [h0]
  by_cases hlen:x.args.length=y.args.length
  ·have hq2:((x.args.length:Int)=(y.args.length:Int))=True:=by first | exact eq_true (by omega) | exact eq_false (by omega)
   refine Af FJ BV (of_decide_eq_true rfl) ?_
   simp (disch:=omega) only [Ei,go_sem,Aa,hq,hq2]
   refine go_loop (α:=Int) (fun a=>⟨slots 39 0 [(2,.ptr 0 0),(3,.ptr 1 0),(5,.int .i64 a)],[.box 26 [.str x.name,.arr (x.args.map Tm.d)],.box 26 [.str y.name,.arr (y.args.map Tm.d)]]⟩) (fun a=>∃ k:Nat,a=k∧k≤(x.args).length∧dec (x.args.drop k=y.args.drop k)=dec (x.args=y.args)) (fun a=>(x.args).length-(a).toNat) 0 ⟨0,rfl,zZ _,by rw [zQ,zQ]⟩ (by simp (disch:=omega) only [go_sem,Aa]) ?_
   rintro i ⟨k,hi,hk,hR⟩
   have hni:i.toNat=k:=by omega
   have hni1:(i+1).toNat=k+1:=by omega
   rcases zT k (x.args).length with hlt | hge
   ·have hgx:=get_at Tm.d hlt
    rw [Tm.d_eq] at hgx
    have hlt':k<y.args.length:=by omega
    have hgy:=get_at Tm.d hlt'
    rw [Tm.d_eq] at hgy
    have hc:=ih x.args[k] (zF hlt) y.args[k] (by have:=Tm.AU (zF hlt); omega) (by have:=Tm.AU (zF hlt'); omega)
    rw [Ez (Ha hlt hlt')] at hR
    by_cases h0:x.args[k]=y.args[k]
    ·rw [AV h0] at hc
     rw [Ez (and_iff_right h0)] at hR
     simp (disch:=omega) only [go_sem,Aa,hni,hgx,hgy,hc,BV]
     exact ⟨i+1,⟨k+1,by omega,hlt,hR⟩,by omega,by first | trivial | rfl⟩
    ·rw [Bg h0] at hc
     rw [Bg (fun h=>h0 h.1)] at hR
     simp (disch:=omega) only [go_sem,Aa,hni,hgx,hgy,hc,BV]
     exact hR
   ·rw [zJ hge,zJ (by omega),Lc] at hR
    simp (disch:=omega) only [go_sem,Aa,hni]
    exact hR
  ·have hq2:((x.args.length:Int)=(y.args.length:Int))=False:=by first | exact eq_true (by omega) | exact eq_false (by omega)
   have he:dec (x.args=y.args)=false:=Bg fun h=>hlen (by rw [h])
   rw [he]
   refine Af FJ BV (of_decide_eq_true rfl) ?_
   simp (disch:=omega) only [Ei,go_sem,Aa,hq,hq2]
 ·have hq:(x.name=y.name)=False:=by simp [h0]
  rw [Bg (fun h=>h0 h.1)]
  refine Af FJ BV (of_decide_eq_true rfl) ?_
  simp (disch:=omega) only [Ei,go_sem,Aa,hq]
theorem OL (x y:Tm) (hnx:x.nodes≤1099511627776) (hny:y.nodes≤1099511627776):E 10 [x.sv,y.sv] []=some (.bool (dec (x=y)),[]) :=
 RA x y hnx hny fun x' hx' y' h h'=>OL x' y' h h'
termination_by SizeOf.sizeOf x
decreasing_by exact Tm.A8 hx'
def De:SC:=(.seq (.reg [⟨some 2,none,.mv (.c (.bool false))⟩]) (.seq (.seq (.reg [⟨some 18,none,.mv (.t 0)⟩,⟨some 19,none,.call 4 [(.t 18)]⟩]) (.cond (.t 19) (.seq (.reg [⟨some 2,none,.mv (.c (.bool true))⟩]) .ret) .skip)) (.seq (.reg [⟨some 21,none,.mv (.t 0)⟩,⟨some 22,none,.call 5 [(.t 21)]⟩,⟨some 20,none,.mv (.t 22)⟩,⟨some 23,none,.ext (.t 20) 0⟩,⟨some 24,none,.ext (.t 20) 1⟩,⟨(some 3),none,(.alloc 26 [(.str ⟨#[]⟩),.nil])⟩,⟨(some 4),none,(.alloc 26 [(.str ⟨#[]⟩),.nil])⟩,⟨none,none,(.store 2 (.t 3) (.t 23))⟩,⟨none,none,(.store 2 (.t 4) (.t 24))⟩]) (.seq (.reg [⟨some 26,none,.load true 2 (.t 3)⟩,⟨some 27,none,.load true 2 (.t 4)⟩,⟨some 28,none,.call 6 [(.t 26),(.t 27)]⟩,⟨some 25,none,.mv (.t 28)⟩,⟨some 29,none,.ext (.t 25) 0⟩,⟨some 30,none,.ext (.t 25) 1⟩,⟨some 5,none,.alloc 31 [.nil]⟩,⟨none,none,(.store 1 (.t 5) (.t 29))⟩,⟨some 6,none,.mv (.t 30)⟩]) (.seq (.seq (.reg [⟨some 32,none,.load true 2 (.t 3)⟩,⟨some 33,none,.load true 2 (.t 4)⟩,⟨some 34,none,.call 7 [(.t 32),(.t 33)]⟩,⟨some 31,none,.mv (.t 34)⟩,⟨some 35,none,.ext (.t 31) 0⟩,⟨some 36,none,.ext (.t 31) 1⟩,⟨some 7,none,.alloc 31 [.nil]⟩,⟨none,none,(.store 1 (.t 7) (.t 35))⟩,⟨some 8,none,.mv (.t 36)⟩]) (.seq (.reg [⟨some 37,none,.mv (.t 6)⟩,⟨some 38,none,.mv (.t 8)⟩,⟨some 39,none,.bin .neq true (.t 37) (.t 38)⟩]) (.cond (.t 39) (.seq (.reg [⟨some 2,none,.mv (.c (.bool false))⟩]) .ret) .skip))) (.seq (.seq (.reg [⟨some 40,none,.mv (.t 6)⟩]) (.cond (.t 40) (.seq (.reg [⟨some 42,none,.load true 1 (.t 5)⟩,⟨some 43,none,.load true 2 (.t 3)⟩,⟨some 44,none,.call 8 [(.t 42),(.t 43)]⟩,⟨some 41,none,.mv (.t 44)⟩,⟨some 45,none,.ext (.t 41) 0⟩,⟨some 46,none,.ext (.t 41) 1⟩,⟨(some 9),none,(.alloc 26 [(.str ⟨#[]⟩),.nil])⟩,⟨none,none,(.store 2 (.t 9) (.t 45))⟩,⟨some 10,none,.mv (.t 46)⟩]) (.seq (.reg [⟨some 48,none,.load true 2 (.t 4)⟩,⟨some 49,none,.load true 2 (.t 3)⟩,⟨some 50,none,.call 9 [(.t 48),(.t 49)]⟩,⟨some 47,none,.mv (.t 50)⟩,⟨some 51,none,.ext (.t 47) 0⟩,⟨some 52,none,.ext (.t 47) 1⟩,⟨some 11,none,.mv (.t 51)⟩,⟨some 12,none,.mv (.t 52)⟩]) (.seq (.reg [⟨some 53,none,.mv (.t 10)⟩,⟨some 54,none,.mv (.t 53)⟩,⟨(some 55),(some (54,true)),(.load true 2 (.t 9))⟩,⟨(some 56),(some (54,true)),(.load true 2 (.t 4))⟩,⟨(some 57),(some (54,true)),(.call 10 [(.t 55),(.t 56)])⟩,⟨some 58,none,.pick (.t 54) (.t 57) (.c (.bool false))⟩,⟨some 59,none,.mv (.t 58)⟩,⟨(some 60),(some (59,true)),(.mv (.t 11))⟩,⟨some 61,none,.pick (.t 59) (.t 60) (.c (.bool false))⟩,⟨some 62,none,.mv (.t 61)⟩,⟨(some 63),(some (62,true)),(.mv (.t 12))⟩,⟨some 64,none,.pick (.t 62) (.t 63) (.c (.bool false))⟩,⟨some 65,none,.mv (.t 64)⟩,⟨(some 66),(some (65,true)),(.load true 1 (.t 5))⟩,⟨(some 67),(some (65,true)),(.call 11 [(.t 66)])⟩,⟨some 68,none,.pick (.t 65) (.t 67) (.c (.bool false))⟩,⟨some 2,none,.mv (.t 68)⟩]) .ret))) .skip)) (.seq (.reg [⟨some 69,none,.mv (.t 0)⟩,⟨some 70,none,.call 13 [(.t 69),(.c (.int .i64 5))]⟩,⟨some 71,none,.call 12 [(.t 70)]⟩,⟨some 13,none,.alloc 31 [.nil]⟩,⟨none,none,(.store 1 (.t 13) (.t 71))⟩]) (.seq (.reg [⟨some 73,none,.load true 1 (.t 13)⟩,⟨some 74,none,.load true 2 (.t 3)⟩,⟨some 75,none,.call 8 [(.t 73),(.t 74)]⟩,⟨some 72,none,.mv (.t 75)⟩,⟨some 76,none,.ext (.t 72) 0⟩,⟨some 77,none,.ext (.t 72) 1⟩,⟨(some 14),none,(.alloc 26 [(.str ⟨#[]⟩),.nil])⟩,⟨none,none,(.store 2 (.t 14) (.t 76))⟩,⟨some 15,none,.mv (.t 77)⟩]) (.seq (.seq (.reg [⟨some 78,none,.mv (.t 15)⟩,⟨some 79,none,.un .not (.t 78)⟩]) (.cond (.t 79) (.seq (.reg [⟨some 2,none,.mv (.c (.bool true))⟩]) .ret) .skip)) (.seq (.reg [⟨some 81,none,.load true 2 (.t 3)⟩,⟨some 82,none,.load true 2 (.t 14)⟩,⟨some 83,none,.call 6 [(.t 81),(.t 82)]⟩,⟨some 80,none,.mv (.t 83)⟩,⟨some 84,none,.ext (.t 80) 0⟩,⟨some 85,none,.ext (.t 80) 1⟩,⟨some 16,none,.alloc 31 [.nil]⟩,⟨none,none,(.store 1 (.t 16) (.t 84))⟩,⟨some 17,none,.mv (.t 85)⟩]) (.seq (.reg [⟨some 86,none,.mv (.t 17)⟩,⟨some 2,none,.mv (.t 86)⟩]) .ret)))))))))))
theorem DI:Ar Try.prog 3=some ⟨87,De,[(.tmp 2)]⟩:=by kernel_rfl
theorem DJ:modes 3=⟨[],.asis,none,false⟩:=by unfold modes; rfl
theorem PD (s:Sb) (t:Tm):(DC s t).nodes≤30:=by
 cases h:E0 s t with
 | false=>rw [Kc h]; show (Tm.mk _ []).nodes≤_; rw [Tm.CW]; simp [Tm.AK]
 | true=>exact Tm.Id (Q3 h)
theorem RB (p t:Tm) (hp:p.nodes≤1048576) (ht:t.nodes≤1048576):(Sb.mk (Fp p t)).tame:=by
 obtain ⟨L,h1,h2⟩:=Vm p t
 have hN:=Vl (p:=p) (t:=t) (by omega)
 have hs:∀ b∈Fp p t,b∈mbs (mE p t).1:=fun b hb=>by
  unfold Fp R2 mbA at hb
  cases hq:p.expr&&t.expr with
  | false=>rw [hq] at hb; cases hb
  | true =>
   rw [hq,cond_true] at hb
   cases hq2:(mE p t).2 with
   | false=>rw [hq2] at hb; cases hb
   | true =>
    rw [hq2,cond_true] at hb
    cases hq3:Ng (mbs (mE p t).1) with
    | false=>rw [hq3] at hb; cases hb
    | true=>rw [hq3] at hb; exact hb
 have hS:MbS (mE p t).1 (mbs (mE p t).1):=by
  have hE:=Vj h1.1 h1.2
  rw [(Gy hE).mbs]
  exact (Gy hE).sort
 refine ⟨?_,fun b hb=>?_⟩
 ·show (Fp p t).length≤_
  have hl:(mbs (mE p t).1).length≤L.length:=Eo hS.nodup fun b hb=>(h1.2 b).2 ((hS.2 b).1 hb).1
  have:(Fp p t).length≤(mbs (mE p t).1).length:=by
   unfold Fp R2 mbA
   cases p.expr&&t.expr <;> cases (mE p t).2 <;> cases Ng (mbs (mE p t).1) <;> simp
  omega
 ·exact hN _ _ ((hS.2 b).1 (hs b hb)).1
theorem UT (l:List Int) (hl:Bytes l):E 3 [.arr (l.map by_)] []=some (.bool true,[]):=by
 have hbig:=Wy l
 by_cases hb:65536<(l.length:Int)
 ·rw [AV hb] at hbig
  refine Af DI DJ (of_decide_eq_true rfl) ?_
  simp (disch:=omega) only [De,go_sem,Aa,hbig,Eu,D1,BV,A6,Ba,BG,AL,AT,BH,Aw,Sb.osv,Sb.obs,Tm.osv,Tm.obs,Bd.erss,Bd.noss,Tm.erss,Tm.noss]
 ·rw [Bg hb] at hbig
  obtain ⟨p,t,hd,hpn,htn⟩:=O9 l hl (by omega)
  have c1:=IL p t (by omega) (by omega)
  obtain ⟨X,c2⟩:=L8 p t (by omega) (by omega)
  rw [←UR] at c2
  have htame:=RB p t (by omega) (by omega)
  have hyes:=Wx (p:=p) (t:=t)
  obtain ⟨s,hs⟩:∃ s:Sb,s=⟨Fp p t⟩:=⟨_,rfl⟩
  have hsb:Fp p t=s.binds:=by rw [hs]
  rw [←hs] at htame hyes
  rw [hsb] at c1
  have a1:=E6 s htame p (by omega)
  have i1:=Nz t p (by omega) (by omega)
  have v1:=CO s htame
  have hvc:=Wz l (by omega) 5 (by omega) (by omega)
  obtain ⟨u,hd2,hut⟩:=Fo (N2 l 5) (PC hl 5) (by have:=Tw l 5; omega)
  have a2:=E6 u hut p (by omega)
  obtain ⟨y,hy⟩:∃ y,y=DC u p:=⟨_,rfl⟩
  have hyn:y.nodes≤30:=by rw [hy]; exact PD u p
  have hinst:E0 u p=true→mtT p y=true:=fun h=>by rw [hy]; exact US h
  rw [←hy] at a2
  have c3:=IL p y (by omega) (by omega)
  have hps:p.sv=.agg [.str p.name,.arr (p.args.map Tm.d)]:=rfl
  have hts:t.sv=.agg [.str t.name,.arr (t.args.map Tm.d)]:=rfl
  have hys:y.sv=.agg [.str y.name,.arr (y.args.map Tm.d)]:=rfl
  have hss:s.sv=.agg [.arr (s.binds.map Bd.d)]:=rfl
  have hus:u.sv=.agg [.arr (u.binds.map Bd.d)]:=rfl
  cases hm:mtT p t with
  | true =>
   obtain ⟨hpe,hte,hsok,hap,hto⟩:=hyes hm
   rw [hto,hap] at a1
   rw [hpe,hte] at i1
   rw [hm] at c1 c2 i1
   rw [hsok] at v1
   have w1:=OL t t (by omega) (by omega)
   rw [AV rfl] at w1
   rw [hps,hts] at hd c1 c2
   rw [hss,hps] at a1
   rw [hts,hps] at i1
   rw [hss] at v1
   rw [hts] at w1
   simp only [yA] at i1
   clear a2 c3 hd2 hvc
   refine Af DI DJ (of_decide_eq_true rfl) ?_
   simp (disch:=omega) only [De,go_sem,Aa,hbig,hd,c1,c2,a1,i1,v1,w1,Eu,D1,BV,A6,Ba,BG,AL,AT,BH,Aw,Sb.osv,Sb.obs,Tm.osv,Tm.obs,Bd.erss,Bd.noss,Tm.erss,Tm.noss]
  | false =>
   rw [hm] at c1 c2
   rw [hps,hts] at hd c1 c2
   rw [hus,hps] at a2
   rw [hus] at hd2
   rw [hps,hys] at c3
   cases hq:E0 u p with
   | false =>
    rw [hq] at a2
    refine Af DI DJ (of_decide_eq_true rfl) ?_
    simp (disch:=omega) only [De,go_sem,Aa,hbig,hd,c1,c2,hvc,hd2,a2,c3,Eu,D1,BV,A6,Ba,BG,AL,AT,BH,Aw,Sb.osv,Sb.obs,Tm.osv,Tm.obs,Bd.erss,Bd.noss,Tm.erss,Tm.noss]
   | true =>
    rw [hq] at a2
    rw [hinst hq] at c3
    refine Af DI DJ (of_decide_eq_true rfl) ?_
    simp (disch:=omega) only [De,go_sem,Aa,hbig,hd,c1,c2,hvc,hd2,a2,c3,Eu,D1,BV,A6,Ba,BG,AL,AT,BH,Aw,Sb.osv,Sb.obs,Tm.osv,Tm.obs,Bd.erss,Bd.noss,Tm.erss,Tm.noss]
end Go.Proofs.Ytjkcamgfimpggaa
set_option maxRecDepth 100000
set_option linter.unusedSimpArgs false
set_option linter.unusedVariables false
set_option linter.unusedSectionVars false
namespace Go.Proofs.Ytjkcamgfimpggaa
open Go.RowKit Go.ChangeShapes Go.WideShapes Go.ChangeAt Go.Deep
section
variable {H:Type} {enc:TypeId × Value→H} {P:Program} {w:World} {base:Nat} {spare:Nat→Bool} {held:Bool}
theorem Hi {b o k:Nat}:(⟨b,o,none⟩:Addr).add k=⟨b,o+k,none⟩:=by
 unfold Addr.add; split
 ·subst_vars; rfl
 ·rfl
theorem UU {a:Addr} {v:Value} (h:w.cell? a=some v):a.block<w.heap.size:=by
 unfold World.cell? at h
 cases hb:w.heap[a.block]? with
 | none=>rw [hb] at h; cases h
 | some o=>exact (Array.getElem?_eq_some_iff.1 hb).1
end
section
variable {H:Type} {enc:TypeId × Value→H} {w:World} {base:Nat} {spare:Nat→Bool} {held:Bool}
end
end Go.Proofs.Ytjkcamgfimpggaa
set_option maxRecDepth 100000
set_option linter.unusedSimpArgs false
set_option linter.unusedVariables false
set_option linter.unusedSectionVars false
namespace Go.Proofs.Ytjkcamgfimpggaa
open Go.RowKit Go.ChangeShapes Go.WideShapes Go.ChangeAt Go.Deep
section
variable {H:Type} {enc:TypeId × Value→H} {P:Program} {w:World} {base:Nat} {spare:Nat→Bool} {held:Bool}
theorem Ty {t e:TypeId} {fuel:Nat} {v:Value} {x:DataW H × List MemPlace} (sz:Nat) (hsz:P.cellsOf e=sz) (h0:0<sz) (ht:P.underlying t=some (.slice e)) (h:DataW.trod enc P w base spare held fuel t [v]=some x) :
  ∃ (a:Option Addr) (len cap:Nat) (f:Nat→Nat→Value),v=.slice a len cap∧len≤cap∧cap≤9223372036854775807∧SlA w 0 sz len f a ∧
   ∀ i,i<len→∃ n x',n<fuel∧DataW.trod enc P w base spare held n e ((yQ sz).map (f i))=some x':=by
 rcases DataW.trod_slice ht h with ⟨hcs,_⟩ | ⟨a,len,cap,elems,rest,n,hf,hcs,hx,hb,hl,hm,hlen,hel,_,_⟩
 ·simp only [yS,and_true] at hcs
  exact ⟨none,0,0,fun _ _=>undef,hcs,zU _,by omega,.inl rfl,fun i hi=>absurd hi (by omega)⟩
 ·have hi:∀ i,i<len→∃ cs' x',w.cells? base (a.add (i*sz)) sz=some cs'∧DataW.trod enc P w base spare held n e cs'=some x':=by
   intro i hi
   have h1:=hel i hi
   rw [hsz,zY (by omega)] at h1
   obtain ⟨cs',h2,h3⟩:=Option.bind_eq_some_iff.1 h1
   exact ⟨cs',_,h2,h3⟩
  have hcell:∀ i j,i<len→j<sz→∃ v,w.cell? (a.add (i*sz+j))=some v:=by
   intro i j hil hj
   obtain ⟨cs',x',hc,_⟩:=hi i hil
   obtain ⟨_,hcl,hat⟩:=World.cells?_some hc
   have h1:=hat j hj
   rw [Go.Deep.add_add,zY (by omega)] at h1
   exact ⟨_,h1⟩
  simp only [yS,and_true] at hcs
  refine ⟨some a,len,cap,fun i j=>(w.cell? (a.add (i*sz+j))).getD undef,hcs,hl,hm,?_,?_⟩
  ·rcases Nat.eq_zero_or_pos len with h | h
   ·exact .inl h
   ·obtain ⟨v,hv⟩:=hcell 0 0 h h0
    rw [Nat.zero_mul,y6] at hv
    have hsp:a.spot=none:=by simpa [Addr.add] using World.cell?_spot hv
    have hlt:=UU hv
    obtain ⟨b,off,spot⟩:=a
    simp only at hsp
    subst hsp
    refine .inr ⟨b,off,rfl,zZ _,by simpa [Addr.add] using hlt,fun i j hil hj=>?_⟩
    obtain ⟨v',hv'⟩:=hcell i j hil hj
    rw [Hi] at hv'
    show _=some ((w.cell? ((⟨b,off,none⟩:Addr).add (i*sz+j))).getD undef)
    rw [Hi,Nat.add_assoc,hv']
    rfl
  ·intro i hil
   obtain ⟨cs',x',hc,ht'⟩:=hi i hil
   obtain ⟨_,hcl,hat⟩:=World.cells?_some hc
   refine ⟨n,x',by omega,?_⟩
   have hcs':(yQ sz).map (fun j=>(w.cell? (a.add (i*sz+j))).getD undef)=cs':=by
    apply List.ext_getElem?
    intro j
    by_cases hj:j<sz
    ·rw [List.getElem?_map,List.getElem?_range hj]
     have h1:=hat j hj
     rw [Go.Deep.add_add] at h1
     rw [zY (by omega:j<cs'.length)] at h1 ⊢
     simp [h1]
    ·rw [List.getElem?_eq_none (by simp; omega),List.getElem?_eq_none (by omega)]
   rw [hcs']
   exact ht'
end
inductive Lvs (w:World):List D→List Value→Prop
 |nil:Lvs w [] []
 |cons {d:D} {v:Value} {ds:List D} {vs:List Value} (h:DAt w d v) (hs:Lvs w ds vs):Lvs w (d :: ds) (v :: vs)
theorem Lvs.len {w:World} {ds:List D} {vs:List Value} (h:Lvs w ds vs):ds.length=vs.length:=by
 induction h with
 | nil=>rfl
 | cons h hs ih=>simp [ih]
theorem Lvs.get {w:World} {ds:List D} {vs:List Value} (h:Lvs w ds vs):∀ j (h1:j<ds.length) (h2:j<vs.length),DAt w ds[j] vs[j]:=by
 induction h with
 | nil=>intro j h1; simp at h1
 | cons h hs ih =>
  intro j h1 h2
  cases j with
  | zero=>exact h
  | succ j=>exact ih j (by simpa using h1) (by simpa using h2)
theorem Tz {α:Type} [Inhabited α] (dd:α→List D) {w:World} {m len cap:Nat} {f:Nat→Nat→Value} {a:Option Addr} (hl:len≤cap) (hm:cap≤9223372036854775807) (hS:SlA w 0 m len f a)
  (hel:∀ i,i<len→∃ X:α,Lvs w (dd X) ((yQ m).map (f i))):∃ xs:List α,DAt w (.arr (xs.map dd)) (.slice a len cap):=by
 obtain ⟨g,hg⟩:∃ g:Nat→α,∀ i,i<len→Lvs w (dd (g i)) ((yQ m).map (f i)) :=
  ⟨fun i=>if h:i<len then (hel i h).choose else default,fun i hi=>by simp only [hi,dif_pos]; exact (hel i hi).choose_spec⟩
 refine ⟨(yQ len).map g,?_⟩
 have hlen:(((yQ len).map g).map dd).length=len:=by simp
 have:=DAt.Vq (w:=w) (es:=((yQ len).map g).map dd) (sz:=m) (cap:=cap) (a:=a) (f:=f) (by rw [hlen]; exact hl) hm (by rw [hlen]; exact hS) (fun i hi=>by
  rw [hlen] at hi
  have:=(hg i hi).len
  simpa using this) (fun i j hi hj=>by
  rw [hlen] at hi
  have h1:=hg i hi
  have h2:=h1.len
  simp only [zB,List.length_range] at h2
  simp only [yO,List.getElem_range] at hj ⊢
  have:=h1.get j hj (by simp; omega)
  simpa using this)
 rw [hlen] at this
 exact this
instance:Inhabited Tm:=⟨Tm.zero⟩
instance:Inhabited Fm:=⟨Fm.zero⟩
section
variable {H:Type} {enc:TypeId × Value→H} {w:World} {base:Nat} {spare:Nat→Bool} {held:Bool}
end
end Go.Proofs.Ytjkcamgfimpggaa
set_option maxRecDepth 100000
set_option linter.unusedSimpArgs false
set_option linter.unusedVariables false
set_option linter.unusedSectionVars false
namespace Go.Proofs.Ytjkcamgfimpggaa
open Go.RowKit
theorem DRep.lt_ {own:Bool} {w:World} {S:Nat→Prop} {d:D} {v:Value} (h:DRep own w S d v):DRep own w (fun b=>S b∧b<w.heap.size) d v:=by
 induction h with
 | int S n=>exact .int _ n
 | byte S n=>exact .byte _ n
 | nl S=>exact .nl _
 | bool S b=>exact .bool _ b
 | str S s h=>exact .str _ s h
 | arr S sz es a cap f Sub h1 h2 h3 h4 h5 h6 h7 ih =>
  refine .arr _ sz es a cap f (fun i j x=>Sub i j x∧x<w.heap.size) h1 h2 ?_ h4 (fun i j x h=>⟨h5 i j x h.1,h.2⟩) (fun ho i j i' j' x h h'=>h6 ho i j i' j' x h.1 h'.1) ih
  rcases h3 with h3 | ⟨b,off,ha,hS,hl,hc,ho⟩
  ·exact .inl h3
  ·exact .inr ⟨b,off,ha,⟨hS,hl⟩,hl,hc,fun h=>⟨fun i j hx=>(ho h).1 i j hx.1,(ho h).2⟩⟩
theorem DAt.rep {w:World} {es:List (List D)} {v:Value} (h:DAt w (.arr es) v):RepV w (fun b=>b<w.heap.size) (fun _=>none) (.arr es) v:=by
 simp only [RepV]
 exact (DRep.lt_ h).up fun b hb=>hb.2
theorem Fun.yes {f:FuncId} {args:List SV} (h:Fun Try.prog f args [] (.bool true) []) {w:World} {vs:List Value} (hgl:GL w fun b=>b<w.heap.size) (hvs:RepVs w (fun b=>b<w.heap.size) (fun _=>none) args vs):Calls Try.prog f vs.toArray w (Ret w (.bool true)):=by
 have nl:∀ g,¬ (Ad [] g).live:=fun g hg=>by simp [Ad,Ob.live] at hg
 refine (h w (fun b=>b<w.heap.size) (fun _=>none) (fun _ _=>False) vs ⟨fun b hb=>hb,fun g hg=>absurd hg (nl g),fun g b hg=>absurd hg (nl g),fun g b hg=>absurd hg (nl g),fun g g' b hg=>absurd hg (nl g),fun g _=>rfl,hgl⟩ hvs).mono ?_
 rintro e w' ⟨v,I',V',B',rfl,hr,hp⟩
 simp only [RepV] at hr
 subst hr
 exact ⟨rfl,hp.fr.os,hp.fr.tape.1,hp.fr.output,hp.fr.size,fun b hb=>hp.fr.block b hb fun ⟨g,hg,_⟩=>absurd hg (nl g)⟩
theorem T0 {w:World} {I:Nat→Prop} {V:Nat→Option Value}:RepVs w I V [] []:=by simp [RepVs]
theorem RC {w:World} {I:Nat→Prop} {V:Nat→Option Value} {x:SV} {xs:List SV} {v:Value} {vs:List Value} (h:RepV w I V x v) (hs:RepVs w I V xs vs):RepVs w I V (x :: xs) (v :: vs):=by
 simp only [RepVs]; exact ⟨v,vs,rfl,h,hs⟩
section
variable {H:Type} {enc:TypeId × Value→H} {w:World} {base:Nat} {spare:Nat→Bool} {held:Bool}
end
end Go.Proofs.Ytjkcamgfimpggaa
set_option maxRecDepth 100000
set_option linter.unusedSimpArgs false
set_option linter.unusedVariables false
set_option linter.unusedSectionVars false
namespace Go.Proofs.Ytjkcamgfimpggaa
open Go.RowKit Go.ChangeShapes Go.WideShapes Go.ChangeAt Go.Deep
section
variable {H:Type} {enc:TypeId × Value→H} {w:World} {base:Nat} {spare:Nat→Bool} {held:Bool}
abbrev ByteZ:={ b:Int // 0≤b∧b≤255 }
instance:Inhabited ByteZ:=⟨⟨0,by omega⟩⟩
theorem RD {fuel:Nat} {v:Value} {x:DataW H × List MemPlace} (h:DataW.trod enc Try.prog w base spare held fuel 22 [v]=some x):∃ l:List Int,Bytes l∧DAt w (.arr (l.map by_)) v:=by
 obtain ⟨a,len,cap,f,rfl,hl,hm,hS,hr⟩:=Ty (P:=Try.prog) 1 (by kernel_rfl) (by omega) Try.underlying22 h
 obtain ⟨xs,hx⟩:=Tz (fun s:ByteZ=>[D.byte s.1]) hl hm hS fun i hi=>by
  obtain ⟨n,x',hn,h1⟩:=hr i hi
  obtain ⟨z,q,_,hw⟩:=DataW.trod_int Try.underlying5 h1
  have h2:(decide (IntKind.u8.min≤z)&&decide (z≤IntKind.u8.max))=true:=hw
  rw [zK,decide_eq_true_eq,decide_eq_true_eq] at h2
  rw [q]
  exact ⟨⟨z,h2.1,h2.2⟩,.cons (.byte _ z) .nil⟩
 refine ⟨xs.map (·.1),fun b hb=>?_,?_⟩
 ·obtain ⟨s,_,rfl⟩:=z2.1 hb
  exact s.2
 ·rw [yD]
  exact hx
end
end Go.Proofs.Ytjkcamgfimpggaa
